/- What the laws of grids compute, as contracts on the abstract machine. No condition but that what they read is there. -/
import Derived.Test.YtnfoibgafmeenaaGd3
namespace Go.Proofs.Ytnfoibgafmeenaa.AM
open Go Go.RowKit
set_option cbv.warning false
set_option maxRecDepth 100000
set_option linter.unusedVariables false
set_option linter.unusedSimpArgs false
theorem bodied_22 : Bodied Try.prog 22 := ⟨Try.f22, by kernel_rfl, by kernel_rfl, by kernel_rfl⟩
theorem bodied_23 : Bodied Try.prog 23 := ⟨Try.f23, by kernel_rfl, by kernel_rfl, by kernel_rfl⟩
theorem bodied_26 : Bodied Try.prog 26 := ⟨Try.f26, by kernel_rfl, by kernel_rfl, by kernel_rfl⟩
theorem bodied_27 : Bodied Try.prog 27 := ⟨Try.f27, by kernel_rfl, by kernel_rfl, by kernel_rfl⟩
theorem bodied_28 : Bodied Try.prog 28 := ⟨Try.f28, by kernel_rfl, by kernel_rfl, by kernel_rfl⟩
theorem bodied_29 : Bodied Try.prog 29 := ⟨Try.f29, by kernel_rfl, by kernel_rfl, by kernel_rfl⟩
/-- Bools that are compared. -/
theorem m_eqB {W0 : World} {md : Md} {X : Ext} (hX : X = std Try.prog W0 md) {op : BinOp} (hop : op = .eql ∨ op = .neq) {x y : Bool} {k : V → Prop} (h : k (.one (.bool (if op = .eql then x == y else x != y)))) : X.eqs op 4 (.one (.bool x)) (.one (.bool y)) k := by
  subst hX
  refine ⟨_, h, fun r x' y' ox oy hx hy => ?_⟩
  unfold VR CR at hx hy
  subst hx hy
  have hu : Try.prog.underlying 4 = some .bool := by kernel_rfl
  refine ⟨.bool (if op = .eql then x == y else x != y), fun w => ?_, by unfold VR CR; rfl⟩
  have he : ∀ w, (Op.equal 4 (.bool x) (.bool y)).run Try.prog w = .ok (x == y) w := fun w => by
    rw [equal_step, Op.equalIn]
    simp [run_underlying hu]
  rw [Sem.run_bind, guard_none op 4 ox oy _ _ w ⟨by simp, by simp⟩]
  rcases hop with rfl | rfl
  · show (do pure (.bool (← Op.equal 4 (.bool x) (.bool y))) : Sem Value).run Try.prog w = _
    simp [Sem.run_bind, he, Result.andThen]
  · show (do pure (.bool (!(← Op.equal 4 (.bool x) (.bool y)))) : Sem Value).run Try.prog w = _
    simp [Sem.run_bind, he, Result.andThen]
    cases x <;> cases y <;> rfl
abbrev puts (rw : Bool) (n : Nat) (px py pn : Nat → Int) : Option B := some (.row rw 80 3 n fun q => [.int .i64 (px q), .int .i64 (py q), .int .i64 (pn q)])
structure SmallI (c r : Int) (n : Nat) : Prop where
  c1 : 1 ≤ c
  c2 : c ≤ 12
  r1 : 1 ≤ r
  r2 : r ≤ 12
  hn : n ≤ 60
theorem small_c (W0 : World) (rw : Bool) (c r : Int) (n : Nat) (cap : Option Nat) (px py pn : Nat → Int) (k : V → Heap → Prop) (hk : ∀ b : Bool, (b = true ↔ SmallI c r n) → k (.one (.bool b)) [puts rw n px py pn]) : ACall Try.prog W0 23 [.one (.int .i64 c), .one (.int .i64 r), .one (.sl 0 0 n cap)] [puts rw n px py pn] k := by
  refine m_body tab_ok (fn := Try.f23) (by kernel_rfl) rfl ?_
  intro X hX
  cbv
  refine m_callq hX [] bodied_25 (fun k2 h => In25 W0 c 1 12 k2 h) ?_ rfl rfl ?_ ?_
  · (first | (simp [MH, MB, MT, MV, MV.MVs, MC.MCs, MC, renC.renCs, renC, up]; done) | (simp [MH, MB, MT, MV, MV.MVs, MC.MCs, MC, renC.renCs, renC, up]; omega) | (simp [MH, MB, MT, MV, MV.MVs, MC.MCs, MC, renC.renCs, renC, up] <;> omega))
  · simp [MV, MV.MVs, MC]
  intro b hb
  cbv
  cases b with
  | false =>
    repeat' (first | (refine m_cond_t hX (by first | rfl | assumption | (subst hX; rfl)) ?_; cbv) | (refine m_cond_f hX (by first | rfl | assumption | (subst hX; rfl)) ?_; cbv) | fail)
    refine ⟨_, _, [some 0], ?_, rfl, rfl, ?_, hk false ?_⟩
    · simp [MH, MB, MC.MCs, MC]
    · simp [MV, MC] <;> (subst hX; rfl)
    · constructor
      · intro h; cases h
      · intro h; exact (hb.2 ⟨h.c1, h.c2⟩)
  | true =>
    refine m_cond_t hX (by subst hX; rfl) ?_
    cbv
    refine m_cond_t hX (by subst hX; rfl) ?_
    cbv
    refine m_callq hX [] bodied_25 (fun k2 h => In25 W0 r 1 12 k2 h) ?_ rfl rfl ?_ ?_
    · (first | (simp [MH, MB, MT, MV, MV.MVs, MC.MCs, MC, renC.renCs, renC, up]; done) | (simp [MH, MB, MT, MV, MV.MVs, MC.MCs, MC, renC.renCs, renC, up]; omega) | (simp [MH, MB, MT, MV, MV.MVs, MC.MCs, MC, renC.renCs, renC, up] <;> omega))
    · simp [MV, MV.MVs, MC]
    intro b hb2
    cbv
    cases b with
    | false =>
      repeat' (first | (refine m_cond_t hX (by first | rfl | assumption | (subst hX; rfl)) ?_; cbv) | (refine m_cond_f hX (by first | rfl | assumption | (subst hX; rfl)) ?_; cbv) | fail)
      refine ⟨_, _, [some 0], ?_, rfl, rfl, ?_, hk false ?_⟩
      · simp [MH, MB, MC.MCs, MC]
      · simp [MV, MC] <;> (subst hX; rfl)
      · constructor
        · intro h; cases h
        · intro h; exact (hb2.2 ⟨h.r1, h.r2⟩)
    | true =>
      repeat' (first | (refine m_cond_t hX (by first | rfl | assumption | (subst hX; rfl)) ?_; cbv) | (refine m_cond_f hX (by first | rfl | assumption | (subst hX; rfl)) ?_; cbv) | fail)
      refine ⟨_, _, [some 0], ?_, rfl, rfl, ?_, hk (decide (n ≤ 60)) ?_⟩
      · simp [MH, MB, MC.MCs, MC]
      · simp [MV, MC]
        subst hX
        simp [std, cmpS]
        by_cases h : n ≤ 60
        · simp [h] <;> omega
        · simp [h] <;> omega
      · have h1 := hb.1 rfl
        have h2 := hb2.1 rfl
        constructor
        · intro h; exact ⟨h1.1, h1.2, h2.1, h2.2, by simpa using h⟩
        · intro h; simpa using h.hn

def inP (c r x y : Int) : Prop := 0 ≤ x ∧ x < c ∧ 0 ≤ y ∧ y < r
instance (c r x y : Int) : Decidable (inP c r x y) := by unfold inP; infer_instance
/-- What stands at a place when a puts have been laid. -/
def layF (c r : Int) (px py pn : Nat → Int) : Nat → Nat → Int
  | 0, _ => 0
  | a + 1, j => if inP c r (px a) (py a) ∧ (j : Int) = py a * c + px a then pn a else layF c r px py pn a j
structure CellsI (c r : Int) (N n : Nat) (px py pn : Nat → Int) (a : Nat) (i : Int) (g : Nat → Int) : Prop where
  h1 : a ≤ n
  h2 : i = (a : Int)
  h3 : ∀ j, j < N → g j = layF c r px py pn a j
theorem CellsI.stay {c r : Int} {N n : Nat} {px py pn : Nat → Int} {a : Nat} {i : Int} {g : Nat → Int} (h : CellsI c r N n px py pn a i g) (ha : a < n) (hx : ¬ inP c r (px a) (py a)) : CellsI c r N n px py pn (a + 1) (i + 1) g := by
  obtain ⟨h1, h2, h3⟩ := h
  refine ⟨by omega, by omega, fun j hj => ?_⟩
  rw [h3 j hj, layF, if_neg (fun h => hx h.1)]
theorem CellsI.put {c r : Int} {N n : Nat} {px py pn : Nat → Int} {a : Nat} {i : Int} {g g' : Nat → Int} {q : Nat} (h : CellsI c r N n px py pn a i g) (ha : a < n) (hq : CellI c r N (px a) (py a) q) (hg : ∀ j, j < N → g' j = if j = q then pn a else g j) : CellsI c r N n px py pn (a + 1) (i + 1) g' := by
  obtain ⟨h1, h2, h3⟩ := h
  refine ⟨by omega, by omega, fun j hj => ?_⟩
  have hh : (j : Int) = py a * c + px a ↔ j = q := by have := hq.hq; omega
  rw [hg j hj, layF, h3 j hj]
  by_cases he : j = q
  · rw [if_pos he, if_pos ⟨⟨hq.x1, hq.x2, hq.y1, hq.y2⟩, hh.2 he⟩]
  · rw [if_neg he, if_neg (fun h => he (hh.1 h.2))]
theorem GI.put {c r : Int} {N : Nat} (h : GI c r N) {x y : Int} (hx : inP c r x y) : ∃ q, CellI c r N x y q := by
  obtain ⟨h1, h2, h3, h4⟩ := hx
  have := (idx_lt h1 h2 h3 h4).1
  exact ⟨(y * c + x).toNat, h, h1, h2, h3, h4, by omega⟩
theorem SmallI.gi {c r : Int} {n : Nat} (h : SmallI c r n) {N : Nat} (hN : (N : Int) = c * r) : GI c r N := by
  obtain ⟨c1, c2, r1, r2, hn⟩ := h
  exact ⟨c1, by omega, r1, by omega, hN⟩
theorem cells_c (W0 : World) (rw : Bool) (c r : Int) (N n : Nat) (cap : Option Nat) (px py pn G : Nat → Int) (hI : GI c r N) (hn : n ≤ 60) (hG : ∀ j, j < N → G j = layF c r px py pn n j) (k : V → Heap → Prop) (hk : k (.one (.sl 1 0 N none)) [puts rw n px py pn, ints true N G]) : ACall Try.prog W0 28 [.one (.int .i64 c), .one (.int .i64 r), .one (.sl 0 0 n cap)] [puts rw n px py pn] k := by
  refine m_body tab_ok (fn := Try.f28) (by kernel_rfl) rfl ?_
  intro X hX
  cbv
  have hbd := hI.bound
  have hN := hI.hN
  refine m_makeSlice tab_ok hX N rfl rfl rfl rfl (by decide) rfl rfl (by subst hX; show IntKind.i64.wrap (c * r) = N; rw [wrap_eq (by omega) (by omega)]; omega) (by show 8 * N ≤ _ ∧ _; omega) ?_
  cbv
  refine m_loop tab_ok hX (fun b : Nat × Int × (Nat → Int) => CellsI c r N n px py pn b.1 b.2.1 b.2.2) (fun b => ([.one (.int .i64 c), .one (.int .i64 r), .one (.sl 0 0 n cap)] ++ List.replicate 4 (.one .undef) ++ [.one (.sl 1 0 N none), .one (.int .i64 b.2.1)] ++ List.replicate 49 (.one .undef), [puts rw n px py pn, ints true N b.2.2])) (fun b => n - b.1) ?_ ?_
  · refine ⟨⟨0, 0, fun _ => 0⟩, ⟨by omega, rfl, fun j hj => rfl⟩, [some 0, some 1], ?_, rfl, rfl, ?_⟩
    · simp [MH, MB, MT, MV, MV.MVs, MC.MCs, renC.renCs, renC, up]
      simp [MC, zi]
    · simp [MT, MV.MVs, MV, MC]
  · rintro ⟨a, i, g⟩ hb
    replace hb : CellsI c r N n px py pn a i g := hb
    cbv
    refine m_cond hX (fun h => ?_) (fun h => ?_) <;> cbv
    · have hh : (0 ≤ i ∧ i < n) ∧ i.toNat = a ∧ a < n := by
        obtain ⟨g1, g2, g3⟩ := hb
        have : i < n := by subst hX; simpa [std, cmpS] using h
        omega
      obtain ⟨hh1, hh2, hh3⟩ := hh
      have ha : X.nadd 0 (X.toN i) = a := by subst hX; show 0 + i.toNat = a; omega
      have e1 := subw (c := c) (by have := hI.c1; omega) (by have := hI.c2; omega) X hX
      have e2 := subw (c := r) (by have := hI.r1; omega) (by have := hI.r2; omega) X hX
      have hin : X.inb i n := by subst hX; exact hh1
      have hlt : X.nlt (X.nadd 0 (X.toN i)) n := by rw [ha]; subst hX; exact hh3
      refine ⟨hin, hlt, ?_⟩
      refine m_callq hX [] bodied_25 (fun k2 h => In25 W0 (px (X.nadd 0 (X.toN i))) 0 (X.bin .sub .i64 c 1) k2 h) ?_ rfl rfl ?_ ?_
      · (first | (simp [MH, MB, MT, MV, MV.MVs, MC.MCs, MC, renC.renCs, renC, up]; done) | (simp [MH, MB, MT, MV, MV.MVs, MC.MCs, MC, renC.renCs, renC, up]; omega) | (simp [MH, MB, MT, MV, MV.MVs, MC.MCs, MC, renC.renCs, renC, up] <;> omega))
      · simp [MV, MV.MVs, MC]
      intro b hbx
      cbv
      rw [ha, e1] at hbx
      cases b with
      | false =>
        repeat' (first | (refine m_cond_t hX (by first | rfl | assumption | (subst hX; rfl)) ?_; cbv) | (refine m_cond_f hX (by first | rfl | assumption | (subst hX; rfl)) ?_; cbv) | fail)
        refine ⟨⟨a + 1, i + 1, g⟩, hb.stay hh3 (fun hp => ?_), by show n - (a + 1) < n - a; omega, [some 0, some 1], ?_, rfl, rfl, ?_⟩
        · have := hbx.2 ⟨hp.1, by have := hp.2.1; omega⟩
          cases this
        · simp [MH, MB, MC.MCs, MC]
        · have g2 := hb.h2
          subst hX
          simp [MT, MV.MVs, MV, MC, std, binS]
          exact (wrap_eq (by omega) (by omega)).symm
      | true =>
        have hbx := hbx.1 rfl
        repeat' (first | (refine m_cond_t hX (by first | rfl | assumption | (subst_vars; simp [std, cmpS, binS, hin]; done) | fail) ?_; cbv) | (refine m_cond_f hX (by first | rfl | assumption | (subst_vars; simp [std, cmpS, binS, hin]; done) | fail) ?_; cbv) | (refine And.intro (by first | rfl | assumption | (subst_vars; simp [std, cmpS, binS, hin]; done) | fail) ?_) | fail)
        refine m_callq hX [] bodied_25 (fun k2 h => In25 W0 (py (X.nadd 0 (X.toN i))) 0 (X.bin .sub .i64 r 1) k2 h) ?_ rfl rfl ?_ ?_
        · (first | (simp [MH, MB, MT, MV, MV.MVs, MC.MCs, MC, renC.renCs, renC, up]; done) | (simp [MH, MB, MT, MV, MV.MVs, MC.MCs, MC, renC.renCs, renC, up]; omega) | (simp [MH, MB, MT, MV, MV.MVs, MC.MCs, MC, renC.renCs, renC, up] <;> omega))
        · simp [MV, MV.MVs, MC]
        intro b hby
        cbv
        rw [ha, e2] at hby
        cases b with
        | false =>
          repeat' (first | (refine m_cond_t hX (by first | rfl | assumption | (subst hX; rfl)) ?_; cbv) | (refine m_cond_f hX (by first | rfl | assumption | (subst hX; rfl)) ?_; cbv) | fail)
          refine ⟨⟨a + 1, i + 1, g⟩, hb.stay hh3 (fun hp => ?_), by show n - (a + 1) < n - a; omega, [some 0, some 1], ?_, rfl, rfl, ?_⟩
          · have := hby.2 ⟨hp.2.2.1, by have := hp.2.2.2; omega⟩
            cases this
          · simp [MH, MB, MC.MCs, MC]
          · have g2 := hb.h2
            subst hX
            simp [MT, MV.MVs, MV, MC, std, binS]
            exact (wrap_eq (by omega) (by omega)).symm
        | true =>
          have hby := hby.1 rfl
          obtain ⟨q, hq⟩ := hI.put (x := px a) (y := py a) ⟨hbx.1, by omega, hby.1, by omega⟩
          repeat' (first | (refine m_cond_t hX (by first | rfl | assumption | (subst hX; rfl)) ?_; cbv) | (refine m_cond_f hX (by first | rfl | assumption | (subst hX; rfl)) ?_; cbv) | fail)
          refine m_gen (A := X.draw _ _ _) fun K1 hK1 => ?_
          refine m_draw tab_ok hX [] [20] [(0,0),(1,0),(2,0),(3,0),(4,0),(5,1),(6,0),(7,0),(8,0),(9,0),(10,0),(11,0),(12,1),(13,0),(14,0),(15,0),(16,0),(17,0),(18,1),(19,0),(20,3)] (by kernel_rfl) (by simp) ?_
          cbv
          repeat' (first | (refine m_cond_t hX (by first | rfl | assumption | (subst_vars; simp [std, cmpS, binS, hin]; done) | fail) ?_; cbv) | (refine m_cond_f hX (by first | rfl | assumption | (subst_vars; simp [std, cmpS, binS, hin]; done) | fail) ?_; cbv) | (refine And.intro (by first | rfl | assumption | (subst_vars; simp [std, cmpS, binS, hin]; done) | fail) ?_) | fail)
          have hqr : X.bin .add .i64 (X.bin .mul .i64 (py (X.nadd 0 (X.toN i))) c) (px (X.nadd 0 (X.toN i))) = q := by rw [ha]; subst hX; exact hq.run
          have hlq := hq.lt
          refine ⟨by show X.inb (X.bin .add .i64 (X.bin .mul .i64 (py (X.nadd 0 (X.toN i))) c) (px (X.nadd 0 (X.toN i)))) N; rw [hqr]; subst hX; exact ⟨by omega, by omega⟩, ?_⟩
          have hq2 : X.nadd 0 (X.toN (X.bin .add .i64 (X.bin .mul .i64 (py (X.nadd 0 (X.toN i))) c) (px (X.nadd 0 (X.toN i))))) = q := by rw [hqr]; subst hX; show 0 + (q : Int).toNat = q; omega
          refine ⟨by show X.nlt (X.nadd 0 (X.toN (X.bin .add .i64 (X.bin .mul .i64 (py (X.nadd 0 (X.toN i))) c) (px (X.nadd 0 (X.toN i)))))) N; rw [hq2]; subst hX; exact hlq, ?_⟩
          refine hK1 _ _ ?_
          cbv
          obtain ⟨g', hg'⟩ : ∃ g' : Nat → Int, ∀ j, g' j = if j = q then pn a else g j := ⟨_, fun _ => rfl⟩
          refine ⟨⟨a + 1, i + 1, g'⟩, hb.put hh3 hq (fun j _ => hg' j), by show n - (a + 1) < n - a; omega, [some 0, some 1], ?_, rfl, rfl, ?_⟩
          · simp [MH, MB, MC.MCs]
            refine ⟨fun _ _ => by simp [MC], fun j hj => ?_⟩
            show MC.MCs _ [.int .i64 (g' j)] (X.setf (fun q => [.int .i64 (g q)]) (X.nadd 0 (X.toN (X.bin .add .i64 (X.bin .mul .i64 (py (X.nadd 0 (X.toN i))) c) (px (X.nadd 0 (X.toN i)))))) 0 [.int .i64 (pn (X.nadd 0 (X.toN i)))] j)
            rw [hq2, ha, hg' j]
            subst hX
            show MC.MCs _ _ (if j = q then splice [.int .i64 (g j)] 0 [.int .i64 (pn a)] else [.int .i64 (g j)])
            split <;> simp [MC.MCs, MC, splice]
          · have g2 := hb.h2
            subst hX
            simp [MT, MV.MVs, MV, MC, std, binS]
            exact (wrap_eq (by omega) (by omega)).symm
    · have hm : a = n := by
        obtain ⟨g1, g2, g3⟩ := hb
        have : ¬ i < n := by subst hX; simpa [std, cmpS] using h
        omega
      subst hm
      refine ⟨_, _, [some 0, some 1], ?_, rfl, rfl, ?_, hk⟩
      · simp [MH, MB, MC.MCs, MC]
        intro j hj
        rw [hG j hj]
        exact (hb.h3 j hj).symm
      · simp [MV, MC]
end Go.Proofs.Ytnfoibgafmeenaa.AM
