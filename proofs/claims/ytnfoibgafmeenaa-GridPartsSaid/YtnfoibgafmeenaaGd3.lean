/- A grid's mirror, as a contract on the abstract machine. No condition but that what it reads is there. -/
import Derived.Test.YtnfoibgafmeenaaGd2
namespace Go.Proofs.Ytnfoibgafmeenaa.AM
open Go Go.RowKit
set_option cbv.warning false
set_option maxRecDepth 100000
set_option linter.unusedVariables false
set_option linter.unusedSimpArgs false
theorem bodied_34 : Bodied Try.prog 34 := ⟨Try.f34, by kernel_rfl, by kernel_rfl, by kernel_rfl⟩
/-- Where a place goes. -/
def mir (c r : Int) (rt : Bool) (a : Nat) : Nat := if rt then ((a : Int) / c * c + (c - 1 - (a : Int) % c)).toNat else ((r - 1 - (a : Int) / c) * c + (a : Int) % c).toNat
theorem CellI.dm {c r : Int} {N : Nat} {x y : Int} {a : Nat} (h : CellI c r N x y a) : (a : Int) / c = y ∧ (a : Int) % c = x := by
  obtain ⟨g, x1, x2, y1, y2, hq⟩ := h
  rw [hq]
  constructor
  · rw [Int.add_comm, Int.add_mul_ediv_right _ _ (by have := g.c1; omega), Int.ediv_eq_zero_of_lt x1 x2]; omega
  · rw [Int.add_comm, Int.add_mul_emod_self_right, Int.emod_eq_of_lt x1 x2]
theorem CellI.mirT {c r : Int} {N : Nat} {x y : Int} {a : Nat} (h : CellI c r N x y a) : CellI c r N (c - 1 - x) y (mir c r true a) := by
  obtain ⟨d1, d2⟩ := h.dm
  obtain ⟨g, x1, x2, y1, y2, hq⟩ := h
  refine ⟨g, by omega, by omega, y1, y2, ?_⟩
  have := (idx_lt (c := c) (r := r) (x := c - 1 - x) (y := y) (by omega) (by omega) y1 y2).1
  simp only [mir, if_true, d1, d2]
  omega
theorem CellI.mirF {c r : Int} {N : Nat} {x y : Int} {a : Nat} (h : CellI c r N x y a) : CellI c r N x (r - 1 - y) (mir c r false a) := by
  obtain ⟨d1, d2⟩ := h.dm
  obtain ⟨g, x1, x2, y1, y2, hq⟩ := h
  refine ⟨g, x1, x2, by omega, by omega, ?_⟩
  have := (idx_lt (c := c) (r := r) (x := x) (y := r - 1 - y) (by omega) (by omega) (by omega) (by omega)).1
  simp only [mir, Bool.false_eq_true, if_false, d1, d2]
  omega
theorem GI.cell {c r : Int} {N : Nat} (h : GI c r N) {a : Nat} (ha : a < N) : ∃ x y, CellI c r N x y a :=
  ⟨_, _, h.at ha (X := std { (default : Program) with } (default : World)) (P := { (default : Program) with }) (W0 := default) (md := .top) rfl rfl⟩
theorem mir_mir {c r : Int} {N : Nat} (h : GI c r N) (rt : Bool) {a : Nat} (ha : a < N) : mir c r rt (mir c r rt a) = a ∧ mir c r rt a < N := by
  obtain ⟨x, y, hc⟩ := h.cell ha
  cases rt with
  | true =>
    have h1 := hc.mirT
    have h2 := h1.mirT
    have e1 := h2.hq
    have e2 := hc.hq
    refine ⟨?_, h1.lt⟩
    have : c - 1 - (c - 1 - x) = x := by omega
    rw [this] at e1
    omega
  | false =>
    have h1 := hc.mirF
    have h2 := h1.mirF
    have e1 := h2.hq
    have e2 := hc.hq
    refine ⟨?_, h1.lt⟩
    have : r - 1 - (r - 1 - y) = y := by omega
    rw [this] at e1
    omega
structure MirI (c r : Int) (N : Nat) (rt : Bool) (f : Nat → Int) (a : Nat) (i : Int) (g : Nat → Int) : Prop where
  h1 : a ≤ N
  h2 : i = (a : Int)
  h3 : ∀ b, b < a → g (mir c r rt b) = f b
theorem MirI.step {c r : Int} {N : Nat} {rt : Bool} {f : Nat → Int} {a : Nat} {i : Int} {g g' : Nat → Int} (hI : GI c r N) (h : MirI c r N rt f a i g) (ha : a < N) (hg : ∀ j, j < N → g' j = if j = mir c r rt a then f a else g j) : MirI c r N rt f (a + 1) (i + 1) g' := by
  obtain ⟨h1, h2, h3⟩ := h
  refine ⟨by omega, by omega, fun b hb => ?_⟩
  obtain ⟨e1, e2⟩ := mir_mir hI rt (a := b) (by omega)
  obtain ⟨e3, e4⟩ := mir_mir hI rt (a := a) ha
  rw [hg _ e2]
  by_cases he : b = a
  · subst he; rw [if_pos rfl]
  · rw [if_neg (fun h => he (by rw [← e1, h, e3]))]
    exact h3 b (by omega)
theorem Mirror_nil (W0 : World) (rt : Bool) (k : V → Heap → Prop) (hk : k (.one .nilp) []) : ACall Try.prog W0 34 [.one .nilp, .one (.bool rt)] [] k := by
  refine m_body tab_ok (fn := Try.f34) (by kernel_rfl) rfl ?_
  intro X hX
  cbv
  repeat' (first | (refine m_cond_t hX (by first | rfl | assumption | (subst hX; rfl)) ?_; cbv) | (refine m_cond_f hX (by first | rfl | assumption | (subst hX; rfl)) ?_; cbv) | fail)
  refine ⟨_, _, [], ?_, rfl, rfl, ?_, hk⟩
  all_goals (first | (simp [MH, MB, MT, MV, MV.MVs, MC.MCs, MC, renC.renCs, renC, up]; done) | (simp [MH, MB, MT, MV, MV.MVs, MC.MCs, MC, renC.renCs, renC, up]; omega) | (simp [MH, MB, MT, MV, MV.MVs, MC.MCs, MC, renC.renCs, renC, up] <;> omega))
theorem Mirror_c (W0 : World) (c r : Int) (N : Nat) (rt : Bool) (f : Nat → Int) (hI : GI c r N) (k : V → Heap → Prop) (hk : ∀ g : Nat → Int, (∀ b, b < N → g (mir c r rt b) = f b) → k (.one (.ptr 2 0 0)) [grid c r 1 N, ints true N f, grid c r 3 N, ints true N g]) : ACall Try.prog W0 34 [.one (.ptr 0 0 0), .one (.bool rt)] [grid c r 1 N, ints true N f] k := by
  refine m_body tab_ok (fn := Try.f34) (by kernel_rfl) rfl ?_
  intro X hX
  cbv
  repeat' (first | (refine m_cond_t hX (by first | rfl | assumption | (subst hX; rfl)) ?_; cbv) | (refine m_cond_f hX (by first | rfl | assumption | (subst hX; rfl)) ?_; cbv) | fail)
  refine m_drawAs hX ([.one .undef, .one .undef, .one (.ptr 2 0 0), .one (.ptr 3 0 0), .one .undef, .one (.ptr 6 0 0)] ++ List.replicate 44 (.one .undef)) [grid c r 1 N, ints true N f, some (.box 36 [.ptr 0 0 0]), some (.box 4 [.bool rt]), grid c r 5 N, ints true N (fun _ => 0), some (.box 36 [.ptr 4 0 0])] ?_ ?_
  ·
    refine m_drawT tab_ok hX [] [10] (PT.pre [(0,1),(1,0),(2,0),(3,1),(4,1),(5,0),(6,0),(7,1)] (.two 8 2 (.one 9 2 (.one 10 3 .fin)) 9 2 (.one 8 2 (.one 10 3 .fin)))) (by kernel_rfl) (by simp) ?_
    cbv
    refine ⟨?_, ?_⟩
    ·
      refine m_callf hX [] bodied_24 (fun k2 h => New_in W0 c r N (fun _ => 0) hI (by intros; rfl) k2 h) ?_ rfl rfl ?_ ?_
      · (first | (simp [MH, MB, MT, MV, MV.MVs, MC.MCs, MC, renC.renCs, renC, up]; done) | (simp [MH, MB, MT, MV, MV.MVs, MC.MCs, MC, renC.renCs, renC, up]; omega) | (simp [MH, MB, MT, MV, MV.MVs, MC.MCs, MC, renC.renCs, renC, up] <;> omega))
      · simp [MV, MV.MVs, MC]
      cbv
      refine ⟨[some 0, some 1, some 2, some 3, some 4, some 5, some 6], ?_, rfl, rfl, ?_⟩
      · simp [MH, MB, MC.MCs, MC, renC.renCs, renC, up]
      · simp [MT, MV.MVs, MV, MC, renV, renC, up]
    ·
      refine m_callf hX [] bodied_24 (fun k2 h => New_in W0 c r N (fun _ => 0) hI (by intros; rfl) k2 h) ?_ rfl rfl ?_ ?_
      · (first | (simp [MH, MB, MT, MV, MV.MVs, MC.MCs, MC, renC.renCs, renC, up]; done) | (simp [MH, MB, MT, MV, MV.MVs, MC.MCs, MC, renC.renCs, renC, up]; omega) | (simp [MH, MB, MT, MV, MV.MVs, MC.MCs, MC, renC.renCs, renC, up] <;> omega))
      · simp [MV, MV.MVs, MC]
      cbv
      refine ⟨[some 0, some 1, some 2, some 3, some 5, some 6, some 4], ?_, rfl, rfl, ?_⟩
      · simp [MH, MB, MC.MCs, MC, renC.renCs, renC, up]
      · simp [MT, MV.MVs, MV, MC, renV, renC, up]
  cbv
  refine m_callf hX [0, 1] bodied_52 (fun k2 h => GAll_c W0 c r N f k2 h) ?_ rfl rfl ?_ ?_
  · (first | (simp [MH, MB, MT, MV, MV.MVs, MC.MCs, MC, renC.renCs, renC, up]; done) | (simp [MH, MB, MT, MV, MV.MVs, MC.MCs, MC, renC.renCs, renC, up]; omega) | (simp [MH, MB, MT, MV, MV.MVs, MC.MCs, MC, renC.renCs, renC, up] <;> omega))
  · simp [MV, MV.MVs, MC]
  cbv
  refine m_rangef tab_ok hX rfl bodied_64 (fn := Try.f64) (by kernel_rfl) rfl rfl ?_
  intro X1 X2 md1 md2 L yv KF hKF h1 h2 hmd hy
  have hX0 := hX
  replace hX := h1
  cbv
  repeat' (first | (refine m_cond_t hX (by first | rfl | assumption | (subst hX; rfl)) ?_; cbv) | (refine m_cond_f hX (by first | rfl | assumption | (subst hX; rfl)) ?_; cbv) | fail)
  have hbd := hI.bound
  refine m_callf hX [1] bodied_46 (fun k2 h => Clone_c W0 true N 0 N none f (by simp) (by omega) k2 h) ?_ rfl rfl ?_ ?_
  · (first | (simp [MH, MB, MT, MV, MV.MVs, MC.MCs, MC, renC.renCs, renC, up]; done) | (simp [MH, MB, MT, MV, MV.MVs, MC.MCs, MC, renC.renCs, renC, up]; omega) | (simp [MH, MB, MT, MV, MV.MVs, MC.MCs, MC, renC.renCs, renC, up] <;> omega))
  · simp [MV, MV.MVs, MC]
  cbv
  refine m_loop tab_ok hX (fun b : Nat × Int × (Nat → Int) => MirI c r N rt f b.1 b.2.1 b.2.2) (fun b => ([.one (.raw yv), .one (.ptr 7 0 0), .one .undef, .one .undef, .one .undef] ++ List.replicate 6 (.one .undef) ++ [.one (.sl 9 0 N none), .one (.int .i64 N), .one (.int .i64 b.2.1)] ++ List.replicate 22 (.one .undef), [grid c r 1 N, ints true N f, some (.box 36 [.ptr 0 0 0]), some (.box 4 [.bool rt]), grid c r 5 N, ints true N b.2.2, some (.box 36 [.ptr 4 0 0]), some (.box 36 [.ptr 0 0 0]), some (.obj (L 0 0)), ints true N f])) (fun b => N - b.1) ?_ ?_
  · refine ⟨⟨0, 0, fun _ => 0⟩, ⟨by omega, rfl, fun b hb => by omega⟩, [some 0, some 1, some 2, some 3, some 4, some 5, some 6, some 7, some 8, some 9], ?_, rfl, rfl, ?_⟩
    · simp [MH, MB, MT, MV, MV.MVs, MC.MCs, MC, renC.renCs, renC, up]
    · subst hX
      simp [MT, MV.MVs, MV, MC, std, binS]
  · rintro ⟨a, i, g⟩ hb
    replace hb : MirI c r N rt f a i g := hb
    cbv
    refine m_cond hX (fun h => ?_) (fun h => ?_) <;> cbv
    · have hh : (0 ≤ i ∧ i < N) ∧ i.toNat = a ∧ a < N := by
        obtain ⟨g1, g2, g3⟩ := hb
        have : i < N := by subst hX; simpa [std, cmpS] using h
        omega
      obtain ⟨hh1, hh2, hh3⟩ := hh
      refine ⟨by subst hX; exact hh1, by subst hX; show 0 + i.toNat < N; omega, ?_⟩
      have hC := hI.at hh3 hX hb.h2
      have e1 : f (X1.nadd 0 (X1.toN i)) = f a := by
        subst h1
        show f (0 + i.toNat) = f a
        rw [hh2, Nat.zero_add]
      refine m_draw tab_ok hX [] [15] [(0,0),(1,0),(2,1),(3,0),(4,0),(5,1),(6,0),(7,0),(8,1),(9,0),(10,0),(11,1),(12,0),(13,0),(14,0),(15,3),(16,0)] (by kernel_rfl) (by simp) ?_
      cbv
      refine ⟨by subst hX; have := hI.c1; show c ≠ 0; omega, by subst hX; have := hI.c1; show c ≠ 0; omega, ?_⟩
      refine hy rfl rfl rfl rfl rfl rfl fun K hK => ?_
      have hX1 := hX
      replace hX := h2
      cbv
      refine m_cond hX (fun hrt => ?_) (fun hrt => ?_) <;> cbv
      ·
        refine m_gen (A := X2.draw _ _ _) fun K1 hK1 => ?_
        refine m_draw tab_ok hX [] [9] [(0,1),(1,0),(2,0),(3,1),(4,0),(5,0),(6,1),(7,0),(8,0),(9,3)] (by kernel_rfl) (by simp) ?_
        cbv
        refine hK1 _ _ ?_
        cbv
        have e2 : X2.bin .sub .i64 (X2.bin .sub .i64 c 1) (X1.bin .rem .i64 i c) = c - 1 - X1.bin .rem .i64 i c := by
          have w1 := hC.x1
          have w2 := hC.x2
          have w3 := hI.c1
          have w4 := hI.c2
          clear hC
          generalize X1.bin .rem .i64 i c = z at *
          subst h2
          show IntKind.i64.wrap (IntKind.i64.wrap (c - 1) - z) = c - 1 - z
          rw [wrap_eq (x := c - 1) (by omega) (by omega), wrap_eq (by omega) (by omega)]
        have hM : CellI c r N (X2.bin .sub .i64 (X2.bin .sub .i64 c 1) (X1.bin .rem .i64 i c)) (X1.bin .quo .i64 i c) (mir c r rt a) := by rw [e2, hrt]; exact hC.mirT
        obtain ⟨g', hg'⟩ : ∃ g' : Nat → Int, ∀ j, g' j = if j = mir c r rt a then f (X1.nadd 0 (X1.toN i)) else g j := ⟨_, fun _ => rfl⟩
        refine m_callf hX [4, 5] bodied_33 (fun k2 h => Set_in W0 c r N (X2.bin .sub .i64 (X2.bin .sub .i64 c 1) (X1.bin .rem .i64 i c)) (X1.bin .quo .i64 i c) (f (X1.nadd 0 (X1.toN i))) (mir c r rt a) g g' hM (fun j _ => hg' j) k2 h) ?_ rfl rfl ?_ ?_
        · (first | (simp [MH, MB, MT, MV, MV.MVs, MC.MCs, MC, renC.renCs, renC, up]; done) | (simp [MH, MB, MT, MV, MV.MVs, MC.MCs, MC, renC.renCs, renC, up]; omega) | (simp [MH, MB, MT, MV, MV.MVs, MC.MCs, MC, renC.renCs, renC, up] <;> omega))
        · simp [MV, MV.MVs, MC]
        cbv
        refine hK _ _ ?_
        cbv
        replace hX := hX1
        refine m_cond_f hX (by subst hX; rfl) ?_
        cbv
        refine ⟨⟨a + 1, i + 1, g'⟩, ?_, ?_, [some 0, some 1, some 2, some 3, some 4, some 5, some 6, some 7, some 8, some 9], ?_, rfl, rfl, ?_⟩
        · exact hb.step hI hh3 (fun j _ => (hg' j).trans (by rw [e1]))
        · show N - (a + 1) < N - a; omega
        · simp [MH, MB, MC.MCs, MC, renC.renCs, renC, up]
        · have g2 := hb.h2
          subst hX
          simp [MT, MV.MVs, MV, MC, std, binS]
          exact (wrap_eq (by omega) (by omega)).symm
      ·
        refine m_gen (A := X2.draw _ _ _) fun K1 hK1 => ?_
        refine m_draw tab_ok hX [] [9] [(0,1),(1,0),(2,0),(3,1),(4,0),(5,0),(6,1),(7,0),(8,0),(9,3)] (by kernel_rfl) (by simp) ?_
        cbv
        refine hK1 _ _ ?_
        cbv
        have e2 : X2.bin .sub .i64 (X2.bin .sub .i64 r 1) (X1.bin .quo .i64 i c) = r - 1 - X1.bin .quo .i64 i c := by
          have w1 := hC.y1
          have w2 := hC.y2
          have w3 := hI.r1
          have w4 := hI.r2
          clear hC
          generalize X1.bin .quo .i64 i c = z at *
          subst h2
          show IntKind.i64.wrap (IntKind.i64.wrap (r - 1) - z) = r - 1 - z
          rw [wrap_eq (x := r - 1) (by omega) (by omega), wrap_eq (by omega) (by omega)]
        have hM : CellI c r N (X1.bin .rem .i64 i c) (X2.bin .sub .i64 (X2.bin .sub .i64 r 1) (X1.bin .quo .i64 i c)) (mir c r rt a) := by rw [e2, hrt]; exact hC.mirF
        obtain ⟨g', hg'⟩ : ∃ g' : Nat → Int, ∀ j, g' j = if j = mir c r rt a then f (X1.nadd 0 (X1.toN i)) else g j := ⟨_, fun _ => rfl⟩
        refine m_callf hX [4, 5] bodied_33 (fun k2 h => Set_in W0 c r N (X1.bin .rem .i64 i c) (X2.bin .sub .i64 (X2.bin .sub .i64 r 1) (X1.bin .quo .i64 i c)) (f (X1.nadd 0 (X1.toN i))) (mir c r rt a) g g' hM (fun j _ => hg' j) k2 h) ?_ rfl rfl ?_ ?_
        · (first | (simp [MH, MB, MT, MV, MV.MVs, MC.MCs, MC, renC.renCs, renC, up]; done) | (simp [MH, MB, MT, MV, MV.MVs, MC.MCs, MC, renC.renCs, renC, up]; omega) | (simp [MH, MB, MT, MV, MV.MVs, MC.MCs, MC, renC.renCs, renC, up] <;> omega))
        · simp [MV, MV.MVs, MC]
        cbv
        refine hK _ _ ?_
        cbv
        replace hX := hX1
        refine m_cond_f hX (by subst hX; rfl) ?_
        cbv
        refine ⟨⟨a + 1, i + 1, g'⟩, ?_, ?_, [some 0, some 1, some 2, some 3, some 4, some 5, some 6, some 7, some 8, some 9], ?_, rfl, rfl, ?_⟩
        · exact hb.step hI hh3 (fun j _ => (hg' j).trans (by rw [e1]))
        · show N - (a + 1) < N - a; omega
        · simp [MH, MB, MC.MCs, MC, renC.renCs, renC, up]
        · have g2 := hb.h2
          subst hX
          simp [MT, MV.MVs, MV, MC, std, binS]
          exact (wrap_eq (by omega) (by omega)).symm
    · refine ⟨0, 0, by omega, rfl, ?_⟩
      refine hKF _ _ _ ?_
      have hm : a = N := by
        obtain ⟨g1, g2, g3⟩ := hb
        have : ¬ i < N := by subst hX; simpa [std, cmpS] using h
        omega
      subst hm
      cbv
      refine ⟨_, _, [some 0, some 1, some 4, some 5], ?_, rfl, rfl, ?_, hk g hb.h3⟩
      all_goals (first | (simp [MH, MB, MT, MV, MV.MVs, MC.MCs, MC, renC.renCs, renC, up]; done) | (simp [MH, MB, MT, MV, MV.MVs, MC.MCs, MC, renC.renCs, renC, up]; omega) | (simp [MH, MB, MT, MV, MV.MVs, MC.MCs, MC, renC.renCs, renC, up] <;> omega))
end Go.Proofs.Ytnfoibgafmeenaa.AM
