/- Layers that are compared; layers that are near, as contracts on the abstract machine. No condition but those named. -/
import Derived.Test.YtnfoibgafmeenaaFo18
namespace Go.Proofs.Ytnfoibgafmeenaa.AM
open Go Go.RowKit
set_option cbv.warning false
set_option maxRecDepth 100000
set_option linter.unusedVariables false
set_option linter.unusedSimpArgs false
theorem bodied_25 : Bodied Try.prog 25 := ⟨Try.f25, by kernel_rfl, by kernel_rfl, by kernel_rfl⟩
theorem bodied_39 : Bodied Try.prog 39 := ⟨Try.f39, by kernel_rfl, by kernel_rfl, by kernel_rfl⟩
theorem bodied_40 : Bodied Try.prog 40 := ⟨Try.f40, by kernel_rfl, by kernel_rfl, by kernel_rfl⟩
theorem bodied_42 : Bodied Try.prog 42 := ⟨Try.f42, by kernel_rfl, by kernel_rfl, by kernel_rfl⟩
theorem In_c (W0 : World) (a lo hi : Int) (k : V → Heap → Prop) (hk : ∀ b : Bool, (b = true ↔ lo ≤ a ∧ a ≤ hi) → k (.one (.bool b)) []) : ACall Try.prog W0 25 [.one (.int .i64 a), .one (.int .i64 lo), .one (.int .i64 hi)] [] k := by
  refine m_body tab_ok (fn := Try.f25) (by kernel_rfl) rfl ?_
  intro X hX
  cbv
  refine m_cond hX (fun h => ?_) (fun h => ?_) <;> cbv
  ·
    repeat' (first | (refine m_cond_t hX (by first | rfl | assumption | (subst hX; rfl)) ?_; cbv) | (refine m_cond_f hX (by first | rfl | assumption | (subst hX; rfl)) ?_; cbv) | fail)
    refine ⟨_, _, [], ?_, rfl, rfl, ?_, hk (decide (a ≤ hi)) ?_⟩
    · trivial
    · subst hX
      simp [MV, MC, std, cmpS] at h ⊢
      simp [h]
    · subst hX
      simp [std, cmpS] at h ⊢
      omega
  ·
    repeat' (first | (refine m_cond_t hX (by first | rfl | assumption | (subst hX; rfl)) ?_; cbv) | (refine m_cond_f hX (by first | rfl | assumption | (subst hX; rfl)) ?_; cbv) | fail)
    refine ⟨_, _, [], ?_, rfl, rfl, ?_, hk false ?_⟩
    · trivial
    · subst hX
      simp [MV, MC, std, cmpS] at h ⊢
      try omega
    · subst hX
      simp [std, cmpS] at h ⊢
      omega
theorem eq69 : EqInts Try.prog 69 7 where
  key := ⟨6, by decide, by kernel_rfl⟩
  guard := by kernel_rfl
  formed zs hz := by
    have h1 : Try.prog.cellsOf 69 = 7 := by kernel_rfl
    unfold Value.formed
    rw [Try.underlying69]
    simp [h1, hz]
  lits := ⟨6, fun zs hz hw => by
    have h1 : Try.prog.cellsOf 69 = 7 := by kernel_rfl
    have h2 : Try.prog.cellsOf 65 = 4 := by kernel_rfl
    have h4 : Try.prog.cellsOf 67 = 3 := by kernel_rfl
    have h3 : Try.prog.cellsOf 3 = 1 := by kernel_rfl
    match zs, hz, hw with
    | [a, b, c, d, e, f, g], _, hw =>
      have wa := hw a (by simp)
      have wb := hw b (by simp)
      have wc := hw c (by simp)
      have wd := hw d (by simp)
      have we := hw e (by simp)
      have wf := hw f (by simp)
      have wg := hw g (by simp)
      simp (decide := true) [Program.keyLits, Try.underlying69, Try.underlying65, Try.underlying67, Try.underlying3, h1, h2, h3, h4, wa, wb, wc, wd, we, wf, wg]⟩
/-- A layer's numbers. -/
structure BI (n a : Nat) (i : Int) : Prop where
  h : a ≤ n
  ei : i = a
def li (l : La) : List Int := [l.x0, l.y0, l.x1, l.y1, l.t, l.X, l.Y]
theorem li_wf {K : Int} {l : La} (h : l.Near K) (hK : K ≤ 4611686018427387904) : ∀ z ∈ li l, (Lit.int .i64 z).wf = true := by
  intro z hz
  have ht : Nr 7 l.t := ⟨by have := h.t.lo; omega, h.t.hi⟩
  simp only [li, List.mem_cons, List.not_mem_nil, or_false] at hz
  rcases hz with rfl | rfl | rfl | rfl | rfl | rfl | rfl
  · exact (h.x0.up hK).wf
  · exact (h.y0.up hK).wf
  · exact (h.x1.up hK).wf
  · exact (h.y1.up hK).wf
  · exact (ht.up (by decide)).wf
  · exact (h.X.up hK).wf
  · exact (h.Y.up hK).wf
/-- ref38.Same, of lists that are the same. -/
theorem Same_c (W0 : World) (r1 r2 : Bool) (n : Nat) (c1 c2 : Option Nat) (f g : Nat → La) (hfg : ∀ q, q < n → f q = g q) (hne : ∀ q, q < n → (f q).Near 2305843009213693952) (hn : n ≤ 10000000) (k : V → Heap → Prop) (hk : k (.one (.bool true)) [lays r1 n f, lays r2 n g]) :
    ACall Try.prog W0 42 [.one (.sl 0 0 n c1), .one (.sl 1 0 n c2)] [lays r1 n f, lays r2 n g] k := by
  refine m_body tab_ok (fn := Try.f42) (by kernel_rfl) rfl ?_
  intro X hX
  cbv
  refine m_cond_f hX (by subst hX; simp [std, cmpS]) ?_
  cbv
  refine m_loop tab_ok hX (fun b : Nat × Int => b.1 ≤ n ∧ b.2 = b.1) (fun b => ([.one (.sl 0 0 n c1), .one (.sl 1 0 n c2), .one .undef, .one .undef, .one .undef, .one (.int .i64 b.2)] ++ List.replicate 20 (.one .undef), [lays r1 n f, lays r2 n g])) (fun b => n - b.1) ?_ ?_
  · refine ⟨⟨0, 0⟩, ⟨by omega, rfl⟩, [some 0, some 1], ?_, rfl, rfl, ?_⟩
    · simp [MH, MB, MC.MCs, MC, lc]
    · simp [MT, MV.MVs, MV, MC]
  · rintro ⟨a, i⟩ hb
    replace hb : BI n a i := ⟨hb.1, hb.2⟩
    cbv
    refine m_cond hX (fun h => ?_) (fun h => ?_) <;> cbv
    · have hh : (0 ≤ i ∧ i < n) ∧ i.toNat = a ∧ a < n := by
        obtain ⟨g1, g2⟩ := hb
        have : i < n := by subst hX; simpa [std, cmpS] using h
        omega
      obtain ⟨hh1, hh2, hh3⟩ := hh
      refine m_drawT tab_ok hX [] [] (.one 0 0 (.one 1 0 (.one 2 0 (.one 4 0 (.one 5 0 (.one 6 0 (.one 3 1 (.one 7 1 (.one 8 0 .fin))))))))) (by kernel_rfl) (by simp) ?_
      cbv
      refine ⟨by subst hX; exact hh1, by subst hX; exact hh1, by subst hX; show 0 + i.toNat < n; omega, by subst hX; show 0 + i.toNat < n; omega, ?_⟩
      have e1 : f (X.nadd 0 (X.toN i)) = f a := by subst hX; show f (0 + i.toNat) = _; rw [hh2, Nat.zero_add]
      have e2 : g (X.nadd 0 (X.toN i)) = f a := by subst hX; show g (0 + i.toNat) = _; rw [hh2, Nat.zero_add, hfg a hh3]
      rw [e1, e2]
      refine m_eqInts hX (.inr rfl) eq69 (li (f a)) (li (f a)) rfl rfl rfl rfl (li_wf (hne a hh3) (by decide)) (li_wf (hne a hh3) (by decide)) ?_
      intro e he
      obtain rfl : e = true := he.2 rfl
      cbv
      refine m_cond_f hX (by subst hX; rfl) ?_
      cbv
      refine ⟨⟨a + 1, i + 1⟩, ⟨by show a + 1 ≤ n; omega, ?_⟩, by show n - (a + 1) < n - a; omega, [some 0, some 1], ?_, rfl, rfl, ?_⟩
      · obtain ⟨g1, g2⟩ := hb
        show i + 1 = ((a + 1 : Nat) : Int)
        omega
      · simp [MH, MB, MC.MCs, MC, lc]
      · obtain ⟨g1, g2⟩ := hb
        subst hX
        simp [MT, MV.MVs, MV, MC, std, binS]
        exact (wrap_eq (by omega) (by omega)).symm
    · refine ⟨_, _, [some 0, some 1], ?_, rfl, rfl, ?_, hk⟩
      · simp [MH, MB, MC.MCs, MC, lc]
      · simp [MV, MC]
/-- Layers that are near, and few. -/
structure NearAll (xs : List La) : Prop where
  h : ∀ l ∈ xs, l.Near 1099511627776
  n : xs.length ≤ 40
set_option maxHeartbeats 8000000 in
theorem near_c (W0 : World) (rw : Bool) (n : Nat) (c : Option Nat) (F : Nat → La) (hn : n ≤ 9223372036854775807) (k : V → Heap → Prop) (hk : ∀ b : Bool, (b = true → (∀ q, q < n → (F q).Near 1099511627776) ∧ n ≤ 40) → k (.one (.bool b)) [lays rw n F]) :
    ACall Try.prog W0 40 [.one (.sl 0 0 n c)] [lays rw n F] k := by
  refine m_body tab_ok (fn := Try.f40) (by kernel_rfl) rfl ?_
  intro X hX
  cbv
  refine m_loop tab_ok hX (fun b : Nat × Int => (b.1 ≤ n ∧ b.2 = b.1) ∧ ∀ q, q < b.1 → (F q).Near 1099511627776) (fun b => ([.one (.sl 0 0 n c), .one .undef, .one .undef, .one (.int .i64 1099511627776), .one (.int .i64 b.2)] ++ List.replicate 85 (.one .undef), [lays rw n F])) (fun b => n - b.1) ?_ ?_
  · refine ⟨⟨0, 0⟩, ⟨⟨by omega, rfl⟩, fun q hq => absurd hq (by simp)⟩, [some 0], ?_, rfl, rfl, ?_⟩
    · simp [MH, MB, MC.MCs, MC, lc]
    · simp [MT, MV.MVs, MV, MC]
  · rintro ⟨a, i⟩ hb
    have hN := hb.2
    replace hb : BI n a i := ⟨hb.1.1, hb.1.2⟩
    cbv
    refine m_cond hX (fun h => ?_) (fun h => ?_) <;> cbv
    · have hh : (0 ≤ i ∧ i < n) ∧ i.toNat = a ∧ a < n := by
        obtain ⟨g1, g2⟩ := hb
        have : i < n := by subst hX; simpa [std, cmpS] using h
        omega
      obtain ⟨hh1, hh2, hh3⟩ := hh
      have i1 : X.inb i n := by subst hX; exact hh1
      have i2 : X.nlt (X.nadd 0 (X.toN i)) n := by subst hX; show 0 + i.toNat < n; omega
      refine ⟨i1, i2, ?_⟩
      have e1 : F (X.nadd 0 (X.toN i)) = F a := by subst hX; show F (0 + i.toNat) = _; rw [hh2, Nat.zero_add]
      have e0 : X.bin .sub .i64 0 1099511627776 = -1099511627776 := by
        subst hX
        show IntKind.i64.wrap (0 - 1099511627776) = -1099511627776
        decide
      rw [e1]
      obtain ⟨l, hl⟩ : ∃ l, l = F a := ⟨_, rfl⟩
      rw [← hl]
      cbv
      refine m_callq hX [] bodied_25 (fun k2 hk2 => In_c W0 l.x0 (X.bin .sub .i64 0 1099511627776) 1099511627776 k2 hk2) ?_ rfl rfl ?_ ?_
      · (first | (simp [MH, MB, MT, MV, MV.MVs, MC.MCs, MC, renC.renCs, renC, up]; done) | (simp [MH, MB, MT, MV, MV.MVs, MC.MCs, MC, renC.renCs, renC, up]; omega) | (simp [MH, MB, MT, MV, MV.MVs, MC.MCs, MC, renC.renCs, renC, up] <;> omega))
      · simp [MV, MV.MVs, MC, MC.MCs]
      intro b0 hb0
      cbv
      cases b0 with
      | false =>
        repeat' (first | (refine m_cond_t hX (by first | rfl | assumption | (subst hX; rfl)) ?_; cbv) | (refine m_cond_f hX (by first | rfl | assumption | (subst hX; rfl)) ?_; cbv) | fail)
        refine ⟨_, _, [some 0], ?_, rfl, rfl, ?_, hk false (fun h => by cases h)⟩
        · simp [MH, MB, MC.MCs, MC, lc]
        · simp [MV, MC]
      | true =>
        repeat' (first | (refine m_cond_t hX (by first | rfl | assumption | (subst hX; rfl)) ?_; cbv) | (refine m_cond_f hX (by first | rfl | assumption | (subst hX; rfl)) ?_; cbv) | fail)
        refine m_callq hX [] bodied_25 (fun k2 hk2 => In_c W0 l.y0 (X.bin .sub .i64 0 1099511627776) 1099511627776 k2 hk2) ?_ rfl rfl ?_ ?_
        · (first | (simp [MH, MB, MT, MV, MV.MVs, MC.MCs, MC, renC.renCs, renC, up]; done) | (simp [MH, MB, MT, MV, MV.MVs, MC.MCs, MC, renC.renCs, renC, up]; omega) | (simp [MH, MB, MT, MV, MV.MVs, MC.MCs, MC, renC.renCs, renC, up] <;> omega))
        · simp [MV, MV.MVs, MC, MC.MCs]
        intro b1 hb1
        cbv
        cases b1 with
        | false =>
          repeat' (first | (refine m_cond_t hX (by first | rfl | assumption | (subst hX; rfl)) ?_; cbv) | (refine m_cond_f hX (by first | rfl | assumption | (subst hX; rfl)) ?_; cbv) | fail)
          refine ⟨_, _, [some 0], ?_, rfl, rfl, ?_, hk false (fun h => by cases h)⟩
          · simp [MH, MB, MC.MCs, MC, lc]
          · simp [MV, MC]
        | true =>
          repeat' (first | (refine m_cond_t hX (by first | rfl | assumption | (subst hX; rfl)) ?_; cbv) | (refine m_cond_f hX (by first | rfl | assumption | (subst hX; rfl)) ?_; cbv) | fail)
          refine m_callq hX [] bodied_25 (fun k2 hk2 => In_c W0 l.x1 (X.bin .sub .i64 0 1099511627776) 1099511627776 k2 hk2) ?_ rfl rfl ?_ ?_
          · (first | (simp [MH, MB, MT, MV, MV.MVs, MC.MCs, MC, renC.renCs, renC, up]; done) | (simp [MH, MB, MT, MV, MV.MVs, MC.MCs, MC, renC.renCs, renC, up]; omega) | (simp [MH, MB, MT, MV, MV.MVs, MC.MCs, MC, renC.renCs, renC, up] <;> omega))
          · simp [MV, MV.MVs, MC, MC.MCs]
          intro b2 hb2
          cbv
          cases b2 with
          | false =>
            repeat' (first | (refine m_cond_t hX (by first | rfl | assumption | (subst hX; rfl)) ?_; cbv) | (refine m_cond_f hX (by first | rfl | assumption | (subst hX; rfl)) ?_; cbv) | fail)
            refine ⟨_, _, [some 0], ?_, rfl, rfl, ?_, hk false (fun h => by cases h)⟩
            · simp [MH, MB, MC.MCs, MC, lc]
            · simp [MV, MC]
          | true =>
            repeat' (first | (refine m_cond_t hX (by first | rfl | assumption | (subst hX; rfl)) ?_; cbv) | (refine m_cond_f hX (by first | rfl | assumption | (subst hX; rfl)) ?_; cbv) | fail)
            refine m_callq hX [] bodied_25 (fun k2 hk2 => In_c W0 l.y1 (X.bin .sub .i64 0 1099511627776) 1099511627776 k2 hk2) ?_ rfl rfl ?_ ?_
            · (first | (simp [MH, MB, MT, MV, MV.MVs, MC.MCs, MC, renC.renCs, renC, up]; done) | (simp [MH, MB, MT, MV, MV.MVs, MC.MCs, MC, renC.renCs, renC, up]; omega) | (simp [MH, MB, MT, MV, MV.MVs, MC.MCs, MC, renC.renCs, renC, up] <;> omega))
            · simp [MV, MV.MVs, MC, MC.MCs]
            intro b3 hb3
            cbv
            cases b3 with
            | false =>
              repeat' (first | (refine m_cond_t hX (by first | rfl | assumption | (subst hX; rfl)) ?_; cbv) | (refine m_cond_f hX (by first | rfl | assumption | (subst hX; rfl)) ?_; cbv) | fail)
              refine ⟨_, _, [some 0], ?_, rfl, rfl, ?_, hk false (fun h => by cases h)⟩
              · simp [MH, MB, MC.MCs, MC, lc]
              · simp [MV, MC]
            | true =>
              repeat' (first | (refine m_cond_t hX (by first | rfl | assumption | (subst hX; rfl)) ?_; cbv) | (refine m_cond_f hX (by first | rfl | assumption | (subst hX; rfl)) ?_; cbv) | fail)
              refine ⟨i1, ?_⟩
              repeat' (first | (refine m_cond_t hX (by first | rfl | assumption | (subst hX; rfl)) ?_; cbv) | (refine m_cond_f hX (by first | rfl | assumption | (subst hX; rfl)) ?_; cbv) | fail)
              refine ⟨i2, ?_⟩
              rw [e1, ← hl]
              cbv
              repeat' (first | (refine m_cond_t hX (by first | rfl | assumption | (subst hX; rfl)) ?_; cbv) | (refine m_cond_f hX (by first | rfl | assumption | (subst hX; rfl)) ?_; cbv) | fail)
              refine m_callq hX [] bodied_25 (fun k2 hk2 => In_c W0 l.X (X.bin .sub .i64 0 1099511627776) 1099511627776 k2 hk2) ?_ rfl rfl ?_ ?_
              · (first | (simp [MH, MB, MT, MV, MV.MVs, MC.MCs, MC, renC.renCs, renC, up]; done) | (simp [MH, MB, MT, MV, MV.MVs, MC.MCs, MC, renC.renCs, renC, up]; omega) | (simp [MH, MB, MT, MV, MV.MVs, MC.MCs, MC, renC.renCs, renC, up] <;> omega))
              · simp [MV, MV.MVs, MC, MC.MCs]
              intro b4 hb4
              cbv
              cases b4 with
              | false =>
                repeat' (first | (refine m_cond_t hX (by first | rfl | assumption | (subst hX; rfl)) ?_; cbv) | (refine m_cond_f hX (by first | rfl | assumption | (subst hX; rfl)) ?_; cbv) | fail)
                refine ⟨_, _, [some 0], ?_, rfl, rfl, ?_, hk false (fun h => by cases h)⟩
                · simp [MH, MB, MC.MCs, MC, lc]
                · simp [MV, MC]
              | true =>
                repeat' (first | (refine m_cond_t hX (by first | rfl | assumption | (subst hX; rfl)) ?_; cbv) | (refine m_cond_f hX (by first | rfl | assumption | (subst hX; rfl)) ?_; cbv) | fail)
                refine ⟨i1, ?_⟩
                repeat' (first | (refine m_cond_t hX (by first | rfl | assumption | (subst hX; rfl)) ?_; cbv) | (refine m_cond_f hX (by first | rfl | assumption | (subst hX; rfl)) ?_; cbv) | fail)
                refine ⟨i2, ?_⟩
                rw [e1, ← hl]
                cbv
                repeat' (first | (refine m_cond_t hX (by first | rfl | assumption | (subst hX; rfl)) ?_; cbv) | (refine m_cond_f hX (by first | rfl | assumption | (subst hX; rfl)) ?_; cbv) | fail)
                refine m_callq hX [] bodied_25 (fun k2 hk2 => In_c W0 l.Y (X.bin .sub .i64 0 1099511627776) 1099511627776 k2 hk2) ?_ rfl rfl ?_ ?_
                · (first | (simp [MH, MB, MT, MV, MV.MVs, MC.MCs, MC, renC.renCs, renC, up]; done) | (simp [MH, MB, MT, MV, MV.MVs, MC.MCs, MC, renC.renCs, renC, up]; omega) | (simp [MH, MB, MT, MV, MV.MVs, MC.MCs, MC, renC.renCs, renC, up] <;> omega))
                · simp [MV, MV.MVs, MC, MC.MCs]
                intro b5 hb5
                cbv
                cases b5 with
                | false =>
                  repeat' (first | (refine m_cond_t hX (by first | rfl | assumption | (subst hX; rfl)) ?_; cbv) | (refine m_cond_f hX (by first | rfl | assumption | (subst hX; rfl)) ?_; cbv) | fail)
                  refine ⟨_, _, [some 0], ?_, rfl, rfl, ?_, hk false (fun h => by cases h)⟩
                  · simp [MH, MB, MC.MCs, MC, lc]
                  · simp [MV, MC]
                | true =>
                  repeat' (first | (refine m_cond_t hX (by first | rfl | assumption | (subst hX; rfl)) ?_; cbv) | (refine m_cond_f hX (by first | rfl | assumption | (subst hX; rfl)) ?_; cbv) | fail)
                  refine ⟨i1, ?_⟩
                  repeat' (first | (refine m_cond_t hX (by first | rfl | assumption | (subst hX; rfl)) ?_; cbv) | (refine m_cond_f hX (by first | rfl | assumption | (subst hX; rfl)) ?_; cbv) | fail)
                  refine ⟨i2, ?_⟩
                  rw [e1, ← hl]
                  cbv
                  repeat' (first | (refine m_cond_t hX (by first | rfl | assumption | (subst hX; rfl)) ?_; cbv) | (refine m_cond_f hX (by first | rfl | assumption | (subst hX; rfl)) ?_; cbv) | fail)
                  refine m_callq hX [] bodied_25 (fun k2 hk2 => In_c W0 l.t 0 7 k2 hk2) ?_ rfl rfl ?_ ?_
                  · (first | (simp [MH, MB, MT, MV, MV.MVs, MC.MCs, MC, renC.renCs, renC, up]; done) | (simp [MH, MB, MT, MV, MV.MVs, MC.MCs, MC, renC.renCs, renC, up]; omega) | (simp [MH, MB, MT, MV, MV.MVs, MC.MCs, MC, renC.renCs, renC, up] <;> omega))
                  · simp [MV, MV.MVs, MC, MC.MCs]
                  intro b6 hb6
                  cbv
                  cases b6 with
                  | false =>
                    repeat' (first | (refine m_cond_t hX (by first | rfl | assumption | (subst hX; rfl)) ?_; cbv) | (refine m_cond_f hX (by first | rfl | assumption | (subst hX; rfl)) ?_; cbv) | fail)
                    refine ⟨_, _, [some 0], ?_, rfl, rfl, ?_, hk false (fun h => by cases h)⟩
                    · simp [MH, MB, MC.MCs, MC, lc]
                    · simp [MV, MC]
                  | true =>
                    repeat' (first | (refine m_cond_t hX (by first | rfl | assumption | (subst hX; rfl)) ?_; cbv) | (refine m_cond_f hX (by first | rfl | assumption | (subst hX; rfl)) ?_; cbv) | fail)
                    have hla : l.Near 1099511627776 := by
                      have d := fun (b : Bool) (x : Int) (hb : b = true ↔ X.bin .sub .i64 0 1099511627776 ≤ x ∧ x ≤ 1099511627776) (h : b = true) => (show Nr 1099511627776 x from ⟨by have := (hb.1 h).1; rw [e0] at this; exact this, (hb.1 h).2⟩)
                      exact ⟨⟨(hb6.1 rfl).1, (hb6.1 rfl).2⟩, d _ _ hb4 rfl, d _ _ hb5 rfl, d _ _ hb0 rfl, d _ _ hb1 rfl, d _ _ hb2 rfl, d _ _ hb3 rfl⟩
                    refine ⟨⟨a + 1, i + 1⟩, ⟨⟨by show a + 1 ≤ n; omega, ?_⟩, fun q hq => ?_⟩, by show n - (a + 1) < n - a; omega, [some 0], ?_, rfl, rfl, ?_⟩
                    · obtain ⟨g1, g2⟩ := hb
                      show i + 1 = ((a + 1 : Nat) : Int)
                      omega
                    · replace hq : q < a + 1 := hq
                      by_cases hqa : q = a
                      · rw [hqa, ← hl]; exact hla
                      · exact hN q (by show q < a; omega)
                    · simp [MH, MB, MC.MCs, MC, lc]
                    · obtain ⟨g1, g2⟩ := hb
                      subst hX
                      simp [MT, MV.MVs, MV, MC, std, binS]
                      exact (wrap_eq (by omega) (by omega)).symm
    · have hbn : a = n := by
        obtain ⟨g1, g2⟩ := hb
        have : ¬ i < n := by subst hX; simpa [std, cmpS] using h
        omega
      refine ⟨_, _, [some 0], ?_, rfl, rfl, ?_, hk (decide (n ≤ 40)) (fun hh => ⟨fun q hq => hN q (by show q < a; omega), by simpa using hh⟩)⟩
      · simp [MH, MB, MC.MCs, MC, lc]
      · subst hX
        simp [MV, MC, std, cmpS]
        try omega
end Go.Proofs.Ytnfoibgafmeenaa.AM
