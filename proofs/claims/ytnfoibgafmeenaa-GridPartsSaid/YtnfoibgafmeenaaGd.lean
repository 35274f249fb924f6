/- A grid's functions, as contracts on the abstract machine. No condition but that what they read is there. -/
import Derived.Test.YtnfoibgafmeenaaDk
namespace Go.Proofs.Ytnfoibgafmeenaa.AM
open Go Go.RowKit
set_option cbv.warning false
set_option maxRecDepth 100000
set_option linter.unusedVariables false
set_option linter.unusedSimpArgs false
theorem bodied_24 : Bodied Try.prog 24 := ⟨Try.f24, by kernel_rfl, by kernel_rfl, by kernel_rfl⟩
theorem bodied_25 : Bodied Try.prog 25 := ⟨Try.f25, by kernel_rfl, by kernel_rfl, by kernel_rfl⟩
theorem bodied_33 : Bodied Try.prog 33 := ⟨Try.f33, by kernel_rfl, by kernel_rfl, by kernel_rfl⟩
theorem bodied_35 : Bodied Try.prog 35 := ⟨Try.f35, by kernel_rfl, by kernel_rfl, by kernel_rfl⟩
theorem bodied_49 : Bodied Try.prog 49 := ⟨Try.f49, by kernel_rfl, by kernel_rfl, by kernel_rfl⟩
theorem bodied_50 : Bodied Try.prog 50 := ⟨Try.f50, by kernel_rfl, by kernel_rfl, by kernel_rfl⟩
theorem bodied_51 : Bodied Try.prog 51 := ⟨Try.f51, by kernel_rfl, by kernel_rfl, by kernel_rfl⟩
theorem bodied_52 : Bodied Try.prog 52 := ⟨Try.f52, by kernel_rfl, by kernel_rfl, by kernel_rfl⟩
theorem bodied_54 : Bodied Try.prog 54 := ⟨Try.f54, by kernel_rfl, by kernel_rfl, by kernel_rfl⟩
theorem bodied_64 : Bodied Try.prog 64 := ⟨Try.f64, by kernel_rfl, by kernel_rfl, by kernel_rfl⟩
theorem In50 (W0 : World) (a lo hi : Int) (k : V → Heap → Prop) (hk : ∀ b : Bool, (b = true ↔ lo ≤ a ∧ a ≤ hi) → k (.one (.bool b)) []) : ACall Try.prog W0 50 [.one (.int .i64 a), .one (.int .i64 lo), .one (.int .i64 hi)] [] k := by
  refine m_body tab_ok (fn := Try.f50) (by kernel_rfl) rfl ?_
  intro X hX
  cbv
  refine m_cond hX (fun h => ?_) (fun h => ?_) <;> cbv
  ·
    repeat' (first | (refine m_cond_t hX (by first | rfl | assumption | (subst hX; rfl)) ?_; cbv) | (refine m_cond_f hX (by first | rfl | assumption | (subst hX; rfl)) ?_; cbv) | fail)
    refine ⟨_, _, [], ?_, rfl, rfl, ?_, hk (decide (a ≤ hi)) ?_⟩
    · trivial
    · subst hX
      simp [MV, MC, std, cmpS] at h ⊢
      simp [h]
    · subst hX
      simp [std, cmpS] at h ⊢
      omega
  ·
    repeat' (first | (refine m_cond_t hX (by first | rfl | assumption | (subst hX; rfl)) ?_; cbv) | (refine m_cond_f hX (by first | rfl | assumption | (subst hX; rfl)) ?_; cbv) | fail)
    refine ⟨_, _, [], ?_, rfl, rfl, ?_, hk false ?_⟩
    · trivial
    · subst hX
      simp [MV, MC, std, cmpS] at h ⊢
      try omega
    · subst hX
      simp [std, cmpS] at h ⊢
      omega
theorem In25 (W0 : World) (a lo hi : Int) (k : V → Heap → Prop) (hk : ∀ b : Bool, (b = true ↔ lo ≤ a ∧ a ≤ hi) → k (.one (.bool b)) []) : ACall Try.prog W0 25 [.one (.int .i64 a), .one (.int .i64 lo), .one (.int .i64 hi)] [] k := by
  refine m_body tab_ok (fn := Try.f25) (by kernel_rfl) rfl ?_
  intro X hX
  cbv
  refine m_cond hX (fun h => ?_) (fun h => ?_) <;> cbv
  ·
    repeat' (first | (refine m_cond_t hX (by first | rfl | assumption | (subst hX; rfl)) ?_; cbv) | (refine m_cond_f hX (by first | rfl | assumption | (subst hX; rfl)) ?_; cbv) | fail)
    refine ⟨_, _, [], ?_, rfl, rfl, ?_, hk (decide (a ≤ hi)) ?_⟩
    · trivial
    · subst hX
      simp [MV, MC, std, cmpS] at h ⊢
      simp [h]
    · subst hX
      simp [std, cmpS] at h ⊢
      omega
  ·
    repeat' (first | (refine m_cond_t hX (by first | rfl | assumption | (subst hX; rfl)) ?_; cbv) | (refine m_cond_f hX (by first | rfl | assumption | (subst hX; rfl)) ?_; cbv) | fail)
    refine ⟨_, _, [], ?_, rfl, rfl, ?_, hk false ?_⟩
    · trivial
    · subst hX
      simp [MV, MC, std, cmpS] at h ⊢
      try omega
    · subst hX
      simp [std, cmpS] at h ⊢
      omega
abbrev grid (c r : Int) (j N : Nat) : Option B := some (.box 78 [.int .i64 c, .int .i64 r, .sl j 0 N none])
theorem Cols_c (W0 : World) (c r : Int) (N : Nat) (f : Nat → Int) (k : V → Heap → Prop) (hk : k (.one (.int .i64 c)) [grid c r 1 N, ints true N f]) : ACall Try.prog W0 35 [.one (.ptr 0 0 0)] [grid c r 1 N, ints true N f] k := by
  refine m_body tab_ok (fn := Try.f35) (by kernel_rfl) rfl ?_
  intro X hX
  cbv
  repeat' (first | (refine m_cond_t hX (by first | rfl | assumption | (subst hX; rfl)) ?_; cbv) | (refine m_cond_f hX (by first | rfl | assumption | (subst hX; rfl)) ?_; cbv) | fail)
  refine ⟨_, _, [some 0, some 1], ?_, rfl, rfl, ?_, hk⟩
  all_goals (first | (simp [MH, MB, MT, MV, MV.MVs, MC.MCs, MC, renC.renCs, renC, up]; done) | (simp [MH, MB, MT, MV, MV.MVs, MC.MCs, MC, renC.renCs, renC, up]; omega) | (simp [MH, MB, MT, MV, MV.MVs, MC.MCs, MC, renC.renCs, renC, up] <;> omega))
theorem Rows_c (W0 : World) (c r : Int) (N : Nat) (f : Nat → Int) (k : V → Heap → Prop) (hk : k (.one (.int .i64 r)) [grid c r 1 N, ints true N f]) : ACall Try.prog W0 51 [.one (.ptr 0 0 0)] [grid c r 1 N, ints true N f] k := by
  refine m_body tab_ok (fn := Try.f51) (by kernel_rfl) rfl ?_
  intro X hX
  cbv
  repeat' (first | (refine m_cond_t hX (by first | rfl | assumption | (subst hX; rfl)) ?_; cbv) | (refine m_cond_f hX (by first | rfl | assumption | (subst hX; rfl)) ?_; cbv) | fail)
  refine ⟨_, _, [some 0, some 1], ?_, rfl, rfl, ?_, hk⟩
  all_goals (first | (simp [MH, MB, MT, MV, MV.MVs, MC.MCs, MC, renC.renCs, renC, up]; done) | (simp [MH, MB, MT, MV, MV.MVs, MC.MCs, MC, renC.renCs, renC, up]; omega) | (simp [MH, MB, MT, MV, MV.MVs, MC.MCs, MC, renC.renCs, renC, up] <;> omega))
structure GI (c r : Int) (N : Nat) : Prop where
  c1 : 1 ≤ c
  c2 : c ≤ 64
  r1 : 1 ≤ r
  r2 : r ≤ 64
  hN : (N : Int) = c * r
theorem idx_lt {c r x y : Int} (h1 : 0 ≤ x) (h2 : x < c) (h3 : 0 ≤ y) (h4 : y < r) : 0 ≤ y * c + x ∧ y * c + x < c * r ∧ 0 ≤ y * c := by
  have h5 : (y + 1) * c ≤ r * c := Int.mul_le_mul_of_nonneg_right (by omega) (by omega)
  have h6 : 0 ≤ y * c := Int.mul_nonneg h3 (by omega)
  rw [Int.add_mul, Int.one_mul] at h5
  rw [Int.mul_comm c r]
  omega
theorem GI.bound {c r : Int} {N : Nat} (h : GI c r N) : 1 ≤ N ∧ N ≤ 4096 := by
  obtain ⟨c1, c2, r1, r2, hN⟩ := h
  have h5 : c * r ≤ 64 * r := Int.mul_le_mul_of_nonneg_right (by omega) (by omega)
  have h6 : 1 * r ≤ c * r := Int.mul_le_mul_of_nonneg_right (by omega) (by omega)
  omega
/-- A place that is there. -/
structure CellI (c r : Int) (N : Nat) (x y : Int) (q : Nat) : Prop where
  g : GI c r N
  x1 : 0 ≤ x
  x2 : x < c
  y1 : 0 ≤ y
  y2 : y < r
  hq : (q : Int) = y * c + x
theorem CellI.lt {c r : Int} {N : Nat} {x y : Int} {q : Nat} (h : CellI c r N x y q) : q < N := by
  have := idx_lt h.x1 h.x2 h.y1 h.y2
  have := h.hq
  have := h.g.hN
  omega
theorem CellI.run {c r : Int} {N : Nat} {x y : Int} {q : Nat} (h : CellI c r N x y q) : IntKind.i64.wrap (IntKind.i64.wrap (y * c) + x) = q := by
  obtain ⟨h1, h2, h3⟩ := idx_lt h.x1 h.x2 h.y1 h.y2
  have hb := h.g.bound
  have := h.hq
  have := h.g.hN
  have := h.x1
  rw [wrap_eq (x := y * c) (by omega) (by omega), wrap_eq (by omega) (by omega)]
  omega
theorem subw {c : Int} (h1 : 0 ≤ c) (h2 : c ≤ 1000000) (X : Ext) {P : Program} {W0 : World} {md : Md} (hX : X = std P W0 md) : X.bin .sub .i64 c 1 = c - 1 := by
  subst hX
  show IntKind.i64.wrap (c - 1) = c - 1
  exact wrap_eq (by omega) (by omega)
theorem cell_in (W0 : World) (c r : Int) (N : Nat) (x y : Int) (q : Nat) (f : Nat → Int) (hI : CellI c r N x y q) (k : V → Heap → Prop) (hk : k (.one (.ptr 1 q 0)) [grid c r 1 N, ints true N f]) : ACall Try.prog W0 54 [.one (.ptr 0 0 0), .one (.int .i64 x), .one (.int .i64 y)] [grid c r 1 N, ints true N f] k := by
  refine m_body tab_ok (fn := Try.f54) (by kernel_rfl) rfl ?_
  intro X hX
  cbv
  refine m_call hX bodied_35 (Cols_c W0 c r N f _ ?_)
  cbv
  refine m_callq hX [] bodied_50 (fun k2 h => In50 W0 x 0 (X.bin .sub .i64 c 1) k2 h) ?_ rfl rfl ?_ ?_
  · (first | (simp [MH, MB, MT, MV, MV.MVs, MC.MCs, MC, renC.renCs, renC, up]; done) | (simp [MH, MB, MT, MV, MV.MVs, MC.MCs, MC, renC.renCs, renC, up]; omega) | (simp [MH, MB, MT, MV, MV.MVs, MC.MCs, MC, renC.renCs, renC, up] <;> omega))
  · simp [MV, MV.MVs, MC]
  intro b hb
  cbv
  have e1 := subw (c := c) (by have := hI.g.c1; omega) (by have := hI.g.c2; omega) X hX
  have e2 := subw (c := r) (by have := hI.g.r1; omega) (by have := hI.g.r2; omega) X hX
  have hb1 : b = true := hb.2 ⟨hI.x1, by rw [e1]; have := hI.x2; omega⟩
  subst hb1
  refine m_cond_f hX (by subst hX; rfl) ?_
  cbv
  refine m_cond_f hX (by subst hX; rfl) ?_
  cbv
  refine m_cond_f hX (by subst hX; rfl) ?_
  cbv
  refine m_call hX bodied_51 (Rows_c W0 c r N f _ ?_)
  cbv
  refine m_cond_f hX (by subst hX; rfl) ?_
  cbv
  refine m_cond_f hX (by subst hX; rfl) ?_
  cbv
  refine m_callq hX [] bodied_50 (fun k2 h => In50 W0 y 0 (X.bin .sub .i64 r 1) k2 h) ?_ rfl rfl ?_ ?_
  · (first | (simp [MH, MB, MT, MV, MV.MVs, MC.MCs, MC, renC.renCs, renC, up]; done) | (simp [MH, MB, MT, MV, MV.MVs, MC.MCs, MC, renC.renCs, renC, up]; omega) | (simp [MH, MB, MT, MV, MV.MVs, MC.MCs, MC, renC.renCs, renC, up] <;> omega))
  · simp [MV, MV.MVs, MC]
  intro b hb
  cbv
  have hb1 : b = true := hb.2 ⟨hI.y1, by rw [e2]; have := hI.y2; omega⟩
  subst hb1
  repeat' (first | (refine m_cond_t hX (by first | rfl | assumption | (subst hX; rfl)) ?_; cbv) | (refine m_cond_f hX (by first | rfl | assumption | (subst hX; rfl)) ?_; cbv) | fail)
  refine m_draw tab_ok hX [] [] [(0,0),(1,0),(2,0),(3,1),(4,0),(5,0),(6,0),(7,0),(8,1),(9,0),(10,0),(11,0),(12,0),(13,0)] (by kernel_rfl) (by simp) ?_
  cbv
  have hq : X.bin .add .i64 (X.bin .mul .i64 y c) x = q := by subst hX; exact hI.run
  have hlt := hI.lt
  refine ⟨by show X.inb (X.bin .add .i64 (X.bin .mul .i64 y c) x) N; rw [hq]; subst hX; exact ⟨by omega, by omega⟩, ?_⟩
  have hq2 : X.nadd 0 (X.toN (X.bin .add .i64 (X.bin .mul .i64 y c) x)) = q := by rw [hq]; subst hX; show 0 + (q : Int).toNat = q; omega
  refine ⟨_, _, [some 0, some 1], ?_, rfl, rfl, ?_, hk⟩
  · all_goals (first | (simp [MH, MB, MT, MV, MV.MVs, MC.MCs, MC, renC.renCs, renC, up]; done) | (simp [MH, MB, MT, MV, MV.MVs, MC.MCs, MC, renC.renCs, renC, up]; omega) | (simp [MH, MB, MT, MV, MV.MVs, MC.MCs, MC, renC.renCs, renC, up] <;> omega))
  · show MV _ (.one (.ptr 1 q 0)) (.one (.ptr 1 (X.nadd 0 (X.toN (X.bin .add .i64 (X.bin .mul .i64 y c) x))) 0))
    rw [hq2]
    simp [MV, MC]
structure OutI (c r : Int) (N : Nat) (x y : Int) : Prop where
  g : GI c r N
  h : ¬ (0 ≤ x ∧ x < c) ∨ ¬ (0 ≤ y ∧ y < r)
theorem cell_out (W0 : World) (c r : Int) (N : Nat) (x y : Int) (f : Nat → Int) (hI : OutI c r N x y) (k : V → Heap → Prop) (hk : k (.one .nilp) [grid c r 1 N, ints true N f]) : ACall Try.prog W0 54 [.one (.ptr 0 0 0), .one (.int .i64 x), .one (.int .i64 y)] [grid c r 1 N, ints true N f] k := by
  refine m_body tab_ok (fn := Try.f54) (by kernel_rfl) rfl ?_
  intro X hX
  cbv
  refine m_call hX bodied_35 (Cols_c W0 c r N f _ ?_)
  cbv
  refine m_callq hX [] bodied_50 (fun k2 h => In50 W0 x 0 (X.bin .sub .i64 c 1) k2 h) ?_ rfl rfl ?_ ?_
  · (first | (simp [MH, MB, MT, MV, MV.MVs, MC.MCs, MC, renC.renCs, renC, up]; done) | (simp [MH, MB, MT, MV, MV.MVs, MC.MCs, MC, renC.renCs, renC, up]; omega) | (simp [MH, MB, MT, MV, MV.MVs, MC.MCs, MC, renC.renCs, renC, up] <;> omega))
  · simp [MV, MV.MVs, MC]
  intro b hb
  cbv
  have e1 := subw (c := c) (by have := hI.g.c1; omega) (by have := hI.g.c2; omega) X hX
  have e2 := subw (c := r) (by have := hI.g.r1; omega) (by have := hI.g.r2; omega) X hX
  cases b with
  | false =>
    repeat' (first | (refine m_cond_t hX (by first | rfl | assumption | (subst hX; rfl)) ?_; cbv) | (refine m_cond_f hX (by first | rfl | assumption | (subst hX; rfl)) ?_; cbv) | fail)
    refine ⟨_, _, [some 0, some 1], ?_, rfl, rfl, ?_, hk⟩
    all_goals (first | (simp [MH, MB, MT, MV, MV.MVs, MC.MCs, MC, renC.renCs, renC, up]; done) | (simp [MH, MB, MT, MV, MV.MVs, MC.MCs, MC, renC.renCs, renC, up]; omega) | (simp [MH, MB, MT, MV, MV.MVs, MC.MCs, MC, renC.renCs, renC, up] <;> omega))
  | true =>
    refine m_cond_f hX (by subst hX; rfl) ?_
    cbv
    refine m_cond_f hX (by subst hX; rfl) ?_
    cbv
    refine m_cond_f hX (by subst hX; rfl) ?_
    cbv
    refine m_call hX bodied_51 (Rows_c W0 c r N f _ ?_)
    cbv
    refine m_cond_f hX (by subst hX; rfl) ?_
    cbv
    refine m_cond_f hX (by subst hX; rfl) ?_
    cbv
    refine m_callq hX [] bodied_50 (fun k2 h => In50 W0 y 0 (X.bin .sub .i64 r 1) k2 h) ?_ rfl rfl ?_ ?_
    · (first | (simp [MH, MB, MT, MV, MV.MVs, MC.MCs, MC, renC.renCs, renC, up]; done) | (simp [MH, MB, MT, MV, MV.MVs, MC.MCs, MC, renC.renCs, renC, up]; omega) | (simp [MH, MB, MT, MV, MV.MVs, MC.MCs, MC, renC.renCs, renC, up] <;> omega))
    · simp [MV, MV.MVs, MC]
    intro b hb2
    cbv
    cases b with
    | false =>
      repeat' (first | (refine m_cond_t hX (by first | rfl | assumption | (subst hX; rfl)) ?_; cbv) | (refine m_cond_f hX (by first | rfl | assumption | (subst hX; rfl)) ?_; cbv) | fail)
      refine ⟨_, _, [some 0, some 1], ?_, rfl, rfl, ?_, hk⟩
      all_goals (first | (simp [MH, MB, MT, MV, MV.MVs, MC.MCs, MC, renC.renCs, renC, up]; done) | (simp [MH, MB, MT, MV, MV.MVs, MC.MCs, MC, renC.renCs, renC, up]; omega) | (simp [MH, MB, MT, MV, MV.MVs, MC.MCs, MC, renC.renCs, renC, up] <;> omega))
    | true =>
      exfalso
      have h1 := hb.1 rfl
      have h2 := hb2.1 rfl
      rw [e1] at h1
      rw [e2] at h2
      have := hI.h
      omega
theorem Set_in (W0 : World) (c r : Int) (N : Nat) (x y v : Int) (q : Nat) (f G : Nat → Int) (hI : CellI c r N x y q) (hG : ∀ j, j < N → G j = if j = q then v else f j) (k : V → Heap → Prop) (hk : k (.one (.bool true)) [grid c r 1 N, ints true N G]) : ACall Try.prog W0 33 [.one (.ptr 0 0 0), .one (.int .i64 x), .one (.int .i64 y), .one (.int .i64 v)] [grid c r 1 N, ints true N f] k := by
  refine m_body tab_ok (fn := Try.f33) (by kernel_rfl) rfl ?_
  intro X hX
  cbv
  refine m_call hX bodied_54 (cell_in W0 c r N x y q f hI _ ?_)
  cbv
  refine m_cond_t hX (by subst hX; rfl) ?_
  cbv
  have hlt := hI.lt
  refine ⟨by subst hX; exact hlt, ?_⟩
  refine ⟨_, _, [some 0, some 1], ?_, rfl, rfl, ?_, hk⟩
  · simp [MH, MB, MC.MCs, MC]
    intro j hj
    subst hX
    show MC.MCs _ [.int .i64 (G j)] (if j = q then splice [.int .i64 (f j)] 0 [.int .i64 v] else [.int .i64 (f j)])
    rw [hG j hj]
    split <;> simp [MC.MCs, MC, splice]
  · simp [MV, MC]
theorem Set_out (W0 : World) (c r : Int) (N : Nat) (x y v : Int) (f : Nat → Int) (hI : OutI c r N x y) (k : V → Heap → Prop) (hk : k (.one (.bool false)) [grid c r 1 N, ints true N f]) : ACall Try.prog W0 33 [.one (.ptr 0 0 0), .one (.int .i64 x), .one (.int .i64 y), .one (.int .i64 v)] [grid c r 1 N, ints true N f] k := by
  refine m_body tab_ok (fn := Try.f33) (by kernel_rfl) rfl ?_
  intro X hX
  cbv
  refine m_call hX bodied_54 (cell_out W0 c r N x y f hI _ ?_)
  cbv
  repeat' (first | (refine m_cond_t hX (by first | rfl | assumption | (subst hX; rfl)) ?_; cbv) | (refine m_cond_f hX (by first | rfl | assumption | (subst hX; rfl)) ?_; cbv) | fail)
  refine ⟨_, _, [some 0, some 1], ?_, rfl, rfl, ?_, hk⟩
  all_goals (first | (simp [MH, MB, MT, MV, MV.MVs, MC.MCs, MC, renC.renCs, renC, up]; done) | (simp [MH, MB, MT, MV, MV.MVs, MC.MCs, MC, renC.renCs, renC, up]; omega) | (simp [MH, MB, MT, MV, MV.MVs, MC.MCs, MC, renC.renCs, renC, up] <;> omega))
theorem At_in (W0 : World) (c r : Int) (N : Nat) (x y v : Int) (q : Nat) (f : Nat → Int) (hI : CellI c r N x y q) (hv : v = f q) (k : V → Heap → Prop) (hk : k (.tup [.one (.int .i64 v), .one (.bool true)]) [grid c r 1 N, ints true N f]) : ACall Try.prog W0 49 [.one (.ptr 0 0 0), .one (.int .i64 x), .one (.int .i64 y)] [grid c r 1 N, ints true N f] k := by
  subst hv
  refine m_body tab_ok (fn := Try.f49) (by kernel_rfl) rfl ?_
  intro X hX
  cbv
  refine m_call hX bodied_54 (cell_in W0 c r N x y q f hI _ ?_)
  cbv
  refine m_cond_t hX (by subst hX; rfl) ?_
  cbv
  have hlt := hI.lt
  refine ⟨by subst hX; exact hlt, ?_⟩
  refine ⟨_, _, [some 0, some 1], ?_, rfl, rfl, ?_, hk⟩
  all_goals (first | (simp [MH, MB, MT, MV, MV.MVs, MC.MCs, MC, renC.renCs, renC, up]; done) | (simp [MH, MB, MT, MV, MV.MVs, MC.MCs, MC, renC.renCs, renC, up]; omega) | (simp [MH, MB, MT, MV, MV.MVs, MC.MCs, MC, renC.renCs, renC, up] <;> omega))
theorem At_out (W0 : World) (c r : Int) (N : Nat) (x y : Int) (f : Nat → Int) (hI : OutI c r N x y) (k : V → Heap → Prop) (hk : k (.tup [.one (.int .i64 0), .one (.bool false)]) [grid c r 1 N, ints true N f]) : ACall Try.prog W0 49 [.one (.ptr 0 0 0), .one (.int .i64 x), .one (.int .i64 y)] [grid c r 1 N, ints true N f] k := by
  refine m_body tab_ok (fn := Try.f49) (by kernel_rfl) rfl ?_
  intro X hX
  cbv
  refine m_call hX bodied_54 (cell_out W0 c r N x y f hI _ ?_)
  cbv
  repeat' (first | (refine m_cond_t hX (by first | rfl | assumption | (subst hX; rfl)) ?_; cbv) | (refine m_cond_f hX (by first | rfl | assumption | (subst hX; rfl)) ?_; cbv) | fail)
  refine ⟨_, _, [some 0, some 1], ?_, rfl, rfl, ?_, hk⟩
  all_goals (first | (simp [MH, MB, MT, MV, MV.MVs, MC.MCs, MC, renC.renCs, renC, up]; done) | (simp [MH, MB, MT, MV, MV.MVs, MC.MCs, MC, renC.renCs, renC, up]; omega) | (simp [MH, MB, MT, MV, MV.MVs, MC.MCs, MC, renC.renCs, renC, up] <;> omega))
theorem New_in (W0 : World) (c r : Int) (N : Nat) (G : Nat → Int) (hI : GI c r N) (hG : ∀ j, j < N → G j = 0) (k : V → Heap → Prop) (hk : k (.one (.ptr 0 0 0)) [grid c r 1 N, ints true N G]) : ACall Try.prog W0 24 [.one (.int .i64 c), .one (.int .i64 r)] [] k := by
  refine m_body tab_ok (fn := Try.f24) (by kernel_rfl) rfl ?_
  intro X hX
  cbv
  refine m_callq hX [] bodied_50 (fun k2 h => In50 W0 c 1 64 k2 h) ?_ rfl rfl ?_ ?_
  · (first | (simp [MH, MB, MT, MV, MV.MVs, MC.MCs, MC, renC.renCs, renC, up]; done) | (simp [MH, MB, MT, MV, MV.MVs, MC.MCs, MC, renC.renCs, renC, up]; omega) | (simp [MH, MB, MT, MV, MV.MVs, MC.MCs, MC, renC.renCs, renC, up] <;> omega))
  · simp [MV, MV.MVs, MC]
  intro b hb
  cbv
  have hb1 : b = true := hb.2 ⟨hI.c1, hI.c2⟩
  subst hb1
  refine m_cond_f hX (by subst hX; rfl) ?_
  cbv
  refine m_cond_f hX (by subst hX; rfl) ?_
  cbv
  refine m_callq hX [] bodied_50 (fun k2 h => In50 W0 r 1 64 k2 h) ?_ rfl rfl ?_ ?_
  · (first | (simp [MH, MB, MT, MV, MV.MVs, MC.MCs, MC, renC.renCs, renC, up]; done) | (simp [MH, MB, MT, MV, MV.MVs, MC.MCs, MC, renC.renCs, renC, up]; omega) | (simp [MH, MB, MT, MV, MV.MVs, MC.MCs, MC, renC.renCs, renC, up] <;> omega))
  · simp [MV, MV.MVs, MC]
  intro b hb
  cbv
  have hb1 : b = true := hb.2 ⟨hI.r1, hI.r2⟩
  subst hb1
  repeat' (first | (refine m_cond_t hX (by first | rfl | assumption | (subst hX; rfl)) ?_; cbv) | (refine m_cond_f hX (by first | rfl | assumption | (subst hX; rfl)) ?_; cbv) | fail)
  have hb := hI.bound
  have hN := hI.hN
  refine m_makeSlice tab_ok hX N rfl rfl rfl rfl (by decide) rfl rfl (by subst hX; show IntKind.i64.wrap (c * r) = N; rw [wrap_eq (by omega) (by omega)]; omega) (by show 8 * N ≤ _ ∧ _; omega) ?_
  cbv
  refine ⟨_, _, [some 1, some 0], ?_, rfl, rfl, ?_, hk⟩
  · simp [MH, MB, MC.MCs, MC]
    intro j hj
    show MC [some 1, some 0] (.int .i64 (G j)) (.int .i64 0)
    simp [MC, hG j hj]
  · all_goals (first | (simp [MH, MB, MT, MV, MV.MVs, MC.MCs, MC, renC.renCs, renC, up]; done) | (simp [MH, MB, MT, MV, MV.MVs, MC.MCs, MC, renC.renCs, renC, up]; omega) | (simp [MH, MB, MT, MV, MV.MVs, MC.MCs, MC, renC.renCs, renC, up] <;> omega))
theorem New_out (W0 : World) (c r : Int) (h : ¬ (1 ≤ c ∧ c ≤ 64) ∨ ¬ (1 ≤ r ∧ r ≤ 64)) (k : V → Heap → Prop) (hk : k (.one .nilp) []) : ACall Try.prog W0 24 [.one (.int .i64 c), .one (.int .i64 r)] [] k := by
  refine m_body tab_ok (fn := Try.f24) (by kernel_rfl) rfl ?_
  intro X hX
  cbv
  refine m_callq hX [] bodied_50 (fun k2 h => In50 W0 c 1 64 k2 h) ?_ rfl rfl ?_ ?_
  · (first | (simp [MH, MB, MT, MV, MV.MVs, MC.MCs, MC, renC.renCs, renC, up]; done) | (simp [MH, MB, MT, MV, MV.MVs, MC.MCs, MC, renC.renCs, renC, up]; omega) | (simp [MH, MB, MT, MV, MV.MVs, MC.MCs, MC, renC.renCs, renC, up] <;> omega))
  · simp [MV, MV.MVs, MC]
  intro b hb
  cbv
  cases b with
  | false =>
    repeat' (first | (refine m_cond_t hX (by first | rfl | assumption | (subst hX; rfl)) ?_; cbv) | (refine m_cond_f hX (by first | rfl | assumption | (subst hX; rfl)) ?_; cbv) | fail)
    refine ⟨_, _, [], ?_, rfl, rfl, ?_, hk⟩
    all_goals (first | (simp [MH, MB, MT, MV, MV.MVs, MC.MCs, MC, renC.renCs, renC, up]; done) | (simp [MH, MB, MT, MV, MV.MVs, MC.MCs, MC, renC.renCs, renC, up]; omega) | (simp [MH, MB, MT, MV, MV.MVs, MC.MCs, MC, renC.renCs, renC, up] <;> omega))
  | true =>
    refine m_cond_f hX (by subst hX; rfl) ?_
    cbv
    refine m_cond_f hX (by subst hX; rfl) ?_
    cbv
    refine m_callq hX [] bodied_50 (fun k2 h => In50 W0 r 1 64 k2 h) ?_ rfl rfl ?_ ?_
    · (first | (simp [MH, MB, MT, MV, MV.MVs, MC.MCs, MC, renC.renCs, renC, up]; done) | (simp [MH, MB, MT, MV, MV.MVs, MC.MCs, MC, renC.renCs, renC, up]; omega) | (simp [MH, MB, MT, MV, MV.MVs, MC.MCs, MC, renC.renCs, renC, up] <;> omega))
    · simp [MV, MV.MVs, MC]
    intro b hb2
    cbv
    cases b with
    | false =>
      repeat' (first | (refine m_cond_t hX (by first | rfl | assumption | (subst hX; rfl)) ?_; cbv) | (refine m_cond_f hX (by first | rfl | assumption | (subst hX; rfl)) ?_; cbv) | fail)
      refine ⟨_, _, [], ?_, rfl, rfl, ?_, hk⟩
      all_goals (first | (simp [MH, MB, MT, MV, MV.MVs, MC.MCs, MC, renC.renCs, renC, up]; done) | (simp [MH, MB, MT, MV, MV.MVs, MC.MCs, MC, renC.renCs, renC, up]; omega) | (simp [MH, MB, MT, MV, MV.MVs, MC.MCs, MC, renC.renCs, renC, up] <;> omega))
    | true =>
      exfalso
      have h1 := hb.1 rfl
      have h2 := hb2.1 rfl
      omega
end Go.Proofs.Ytnfoibgafmeenaa.AM
