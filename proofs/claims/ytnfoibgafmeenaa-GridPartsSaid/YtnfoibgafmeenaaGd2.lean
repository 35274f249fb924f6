/- Going through a grid, as contracts on the abstract machine. No condition but that what they read is there. -/
import Derived.Test.YtnfoibgafmeenaaGd
namespace Go.Proofs.Ytnfoibgafmeenaa.AM
open Go Go.RowKit
set_option cbv.warning false
set_option maxRecDepth 100000
set_option linter.unusedVariables false
set_option linter.unusedSimpArgs false
theorem GAll_c (W0 : World) (c r : Int) (N : Nat) (f : Nat → Int) (k : V → Heap → Prop) (hk : k (.one (.fn 64 [.ptr 2 0 0])) [grid c r 1 N, ints true N f, some (.box 36 [.ptr 0 0 0])]) : ACall Try.prog W0 52 [.one (.ptr 0 0 0)] [grid c r 1 N, ints true N f] k := by
  refine m_body tab_ok (fn := Try.f52) (by kernel_rfl) rfl ?_
  intro X hX
  cbv
  refine ⟨_, _, [some 0, some 1, some 2], ?_, rfl, rfl, ?_, hk⟩
  all_goals (first | (simp [MH, MB, MT, MV, MV.MVs, MC.MCs, MC, renC.renCs, renC, up]; done) | (simp [MH, MB, MT, MV, MV.MVs, MC.MCs, MC, renC.renCs, renC, up]; omega) | (simp [MH, MB, MT, MV, MV.MVs, MC.MCs, MC, renC.renCs, renC, up] <;> omega))
theorem GI.at {c r : Int} {N : Nat} (h : GI c r N) {a : Nat} (ha : a < N) {X : Ext} {P : Program} {W0 : World} {md : Md} (hX : X = std P W0 md) {i : Int} (hi : i = a) : CellI c r N (X.bin .rem .i64 i c) (X.bin .quo .i64 i c) a := by
  subst hX
  subst hi
  have hb := h.bound
  have h1 := h.c1
  have h2 := h.hN
  show CellI c r N ((a : Int).tmod c) (IntKind.i64.wrap ((a : Int).tdiv c)) a
  have e1 : (a : Int).tmod c = (a : Int) % c := Int.tmod_eq_emod_of_nonneg (by omega)
  have e2 : (a : Int).tdiv c = (a : Int) / c := Int.tdiv_eq_ediv_of_nonneg (by omega)
  have q1 : 0 ≤ (a : Int) / c := Int.ediv_nonneg (by omega) (by omega)
  have q2 : (a : Int) / c < r := Int.ediv_lt_of_lt_mul (by omega) (by rw [Int.mul_comm]; omega)
  have q3 := Int.emod_nonneg (a : Int) (show c ≠ 0 by omega)
  have q4 := Int.emod_lt_of_pos (a : Int) (show 0 < c by omega)
  have q5 := Int.mul_ediv_add_emod (a : Int) c
  have h4 := h.r2
  rw [e1, e2, wrap_eq (by omega) (by omega)]
  exact ⟨h, q3, q4, q1, q2, by rw [Int.mul_comm ((a : Int) / c) c]; omega⟩
structure IsX (x : Int) (m : Nat) : Prop where
  h : x = (m : Int)
structure GWalkI (N m : Nat) (a : Nat) (i : Int) : Prop where
  h1 : a < m
  h2 : i = (a : Int)
theorem Gwalked_c (W0 : World) (c r : Int) (N m : Nat) (x : Int) (f G : Nat → Int) (hI : GI c r N) (hm : 1 ≤ m ∧ m ≤ N) (hx : IsX x m) (hG : ∀ q, q < m → G q = f q) (k : V → Heap → Prop) (hk : k (.tup [.one (.sl 2 0 m none), .one (.bool true)]) [grid c r 1 N, ints true N f, ints true m G]) : ACall Try.prog W0 29 [.one (.ptr 0 0 0), .one (.int .i64 x)] [grid c r 1 N, ints true N f] k := by
  refine m_body tab_ok (fn := Try.f29) (by kernel_rfl) rfl ?_
  intro X hX
  cbv
  refine m_callf hX [0, 1] bodied_52 (fun k2 h => GAll_c W0 c r N f k2 h) ?_ rfl rfl ?_ ?_
  · (first | (simp [MH, MB, MT, MV, MV.MVs, MC.MCs, MC, renC.renCs, renC, up]; done) | (simp [MH, MB, MT, MV, MV.MVs, MC.MCs, MC, renC.renCs, renC, up]; omega) | (simp [MH, MB, MT, MV, MV.MVs, MC.MCs, MC, renC.renCs, renC, up] <;> omega))
  · simp [MV, MV.MVs, MC]
  cbv
  repeat' (first | (refine m_cond_t hX (by first | rfl | assumption | (subst hX; rfl)) ?_; cbv) | (refine m_cond_f hX (by first | rfl | assumption | (subst hX; rfl)) ?_; cbv) | fail)
  refine m_callf hX [0, 1] bodied_35 (fun k2 h => Cols_c W0 c r N f k2 h) ?_ rfl rfl ?_ ?_
  · (first | (simp [MH, MB, MT, MV, MV.MVs, MC.MCs, MC, renC.renCs, renC, up]; done) | (simp [MH, MB, MT, MV, MV.MVs, MC.MCs, MC, renC.renCs, renC, up]; omega) | (simp [MH, MB, MT, MV, MV.MVs, MC.MCs, MC, renC.renCs, renC, up] <;> omega))
  · simp [MV, MV.MVs, MC]
  cbv
  refine m_rangef tab_ok hX rfl bodied_64 (fn := Try.f64) (by kernel_rfl) rfl rfl ?_
  intro X1 X2 md1 md2 L yv KF hKF h1 h2 hmd hy
  have hX0 := hX
  replace hX := h1
  cbv
  repeat' (first | (refine m_cond_t hX (by first | rfl | assumption | (subst hX; rfl)) ?_; cbv) | (refine m_cond_f hX (by first | rfl | assumption | (subst hX; rfl)) ?_; cbv) | fail)
  have hb := hI.bound
  refine m_callf hX [1] bodied_46 (fun k2 h => Clone_c W0 true N 0 N none f (by simp) (by omega) k2 h) ?_ rfl rfl ?_ ?_
  · (first | (simp [MH, MB, MT, MV, MV.MVs, MC.MCs, MC, renC.renCs, renC, up]; done) | (simp [MH, MB, MT, MV, MV.MVs, MC.MCs, MC, renC.renCs, renC, up]; omega) | (simp [MH, MB, MT, MV, MV.MVs, MC.MCs, MC, renC.renCs, renC, up] <;> omega))
  · simp [MV, MV.MVs, MC]
  cbv
  refine m_loop tab_ok hX (fun b : Nat × Int => GWalkI N m b.1 b.2) (fun b => ([.one (.raw yv), .one (.ptr 6 0 0), .one .undef, .one .undef, .one .undef] ++ List.replicate 6 (.one .undef) ++ [.one (.sl 9 0 N none), .one (.int .i64 N), .one (.int .i64 b.2)] ++ List.replicate 22 (.one .undef), [grid c r 1 N, ints true N f, some (.box 3 [.int .i64 x]), some (.box 22 [.nils]), some (.box 4 [.bool false]), some (.box 22 [.sl 10 0 b.1 none]), some (.box 36 [.ptr 0 0 0]), some (.box 3 [.int .i64 c]), some (.obj (L 0 0)), ints true N f, ints true b.1 G])) (fun b => N - b.1) ?_ ?_
  · refine ⟨⟨0, 0⟩, ⟨by show 0 < m; omega, rfl⟩, [some 0, some 1, some 2, some 3, some 4, some 5, some 6, some 7, some 8, some 9, none], ?_, rfl, rfl, ?_⟩
    · simp [MH, MB, MT, MV, MV.MVs, MC.MCs, MC, renC.renCs, renC, up]
    · subst hX
      simp [MT, MV.MVs, MV, MC, std, binS]
  · rintro ⟨a, i⟩ hb
    replace hb : GWalkI N m a i := hb
    cbv
    refine m_cond_t hX (by subst hX; obtain ⟨g1, g2⟩ := hb; subst g2; simp [std, cmpS]; omega) ?_
    cbv
    have hh : (0 ≤ i ∧ i < N) ∧ i.toNat = a ∧ a < N ∧ a < m := by
      obtain ⟨g1, g2⟩ := hb
      omega
    obtain ⟨hh1, hh2, hh3, hh4⟩ := hh
    refine ⟨by subst hX; exact hh1, by subst hX; show 0 + i.toNat < N; omega, ?_⟩
    have hC := hI.at hh3 hX hb.h2
    refine m_draw tab_ok hX [] [15] [(0,0),(1,0),(2,1),(3,0),(4,0),(5,1),(6,0),(7,0),(8,1),(9,0),(10,0),(11,1),(12,0),(13,0),(14,0),(15,3),(16,0)] (by kernel_rfl) (by simp) ?_
    cbv
    refine ⟨by subst hX; have := hI.c1; show c ≠ 0; omega, by subst hX; have := hI.c1; show c ≠ 0; omega, ?_⟩
    refine hy rfl rfl rfl rfl rfl rfl fun K hK => ?_
    have hX1 := hX
    replace hX := h2
    cbv
    refine m_draw tab_ok hX [] [] [(0,1),(1,0),(2,1),(3,0),(4,0),(5,1),(6,0),(7,0),(8,0),(9,0),(10,1),(11,1),(12,0),(13,1),(14,0),(15,0),(16,0),(17,0),(18,0),(19,1),(20,1),(21,0),(22,1),(23,0),(24,0),(25,0)] (by kernel_rfl) (by simp) ?_
    cbv
    have e1 : f (X1.nadd 0 (X1.toN i)) = G a := by
      subst h1
      show f (0 + i.toNat) = G a
      rw [hh2, Nat.zero_add, hG a hh4]
    clear hh2
    have f1 : ¬ (m : Int) ≤ (a : Int) := by omega
    have fx := hx.h
    have f2 : ¬ c < 1 := by have := hI.c1; omega
    have f3 : i = (a : Int) := hb.h2
    have f3 : c ≠ 0 := by have := hI.c1; omega
    repeat' (first | (refine m_cond_t hX (by first | rfl | assumption | (subst_vars; simp [std, cmpS, binS, f1, f2, f3]; done) | fail) ?_; cbv) | (refine m_cond_f hX (by first | rfl | assumption | (subst_vars; simp [std, cmpS, binS, f1, f2, f3]; done) | fail) ?_; cbv) | (refine And.intro (by first | rfl | assumption | (subst_vars; simp [std, cmpS, binS, f1, f2, f3]; done) | fail) ?_) | fail)
    refine m_append tab_ok hX (a + 1) (fun q => [.int .i64 (G q)]) rfl rfl rfl rfl rfl rfl (by decide) rfl rfl rfl ?_ ?_
    · have := hI.bound
      refine ⟨by omega, by omega, by omega, by show (a + 1) * 8 ≤ _; omega, by omega, fun q hq => ?_, fun q hq => by simp only [Nat.zero_add], fun q hq => ?_⟩
      · obtain rfl : q = 0 := by omega
        rfl
      · obtain rfl : q = 0 := by omega
        show [C.int IntKind.i64 (G a)] = [C.int IntKind.i64 (f (X1.nadd 0 (X1.toN i)))]
        rw [e1]
    cbv
    refine m_cond hX (fun h5 => ?_) (fun h5 => ?_) <;> cbv
    · refine hK _ _ ?_
      cbv
      replace hX := hX1
      refine m_cond_t hX (by subst hX; rfl) ?_
      cbv
      refine ⟨2, 0, by omega, rfl, ?_⟩
      refine hKF _ _ _ ?_
      have hm : a + 1 = m := by
        have : ((a + 1 : Nat) : Int) = x := by subst h2; simpa [std, cmpS] using h5
        have := hx.h
        omega
      subst hm
      cbv
      refine ⟨_, _, [some 0, some 1, some 13], ?_, rfl, rfl, ?_, hk⟩
      all_goals (first | (simp [MH, MB, MT, MV, MV.MVs, MC.MCs, MC, renC.renCs, renC, up]; done) | (simp [MH, MB, MT, MV, MV.MVs, MC.MCs, MC, renC.renCs, renC, up]; omega) | (simp [MH, MB, MT, MV, MV.MVs, MC.MCs, MC, renC.renCs, renC, up] <;> omega))
    · refine hK _ _ ?_
      cbv
      replace hX := hX1
      refine m_cond_f hX (by subst hX; rfl) ?_
      cbv
      refine ⟨⟨a + 1, i + 1⟩, ?_, ?_, [some 0, some 1, some 2, some 3, some 4, some 5, some 6, some 7, some 8, some 9, some 13], ?_, rfl, rfl, ?_⟩
      · obtain ⟨g1, g2⟩ := hb
        refine ⟨?_, by omega⟩
        have : ¬ ((a + 1 : Nat) : Int) = x := by subst h2; simpa [std, cmpS] using h5
        have := hx.h
        show a + 1 < m
        omega
      · show N - (a + 1) < N - a; omega
      ·
        all_goals (first | (simp [MH, MB, MT, MV, MV.MVs, MC.MCs, MC, renC.renCs, renC, up]; done) | (simp [MH, MB, MT, MV, MV.MVs, MC.MCs, MC, renC.renCs, renC, up]; omega) | (simp [MH, MB, MT, MV, MV.MVs, MC.MCs, MC, renC.renCs, renC, up] <;> omega))
      · obtain ⟨g1, g2⟩ := hb
        have := hI.bound
        subst hX
        simp [MT, MV.MVs, MV, MC, std, binS]
        exact (wrap_eq (by omega) (by omega)).symm
end Go.Proofs.Ytnfoibgafmeenaa.AM
