/- What going through a deck comes to, as a contract on the abstract machine. No condition but that what it reads is there. -/
import Derived.Test.YtnfoibgafmeenaaDk11
namespace Go.Proofs.Ytnfoibgafmeenaa.AM
open Go Go.RowKit
set_option cbv.warning false
set_option maxRecDepth 100000
set_option linter.unusedVariables false
set_option linter.unusedSimpArgs false
theorem bodied_55 : Bodied Try.prog 55 := ⟨Try.f55, by kernel_rfl, by kernel_rfl, by kernel_rfl⟩
theorem bodied_66 : Bodied Try.prog 66 := ⟨Try.f66, by kernel_rfl, by kernel_rfl, by kernel_rfl⟩
theorem bodied_38 : Bodied Try.prog 38 := ⟨Try.f38, by kernel_rfl, by kernel_rfl, by kernel_rfl⟩
theorem All_c (W0 : World) (n : Nat) (f : Nat → Int) (k : V → Heap → Prop) (hk : k (.one (.fn 66 [.ptr 2 0 0])) [deck n, ints true n f, some (.box 25 [.ptr 0 0 0])]) : ACall Try.prog W0 55 [.one (.ptr 0 0 0)] [deck n, ints true n f] k := by
  refine m_body tab_ok (fn := Try.f55) (by kernel_rfl) rfl ?_
  intro X hX
  cbv
  refine ⟨_, _, [some 0, some 1, some 2], ?_, rfl, rfl, ?_, hk⟩
  all_goals (first | (simp [MH, MB, MT, MV, MV.MVs, MC.MCs, MC, renC.renCs, renC, up]; done) | (simp [MH, MB, MT, MV, MV.MVs, MC.MCs, MC, renC.renCs, renC, up]; omega) | (simp [MH, MB, MT, MV, MV.MVs, MC.MCs, MC, renC.renCs, renC, up] <;> omega))
structure WalkG (n m : Nat) (x : Int) (f G : Nat → Int) : Prop where
  hn : n ≤ 80
  h1 : 1 ≤ x
  h2 : x ≤ 1000
  hm : (m : Int) = if x < n then x else n
  hG : ∀ q, q < m → G q = f q
structure WalkI (n m : Nat) (a : Nat) (i : Int) : Prop where
  h1 : a ≤ n
  h2 : i = (a : Int)
  h3 : a < m ∨ (a = n ∧ m = n)
set_option maxHeartbeats 1000000
theorem walked_c (W0 : World) (n m : Nat) (x : Int) (f G : Nat → Int) (hG : WalkG n m x f G) (k : V → Heap → Prop) (hk : k (.tup [.one (.sl 2 0 m none), .one (.bool true)]) [deck n, ints true n f, ints true m G]) : ACall Try.prog W0 38 [.one (.ptr 0 0 0), .one (.int .i64 x)] [deck n, ints true n f] k := by
  refine m_body tab_ok (fn := Try.f38) (by kernel_rfl) rfl ?_
  intro X hX
  cbv
  refine m_callf hX [0, 1] bodied_55 (fun k2 h => All_c W0 n f k2 h) ?_ rfl rfl ?_ ?_
  · all_goals (first | (simp [MH, MB, MT, MV, MV.MVs, MC.MCs, MC, renC.renCs, renC, up]; done) | (simp [MH, MB, MT, MV, MV.MVs, MC.MCs, MC, renC.renCs, renC, up]; omega) | (simp [MH, MB, MT, MV, MV.MVs, MC.MCs, MC, renC.renCs, renC, up] <;> omega))
  · simp [MV, MV.MVs, MC]
  cbv
  repeat' (first | (refine m_cond_t hX (by first | rfl | assumption | (subst hX; rfl)) ?_; cbv) | (refine m_cond_f hX (by first | rfl | assumption | (subst hX; rfl)) ?_; cbv) | fail)
  refine m_rangef tab_ok hX rfl bodied_66 (fn := Try.f66) (by kernel_rfl) rfl rfl ?_
  intro X1 X2 md1 md2 L yv KF hKF h1 h2 hmd hy
  have hX0 := hX
  replace hX := h1
  cbv
  refine m_callf hX [0, 1] bodied_18 (fun k2 h => List_c W0 n f (by have := hG.hn; omega) k2 h) ?_ rfl rfl ?_ ?_
  · all_goals (first | (simp [MH, MB, MT, MV, MV.MVs, MC.MCs, MC, renC.renCs, renC, up]; done) | (simp [MH, MB, MT, MV, MV.MVs, MC.MCs, MC, renC.renCs, renC, up]; omega) | (simp [MH, MB, MT, MV, MV.MVs, MC.MCs, MC, renC.renCs, renC, up] <;> omega))
  · simp [MV, MV.MVs, MC]
  cbv
  refine m_loop tab_ok hX (fun b : Nat × Int => WalkI n m b.1 b.2) (fun b => ([.one (.raw yv), .one (.ptr 6 0 0), .one .undef, .one .undef, .one .undef, .one (.ptr 0 0 0), .one (.sl 8 0 n none), .one (.int .i64 n), .one (.int .i64 b.2)] ++ List.replicate 10 (.one .undef), [deck n, ints true n f, some (.box 3 [.int .i64 x]), some (.box 22 [.nils]), some (.box 4 [.bool false]), some (.box 22 [.sl 9 0 b.1 none]), some (.box 25 [.ptr 0 0 0]), some (.obj (L 0 0)), ints true n f, ints true b.1 G])) (fun b => n - b.1) ?_ ?_
  · refine ⟨⟨0, 0⟩, ⟨by omega, rfl, ?_⟩, [some 0, some 1, some 2, some 3, some 4, some 5, some 6, some 7, some 8, none], ?_, rfl, rfl, ?_⟩
    · have h3 := hG.hm
      have h4 := hG.h1
      show 0 < m ∨ (0 = n ∧ m = n)
      split at h3 <;> omega
    · all_goals (first | (simp [MH, MB, MT, MV, MV.MVs, MC.MCs, MC, renC.renCs, renC, up]; done) | (simp [MH, MB, MT, MV, MV.MVs, MC.MCs, MC, renC.renCs, renC, up]; omega) | (simp [MH, MB, MT, MV, MV.MVs, MC.MCs, MC, renC.renCs, renC, up] <;> omega))
    · subst hX
      simp [MT, MV.MVs, MV, MC, std, binS]
  · rintro ⟨a, i⟩ hb
    replace hb : WalkI n m a i := hb
    cbv
    refine m_cond hX (fun h => ?_) (fun h => ?_) <;> cbv
    · have hh : (0 ≤ i ∧ i < n) ∧ i.toNat = a ∧ a < n ∧ a < m := by
        obtain ⟨g1, g2, g3⟩ := hb
        have : i < n := by subst hX; simpa [std, cmpS] using h
        omega
      obtain ⟨hh1, hh2, hh3, hh4⟩ := hh
      refine ⟨by subst hX; exact hh1, by subst hX; show 0 + i.toNat < n; omega, ?_⟩
      refine hy rfl rfl rfl rfl rfl rfl fun K hK => ?_
      have hX1 := hX
      replace hX := h2
      cbv
      refine m_cond_f hX (by subst hX; obtain ⟨g1, g2, g3⟩ := hb; subst g2; simp [std, cmpS]) ?_
      cbv
      have e1 : f (X1.nadd 0 (X1.toN i)) = G a := by
        subst h1
        show f (0 + i.toNat) = G a
        rw [hh2, Nat.zero_add, hG.hG a hh4]
      refine m_append tab_ok hX (a + 1) (fun q => [.int .i64 (G q)]) rfl rfl rfl rfl rfl rfl (by decide) rfl rfl rfl ?_ ?_
      · have := hG.hn
        refine ⟨by omega, by omega, by omega, by show (a + 1) * 8 ≤ _; omega, by omega, fun q hq => ?_, fun q hq => by simp only [Nat.zero_add], fun q hq => ?_⟩
        · obtain rfl : q = 0 := by omega
          rfl
        · obtain rfl : q = 0 := by omega
          show [C.int IntKind.i64 (G a)] = [C.int IntKind.i64 (f (X1.nadd 0 (X1.toN i)))]
          rw [e1]
      cbv
      refine m_cond hX (fun h5 => ?_) (fun h5 => ?_) <;> cbv
      · refine hK _ _ ?_
        cbv
        replace hX := hX1
        refine m_cond_t hX (by subst hX; rfl) ?_
        cbv
        refine ⟨2, 0, by omega, rfl, ?_⟩
        refine hKF _ _ _ ?_
        have hm : a + 1 = m := by
          have h3 := hG.hm
          have h4 := hG.h1
          have : x ≤ (a + 1 : Nat) := by subst h2; simpa [std, cmpS] using h5
          split at h3 <;> omega
        subst hm
        cbv
        refine ⟨_, _, [some 0, some 1, some 11], ?_, rfl, rfl, ?_, hk⟩
        all_goals (first | (simp [MH, MB, MT, MV, MV.MVs, MC.MCs, MC, renC.renCs, renC, up]; done) | (simp [MH, MB, MT, MV, MV.MVs, MC.MCs, MC, renC.renCs, renC, up]; omega) | (simp [MH, MB, MT, MV, MV.MVs, MC.MCs, MC, renC.renCs, renC, up] <;> omega))
      · refine hK _ _ ?_
        cbv
        replace hX := hX1
        refine m_cond_f hX (by subst hX; rfl) ?_
        cbv
        refine ⟨⟨a + 1, i + 1⟩, ?_, ?_, [some 0, some 1, some 2, some 3, some 4, some 5, some 6, some 7, some 8, some 11], ?_, rfl, rfl, ?_⟩
        · obtain ⟨g1, g2, g3⟩ := hb
          refine ⟨by omega, by omega, ?_⟩
          have h3 := hG.hm
          have : ¬ x ≤ (a + 1 : Nat) := by subst h2; simpa [std, cmpS] using h5
          split at h3 <;> omega
        · show n - (a + 1) < n - a; omega
        · all_goals (first | (simp [MH, MB, MT, MV, MV.MVs, MC.MCs, MC, renC.renCs, renC, up]; done) | (simp [MH, MB, MT, MV, MV.MVs, MC.MCs, MC, renC.renCs, renC, up]; omega) | (simp [MH, MB, MT, MV, MV.MVs, MC.MCs, MC, renC.renCs, renC, up] <;> omega))
        · obtain ⟨g1, g2, g3⟩ := hb
          have := hG.hn
          subst hX
          simp [MT, MV.MVs, MV, MC, std, binS]
          exact (wrap_eq (by omega) (by omega)).symm
    · refine ⟨0, 0, by omega, rfl, ?_⟩
      refine hKF _ _ _ ?_
      have hm : a = m := by
        have h3 := hG.hm
        obtain ⟨g1, g2, g3⟩ := hb
        have : ¬ i < n := by subst hX; simpa [std, cmpS] using h
        split at h3 <;> omega
      subst hm
      cbv
      refine ⟨_, _, [some 0, some 1, some 9], ?_, rfl, rfl, ?_, hk⟩
      all_goals (first | (simp [MH, MB, MT, MV, MV.MVs, MC.MCs, MC, renC.renCs, renC, up]; done) | (simp [MH, MB, MT, MV, MV.MVs, MC.MCs, MC, renC.renCs, renC, up]; omega) | (simp [MH, MB, MT, MV, MV.MVs, MC.MCs, MC, renC.renCs, renC, up] <;> omega))
end Go.Proofs.Ytnfoibgafmeenaa.AM
