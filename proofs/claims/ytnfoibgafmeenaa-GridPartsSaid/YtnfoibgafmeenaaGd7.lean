/- GridSets, GridWalks: what the laws come to, as contracts on the abstract machine. No condition but that what they read is there. -/
import Derived.Test.YtnfoibgafmeenaaGd6
import Derived.Test.YtnfoibgafmeenaaAm20
namespace Go.Proofs.Ytnfoibgafmeenaa.AM
open Go Go.RowKit
set_option cbv.warning false
set_option maxRecDepth 100000
set_option linter.unusedVariables false
set_option linter.unusedSimpArgs false
theorem GI.mk' {c r : Int} (h : (1 ≤ c ∧ c ≤ 64) ∧ (1 ≤ r ∧ r ≤ 64)) : ∃ N : Nat, GI c r N := by
  obtain ⟨⟨h1, h2⟩, h3, h4⟩ := h
  have h5 : 1 * r ≤ c * r := Int.mul_le_mul_of_nonneg_right (by omega) (by omega)
  exact ⟨(c * r).toNat, h1, h2, h3, h4, by omega⟩
theorem GridSets_c (W0 : World) (rw : Bool) (c r : Int) (n : Nat) (cap : Option Nat) (px py pn : Nat → Int) (k : V → Heap → Prop) (hk : k (.one (.bool true)) [puts rw n px py pn]) : ACall Try.prog W0 4 [.one (.int .i64 c), .one (.int .i64 r), .one (.sl 0 0 n cap)] [puts rw n px py pn] k := by
  refine m_body tab_ok (fn := Try.f4) (by kernel_rfl) rfl ?_
  intro X hX
  cbv
  refine m_callf hX [] bodied_22 (fun k2 h => GAlive_c W0 k2 h) ?_ rfl rfl ?_ ?_
  · (first | (simp [MH, MB, MT, MV, MV.MVs, MC.MCs, MC, renC.renCs, renC, up]; done) | (simp [MH, MB, MT, MV, MV.MVs, MC.MCs, MC, renC.renCs, renC, up]; omega) | (simp [MH, MB, MT, MV, MV.MVs, MC.MCs, MC, renC.renCs, renC, up] <;> omega))
  · simp [MV, MV.MVs, MC]
  cbv
  repeat' (first | (refine m_cond_t hX (by first | rfl | assumption | (subst hX; rfl)) ?_; cbv) | (refine m_cond_f hX (by first | rfl | assumption | (subst hX; rfl)) ?_; cbv) | fail)
  refine m_callq hX [0] bodied_23 (fun k2 h => small_c W0 rw c r n cap px py pn k2 h) ?_ rfl rfl ?_ ?_
  · (first | (simp [MH, MB, MT, MV, MV.MVs, MC.MCs, MC, renC.renCs, renC, up]; done) | (simp [MH, MB, MT, MV, MV.MVs, MC.MCs, MC, renC.renCs, renC, up]; omega) | (simp [MH, MB, MT, MV, MV.MVs, MC.MCs, MC, renC.renCs, renC, up] <;> omega))
  · simp [MV, MV.MVs, MC]
  intro b hb
  cbv
  cases b with
  | true =>
    have hs := hb.1 rfl
    obtain ⟨N, hI⟩ := GI.mk' (c := c) (r := r) ⟨⟨hs.c1, by have := hs.c2; omega⟩, hs.r1, by have := hs.r2; omega⟩
    obtain ⟨G, hG⟩ : ∃ G : Nat → Int, ∀ j, G j = layF c r px py pn n j := ⟨_, fun _ => rfl⟩
    repeat' (first | (refine m_cond_t hX (by first | rfl | assumption | (subst hX; rfl)) ?_; cbv) | (refine m_cond_f hX (by first | rfl | assumption | (subst hX; rfl)) ?_; cbv) | fail)
    refine m_callf hX [0] bodied_26 (fun k2 h => laid_c W0 rw c r N n cap px py pn G hI hs.hn (fun j _ => hG j) k2 h) ?_ rfl rfl ?_ ?_
    · (first | (simp [MH, MB, MT, MV, MV.MVs, MC.MCs, MC, renC.renCs, renC, up]; done) | (simp [MH, MB, MT, MV, MV.MVs, MC.MCs, MC, renC.renCs, renC, up]; omega) | (simp [MH, MB, MT, MV, MV.MVs, MC.MCs, MC, renC.renCs, renC, up] <;> omega))
    · simp [MV, MV.MVs, MC]
    cbv
    repeat' (first | (refine m_cond_t hX (by first | rfl | assumption | (subst hX; rfl)) ?_; cbv) | (refine m_cond_f hX (by first | rfl | assumption | (subst hX; rfl)) ?_; cbv) | fail)
    refine m_callf hX [0] bodied_28 (fun k2 h => cells_c W0 rw c r N n cap px py pn G hI hs.hn (fun j _ => hG j) k2 h) ?_ rfl rfl ?_ ?_
    · (first | (simp [MH, MB, MT, MV, MV.MVs, MC.MCs, MC, renC.renCs, renC, up]; done) | (simp [MH, MB, MT, MV, MV.MVs, MC.MCs, MC, renC.renCs, renC, up]; omega) | (simp [MH, MB, MT, MV, MV.MVs, MC.MCs, MC, renC.renCs, renC, up] <;> omega))
    · simp [MV, MV.MVs, MC]
    cbv
    repeat' (first | (refine m_cond_t hX (by first | rfl | assumption | (subst hX; rfl)) ?_; cbv) | (refine m_cond_f hX (by first | rfl | assumption | (subst hX; rfl)) ?_; cbv) | fail)
    refine m_callf hX [1, 2, 3] bodied_27 (fun k2 h => is_true W0 true c r N none G G hI (fun _ _ => rfl) k2 h) ?_ rfl rfl ?_ ?_
    · (first | (simp [MH, MB, MT, MV, MV.MVs, MC.MCs, MC, renC.renCs, renC, up]; done) | (simp [MH, MB, MT, MV, MV.MVs, MC.MCs, MC, renC.renCs, renC, up]; omega) | (simp [MH, MB, MT, MV, MV.MVs, MC.MCs, MC, renC.renCs, renC, up] <;> omega))
    · simp [MV, MV.MVs, MC]
    cbv
    repeat' (first | (refine m_cond_t hX (by first | rfl | assumption | (subst hX; rfl)) ?_; cbv) | (refine m_cond_f hX (by first | rfl | assumption | (subst hX; rfl)) ?_; cbv) | fail)
    refine ⟨_, _, [some 0], ?_, rfl, rfl, ?_, hk⟩
    · simp [MH, MB, MC.MCs, MC, renC.renCs, renC, up]
    · simp [MV, MC] <;> (subst hX; rfl)
  | false =>
    by_cases hg : (1 ≤ c ∧ c ≤ 64) ∧ (1 ≤ r ∧ r ≤ 64)
    · obtain ⟨N, hI⟩ := GI.mk' hg
      repeat' (first | (refine m_cond_t hX (by first | rfl | assumption | (subst hX; rfl)) ?_; cbv) | (refine m_cond_f hX (by first | rfl | assumption | (subst hX; rfl)) ?_; cbv) | fail)
      refine m_callf hX [] bodied_24 (fun k2 h => New_in W0 c r N (fun _ => 0) hI (by intros; rfl) k2 h) ?_ rfl rfl ?_ ?_
      · (first | (simp [MH, MB, MT, MV, MV.MVs, MC.MCs, MC, renC.renCs, renC, up]; done) | (simp [MH, MB, MT, MV, MV.MVs, MC.MCs, MC, renC.renCs, renC, up]; omega) | (simp [MH, MB, MT, MV, MV.MVs, MC.MCs, MC, renC.renCs, renC, up] <;> omega))
      · simp [MV, MV.MVs, MC]
      cbv
      refine m_callq hX [] bodied_25 (fun k2 h => In25 W0 c 1 64 k2 h) ?_ rfl rfl ?_ ?_
      · (first | (simp [MH, MB, MT, MV, MV.MVs, MC.MCs, MC, renC.renCs, renC, up]; done) | (simp [MH, MB, MT, MV, MV.MVs, MC.MCs, MC, renC.renCs, renC, up]; omega) | (simp [MH, MB, MT, MV, MV.MVs, MC.MCs, MC, renC.renCs, renC, up] <;> omega))
      · simp [MV, MV.MVs, MC]
      intro b hb
      cbv
      obtain rfl : b = true := hb.2 hg.1
      repeat' (first | (refine m_cond_t hX (by first | rfl | assumption | (subst hX; rfl)) ?_; cbv) | (refine m_cond_f hX (by first | rfl | assumption | (subst hX; rfl)) ?_; cbv) | fail)
      refine m_callq hX [] bodied_25 (fun k2 h => In25 W0 r 1 64 k2 h) ?_ rfl rfl ?_ ?_
      · (first | (simp [MH, MB, MT, MV, MV.MVs, MC.MCs, MC, renC.renCs, renC, up]; done) | (simp [MH, MB, MT, MV, MV.MVs, MC.MCs, MC, renC.renCs, renC, up]; omega) | (simp [MH, MB, MT, MV, MV.MVs, MC.MCs, MC, renC.renCs, renC, up] <;> omega))
      · simp [MV, MV.MVs, MC]
      intro b hb
      cbv
      obtain rfl : b = true := hb.2 hg.2
      repeat' (first | (refine m_cond_t hX (by first | rfl | assumption | (subst hX; rfl)) ?_; cbv) | (refine m_cond_f hX (by first | rfl | assumption | (subst hX; rfl)) ?_; cbv) | fail)
      refine m_eqB hX (.inl rfl) ?_
      cbv
      refine ⟨_, _, [some 0], ?_, rfl, rfl, ?_, hk⟩
      · simp [MH, MB, MC.MCs, MC, renC.renCs, renC, up]
      · simp [MV, MC] <;> (subst hX; rfl)
    ·
      repeat' (first | (refine m_cond_t hX (by first | rfl | assumption | (subst hX; rfl)) ?_; cbv) | (refine m_cond_f hX (by first | rfl | assumption | (subst hX; rfl)) ?_; cbv) | fail)
      refine m_callf hX [] bodied_24 (fun k2 h => New_out W0 c r (by omega) k2 h) ?_ rfl rfl ?_ ?_
      · (first | (simp [MH, MB, MT, MV, MV.MVs, MC.MCs, MC, renC.renCs, renC, up]; done) | (simp [MH, MB, MT, MV, MV.MVs, MC.MCs, MC, renC.renCs, renC, up]; omega) | (simp [MH, MB, MT, MV, MV.MVs, MC.MCs, MC, renC.renCs, renC, up] <;> omega))
      · simp [MV, MV.MVs, MC]
      cbv
      refine m_callq hX [] bodied_25 (fun k2 h => In25 W0 c 1 64 k2 h) ?_ rfl rfl ?_ ?_
      · (first | (simp [MH, MB, MT, MV, MV.MVs, MC.MCs, MC, renC.renCs, renC, up]; done) | (simp [MH, MB, MT, MV, MV.MVs, MC.MCs, MC, renC.renCs, renC, up]; omega) | (simp [MH, MB, MT, MV, MV.MVs, MC.MCs, MC, renC.renCs, renC, up] <;> omega))
      · simp [MV, MV.MVs, MC]
      intro b hb
      cbv
      cases b with
      | false =>
        repeat' (first | (refine m_cond_t hX (by first | rfl | assumption | (subst hX; rfl)) ?_; cbv) | (refine m_cond_f hX (by first | rfl | assumption | (subst hX; rfl)) ?_; cbv) | fail)
        refine m_eqB hX (.inl rfl) ?_
        cbv
        refine ⟨_, _, [some 0], ?_, rfl, rfl, ?_, hk⟩
        · simp [MH, MB, MC.MCs, MC, renC.renCs, renC, up]
        · simp [MV, MC] <;> (subst hX; rfl)
      | true =>
        repeat' (first | (refine m_cond_t hX (by first | rfl | assumption | (subst hX; rfl)) ?_; cbv) | (refine m_cond_f hX (by first | rfl | assumption | (subst hX; rfl)) ?_; cbv) | fail)
        refine m_callq hX [] bodied_25 (fun k2 h => In25 W0 r 1 64 k2 h) ?_ rfl rfl ?_ ?_
        · (first | (simp [MH, MB, MT, MV, MV.MVs, MC.MCs, MC, renC.renCs, renC, up]; done) | (simp [MH, MB, MT, MV, MV.MVs, MC.MCs, MC, renC.renCs, renC, up]; omega) | (simp [MH, MB, MT, MV, MV.MVs, MC.MCs, MC, renC.renCs, renC, up] <;> omega))
        · simp [MV, MV.MVs, MC]
        intro b hb2
        cbv
        cases b with
        | true => exact absurd ⟨hb.1 rfl, hb2.1 rfl⟩ hg
        | false =>
          repeat' (first | (refine m_cond_t hX (by first | rfl | assumption | (subst hX; rfl)) ?_; cbv) | (refine m_cond_f hX (by first | rfl | assumption | (subst hX; rfl)) ?_; cbv) | fail)
          refine m_eqB hX (.inl rfl) ?_
          cbv
          refine ⟨_, _, [some 0], ?_, rfl, rfl, ?_, hk⟩
          · simp [MH, MB, MC.MCs, MC, renC.renCs, renC, up]
          · simp [MV, MC] <;> (subst hX; rfl)
end Go.Proofs.Ytnfoibgafmeenaa.AM
