/- What the laws of grids lay and look at, as contracts on the abstract machine. No condition but that what they read is there. -/
import Derived.Test.YtnfoibgafmeenaaGd4
namespace Go.Proofs.Ytnfoibgafmeenaa.AM
open Go Go.RowKit
set_option cbv.warning false
set_option maxRecDepth 100000
set_option linter.unusedVariables false
set_option linter.unusedSimpArgs false
theorem laid_c (W0 : World) (rw : Bool) (c r : Int) (N n : Nat) (cap : Option Nat) (px py pn G : Nat → Int) (hI : GI c r N) (hn : n ≤ 60) (hG : ∀ j, j < N → G j = layF c r px py pn n j) (k : V → Heap → Prop) (hk : k (.tup [.one (.ptr 1 0 0), .one (.bool true)]) [puts rw n px py pn, grid c r 2 N, ints true N G]) : ACall Try.prog W0 26 [.one (.int .i64 c), .one (.int .i64 r), .one (.sl 0 0 n cap)] [puts rw n px py pn] k := by
  refine m_body tab_ok (fn := Try.f26) (by kernel_rfl) rfl ?_
  intro X hX
  cbv
  have hbd := hI.bound
  refine m_callf hX [] bodied_24 (fun k2 h => New_in W0 c r N (fun _ => 0) hI (by intros; rfl) k2 h) ?_ rfl rfl ?_ ?_
  · (first | (simp [MH, MB, MT, MV, MV.MVs, MC.MCs, MC, renC.renCs, renC, up]; done) | (simp [MH, MB, MT, MV, MV.MVs, MC.MCs, MC, renC.renCs, renC, up]; omega) | (simp [MH, MB, MT, MV, MV.MVs, MC.MCs, MC, renC.renCs, renC, up] <;> omega))
  · simp [MV, MV.MVs, MC]
  cbv
  repeat' (first | (refine m_cond_t hX (by first | rfl | assumption | (subst hX; rfl)) ?_; cbv) | (refine m_cond_f hX (by first | rfl | assumption | (subst hX; rfl)) ?_; cbv) | fail)
  refine m_loop tab_ok hX (fun b : Nat × Int × (Nat → Int) => CellsI c r N n px py pn b.1 b.2.1 b.2.2) (fun b => ([.one (.int .i64 c), .one (.int .i64 r), .one (.sl 0 0 n cap)] ++ List.replicate 5 (.one .undef) ++ [.one (.ptr 1 0 0), .one (.int .i64 b.2.1)] ++ List.replicate 50 (.one .undef), [puts rw n px py pn, grid c r 2 N, ints true N b.2.2])) (fun b => n - b.1) ?_ ?_
  · refine ⟨⟨0, 0, fun _ => 0⟩, ⟨by omega, rfl, fun j hj => rfl⟩, [some 0, some 1, some 2], ?_, rfl, rfl, ?_⟩
    · simp [MH, MB, MT, MV, MV.MVs, MC.MCs, renC.renCs, renC, up, MC]
    · simp [MT, MV.MVs, MV, MC, renC, renV, up]
  · rintro ⟨a, i, g⟩ hb
    replace hb : CellsI c r N n px py pn a i g := hb
    cbv
    refine m_cond hX (fun h => ?_) (fun h => ?_) <;> cbv
    · have hh : (0 ≤ i ∧ i < n) ∧ i.toNat = a ∧ a < n := by
        obtain ⟨g1, g2, g3⟩ := hb
        have : i < n := by subst hX; simpa [std, cmpS] using h
        omega
      obtain ⟨hh1, hh2, hh3⟩ := hh
      have ha : X.nadd 0 (X.toN i) = a := by subst hX; show 0 + i.toNat = a; omega
      have e1 := subw (c := c) (by have := hI.c1; omega) (by have := hI.c2; omega) X hX
      have e2 := subw (c := r) (by have := hI.r1; omega) (by have := hI.r2; omega) X hX
      have hin : X.inb i n := by subst hX; exact hh1
      have hlt : X.nlt (X.nadd 0 (X.toN i)) n := by rw [ha]; subst hX; exact hh3
      refine ⟨hin, hlt, ?_⟩
      refine m_callq hX [] bodied_25 (fun k2 h => In25 W0 (px (X.nadd 0 (X.toN i))) 0 (X.bin .sub .i64 c 1) k2 h) ?_ rfl rfl ?_ ?_
      · (first | (simp [MH, MB, MT, MV, MV.MVs, MC.MCs, MC, renC.renCs, renC, up]; done) | (simp [MH, MB, MT, MV, MV.MVs, MC.MCs, MC, renC.renCs, renC, up]; omega) | (simp [MH, MB, MT, MV, MV.MVs, MC.MCs, MC, renC.renCs, renC, up] <;> omega))
      · simp [MV, MV.MVs, MC]
      intro b hbx
      cbv
      rw [ha, e1] at hbx
      cases b with
      | false =>
        repeat' (first | (refine m_cond_t hX (by first | rfl | assumption | (subst hX; rfl)) ?_; cbv) | (refine m_cond_f hX (by first | rfl | assumption | (subst hX; rfl)) ?_; cbv) | fail)
        have ho : OutI c r N (px (X.nadd 0 (X.toN i))) (py (X.nadd 0 (X.toN i))) := ⟨hI, .inl fun hp => by
          rw [ha] at hp
          have := hbx.2 ⟨hp.1, by have := hp.2; omega⟩
          cases this⟩
        refine m_gen (A := X.draw _ _ _) fun K1 hK1 => ?_
        refine m_drawT tab_ok hX [] [16] (.one 0 0 (.one 1 0 (.one 2 0 (.one 3 0 (.one 4 0 (.one 6 0 (.one 7 0 (.one 8 0 (.one 9 0 (.one 11 0 (.one 12 0 (.one 13 0 (.one 14 0 (.one 17 0 (.one 5 1 (.one 10 1 (.one 15 1 (.one 16 3 (.one 18 0 .fin))))))))))))))))))) (by kernel_rfl) (by simp) ?_
        cbv
        repeat' (first | (refine m_cond_t hX (by first | rfl | assumption | (subst_vars; simp [std, cmpS, binS, hin]; done) | fail) ?_; cbv) | (refine m_cond_f hX (by first | rfl | assumption | (subst_vars; simp [std, cmpS, binS, hin]; done) | fail) ?_; cbv) | (refine And.intro (by first | rfl | assumption | (subst_vars; simp [std, cmpS, binS, hin]; done) | fail) ?_) | fail)
        refine m_callf hX [1, 2] bodied_33 (fun k2 h => Set_out W0 c r N (px (X.nadd 0 (X.toN i))) (py (X.nadd 0 (X.toN i))) (pn (X.nadd 0 (X.toN i))) g ho k2 h) ?_ rfl rfl ?_ ?_
        · (first | (simp [MH, MB, MT, MV, MV.MVs, MC.MCs, MC, renC.renCs, renC, up]; done) | (simp [MH, MB, MT, MV, MV.MVs, MC.MCs, MC, renC.renCs, renC, up]; omega) | (simp [MH, MB, MT, MV, MV.MVs, MC.MCs, MC, renC.renCs, renC, up] <;> omega))
        · simp [MV, MV.MVs, MC]
        cbv
        refine m_eqB hX (.inr rfl) ?_
        cbv
        refine hK1 _ _ ?_
        cbv
        refine m_cond_f hX (by subst hX; rfl) ?_
        cbv
        refine ⟨⟨a + 1, i + 1, g⟩, hb.stay hh3 (fun hp => ?_), by show n - (a + 1) < n - a; omega, [some 0, some 1, some 2], ?_, rfl, rfl, ?_⟩
        · have := hbx.2 ⟨hp.1, by have := hp.2.1; omega⟩
          cases this
        · simp [MH, MB, MC.MCs, MC, renC.renCs, renC, up]
        · have g2 := hb.h2
          subst hX
          simp [MT, MV.MVs, MV, MC, std, binS]
          exact (wrap_eq (by omega) (by omega)).symm
      | true =>
        have hbx := hbx.1 rfl
        repeat' (first | (refine m_cond_t hX (by first | rfl | assumption | (subst_vars; simp [std, cmpS, binS, hin]; done) | fail) ?_; cbv) | (refine m_cond_f hX (by first | rfl | assumption | (subst_vars; simp [std, cmpS, binS, hin]; done) | fail) ?_; cbv) | (refine And.intro (by first | rfl | assumption | (subst_vars; simp [std, cmpS, binS, hin]; done) | fail) ?_) | fail)
        refine m_callq hX [] bodied_25 (fun k2 h => In25 W0 (py (X.nadd 0 (X.toN i))) 0 (X.bin .sub .i64 r 1) k2 h) ?_ rfl rfl ?_ ?_
        · (first | (simp [MH, MB, MT, MV, MV.MVs, MC.MCs, MC, renC.renCs, renC, up]; done) | (simp [MH, MB, MT, MV, MV.MVs, MC.MCs, MC, renC.renCs, renC, up]; omega) | (simp [MH, MB, MT, MV, MV.MVs, MC.MCs, MC, renC.renCs, renC, up] <;> omega))
        · simp [MV, MV.MVs, MC]
        intro b hby
        cbv
        rw [ha, e2] at hby
        cases b with
        | false =>
          repeat' (first | (refine m_cond_t hX (by first | rfl | assumption | (subst hX; rfl)) ?_; cbv) | (refine m_cond_f hX (by first | rfl | assumption | (subst hX; rfl)) ?_; cbv) | fail)
          have ho : OutI c r N (px (X.nadd 0 (X.toN i))) (py (X.nadd 0 (X.toN i))) := ⟨hI, .inr fun hp => by
            rw [ha] at hp
            have := hby.2 ⟨hp.1, by have := hp.2; omega⟩
            cases this⟩
          refine m_gen (A := X.draw _ _ _) fun K1 hK1 => ?_
          refine m_drawT tab_ok hX [] [16] (.one 0 0 (.one 1 0 (.one 2 0 (.one 3 0 (.one 4 0 (.one 6 0 (.one 7 0 (.one 8 0 (.one 9 0 (.one 11 0 (.one 12 0 (.one 13 0 (.one 14 0 (.one 17 0 (.one 5 1 (.one 10 1 (.one 15 1 (.one 16 3 (.one 18 0 .fin))))))))))))))))))) (by kernel_rfl) (by simp) ?_
          cbv
          repeat' (first | (refine m_cond_t hX (by first | rfl | assumption | (subst_vars; simp [std, cmpS, binS, hin]; done) | fail) ?_; cbv) | (refine m_cond_f hX (by first | rfl | assumption | (subst_vars; simp [std, cmpS, binS, hin]; done) | fail) ?_; cbv) | (refine And.intro (by first | rfl | assumption | (subst_vars; simp [std, cmpS, binS, hin]; done) | fail) ?_) | fail)
          refine m_callf hX [1, 2] bodied_33 (fun k2 h => Set_out W0 c r N (px (X.nadd 0 (X.toN i))) (py (X.nadd 0 (X.toN i))) (pn (X.nadd 0 (X.toN i))) g ho k2 h) ?_ rfl rfl ?_ ?_
          · (first | (simp [MH, MB, MT, MV, MV.MVs, MC.MCs, MC, renC.renCs, renC, up]; done) | (simp [MH, MB, MT, MV, MV.MVs, MC.MCs, MC, renC.renCs, renC, up]; omega) | (simp [MH, MB, MT, MV, MV.MVs, MC.MCs, MC, renC.renCs, renC, up] <;> omega))
          · simp [MV, MV.MVs, MC]
          cbv
          refine m_eqB hX (.inr rfl) ?_
          cbv
          refine hK1 _ _ ?_
          cbv
          refine m_cond_f hX (by subst hX; rfl) ?_
          cbv
          refine ⟨⟨a + 1, i + 1, g⟩, hb.stay hh3 (fun hp => ?_), by show n - (a + 1) < n - a; omega, [some 0, some 1, some 2], ?_, rfl, rfl, ?_⟩
          · have := hby.2 ⟨hp.2.2.1, by have := hp.2.2.2; omega⟩
            cases this
          · simp [MH, MB, MC.MCs, MC, renC.renCs, renC, up]
          · have g2 := hb.h2
            subst hX
            simp [MT, MV.MVs, MV, MC, std, binS]
            exact (wrap_eq (by omega) (by omega)).symm
        | true =>
          have hby := hby.1 rfl
          obtain ⟨q, hq⟩ := hI.put (x := px a) (y := py a) ⟨hbx.1, by omega, hby.1, by omega⟩
          repeat' (first | (refine m_cond_t hX (by first | rfl | assumption | (subst hX; rfl)) ?_; cbv) | (refine m_cond_f hX (by first | rfl | assumption | (subst hX; rfl)) ?_; cbv) | fail)
          obtain ⟨g', hg'⟩ : ∃ g' : Nat → Int, ∀ j, g' j = if j = q then pn (X.nadd 0 (X.toN i)) else g j := ⟨_, fun _ => rfl⟩
          refine m_gen (A := X.draw _ _ _) fun K1 hK1 => ?_
          refine m_drawT tab_ok hX [] [16] (.one 0 0 (.one 1 0 (.one 2 0 (.one 3 0 (.one 4 0 (.one 6 0 (.one 7 0 (.one 8 0 (.one 9 0 (.one 11 0 (.one 12 0 (.one 13 0 (.one 14 0 (.one 17 0 (.one 5 1 (.one 10 1 (.one 15 1 (.one 16 3 (.one 18 0 .fin))))))))))))))))))) (by kernel_rfl) (by simp) ?_
          cbv
          repeat' (first | (refine m_cond_t hX (by first | rfl | assumption | (subst_vars; simp [std, cmpS, binS, hin]; done) | fail) ?_; cbv) | (refine m_cond_f hX (by first | rfl | assumption | (subst_vars; simp [std, cmpS, binS, hin]; done) | fail) ?_; cbv) | (refine And.intro (by first | rfl | assumption | (subst_vars; simp [std, cmpS, binS, hin]; done) | fail) ?_) | fail)
          refine m_callf hX [1, 2] bodied_33 (fun k2 h => Set_in W0 c r N (px (X.nadd 0 (X.toN i))) (py (X.nadd 0 (X.toN i))) (pn (X.nadd 0 (X.toN i))) q g g' (by rw [ha]; exact hq) (fun j _ => hg' j) k2 h) ?_ rfl rfl ?_ ?_
          · (first | (simp [MH, MB, MT, MV, MV.MVs, MC.MCs, MC, renC.renCs, renC, up]; done) | (simp [MH, MB, MT, MV, MV.MVs, MC.MCs, MC, renC.renCs, renC, up]; omega) | (simp [MH, MB, MT, MV, MV.MVs, MC.MCs, MC, renC.renCs, renC, up] <;> omega))
          · simp [MV, MV.MVs, MC]
          cbv
          refine m_eqB hX (.inr rfl) ?_
          cbv
          refine hK1 _ _ ?_
          cbv
          refine m_cond_f hX (by subst hX; rfl) ?_
          cbv
          refine ⟨⟨a + 1, i + 1, g'⟩, hb.put hh3 hq (fun j _ => (hg' j).trans (by rw [ha])), by show n - (a + 1) < n - a; omega, [some 0, some 1, some 2], ?_, rfl, rfl, ?_⟩
          · simp [MH, MB, MC.MCs, MC, renC.renCs, renC, up]
          · have g2 := hb.h2
            subst hX
            simp [MT, MV.MVs, MV, MC, std, binS]
            exact (wrap_eq (by omega) (by omega)).symm
    · have hm : a = n := by
        obtain ⟨g1, g2, g3⟩ := hb
        have : ¬ i < n := by subst hX; simpa [std, cmpS] using h
        omega
      subst hm
      refine ⟨_, _, [some 0, some 1, some 2], ?_, rfl, rfl, ?_, hk⟩
      · simp [MH, MB, MC.MCs, MC]
        intro j hj
        rw [hG j hj]
        exact (hb.h3 j hj).symm
      · simp [MV, MC, MV.MVs]
end Go.Proofs.Ytnfoibgafmeenaa.AM
