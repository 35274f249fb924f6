/- What the laws of grids compare, and the chapter's example, as contracts on the abstract machine. No condition but that what they read is there. -/
import Derived.Test.YtnfoibgafmeenaaGd5
namespace Go.Proofs.Ytnfoibgafmeenaa.AM
open Go Go.RowKit
set_option cbv.warning false
set_option maxRecDepth 100000
set_option linter.unusedVariables false
set_option linter.unusedSimpArgs false
structure IsI (N : Nat) (a : Nat) (i : Int) : Prop where
  h1 : a ≤ N
  h2 : i = (a : Int)
theorem mulw {c r : Int} {N : Nat} (hI : GI c r N) {X : Ext} {P : Program} {W0 : World} {md : Md} (hX : X = std P W0 md) : X.bin .mul .i64 c r = N := by
  subst hX
  have hb := hI.bound
  have := hI.hN
  show IntKind.i64.wrap (c * r) = N
  rw [wrap_eq (by omega) (by omega)]
  omega
theorem is_true (W0 : World) (rw : Bool) (c r : Int) (N : Nat) (cap : Option Nat) (f g : Nat → Int) (hI : GI c r N) (hfg : ∀ j, j < N → f j = g j) (k : V → Heap → Prop) (hk : k (.one (.bool true)) [grid c r 1 N, ints true N f, ints rw N g]) : ACall Try.prog W0 27 [.one (.ptr 0 0 0), .one (.int .i64 c), .one (.int .i64 r), .one (.sl 2 0 N cap)] [grid c r 1 N, ints true N f, ints rw N g] k := by
  refine m_body tab_ok (fn := Try.f27) (by kernel_rfl) rfl ?_
  intro X hX
  cbv
  have hbd := hI.bound
  have hmul := mulw hI hX
  refine m_callf hX [0, 1] bodied_35 (fun k2 h => Cols_c W0 c r N f k2 h) ?_ rfl rfl ?_ ?_
  · (first | (simp [MH, MB, MT, MV, MV.MVs, MC.MCs, MC, renC.renCs, renC, up]; done) | (simp [MH, MB, MT, MV, MV.MVs, MC.MCs, MC, renC.renCs, renC, up]; omega) | (simp [MH, MB, MT, MV, MV.MVs, MC.MCs, MC, renC.renCs, renC, up] <;> omega))
  · simp [MV, MV.MVs, MC]
  cbv
  have hmw : IntKind.i64.wrap (c * r) = (N : Int) := by
    have := hI.hN
    rw [wrap_eq (by omega) (by omega)]
    omega
  repeat' (first | (refine m_cond_t hX (by first | rfl | assumption | (subst_vars; simp [std, cmpS, binS, hmw]; done) | fail) ?_; cbv) | (refine m_cond_f hX (by first | rfl | assumption | (subst_vars; simp [std, cmpS, binS, hmw]; done) | fail) ?_; cbv) | (refine And.intro (by first | rfl | assumption | (subst_vars; simp [std, cmpS, binS, hmw]; done) | fail) ?_) | fail)
  refine m_callf hX [0, 1] bodied_51 (fun k2 h => Rows_c W0 c r N f k2 h) ?_ rfl rfl ?_ ?_
  · (first | (simp [MH, MB, MT, MV, MV.MVs, MC.MCs, MC, renC.renCs, renC, up]; done) | (simp [MH, MB, MT, MV, MV.MVs, MC.MCs, MC, renC.renCs, renC, up]; omega) | (simp [MH, MB, MT, MV, MV.MVs, MC.MCs, MC, renC.renCs, renC, up] <;> omega))
  · simp [MV, MV.MVs, MC]
  cbv
  repeat' (first | (refine m_cond_t hX (by first | rfl | assumption | (subst_vars; simp [std, cmpS, binS, hmw]; done) | fail) ?_; cbv) | (refine m_cond_f hX (by first | rfl | assumption | (subst_vars; simp [std, cmpS, binS, hmw]; done) | fail) ?_; cbv) | (refine And.intro (by first | rfl | assumption | (subst_vars; simp [std, cmpS, binS, hmw]; done) | fail) ?_) | fail)
  refine m_loop tab_ok hX (fun b : Nat × Int => IsI N b.1 b.2) (fun b => ([.one (.ptr 0 0 0), .one (.int .i64 c), .one (.int .i64 r), .one (.sl 2 0 N cap)] ++ List.replicate 5 (.one .undef) ++ [.one (.int .i64 b.2)] ++ List.replicate 69 (.one .undef), [grid c r 1 N, ints true N f, ints rw N g])) (fun b => N - b.1) ?_ ?_
  · refine ⟨⟨0, 0⟩, ⟨by omega, rfl⟩, [some 0, some 1, some 2], ?_, rfl, rfl, ?_⟩
    · simp [MH, MB, MT, MV, MV.MVs, MC.MCs, renC.renCs, renC, up, MC]
    · simp [MT, MV.MVs, MV, MC, renC, renV, up]
  · rintro ⟨a, i⟩ hb
    replace hb : IsI N a i := hb
    cbv
    refine m_cond hX (fun h => ?_) (fun h => ?_) <;> cbv
    · have hh : (0 ≤ i ∧ i < N) ∧ i.toNat = a ∧ a < N := by
        obtain ⟨g1, g2⟩ := hb
        have : i < N := by
          have h : X.cmp .lss i (X.bin .mul .i64 c r) = true := h
          rw [hmul] at h
          subst hX; simpa [std, cmpS] using h
        omega
      obtain ⟨hh1, hh2, hh3⟩ := hh
      have ha : X.nadd 0 (X.toN i) = a := by subst hX; show 0 + i.toNat = a; omega
      have hin : X.inb i N := by subst hX; exact hh1
      have hlt : X.nlt (X.nadd 0 (X.toN i)) N := by rw [ha]; subst hX; exact hh3
      have hcz : X.nz c := by subst hX; have := hI.c1; show c ≠ 0; omega
      have hC := hI.at hh3 hX hb.h2
      refine m_gen (A := X.draw _ _ _) fun K1 hK1 => ?_
      refine m_drawT tab_ok hX [] [7] (.one 0 0 (.one 1 0 (.one 2 0 (.one 3 0 (.one 4 0 (.one 5 0 (.one 6 0 (.one 7 3 (.one 8 0 (.one 9 0 (.one 10 0 (.one 11 0 (.one 12 0 .fin))))))))))))) (by kernel_rfl) (by simp) ?_
      cbv
      refine ⟨hcz, hcz, ?_⟩
      refine m_callf hX [0, 1] bodied_49 (fun k2 h => At_in W0 c r N (X.bin .rem .i64 i c) (X.bin .quo .i64 i c) (f a) a f hC rfl k2 h) ?_ rfl rfl ?_ ?_
      · (first | (simp [MH, MB, MT, MV, MV.MVs, MC.MCs, MC, renC.renCs, renC, up]; done) | (simp [MH, MB, MT, MV, MV.MVs, MC.MCs, MC, renC.renCs, renC, up]; omega) | (simp [MH, MB, MT, MV, MV.MVs, MC.MCs, MC, renC.renCs, renC, up] <;> omega))
      · simp [MV, MV.MVs, MC]
      cbv
      refine hK1 _ _ ?_
      cbv
      repeat' (first | (refine m_cond_t hX (by first | rfl | assumption | (subst_vars; simp [std, cmpS, binS, hin]; done) | fail) ?_; cbv) | (refine m_cond_f hX (by first | rfl | assumption | (subst_vars; simp [std, cmpS, binS, hin]; done) | fail) ?_; cbv) | (refine And.intro (by first | rfl | assumption | (subst_vars; simp [std, cmpS, binS, hin]; done) | fail) ?_) | fail)
      refine m_cond_f hX (by
        show X.ite (X.not true) true (X.cmp .neq (f a) (g (X.nadd 0 (X.toN i)))) = false
        rw [ha, hfg a hh3]
        subst hX
        simp [std, cmpS]
        done) ?_
      cbv
      refine ⟨⟨a + 1, i + 1⟩, ⟨by omega, by have := hb.h2; omega⟩, by show N - (a + 1) < N - a; omega, [some 0, some 1, some 2], ?_, rfl, rfl, ?_⟩
      · simp [MH, MB, MC.MCs, MC, renC.renCs, renC, up]
      · have g2 := hb.h2
        subst hX
        simp [MT, MV.MVs, MV, MC, std, binS]
        exact (wrap_eq (by omega) (by omega)).symm
    ·
      refine m_callf hX [0, 1] bodied_49 (fun k2 h => At_out W0 c r N (-1) 0 f ⟨hI, .inl (by omega)⟩ k2 h) ?_ rfl rfl ?_ ?_
      · (first | (simp [MH, MB, MT, MV, MV.MVs, MC.MCs, MC, renC.renCs, renC, up]; done) | (simp [MH, MB, MT, MV, MV.MVs, MC.MCs, MC, renC.renCs, renC, up]; omega) | (simp [MH, MB, MT, MV, MV.MVs, MC.MCs, MC, renC.renCs, renC, up] <;> omega))
      · simp [MV, MV.MVs, MC]
      cbv
      refine m_callf hX [0, 1] bodied_49 (fun k2 h => At_out W0 c r N 0 r f ⟨hI, .inr (by omega)⟩ k2 h) ?_ rfl rfl ?_ ?_
      · (first | (simp [MH, MB, MT, MV, MV.MVs, MC.MCs, MC, renC.renCs, renC, up]; done) | (simp [MH, MB, MT, MV, MV.MVs, MC.MCs, MC, renC.renCs, renC, up]; omega) | (simp [MH, MB, MT, MV, MV.MVs, MC.MCs, MC, renC.renCs, renC, up] <;> omega))
      · simp [MV, MV.MVs, MC]
      cbv
      repeat' (first | (refine m_cond_t hX (by first | rfl | assumption | (subst hX; rfl)) ?_; cbv) | (refine m_cond_f hX (by first | rfl | assumption | (subst hX; rfl)) ?_; cbv) | fail)
      refine ⟨_, _, [some 0, some 1, some 2], ?_, rfl, rfl, ?_, hk⟩
      · simp [MH, MB, MC.MCs, MC, renC.renCs, renC, up]
      · simp [MV, MC] <;> (subst hX; rfl)
theorem GAlive_c (W0 : World) (k : V → Heap → Prop) (hk : k (.one (.bool true)) []) : ACall Try.prog W0 22 [] [] k := by
  have hI : GI 2 2 4 := ⟨by omega, by omega, by omega, by omega, by omega⟩
  have hC : CellI 2 2 4 1 0 1 := ⟨hI, by omega, by omega, by omega, by omega, by omega⟩
  have hC0 : CellI 2 2 4 0 0 0 := ⟨hI, by omega, by omega, by omega, by omega, by omega⟩
  obtain ⟨f, hf⟩ : ∃ f : Nat → Int, ∀ j, f j = if j = 1 then 5 else 0 := ⟨_, fun _ => rfl⟩
  refine m_body tab_ok (fn := Try.f22) (by kernel_rfl) rfl ?_
  intro X hX
  cbv
  refine m_callf hX [] bodied_24 (fun k2 h => New_in W0 2 2 4 (fun _ => 0) hI (by intros; rfl) k2 h) ?_ rfl rfl ?_ ?_
  · (first | (simp [MH, MB, MT, MV, MV.MVs, MC.MCs, MC, renC.renCs, renC, up]; done) | (simp [MH, MB, MT, MV, MV.MVs, MC.MCs, MC, renC.renCs, renC, up]; omega) | (simp [MH, MB, MT, MV, MV.MVs, MC.MCs, MC, renC.renCs, renC, up] <;> omega))
  · simp [MV, MV.MVs, MC]
  cbv
  repeat' (first | (refine m_cond_t hX (by first | rfl | assumption | (subst hX; rfl)) ?_; cbv) | (refine m_cond_f hX (by first | rfl | assumption | (subst hX; rfl)) ?_; cbv) | fail)
  refine m_callf hX [0, 1] bodied_33 (fun k2 h => Set_in W0 2 2 4 1 0 5 1 (fun _ => 0) f hC (fun j _ => hf j) k2 h) ?_ rfl rfl ?_ ?_
  · (first | (simp [MH, MB, MT, MV, MV.MVs, MC.MCs, MC, renC.renCs, renC, up]; done) | (simp [MH, MB, MT, MV, MV.MVs, MC.MCs, MC, renC.renCs, renC, up]; omega) | (simp [MH, MB, MT, MV, MV.MVs, MC.MCs, MC, renC.renCs, renC, up] <;> omega))
  · simp [MV, MV.MVs, MC]
  cbv
  refine m_callf hX [0, 1] bodied_49 (fun k2 h => At_in W0 2 2 4 1 0 5 1 f hC (by rw [hf]; rfl) k2 h) ?_ rfl rfl ?_ ?_
  · (first | (simp [MH, MB, MT, MV, MV.MVs, MC.MCs, MC, renC.renCs, renC, up]; done) | (simp [MH, MB, MT, MV, MV.MVs, MC.MCs, MC, renC.renCs, renC, up]; omega) | (simp [MH, MB, MT, MV, MV.MVs, MC.MCs, MC, renC.renCs, renC, up] <;> omega))
  · simp [MV, MV.MVs, MC]
  cbv
  refine m_callq hX [0, 1] bodied_34 (fun k2 h => Mirror_c W0 2 2 4 true f hI k2 h) ?_ rfl rfl ?_ ?_
  · (first | (simp [MH, MB, MT, MV, MV.MVs, MC.MCs, MC, renC.renCs, renC, up]; done) | (simp [MH, MB, MT, MV, MV.MVs, MC.MCs, MC, renC.renCs, renC, up]; omega) | (simp [MH, MB, MT, MV, MV.MVs, MC.MCs, MC, renC.renCs, renC, up] <;> omega))
  · simp [MV, MV.MVs, MC]
  intro g hg
  cbv
  have hg0 : (5 : Int) = g 0 := by
    have := hg 1 (by omega)
    rw [hf 1] at this
    exact this.symm
  refine m_callf hX [2, 3] bodied_49 (fun k2 h => At_in W0 2 2 4 0 0 5 0 g hC0 hg0 k2 h) ?_ rfl rfl ?_ ?_
  · (first | (simp [MH, MB, MT, MV, MV.MVs, MC.MCs, MC, renC.renCs, renC, up]; done) | (simp [MH, MB, MT, MV, MV.MVs, MC.MCs, MC, renC.renCs, renC, up]; omega) | (simp [MH, MB, MT, MV, MV.MVs, MC.MCs, MC, renC.renCs, renC, up] <;> omega))
  · simp [MV, MV.MVs, MC]
  cbv
  repeat' (first | (refine m_cond_t hX (by first | rfl | assumption | (subst hX; rfl)) ?_; cbv) | (refine m_cond_f hX (by first | rfl | assumption | (subst hX; rfl)) ?_; cbv) | fail)
  refine m_callf hX [] bodied_24 (fun k2 h => New_out W0 0 1 (by omega) k2 h) ?_ rfl rfl ?_ ?_
  · (first | (simp [MH, MB, MT, MV, MV.MVs, MC.MCs, MC, renC.renCs, renC, up]; done) | (simp [MH, MB, MT, MV, MV.MVs, MC.MCs, MC, renC.renCs, renC, up]; omega) | (simp [MH, MB, MT, MV, MV.MVs, MC.MCs, MC, renC.renCs, renC, up] <;> omega))
  · simp [MV, MV.MVs, MC]
  cbv
  repeat' (first | (refine m_cond_t hX (by first | rfl | assumption | (subst hX; rfl)) ?_; cbv) | (refine m_cond_f hX (by first | rfl | assumption | (subst hX; rfl)) ?_; cbv) | fail)
  refine ⟨_, _, [], ?_, rfl, rfl, ?_, hk⟩
  · simp [MH]
  · simp [MV, MC] <;> (subst hX; rfl)
end Go.Proofs.Ytnfoibgafmeenaa.AM
