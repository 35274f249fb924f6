/- The statements' first call (the chapter's example) comes to true. No condition. -/
import Derived.Test.YtnfoibgafmeenaaDk6
namespace Go.Proofs.Ytnfoibgafmeenaa.AM
open Go Go.RowKit
set_option cbv.warning false
set_option maxRecDepth 100000
set_option linter.unusedVariables false
set_option linter.unusedSimpArgs false
theorem Turn_nilG (W0 : World) (n : Nat) (f G : Nat → Int) (hG : ∀ q, q < n → G q = f (n - 1 - q)) (hn : n ≤ 17592186044416) (k : V → Heap → Prop) (hk : k (.tup []) [deck n, ints true n G]) : ACall Try.prog W0 19 [.one (.ptr 0 0 0), .one .nilf] [deck n, ints true n f] k := by
  refine ACall.tidy (Turn_nil W0 n f hn _ ⟨_, _, [some 0, some 1], ?_, rfl, rfl, ?_, hk⟩)
  · simp [MH, MB, MC.MCs, MC]; exact hG
  · simp [MV, MV.MVs]
theorem Turn_negG (W0 : World) (n : Nat) (f G : Nat → Int) (hG : ∀ q, q < n → G q = backF n f true q) (hn : n ≤ 17592186044416) (k : V → Heap → Prop) (hk : k (.tup []) [deck n, ints true n G]) : ACall Try.prog W0 19 [.one (.ptr 0 0 0), .one (.fn 21 [])] [deck n, ints true n f] k := by
  refine ACall.tidy (Turn_neg W0 n f hn _ ⟨_, _, [some 0, some 1], ?_, rfl, rfl, ?_, hk⟩)
  · simp [MH, MB, MC.MCs, MC]; exact hG
  · simp [MV, MV.MVs]
theorem Of_G (W0 : World) (rw : Bool) (n i m : Nat) (c : Option Nat) (f G : Nat → Int) (h : i + m ≤ n) (hm : m ≤ 17592186044416) (hG : ∀ q, q < m → G q = f (i + q)) (k : V → Heap → Prop) (hk : k (.one (.ptr 1 0 0)) [ints rw n f, some (.box 73 [.sl 2 0 m none]), ints true m G]) : ACall Try.prog W0 15 [.one (.sl 0 i m c)] [ints rw n f] k := by
  refine ACall.tidy (Of_c W0 rw n i m c f h hm _ ⟨_, _, [some 0, some 1, some 2], ?_, rfl, rfl, ?_, hk⟩)
  · simp [MH, MB, MC.MCs, MC]; exact hG
  · simp [MV, MC]
theorem back_G (W0 : World) (rw : Bool) (n : Nat) (c : Option Nat) (f G : Nat → Int) (neg : Bool) (hn : n ≤ 17592186044) (hG : ∀ q, q < n → G q = backF n f neg q) (k : V → Heap → Prop) (hk : k (.one (.sl 1 0 n none)) [ints rw n f, ints true n G]) :
    ACall Try.prog W0 20 [.one (.sl 0 0 n c), .one (.bool neg)] [ints rw n f] k := by
  refine ACall.tidy (back_c W0 rw n c f neg hn _ ⟨_, _, [some 0, some 1], ?_, rfl, rfl, ?_, hk⟩)
  · simp [MH, MB, MC.MCs, MC]; exact hG
  · simp [MV, MC]
structure AlF (f g f7 G : Nat → Int) : Prop where
  f0 : f 0 = 1
  f1 : f 1 = 2
  g0 : g 0 = 2
  g1 : g 1 = 1
  s0 : f7 0 = 7
  G0 : G 0 = 2
  G1 : G 1 = 7
  G2 : G 2 = 1
theorem AlF.into {f g f7 G : Nat → Int} (hF : AlF f g f7 G) : IntoG 2 1 1 3 g f7 G where
  even := rfl
  hN := rfl
  b := by decide
  g0 := fun q hq => by
    obtain rfl : q = 0 := by omega
    rw [hF.G0, hF.g0]
  g1 := fun q hq => by
    obtain rfl : q = 0 := by omega
    rw [hF.G1, hF.s0]
  g2 := fun q hq => by
    obtain rfl : q = 0 := by omega
    rw [hF.G2, hF.g1]
theorem alive_c (W0 : World) (k : V → Heap → Prop) (hk : k (.one (.bool true)) []) : ACall Try.prog W0 13 [] [] k := by
  have hF : ∃ f g f7 G, AlF f g f7 G := ⟨fun q => if q = 0 then 1 else 2, fun q => if q = 0 then 2 else 1, fun _ => 7, fun q => if q = 0 then 2 else if q = 1 then 7 else 1, by constructor <;> rfl⟩
  obtain ⟨f, g, f7, G, hF⟩ := hF
  refine m_body tab_ok (fn := Try.f13) (by kernel_rfl) rfl ?_
  intro X hX
  cbv
  refine m_callf hX [0] bodied_15 (fun k2 h => Of_G W0 true 2 0 2 (some 2) f f (by decide) (by decide) (fun q _ => by rw [Nat.zero_add]) k2 h) ?_ rfl rfl ?_ ?_
  · refine And.intro (And.intro rfl (And.intro rfl (And.intro rfl (And.intro (Nat.le_refl _) fun q hq => ?_)))) trivial
    obtain rfl | rfl : q = 0 ∨ q = 1 := by omega
    · exact ⟨⟨rfl, hF.f0⟩, trivial⟩
    · exact ⟨⟨rfl, hF.f1⟩, trivial⟩
  · all_goals (first | (simp [MH, MB, MT, MV, MV.MVs, MC.MCs, MC, renC.renCs, renC, up]; done) | (simp [MH, MB, MT, MV, MV.MVs, MC.MCs, MC, renC.renCs, renC, up]; omega) | (simp [MH, MB, MT, MV, MV.MVs, MC.MCs, MC, renC.renCs, renC, up] <;> omega))
  cbv
  refine m_callf hX [1, 2] bodied_19 (fun k2 h => Turn_nilG W0 2 f g (fun q hq => by obtain rfl | rfl : q = 0 ∨ q = 1 := by omega
                                                                                     · rw [hF.g0]; exact hF.f1.symm
                                                                                     · rw [hF.g1]; exact hF.f0.symm) (by decide) k2 h) ?_ rfl rfl ?_ ?_
  · all_goals (first | (simp [MH, MB, MT, MV, MV.MVs, MC.MCs, MC, renC.renCs, renC, up]; done) | (simp [MH, MB, MT, MV, MV.MVs, MC.MCs, MC, renC.renCs, renC, up]; omega) | (simp [MH, MB, MT, MV, MV.MVs, MC.MCs, MC, renC.renCs, renC, up] <;> omega))
  · all_goals (first | (simp [MH, MB, MT, MV, MV.MVs, MC.MCs, MC, renC.renCs, renC, up]; done) | (simp [MH, MB, MT, MV, MV.MVs, MC.MCs, MC, renC.renCs, renC, up]; omega) | (simp [MH, MB, MT, MV, MV.MVs, MC.MCs, MC, renC.renCs, renC, up] <;> omega))
  cbv
  refine m_callf hX [1, 2] bodied_18 (fun k2 h => List_c W0 2 g (by decide) k2 h) ?_ rfl rfl ?_ ?_
  · all_goals (first | (simp [MH, MB, MT, MV, MV.MVs, MC.MCs, MC, renC.renCs, renC, up]; done) | (simp [MH, MB, MT, MV, MV.MVs, MC.MCs, MC, renC.renCs, renC, up]; omega) | (simp [MH, MB, MT, MV, MV.MVs, MC.MCs, MC, renC.renCs, renC, up] <;> omega))
  · all_goals (first | (simp [MH, MB, MT, MV, MV.MVs, MC.MCs, MC, renC.renCs, renC, up]; done) | (simp [MH, MB, MT, MV, MV.MVs, MC.MCs, MC, renC.renCs, renC, up]; omega) | (simp [MH, MB, MT, MV, MV.MVs, MC.MCs, MC, renC.renCs, renC, up] <;> omega))
  cbv
  have hb9 : X.ite (X.cmp .eql (X.ofN 2) 2) (X.cmp .eql (g (X.nadd 0 (X.toN 0))) 2) false = true := by
    subst hX
    show (if ((2 : Nat) : Int) == 2 then g 0 == 2 else false) = true
    rw [hF.g0]
    rfl
  repeat' (first | (refine m_cond_t hX (by first | rfl | assumption | (subst hX; rfl)) ?_; cbv) | (refine m_cond_f hX (by first | rfl | assumption | (subst hX; rfl)) ?_; cbv) | fail)
  refine ⟨by subst hX; exact show (0 : Int) ≤ 0 ∧ (0 : Int) < 2 from by decide, ?_⟩
  repeat' (first | (refine m_cond_t hX (by first | rfl | assumption | (subst hX; rfl)) ?_; cbv) | (refine m_cond_f hX (by first | rfl | assumption | (subst hX; rfl)) ?_; cbv) | fail)
  refine ⟨by subst hX; exact show 0 < 2 from by decide, ?_⟩
  repeat' (first | (refine m_cond_t hX (by first | rfl | assumption | (subst hX; rfl)) ?_; cbv) | (refine m_cond_f hX (by first | rfl | assumption | (subst hX; rfl)) ?_; cbv) | fail)
  refine m_callf hX [4] bodied_15 (fun k2 h => Of_G W0 true 1 0 1 (some 1) f7 f7 (by decide) (by decide) (fun q _ => by rw [Nat.zero_add]) k2 h) ?_ rfl rfl ?_ ?_
  · refine And.intro (And.intro rfl (And.intro rfl (And.intro rfl (And.intro (Nat.le_refl _) fun q hq => ?_)))) trivial
    obtain rfl : q = 0 := by omega
    exact ⟨⟨rfl, hF.s0⟩, trivial⟩
  · all_goals (first | (simp [MH, MB, MT, MV, MV.MVs, MC.MCs, MC, renC.renCs, renC, up]; done) | (simp [MH, MB, MT, MV, MV.MVs, MC.MCs, MC, renC.renCs, renC, up]; omega) | (simp [MH, MB, MT, MV, MV.MVs, MC.MCs, MC, renC.renCs, renC, up] <;> omega))
  cbv
  repeat' (first | (refine m_cond_t hX (by first | rfl | assumption | (subst hX; rfl)) ?_; cbv) | (refine m_cond_f hX (by first | rfl | assumption | (subst hX; rfl)) ?_; cbv) | fail)
  refine m_callf hX [1, 2, 5, 6] bodied_37 (fun k2 h => Into_even W0 2 1 1 3 g f7 G hF.into k2 h) ?_ rfl rfl ?_ ?_
  · all_goals (first | (simp [MH, MB, MT, MV, MV.MVs, MC.MCs, MC, renC.renCs, renC, up]; done) | (simp [MH, MB, MT, MV, MV.MVs, MC.MCs, MC, renC.renCs, renC, up]; omega) | (simp [MH, MB, MT, MV, MV.MVs, MC.MCs, MC, renC.renCs, renC, up] <;> omega))
  · all_goals (first | (simp [MH, MB, MT, MV, MV.MVs, MC.MCs, MC, renC.renCs, renC, up]; done) | (simp [MH, MB, MT, MV, MV.MVs, MC.MCs, MC, renC.renCs, renC, up]; omega) | (simp [MH, MB, MT, MV, MV.MVs, MC.MCs, MC, renC.renCs, renC, up] <;> omega))
  cbv
  have hb15 : X.ite (X.ite (X.cmp .eql (X.ofN 2) 2) (X.cmp .eql (g (X.nadd 0 (X.toN 0))) 2) false) true false = true := by
    rw [hb9]
    subst hX
    rfl
  repeat' (first | (refine m_cond_t hX (by first | rfl | assumption | (subst hX; rfl)) ?_; cbv) | (refine m_cond_f hX (by first | rfl | assumption | (subst hX; rfl)) ?_; cbv) | fail)
  refine m_callf hX [1, 7] bodied_16 (fun k2 h => Len_c W0 3 G k2 h) ?_ rfl rfl ?_ ?_
  · all_goals (first | (simp [MH, MB, MT, MV, MV.MVs, MC.MCs, MC, renC.renCs, renC, up]; done) | (simp [MH, MB, MT, MV, MV.MVs, MC.MCs, MC, renC.renCs, renC, up]; omega) | (simp [MH, MB, MT, MV, MV.MVs, MC.MCs, MC, renC.renCs, renC, up] <;> omega))
  · all_goals (first | (simp [MH, MB, MT, MV, MV.MVs, MC.MCs, MC, renC.renCs, renC, up]; done) | (simp [MH, MB, MT, MV, MV.MVs, MC.MCs, MC, renC.renCs, renC, up]; omega) | (simp [MH, MB, MT, MV, MV.MVs, MC.MCs, MC, renC.renCs, renC, up] <;> omega))
  cbv
  repeat' (first | (refine m_cond_t hX (by first | rfl | assumption | (subst hX; rfl)) ?_; cbv) | (refine m_cond_f hX (by first | rfl | assumption | (subst hX; rfl)) ?_; cbv) | fail)
  refine ⟨_, _, [], ?_, rfl, rfl, ?_, hk⟩
  · simp [MH]
  · have hr : X.ite (X.ite (X.ite (X.cmp .eql (X.ofN 2) 2) (X.cmp .eql (g (X.nadd 0 (X.toN 0))) 2) false) true false) (X.cmp .eql (Int.ofNat 3) 3) false = true := by
      rw [hb15]
      subst hX
      rfl
    exact hr.symm
end Go.Proofs.Ytnfoibgafmeenaa.AM
