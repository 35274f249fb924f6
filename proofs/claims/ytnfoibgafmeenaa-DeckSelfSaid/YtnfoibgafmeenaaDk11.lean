/- DeckCuts comes to true, whatever list and number it is called with. The condition: the list's row is there. -/
import Derived.Test.YtnfoibgafmeenaaDk10
namespace Go.Proofs.Ytnfoibgafmeenaa.AM
open Go Go.RowKit
set_option cbv.warning false
set_option maxRecDepth 100000
set_option linter.unusedVariables false
set_option linter.unusedSimpArgs false
structure CuF (n m l m1 : Nat) (x : Int) (f G1 G2 g5 G3 : Nat → Int) : Prop where
  cut : CutG n m l x f G1 G2
  five : g5 0 = 5
  under : UnderG m 1 m1 G1 g5 G3
structure CutsLowI (n m : Nat) (x : Int) : Prop where
  h : x < 0 ∧ m = 0
theorem CutsLow (W0 : World) (rw : Bool) (n m l m1 : Nat) (x : Int) (c : Option Nat) (f G1 G2 g5 G3 : Nat → Int) (hF : CuF n m l m1 x f G1 G2 g5 G3) (hx : CutsLowI n m x) (hn : n ≤ 60) (k : V → Heap → Prop) (hk : k (.one (.bool true)) [ints rw n f]) : ACall Try.prog W0 6 [.one (.sl 0 0 n c), .one (.int .i64 x)] [ints rw n f] k := by
  refine m_body tab_ok (fn := Try.f6) (by kernel_rfl) rfl ?_
  intro X hX
  cbv
  have hT : X.toN 0 = m := by
    have h1 := hx.h
    subst hX
    show (0 : Int).toNat = m
    omega
  have hT1 : X.nadd 0 (X.toN 0) = m := by rw [hT]; subst hX; exact Nat.zero_add m
  have hT2 : X.nsub n (X.toN 0) = l := by
    rw [hT]
    have h1 := hF.cut.hl
    subst hX
    show n - m = l
    omega
  have hT3 : X.lohi 0 0 ∧ X.le 0 n ∧ X.lohi 0 (X.ofN n) := by
    have h1 := hx.h
    subst hX
    show ((0 : Int) ≤ 0 ∧ 0 ≤ (0 : Int)) ∧ (0 : Int) ≤ (n : Int) ∧ (0 ≤ (0 : Int) ∧ (0 : Int) ≤ (n : Int))
    omega
  refine m_callf hX [] bodied_13 (fun k2 h => alive_c W0 k2 h) ?_ rfl rfl ?_ ?_
  · all_goals (first | (simp [MH, MB, MT, MV, MV.MVs, MC.MCs, MC, renC.renCs, renC, up]; done) | (simp [MH, MB, MT, MV, MV.MVs, MC.MCs, MC, renC.renCs, renC, up]; omega) | (simp [MH, MB, MT, MV, MV.MVs, MC.MCs, MC, renC.renCs, renC, up] <;> omega))
  · all_goals (first | (simp [MH, MB, MT, MV, MV.MVs, MC.MCs, MC, renC.renCs, renC, up]; done) | (simp [MH, MB, MT, MV, MV.MVs, MC.MCs, MC, renC.renCs, renC, up]; omega) | (simp [MH, MB, MT, MV, MV.MVs, MC.MCs, MC, renC.renCs, renC, up] <;> omega))
  cbv
  repeat' (first | (refine m_cond_t hX (by first | rfl | assumption | (subst hX; rfl)) ?_; cbv) | (refine m_cond_f hX (by first | rfl | assumption | (subst hX; rfl)) ?_; cbv) | fail)
  refine m_cond_f hX (by
    subst hX
    show decide ((n : Int) > 60) = false
    simp
    omega) ?_
  cbv
  refine m_callf hX [0] bodied_15 (fun k2 h => Of_G W0 rw n 0 n c f f (by simp) (by omega) (fun q _ => by rw [Nat.zero_add]) k2 h) ?_ rfl rfl ?_ ?_
  · all_goals (first | (simp [MH, MB, MT, MV, MV.MVs, MC.MCs, MC, renC.renCs, renC, up]; done) | (simp [MH, MB, MT, MV, MV.MVs, MC.MCs, MC, renC.renCs, renC, up]; omega) | (simp [MH, MB, MT, MV, MV.MVs, MC.MCs, MC, renC.renCs, renC, up] <;> omega))
  · all_goals (first | (simp [MH, MB, MT, MV, MV.MVs, MC.MCs, MC, renC.renCs, renC, up]; done) | (simp [MH, MB, MT, MV, MV.MVs, MC.MCs, MC, renC.renCs, renC, up]; omega) | (simp [MH, MB, MT, MV, MV.MVs, MC.MCs, MC, renC.renCs, renC, up] <;> omega))
  cbv
  refine m_callf hX [1, 2] bodied_30 (fun k2 h => Cut_c W0 n m l x f G1 G2 hF.cut k2 h) ?_ rfl rfl ?_ ?_
  · all_goals (first | (simp [MH, MB, MT, MV, MV.MVs, MC.MCs, MC, renC.renCs, renC, up]; done) | (simp [MH, MB, MT, MV, MV.MVs, MC.MCs, MC, renC.renCs, renC, up]; omega) | (simp [MH, MB, MT, MV, MV.MVs, MC.MCs, MC, renC.renCs, renC, up] <;> omega))
  · all_goals (first | (simp [MH, MB, MT, MV, MV.MVs, MC.MCs, MC, renC.renCs, renC, up]; done) | (simp [MH, MB, MT, MV, MV.MVs, MC.MCs, MC, renC.renCs, renC, up]; omega) | (simp [MH, MB, MT, MV, MV.MVs, MC.MCs, MC, renC.renCs, renC, up] <;> omega))
  cbv
  refine m_cond_t hX (by
    have h1 := hx.h
    subst hX
    show decide (x < 0) = _
    simp
    omega) ?_
  cbv
  refine m_cond_f hX (by
    have h1 := hx.h
    subst hX
    show decide ((0 : Int) > (n : Int)) = _
    simp
    try omega) ?_
  cbv
  refine m_draw tab_ok hX [] [4, 8, 13, 17] [(0,0),(1,0),(2,0),(3,0),(5,0),(6,0),(7,0),(4,3),(8,3),(9,0),(10,0),(11,0),(12,0),(14,0),(15,0),(16,0),(13,3),(17,3),(18,0),(19,0)] (by kernel_rfl) (by simp) ?_
  cbv
  repeat' (first | (refine m_cond_t hX (by first | rfl | assumption | (subst hX; rfl)) ?_; cbv) | (refine m_cond_f hX (by first | rfl | assumption | (subst hX; rfl)) ?_; cbv) | fail)
  refine ⟨hT3.1, hT3.2.1, ?_⟩
  repeat' (first | (refine m_cond_t hX (by first | rfl | assumption | (subst hX; rfl)) ?_; cbv) | (refine m_cond_f hX (by first | rfl | assumption | (subst hX; rfl)) ?_; cbv) | fail)
  refine m_callf hX [3, 4] bodied_18 (fun k2 h => List_c W0 m G1 (by have := hF.cut.hl; omega) k2 h) ?_ rfl rfl ?_ ?_
  · all_goals (first | (simp [MH, MB, MT, MV, MV.MVs, MC.MCs, MC, renC.renCs, renC, up]; done) | (simp [MH, MB, MT, MV, MV.MVs, MC.MCs, MC, renC.renCs, renC, up]; omega) | (simp [MH, MB, MT, MV, MV.MVs, MC.MCs, MC, renC.renCs, renC, up] <;> omega))
  · all_goals (first | (simp [MH, MB, MT, MV, MV.MVs, MC.MCs, MC, renC.renCs, renC, up]; done) | (simp [MH, MB, MT, MV, MV.MVs, MC.MCs, MC, renC.renCs, renC, up]; omega) | (simp [MH, MB, MT, MV, MV.MVs, MC.MCs, MC, renC.renCs, renC, up] <;> omega))
  cbv
  repeat' (first | (refine m_cond_t hX (by first | rfl | assumption | (subst hX; rfl)) ?_; cbv) | (refine m_cond_f hX (by first | rfl | assumption | (subst hX; rfl)) ?_; cbv) | fail)
  refine m_callq hX [6, 0] bodied_17 (fun k2 h => Ints_oeq W0 true rw m 0 n none none G1 f (by have := hF.cut.hl; omega) (by have := hF.cut.hl; omega) k2 h) ?_ rfl rfl ?_ ?_
  · all_goals (first | (simp [MH, MB, MT, MV, MV.MVs, MC.MCs, MC, renC.renCs, renC, up]; done) | (simp [MH, MB, MT, MV, MV.MVs, MC.MCs, MC, renC.renCs, renC, up]; omega) | (simp [MH, MB, MT, MV, MV.MVs, MC.MCs, MC, renC.renCs, renC, up] <;> omega))
  · exact ⟨⟨rfl, rfl, rfl, .inl rfl⟩, ⟨rfl, rfl, hT.symm, .inl rfl⟩, trivial⟩
  intro b hb
  obtain rfl : b = true := hb.2 (fun q hq => by rw [Nat.zero_add]; exact hF.cut.g1 q hq)
  cbv
  repeat' (first | (refine m_cond_t hX (by first | rfl | assumption | (subst hX; rfl)) ?_; cbv) | (refine m_cond_f hX (by first | rfl | assumption | (subst hX; rfl)) ?_; cbv) | fail)
  refine ⟨hT3.2.2, ?_⟩
  repeat' (first | (refine m_cond_t hX (by first | rfl | assumption | (subst hX; rfl)) ?_; cbv) | (refine m_cond_f hX (by first | rfl | assumption | (subst hX; rfl)) ?_; cbv) | fail)
  refine m_callf hX [1, 5] bodied_18 (fun k2 h => List_c W0 l G2 (by have := hF.cut.hl; omega) k2 h) ?_ rfl rfl ?_ ?_
  · all_goals (first | (simp [MH, MB, MT, MV, MV.MVs, MC.MCs, MC, renC.renCs, renC, up]; done) | (simp [MH, MB, MT, MV, MV.MVs, MC.MCs, MC, renC.renCs, renC, up]; omega) | (simp [MH, MB, MT, MV, MV.MVs, MC.MCs, MC, renC.renCs, renC, up] <;> omega))
  · all_goals (first | (simp [MH, MB, MT, MV, MV.MVs, MC.MCs, MC, renC.renCs, renC, up]; done) | (simp [MH, MB, MT, MV, MV.MVs, MC.MCs, MC, renC.renCs, renC, up]; omega) | (simp [MH, MB, MT, MV, MV.MVs, MC.MCs, MC, renC.renCs, renC, up] <;> omega))
  cbv
  repeat' (first | (refine m_cond_t hX (by first | rfl | assumption | (subst hX; rfl)) ?_; cbv) | (refine m_cond_f hX (by first | rfl | assumption | (subst hX; rfl)) ?_; cbv) | fail)
  refine m_callq hX [7, 0] bodied_17 (fun k2 h => Ints_oeq W0 true rw l m n none none G2 f (by have := hF.cut.hl; omega) (by have := hF.cut.hl; omega) k2 h) ?_ rfl rfl ?_ ?_
  · all_goals (first | (simp [MH, MB, MT, MV, MV.MVs, MC.MCs, MC, renC.renCs, renC, up]; done) | (simp [MH, MB, MT, MV, MV.MVs, MC.MCs, MC, renC.renCs, renC, up]; omega) | (simp [MH, MB, MT, MV, MV.MVs, MC.MCs, MC, renC.renCs, renC, up] <;> omega))
  · exact ⟨⟨rfl, rfl, rfl, .inl rfl⟩, ⟨rfl, hT1.symm, hT2.symm, .inl rfl⟩, trivial⟩
  intro b hb
  obtain rfl : b = true := hb.2 hF.cut.g2
  cbv
  repeat' (first | (refine m_cond_t hX (by first | rfl | assumption | (subst hX; rfl)) ?_; cbv) | (refine m_cond_f hX (by first | rfl | assumption | (subst hX; rfl)) ?_; cbv) | fail)
  refine m_callf hX [8] bodied_15 (fun k2 h => Of_G W0 true 1 0 1 (some 1) g5 g5 (by decide) (by decide) (fun q _ => by rw [Nat.zero_add]) k2 h) ?_ rfl rfl ?_ ?_
  · refine And.intro (And.intro rfl (And.intro rfl (And.intro rfl (And.intro (Nat.le_refl _) fun q hq => ?_)))) trivial
    obtain rfl : q = 0 := by omega
    exact ⟨⟨rfl, hF.five⟩, trivial⟩
  · all_goals (first | (simp [MH, MB, MT, MV, MV.MVs, MC.MCs, MC, renC.renCs, renC, up]; done) | (simp [MH, MB, MT, MV, MV.MVs, MC.MCs, MC, renC.renCs, renC, up]; omega) | (simp [MH, MB, MT, MV, MV.MVs, MC.MCs, MC, renC.renCs, renC, up] <;> omega))
  cbv
  refine m_callf hX [3, 4, 9, 10] bodied_31 (fun k2 h => Under_c W0 m 1 m1 G1 g5 G3 hF.under k2 h) ?_ rfl rfl ?_ ?_
  · all_goals (first | (simp [MH, MB, MT, MV, MV.MVs, MC.MCs, MC, renC.renCs, renC, up]; done) | (simp [MH, MB, MT, MV, MV.MVs, MC.MCs, MC, renC.renCs, renC, up]; omega) | (simp [MH, MB, MT, MV, MV.MVs, MC.MCs, MC, renC.renCs, renC, up] <;> omega))
  · all_goals (first | (simp [MH, MB, MT, MV, MV.MVs, MC.MCs, MC, renC.renCs, renC, up]; done) | (simp [MH, MB, MT, MV, MV.MVs, MC.MCs, MC, renC.renCs, renC, up]; omega) | (simp [MH, MB, MT, MV, MV.MVs, MC.MCs, MC, renC.renCs, renC, up] <;> omega))
  cbv
  refine m_draw tab_ok hX [] [1, 5] [(0,0),(2,0),(3,0),(4,0),(1,3),(5,3),(6,0)] (by kernel_rfl) (by simp) ?_
  cbv
  refine ⟨hT3.2.2, ?_⟩
  refine m_callf hX [1, 5] bodied_18 (fun k2 h => List_c W0 l G2 (by have := hF.cut.hl; omega) k2 h) ?_ rfl rfl ?_ ?_
  · all_goals (first | (simp [MH, MB, MT, MV, MV.MVs, MC.MCs, MC, renC.renCs, renC, up]; done) | (simp [MH, MB, MT, MV, MV.MVs, MC.MCs, MC, renC.renCs, renC, up]; omega) | (simp [MH, MB, MT, MV, MV.MVs, MC.MCs, MC, renC.renCs, renC, up] <;> omega))
  · all_goals (first | (simp [MH, MB, MT, MV, MV.MVs, MC.MCs, MC, renC.renCs, renC, up]; done) | (simp [MH, MB, MT, MV, MV.MVs, MC.MCs, MC, renC.renCs, renC, up]; omega) | (simp [MH, MB, MT, MV, MV.MVs, MC.MCs, MC, renC.renCs, renC, up] <;> omega))
  cbv
  refine m_callq hX [12, 0] bodied_17 (fun k2 h => Ints_oeq W0 true rw l m n none none G2 f (by have := hF.cut.hl; omega) (by have := hF.cut.hl; omega) k2 h) ?_ rfl rfl ?_ ?_
  · all_goals (first | (simp [MH, MB, MT, MV, MV.MVs, MC.MCs, MC, renC.renCs, renC, up]; done) | (simp [MH, MB, MT, MV, MV.MVs, MC.MCs, MC, renC.renCs, renC, up]; omega) | (simp [MH, MB, MT, MV, MV.MVs, MC.MCs, MC, renC.renCs, renC, up] <;> omega))
  · exact ⟨⟨rfl, rfl, rfl, .inl rfl⟩, ⟨rfl, hT1.symm, hT2.symm, .inl rfl⟩, trivial⟩
  intro b hb
  obtain rfl : b = true := hb.2 hF.cut.g2
  cbv
  refine ⟨_, _, [some 0], ?_, rfl, rfl, ?_, hk⟩
  all_goals (first | (simp [MH, MB, MT, MV, MV.MVs, MC.MCs, MC, renC.renCs, renC, up]; done) | (simp [MH, MB, MT, MV, MV.MVs, MC.MCs, MC, renC.renCs, renC, up]; omega) | (simp [MH, MB, MT, MV, MV.MVs, MC.MCs, MC, renC.renCs, renC, up] <;> omega))
structure CutsHighI (n m : Nat) (x : Int) : Prop where
  h : (n : Int) < x ∧ m = n
theorem CutsHigh (W0 : World) (rw : Bool) (n m l m1 : Nat) (x : Int) (c : Option Nat) (f G1 G2 g5 G3 : Nat → Int) (hF : CuF n m l m1 x f G1 G2 g5 G3) (hx : CutsHighI n m x) (hn : n ≤ 60) (k : V → Heap → Prop) (hk : k (.one (.bool true)) [ints rw n f]) : ACall Try.prog W0 6 [.one (.sl 0 0 n c), .one (.int .i64 x)] [ints rw n f] k := by
  refine m_body tab_ok (fn := Try.f6) (by kernel_rfl) rfl ?_
  intro X hX
  cbv
  have hT : X.toN (X.ofN n) = m := by
    have h1 := hx.h
    subst hX
    show (n : Int).toNat = m
    omega
  have hT1 : X.nadd 0 (X.toN (X.ofN n)) = m := by rw [hT]; subst hX; exact Nat.zero_add m
  have hT2 : X.nsub n (X.toN (X.ofN n)) = l := by
    rw [hT]
    have h1 := hF.cut.hl
    subst hX
    show n - m = l
    omega
  have hT3 : X.lohi 0 (X.ofN n) ∧ X.le (X.ofN n) n ∧ X.lohi (X.ofN n) (X.ofN n) := by
    have h1 := hx.h
    subst hX
    show ((0 : Int) ≤ 0 ∧ 0 ≤ (n : Int)) ∧ (n : Int) ≤ (n : Int) ∧ (0 ≤ (n : Int) ∧ (n : Int) ≤ (n : Int))
    omega
  refine m_callf hX [] bodied_13 (fun k2 h => alive_c W0 k2 h) ?_ rfl rfl ?_ ?_
  · all_goals (first | (simp [MH, MB, MT, MV, MV.MVs, MC.MCs, MC, renC.renCs, renC, up]; done) | (simp [MH, MB, MT, MV, MV.MVs, MC.MCs, MC, renC.renCs, renC, up]; omega) | (simp [MH, MB, MT, MV, MV.MVs, MC.MCs, MC, renC.renCs, renC, up] <;> omega))
  · all_goals (first | (simp [MH, MB, MT, MV, MV.MVs, MC.MCs, MC, renC.renCs, renC, up]; done) | (simp [MH, MB, MT, MV, MV.MVs, MC.MCs, MC, renC.renCs, renC, up]; omega) | (simp [MH, MB, MT, MV, MV.MVs, MC.MCs, MC, renC.renCs, renC, up] <;> omega))
  cbv
  repeat' (first | (refine m_cond_t hX (by first | rfl | assumption | (subst hX; rfl)) ?_; cbv) | (refine m_cond_f hX (by first | rfl | assumption | (subst hX; rfl)) ?_; cbv) | fail)
  refine m_cond_f hX (by
    subst hX
    show decide ((n : Int) > 60) = false
    simp
    omega) ?_
  cbv
  refine m_callf hX [0] bodied_15 (fun k2 h => Of_G W0 rw n 0 n c f f (by simp) (by omega) (fun q _ => by rw [Nat.zero_add]) k2 h) ?_ rfl rfl ?_ ?_
  · all_goals (first | (simp [MH, MB, MT, MV, MV.MVs, MC.MCs, MC, renC.renCs, renC, up]; done) | (simp [MH, MB, MT, MV, MV.MVs, MC.MCs, MC, renC.renCs, renC, up]; omega) | (simp [MH, MB, MT, MV, MV.MVs, MC.MCs, MC, renC.renCs, renC, up] <;> omega))
  · all_goals (first | (simp [MH, MB, MT, MV, MV.MVs, MC.MCs, MC, renC.renCs, renC, up]; done) | (simp [MH, MB, MT, MV, MV.MVs, MC.MCs, MC, renC.renCs, renC, up]; omega) | (simp [MH, MB, MT, MV, MV.MVs, MC.MCs, MC, renC.renCs, renC, up] <;> omega))
  cbv
  refine m_callf hX [1, 2] bodied_30 (fun k2 h => Cut_c W0 n m l x f G1 G2 hF.cut k2 h) ?_ rfl rfl ?_ ?_
  · all_goals (first | (simp [MH, MB, MT, MV, MV.MVs, MC.MCs, MC, renC.renCs, renC, up]; done) | (simp [MH, MB, MT, MV, MV.MVs, MC.MCs, MC, renC.renCs, renC, up]; omega) | (simp [MH, MB, MT, MV, MV.MVs, MC.MCs, MC, renC.renCs, renC, up] <;> omega))
  · all_goals (first | (simp [MH, MB, MT, MV, MV.MVs, MC.MCs, MC, renC.renCs, renC, up]; done) | (simp [MH, MB, MT, MV, MV.MVs, MC.MCs, MC, renC.renCs, renC, up]; omega) | (simp [MH, MB, MT, MV, MV.MVs, MC.MCs, MC, renC.renCs, renC, up] <;> omega))
  cbv
  refine m_cond_f hX (by
    have h1 := hx.h
    subst hX
    show decide (x < 0) = _
    simp
    omega) ?_
  cbv
  refine m_cond_t hX (by
    have h1 := hx.h
    subst hX
    show decide (x > (n : Int)) = _
    simp
    try omega) ?_
  cbv
  refine m_draw tab_ok hX [] [4, 8, 13, 17] [(0,0),(1,0),(2,0),(3,0),(5,0),(6,0),(7,0),(4,3),(8,3),(9,0),(10,0),(11,0),(12,0),(14,0),(15,0),(16,0),(13,3),(17,3),(18,0),(19,0)] (by kernel_rfl) (by simp) ?_
  cbv
  repeat' (first | (refine m_cond_t hX (by first | rfl | assumption | (subst hX; rfl)) ?_; cbv) | (refine m_cond_f hX (by first | rfl | assumption | (subst hX; rfl)) ?_; cbv) | fail)
  refine ⟨hT3.1, hT3.2.1, ?_⟩
  repeat' (first | (refine m_cond_t hX (by first | rfl | assumption | (subst hX; rfl)) ?_; cbv) | (refine m_cond_f hX (by first | rfl | assumption | (subst hX; rfl)) ?_; cbv) | fail)
  refine m_callf hX [3, 4] bodied_18 (fun k2 h => List_c W0 m G1 (by have := hF.cut.hl; omega) k2 h) ?_ rfl rfl ?_ ?_
  · all_goals (first | (simp [MH, MB, MT, MV, MV.MVs, MC.MCs, MC, renC.renCs, renC, up]; done) | (simp [MH, MB, MT, MV, MV.MVs, MC.MCs, MC, renC.renCs, renC, up]; omega) | (simp [MH, MB, MT, MV, MV.MVs, MC.MCs, MC, renC.renCs, renC, up] <;> omega))
  · all_goals (first | (simp [MH, MB, MT, MV, MV.MVs, MC.MCs, MC, renC.renCs, renC, up]; done) | (simp [MH, MB, MT, MV, MV.MVs, MC.MCs, MC, renC.renCs, renC, up]; omega) | (simp [MH, MB, MT, MV, MV.MVs, MC.MCs, MC, renC.renCs, renC, up] <;> omega))
  cbv
  repeat' (first | (refine m_cond_t hX (by first | rfl | assumption | (subst hX; rfl)) ?_; cbv) | (refine m_cond_f hX (by first | rfl | assumption | (subst hX; rfl)) ?_; cbv) | fail)
  refine m_callq hX [6, 0] bodied_17 (fun k2 h => Ints_oeq W0 true rw m 0 n none none G1 f (by have := hF.cut.hl; omega) (by have := hF.cut.hl; omega) k2 h) ?_ rfl rfl ?_ ?_
  · all_goals (first | (simp [MH, MB, MT, MV, MV.MVs, MC.MCs, MC, renC.renCs, renC, up]; done) | (simp [MH, MB, MT, MV, MV.MVs, MC.MCs, MC, renC.renCs, renC, up]; omega) | (simp [MH, MB, MT, MV, MV.MVs, MC.MCs, MC, renC.renCs, renC, up] <;> omega))
  · exact ⟨⟨rfl, rfl, rfl, .inl rfl⟩, ⟨rfl, rfl, hT.symm, .inl rfl⟩, trivial⟩
  intro b hb
  obtain rfl : b = true := hb.2 (fun q hq => by rw [Nat.zero_add]; exact hF.cut.g1 q hq)
  cbv
  repeat' (first | (refine m_cond_t hX (by first | rfl | assumption | (subst hX; rfl)) ?_; cbv) | (refine m_cond_f hX (by first | rfl | assumption | (subst hX; rfl)) ?_; cbv) | fail)
  refine ⟨hT3.2.2, ?_⟩
  repeat' (first | (refine m_cond_t hX (by first | rfl | assumption | (subst hX; rfl)) ?_; cbv) | (refine m_cond_f hX (by first | rfl | assumption | (subst hX; rfl)) ?_; cbv) | fail)
  refine m_callf hX [1, 5] bodied_18 (fun k2 h => List_c W0 l G2 (by have := hF.cut.hl; omega) k2 h) ?_ rfl rfl ?_ ?_
  · all_goals (first | (simp [MH, MB, MT, MV, MV.MVs, MC.MCs, MC, renC.renCs, renC, up]; done) | (simp [MH, MB, MT, MV, MV.MVs, MC.MCs, MC, renC.renCs, renC, up]; omega) | (simp [MH, MB, MT, MV, MV.MVs, MC.MCs, MC, renC.renCs, renC, up] <;> omega))
  · all_goals (first | (simp [MH, MB, MT, MV, MV.MVs, MC.MCs, MC, renC.renCs, renC, up]; done) | (simp [MH, MB, MT, MV, MV.MVs, MC.MCs, MC, renC.renCs, renC, up]; omega) | (simp [MH, MB, MT, MV, MV.MVs, MC.MCs, MC, renC.renCs, renC, up] <;> omega))
  cbv
  repeat' (first | (refine m_cond_t hX (by first | rfl | assumption | (subst hX; rfl)) ?_; cbv) | (refine m_cond_f hX (by first | rfl | assumption | (subst hX; rfl)) ?_; cbv) | fail)
  refine m_callq hX [7, 0] bodied_17 (fun k2 h => Ints_oeq W0 true rw l m n none none G2 f (by have := hF.cut.hl; omega) (by have := hF.cut.hl; omega) k2 h) ?_ rfl rfl ?_ ?_
  · all_goals (first | (simp [MH, MB, MT, MV, MV.MVs, MC.MCs, MC, renC.renCs, renC, up]; done) | (simp [MH, MB, MT, MV, MV.MVs, MC.MCs, MC, renC.renCs, renC, up]; omega) | (simp [MH, MB, MT, MV, MV.MVs, MC.MCs, MC, renC.renCs, renC, up] <;> omega))
  · exact ⟨⟨rfl, rfl, rfl, .inl rfl⟩, ⟨rfl, hT1.symm, hT2.symm, .inl rfl⟩, trivial⟩
  intro b hb
  obtain rfl : b = true := hb.2 hF.cut.g2
  cbv
  repeat' (first | (refine m_cond_t hX (by first | rfl | assumption | (subst hX; rfl)) ?_; cbv) | (refine m_cond_f hX (by first | rfl | assumption | (subst hX; rfl)) ?_; cbv) | fail)
  refine m_callf hX [8] bodied_15 (fun k2 h => Of_G W0 true 1 0 1 (some 1) g5 g5 (by decide) (by decide) (fun q _ => by rw [Nat.zero_add]) k2 h) ?_ rfl rfl ?_ ?_
  · refine And.intro (And.intro rfl (And.intro rfl (And.intro rfl (And.intro (Nat.le_refl _) fun q hq => ?_)))) trivial
    obtain rfl : q = 0 := by omega
    exact ⟨⟨rfl, hF.five⟩, trivial⟩
  · all_goals (first | (simp [MH, MB, MT, MV, MV.MVs, MC.MCs, MC, renC.renCs, renC, up]; done) | (simp [MH, MB, MT, MV, MV.MVs, MC.MCs, MC, renC.renCs, renC, up]; omega) | (simp [MH, MB, MT, MV, MV.MVs, MC.MCs, MC, renC.renCs, renC, up] <;> omega))
  cbv
  refine m_callf hX [3, 4, 9, 10] bodied_31 (fun k2 h => Under_c W0 m 1 m1 G1 g5 G3 hF.under k2 h) ?_ rfl rfl ?_ ?_
  · all_goals (first | (simp [MH, MB, MT, MV, MV.MVs, MC.MCs, MC, renC.renCs, renC, up]; done) | (simp [MH, MB, MT, MV, MV.MVs, MC.MCs, MC, renC.renCs, renC, up]; omega) | (simp [MH, MB, MT, MV, MV.MVs, MC.MCs, MC, renC.renCs, renC, up] <;> omega))
  · all_goals (first | (simp [MH, MB, MT, MV, MV.MVs, MC.MCs, MC, renC.renCs, renC, up]; done) | (simp [MH, MB, MT, MV, MV.MVs, MC.MCs, MC, renC.renCs, renC, up]; omega) | (simp [MH, MB, MT, MV, MV.MVs, MC.MCs, MC, renC.renCs, renC, up] <;> omega))
  cbv
  refine m_draw tab_ok hX [] [1, 5] [(0,0),(2,0),(3,0),(4,0),(1,3),(5,3),(6,0)] (by kernel_rfl) (by simp) ?_
  cbv
  refine ⟨hT3.2.2, ?_⟩
  refine m_callf hX [1, 5] bodied_18 (fun k2 h => List_c W0 l G2 (by have := hF.cut.hl; omega) k2 h) ?_ rfl rfl ?_ ?_
  · all_goals (first | (simp [MH, MB, MT, MV, MV.MVs, MC.MCs, MC, renC.renCs, renC, up]; done) | (simp [MH, MB, MT, MV, MV.MVs, MC.MCs, MC, renC.renCs, renC, up]; omega) | (simp [MH, MB, MT, MV, MV.MVs, MC.MCs, MC, renC.renCs, renC, up] <;> omega))
  · all_goals (first | (simp [MH, MB, MT, MV, MV.MVs, MC.MCs, MC, renC.renCs, renC, up]; done) | (simp [MH, MB, MT, MV, MV.MVs, MC.MCs, MC, renC.renCs, renC, up]; omega) | (simp [MH, MB, MT, MV, MV.MVs, MC.MCs, MC, renC.renCs, renC, up] <;> omega))
  cbv
  refine m_callq hX [12, 0] bodied_17 (fun k2 h => Ints_oeq W0 true rw l m n none none G2 f (by have := hF.cut.hl; omega) (by have := hF.cut.hl; omega) k2 h) ?_ rfl rfl ?_ ?_
  · all_goals (first | (simp [MH, MB, MT, MV, MV.MVs, MC.MCs, MC, renC.renCs, renC, up]; done) | (simp [MH, MB, MT, MV, MV.MVs, MC.MCs, MC, renC.renCs, renC, up]; omega) | (simp [MH, MB, MT, MV, MV.MVs, MC.MCs, MC, renC.renCs, renC, up] <;> omega))
  · exact ⟨⟨rfl, rfl, rfl, .inl rfl⟩, ⟨rfl, hT1.symm, hT2.symm, .inl rfl⟩, trivial⟩
  intro b hb
  obtain rfl : b = true := hb.2 hF.cut.g2
  cbv
  refine ⟨_, _, [some 0], ?_, rfl, rfl, ?_, hk⟩
  all_goals (first | (simp [MH, MB, MT, MV, MV.MVs, MC.MCs, MC, renC.renCs, renC, up]; done) | (simp [MH, MB, MT, MV, MV.MVs, MC.MCs, MC, renC.renCs, renC, up]; omega) | (simp [MH, MB, MT, MV, MV.MVs, MC.MCs, MC, renC.renCs, renC, up] <;> omega))
structure CutsMidI (n m : Nat) (x : Int) : Prop where
  h : 0 ≤ x ∧ x ≤ (n : Int) ∧ m = x.toNat
theorem CutsMid (W0 : World) (rw : Bool) (n m l m1 : Nat) (x : Int) (c : Option Nat) (f G1 G2 g5 G3 : Nat → Int) (hF : CuF n m l m1 x f G1 G2 g5 G3) (hx : CutsMidI n m x) (hn : n ≤ 60) (k : V → Heap → Prop) (hk : k (.one (.bool true)) [ints rw n f]) : ACall Try.prog W0 6 [.one (.sl 0 0 n c), .one (.int .i64 x)] [ints rw n f] k := by
  refine m_body tab_ok (fn := Try.f6) (by kernel_rfl) rfl ?_
  intro X hX
  cbv
  have hT : X.toN x = m := by
    have h1 := hx.h
    subst hX
    show x.toNat = m
    omega
  have hT1 : X.nadd 0 (X.toN x) = m := by rw [hT]; subst hX; exact Nat.zero_add m
  have hT2 : X.nsub n (X.toN x) = l := by
    rw [hT]
    have h1 := hF.cut.hl
    subst hX
    show n - m = l
    omega
  have hT3 : X.lohi 0 x ∧ X.le x n ∧ X.lohi x (X.ofN n) := by
    have h1 := hx.h
    subst hX
    show ((0 : Int) ≤ 0 ∧ 0 ≤ x) ∧ x ≤ (n : Int) ∧ (0 ≤ x ∧ x ≤ (n : Int))
    omega
  refine m_callf hX [] bodied_13 (fun k2 h => alive_c W0 k2 h) ?_ rfl rfl ?_ ?_
  · all_goals (first | (simp [MH, MB, MT, MV, MV.MVs, MC.MCs, MC, renC.renCs, renC, up]; done) | (simp [MH, MB, MT, MV, MV.MVs, MC.MCs, MC, renC.renCs, renC, up]; omega) | (simp [MH, MB, MT, MV, MV.MVs, MC.MCs, MC, renC.renCs, renC, up] <;> omega))
  · all_goals (first | (simp [MH, MB, MT, MV, MV.MVs, MC.MCs, MC, renC.renCs, renC, up]; done) | (simp [MH, MB, MT, MV, MV.MVs, MC.MCs, MC, renC.renCs, renC, up]; omega) | (simp [MH, MB, MT, MV, MV.MVs, MC.MCs, MC, renC.renCs, renC, up] <;> omega))
  cbv
  repeat' (first | (refine m_cond_t hX (by first | rfl | assumption | (subst hX; rfl)) ?_; cbv) | (refine m_cond_f hX (by first | rfl | assumption | (subst hX; rfl)) ?_; cbv) | fail)
  refine m_cond_f hX (by
    subst hX
    show decide ((n : Int) > 60) = false
    simp
    omega) ?_
  cbv
  refine m_callf hX [0] bodied_15 (fun k2 h => Of_G W0 rw n 0 n c f f (by simp) (by omega) (fun q _ => by rw [Nat.zero_add]) k2 h) ?_ rfl rfl ?_ ?_
  · all_goals (first | (simp [MH, MB, MT, MV, MV.MVs, MC.MCs, MC, renC.renCs, renC, up]; done) | (simp [MH, MB, MT, MV, MV.MVs, MC.MCs, MC, renC.renCs, renC, up]; omega) | (simp [MH, MB, MT, MV, MV.MVs, MC.MCs, MC, renC.renCs, renC, up] <;> omega))
  · all_goals (first | (simp [MH, MB, MT, MV, MV.MVs, MC.MCs, MC, renC.renCs, renC, up]; done) | (simp [MH, MB, MT, MV, MV.MVs, MC.MCs, MC, renC.renCs, renC, up]; omega) | (simp [MH, MB, MT, MV, MV.MVs, MC.MCs, MC, renC.renCs, renC, up] <;> omega))
  cbv
  refine m_callf hX [1, 2] bodied_30 (fun k2 h => Cut_c W0 n m l x f G1 G2 hF.cut k2 h) ?_ rfl rfl ?_ ?_
  · all_goals (first | (simp [MH, MB, MT, MV, MV.MVs, MC.MCs, MC, renC.renCs, renC, up]; done) | (simp [MH, MB, MT, MV, MV.MVs, MC.MCs, MC, renC.renCs, renC, up]; omega) | (simp [MH, MB, MT, MV, MV.MVs, MC.MCs, MC, renC.renCs, renC, up] <;> omega))
  · all_goals (first | (simp [MH, MB, MT, MV, MV.MVs, MC.MCs, MC, renC.renCs, renC, up]; done) | (simp [MH, MB, MT, MV, MV.MVs, MC.MCs, MC, renC.renCs, renC, up]; omega) | (simp [MH, MB, MT, MV, MV.MVs, MC.MCs, MC, renC.renCs, renC, up] <;> omega))
  cbv
  refine m_cond_f hX (by
    have h1 := hx.h
    subst hX
    show decide (x < 0) = _
    simp
    omega) ?_
  cbv
  refine m_cond_f hX (by
    have h1 := hx.h
    subst hX
    show decide (x > (n : Int)) = _
    simp
    try omega) ?_
  cbv
  refine m_draw tab_ok hX [] [4, 8, 13, 17] [(0,0),(1,0),(2,0),(3,0),(5,0),(6,0),(7,0),(4,3),(8,3),(9,0),(10,0),(11,0),(12,0),(14,0),(15,0),(16,0),(13,3),(17,3),(18,0),(19,0)] (by kernel_rfl) (by simp) ?_
  cbv
  repeat' (first | (refine m_cond_t hX (by first | rfl | assumption | (subst hX; rfl)) ?_; cbv) | (refine m_cond_f hX (by first | rfl | assumption | (subst hX; rfl)) ?_; cbv) | fail)
  refine ⟨hT3.1, hT3.2.1, ?_⟩
  repeat' (first | (refine m_cond_t hX (by first | rfl | assumption | (subst hX; rfl)) ?_; cbv) | (refine m_cond_f hX (by first | rfl | assumption | (subst hX; rfl)) ?_; cbv) | fail)
  refine m_callf hX [3, 4] bodied_18 (fun k2 h => List_c W0 m G1 (by have := hF.cut.hl; omega) k2 h) ?_ rfl rfl ?_ ?_
  · all_goals (first | (simp [MH, MB, MT, MV, MV.MVs, MC.MCs, MC, renC.renCs, renC, up]; done) | (simp [MH, MB, MT, MV, MV.MVs, MC.MCs, MC, renC.renCs, renC, up]; omega) | (simp [MH, MB, MT, MV, MV.MVs, MC.MCs, MC, renC.renCs, renC, up] <;> omega))
  · all_goals (first | (simp [MH, MB, MT, MV, MV.MVs, MC.MCs, MC, renC.renCs, renC, up]; done) | (simp [MH, MB, MT, MV, MV.MVs, MC.MCs, MC, renC.renCs, renC, up]; omega) | (simp [MH, MB, MT, MV, MV.MVs, MC.MCs, MC, renC.renCs, renC, up] <;> omega))
  cbv
  repeat' (first | (refine m_cond_t hX (by first | rfl | assumption | (subst hX; rfl)) ?_; cbv) | (refine m_cond_f hX (by first | rfl | assumption | (subst hX; rfl)) ?_; cbv) | fail)
  refine m_callq hX [6, 0] bodied_17 (fun k2 h => Ints_oeq W0 true rw m 0 n none none G1 f (by have := hF.cut.hl; omega) (by have := hF.cut.hl; omega) k2 h) ?_ rfl rfl ?_ ?_
  · all_goals (first | (simp [MH, MB, MT, MV, MV.MVs, MC.MCs, MC, renC.renCs, renC, up]; done) | (simp [MH, MB, MT, MV, MV.MVs, MC.MCs, MC, renC.renCs, renC, up]; omega) | (simp [MH, MB, MT, MV, MV.MVs, MC.MCs, MC, renC.renCs, renC, up] <;> omega))
  · exact ⟨⟨rfl, rfl, rfl, .inl rfl⟩, ⟨rfl, rfl, hT.symm, .inl rfl⟩, trivial⟩
  intro b hb
  obtain rfl : b = true := hb.2 (fun q hq => by rw [Nat.zero_add]; exact hF.cut.g1 q hq)
  cbv
  repeat' (first | (refine m_cond_t hX (by first | rfl | assumption | (subst hX; rfl)) ?_; cbv) | (refine m_cond_f hX (by first | rfl | assumption | (subst hX; rfl)) ?_; cbv) | fail)
  refine ⟨hT3.2.2, ?_⟩
  repeat' (first | (refine m_cond_t hX (by first | rfl | assumption | (subst hX; rfl)) ?_; cbv) | (refine m_cond_f hX (by first | rfl | assumption | (subst hX; rfl)) ?_; cbv) | fail)
  refine m_callf hX [1, 5] bodied_18 (fun k2 h => List_c W0 l G2 (by have := hF.cut.hl; omega) k2 h) ?_ rfl rfl ?_ ?_
  · all_goals (first | (simp [MH, MB, MT, MV, MV.MVs, MC.MCs, MC, renC.renCs, renC, up]; done) | (simp [MH, MB, MT, MV, MV.MVs, MC.MCs, MC, renC.renCs, renC, up]; omega) | (simp [MH, MB, MT, MV, MV.MVs, MC.MCs, MC, renC.renCs, renC, up] <;> omega))
  · all_goals (first | (simp [MH, MB, MT, MV, MV.MVs, MC.MCs, MC, renC.renCs, renC, up]; done) | (simp [MH, MB, MT, MV, MV.MVs, MC.MCs, MC, renC.renCs, renC, up]; omega) | (simp [MH, MB, MT, MV, MV.MVs, MC.MCs, MC, renC.renCs, renC, up] <;> omega))
  cbv
  repeat' (first | (refine m_cond_t hX (by first | rfl | assumption | (subst hX; rfl)) ?_; cbv) | (refine m_cond_f hX (by first | rfl | assumption | (subst hX; rfl)) ?_; cbv) | fail)
  refine m_callq hX [7, 0] bodied_17 (fun k2 h => Ints_oeq W0 true rw l m n none none G2 f (by have := hF.cut.hl; omega) (by have := hF.cut.hl; omega) k2 h) ?_ rfl rfl ?_ ?_
  · all_goals (first | (simp [MH, MB, MT, MV, MV.MVs, MC.MCs, MC, renC.renCs, renC, up]; done) | (simp [MH, MB, MT, MV, MV.MVs, MC.MCs, MC, renC.renCs, renC, up]; omega) | (simp [MH, MB, MT, MV, MV.MVs, MC.MCs, MC, renC.renCs, renC, up] <;> omega))
  · exact ⟨⟨rfl, rfl, rfl, .inl rfl⟩, ⟨rfl, hT1.symm, hT2.symm, .inl rfl⟩, trivial⟩
  intro b hb
  obtain rfl : b = true := hb.2 hF.cut.g2
  cbv
  repeat' (first | (refine m_cond_t hX (by first | rfl | assumption | (subst hX; rfl)) ?_; cbv) | (refine m_cond_f hX (by first | rfl | assumption | (subst hX; rfl)) ?_; cbv) | fail)
  refine m_callf hX [8] bodied_15 (fun k2 h => Of_G W0 true 1 0 1 (some 1) g5 g5 (by decide) (by decide) (fun q _ => by rw [Nat.zero_add]) k2 h) ?_ rfl rfl ?_ ?_
  · refine And.intro (And.intro rfl (And.intro rfl (And.intro rfl (And.intro (Nat.le_refl _) fun q hq => ?_)))) trivial
    obtain rfl : q = 0 := by omega
    exact ⟨⟨rfl, hF.five⟩, trivial⟩
  · all_goals (first | (simp [MH, MB, MT, MV, MV.MVs, MC.MCs, MC, renC.renCs, renC, up]; done) | (simp [MH, MB, MT, MV, MV.MVs, MC.MCs, MC, renC.renCs, renC, up]; omega) | (simp [MH, MB, MT, MV, MV.MVs, MC.MCs, MC, renC.renCs, renC, up] <;> omega))
  cbv
  refine m_callf hX [3, 4, 9, 10] bodied_31 (fun k2 h => Under_c W0 m 1 m1 G1 g5 G3 hF.under k2 h) ?_ rfl rfl ?_ ?_
  · all_goals (first | (simp [MH, MB, MT, MV, MV.MVs, MC.MCs, MC, renC.renCs, renC, up]; done) | (simp [MH, MB, MT, MV, MV.MVs, MC.MCs, MC, renC.renCs, renC, up]; omega) | (simp [MH, MB, MT, MV, MV.MVs, MC.MCs, MC, renC.renCs, renC, up] <;> omega))
  · all_goals (first | (simp [MH, MB, MT, MV, MV.MVs, MC.MCs, MC, renC.renCs, renC, up]; done) | (simp [MH, MB, MT, MV, MV.MVs, MC.MCs, MC, renC.renCs, renC, up]; omega) | (simp [MH, MB, MT, MV, MV.MVs, MC.MCs, MC, renC.renCs, renC, up] <;> omega))
  cbv
  refine m_draw tab_ok hX [] [1, 5] [(0,0),(2,0),(3,0),(4,0),(1,3),(5,3),(6,0)] (by kernel_rfl) (by simp) ?_
  cbv
  refine ⟨hT3.2.2, ?_⟩
  refine m_callf hX [1, 5] bodied_18 (fun k2 h => List_c W0 l G2 (by have := hF.cut.hl; omega) k2 h) ?_ rfl rfl ?_ ?_
  · all_goals (first | (simp [MH, MB, MT, MV, MV.MVs, MC.MCs, MC, renC.renCs, renC, up]; done) | (simp [MH, MB, MT, MV, MV.MVs, MC.MCs, MC, renC.renCs, renC, up]; omega) | (simp [MH, MB, MT, MV, MV.MVs, MC.MCs, MC, renC.renCs, renC, up] <;> omega))
  · all_goals (first | (simp [MH, MB, MT, MV, MV.MVs, MC.MCs, MC, renC.renCs, renC, up]; done) | (simp [MH, MB, MT, MV, MV.MVs, MC.MCs, MC, renC.renCs, renC, up]; omega) | (simp [MH, MB, MT, MV, MV.MVs, MC.MCs, MC, renC.renCs, renC, up] <;> omega))
  cbv
  refine m_callq hX [12, 0] bodied_17 (fun k2 h => Ints_oeq W0 true rw l m n none none G2 f (by have := hF.cut.hl; omega) (by have := hF.cut.hl; omega) k2 h) ?_ rfl rfl ?_ ?_
  · all_goals (first | (simp [MH, MB, MT, MV, MV.MVs, MC.MCs, MC, renC.renCs, renC, up]; done) | (simp [MH, MB, MT, MV, MV.MVs, MC.MCs, MC, renC.renCs, renC, up]; omega) | (simp [MH, MB, MT, MV, MV.MVs, MC.MCs, MC, renC.renCs, renC, up] <;> omega))
  · exact ⟨⟨rfl, rfl, rfl, .inl rfl⟩, ⟨rfl, hT1.symm, hT2.symm, .inl rfl⟩, trivial⟩
  intro b hb
  obtain rfl : b = true := hb.2 hF.cut.g2
  cbv
  refine ⟨_, _, [some 0], ?_, rfl, rfl, ?_, hk⟩
  all_goals (first | (simp [MH, MB, MT, MV, MV.MVs, MC.MCs, MC, renC.renCs, renC, up]; done) | (simp [MH, MB, MT, MV, MV.MVs, MC.MCs, MC, renC.renCs, renC, up]; omega) | (simp [MH, MB, MT, MV, MV.MVs, MC.MCs, MC, renC.renCs, renC, up] <;> omega))
theorem DeckCuts_c (W0 : World) (rw : Bool) (n : Nat) (x : Int) (c : Option Nat) (f : Nat → Int) (k : V → Heap → Prop) (hk : k (.one (.bool true)) [ints rw n f]) : ACall Try.prog W0 6 [.one (.sl 0 0 n c), .one (.int .i64 x)] [ints rw n f] k := by
  by_cases hn : n ≤ 60
  · have hex : ∃ m l, m = (max (min x n) 0).toNat ∧ m + l = n := ⟨(max (min x n) 0).toNat, n - (max (min x n) 0).toNat, rfl, by omega⟩
    obtain ⟨m, l, h1, h2⟩ := hex
    have hF : CuF n m l (m + 1) x f f (fun q => f (m + q)) (fun _ => 5) (fun q => if q < m then f q else 5) :=
      ⟨⟨h1, h2, by omega, fun _ _ => rfl, fun _ _ => rfl⟩, rfl, ⟨rfl, by omega, fun q hq => if_pos hq, fun q hq => if_neg (by omega)⟩⟩
    by_cases hx : x < 0
    · exact CutsLow W0 rw n m l _ x c f _ _ _ _ hF ⟨⟨hx, by omega⟩⟩ hn k hk
    · by_cases hx2 : (n : Int) < x
      · exact CutsHigh W0 rw n m l _ x c f _ _ _ _ hF ⟨⟨hx2, by omega⟩⟩ hn k hk
      · exact CutsMid W0 rw n m l _ x c f _ _ _ _ hF ⟨⟨by omega, by omega, by omega⟩⟩ hn k hk
  · skip
    refine m_body tab_ok (fn := Try.f6) (by kernel_rfl) rfl ?_
    intro X hX
    cbv
    refine m_callf hX [] bodied_13 (fun k2 h => alive_c W0 k2 h) ?_ rfl rfl ?_ ?_
    · all_goals (first | (simp [MH, MB, MT, MV, MV.MVs, MC.MCs, MC, renC.renCs, renC, up]; done) | (simp [MH, MB, MT, MV, MV.MVs, MC.MCs, MC, renC.renCs, renC, up]; omega) | (simp [MH, MB, MT, MV, MV.MVs, MC.MCs, MC, renC.renCs, renC, up] <;> omega))
    · all_goals (first | (simp [MH, MB, MT, MV, MV.MVs, MC.MCs, MC, renC.renCs, renC, up]; done) | (simp [MH, MB, MT, MV, MV.MVs, MC.MCs, MC, renC.renCs, renC, up]; omega) | (simp [MH, MB, MT, MV, MV.MVs, MC.MCs, MC, renC.renCs, renC, up] <;> omega))
    cbv
    repeat' (first | (refine m_cond_t hX (by first | rfl | assumption | (subst hX; rfl)) ?_; cbv) | (refine m_cond_f hX (by first | rfl | assumption | (subst hX; rfl)) ?_; cbv) | fail)
    refine m_cond_t hX (by
      subst hX
      show decide ((n : Int) > 60) = true
      simp
      omega) ?_
    cbv
    refine ⟨_, _, [some 0], ?_, rfl, rfl, ?_, hk⟩
    all_goals (first | (simp [MH, MB, MT, MV, MV.MVs, MC.MCs, MC, renC.renCs, renC, up]; done) | (simp [MH, MB, MT, MV, MV.MVs, MC.MCs, MC, renC.renCs, renC, up]; omega) | (simp [MH, MB, MT, MV, MV.MVs, MC.MCs, MC, renC.renCs, renC, up] <;> omega))
end Go.Proofs.Ytnfoibgafmeenaa.AM
