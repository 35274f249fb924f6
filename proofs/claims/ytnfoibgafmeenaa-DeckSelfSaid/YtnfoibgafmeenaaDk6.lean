/- What laying a deck into another one comes to, as a contract on the abstract machine. No condition but that what it reads is there. -/
import Derived.Test.YtnfoibgafmeenaaDk5
namespace Go.Proofs.Ytnfoibgafmeenaa.AM
open Go Go.RowKit
set_option cbv.warning false
set_option maxRecDepth 100000
set_option linter.unusedVariables false
set_option linter.unusedSimpArgs false
abbrev deckAt (j n : Nat) : Option B := some (.box 73 [.sl j 0 n none])
structure IntoG (n m h N : Nat) (f g G : Nat → Int) : Prop where
  even : n = 2 * h
  hN : n + m = N
  b : N ≤ 8796093022208
  g0 : ∀ q, q < h → G q = f q
  g1 : ∀ q, q < m → G (h + q) = g q
  g2 : ∀ q, q < h → G (h + m + q) = f (h + q)
theorem quo2 {n : Nat} (hn : n ≤ 8796093022208) : IntKind.i64.wrap ((n : Int).tdiv 2) = (n / 2 : Nat) := by
  rw [show ((n : Int).tdiv 2) = ((n / 2 : Nat) : Int) by simp [Int.tdiv_eq_ediv]]
  exact wrap_eq (by omega) (by omega)
theorem Into_even (W0 : World) (n m h N : Nat) (f g G : Nat → Int) (hG : IntoG n m h N f g G)
    (k : V → Heap → Prop) (hk : k (.one (.bool true)) [deckAt 4 N, ints true n f, deckAt 3 m, ints true m g, ints true N G]) : ACall Try.prog W0 37 [.one (.ptr 0 0 0), .one (.ptr 2 0 0)] [deckAt 1 n, ints true n f, deckAt 3 m, ints true m g] k := by
  refine m_body tab_ok (fn := Try.f37) (by kernel_rfl) rfl ?_
  intro X hX
  cbv
  refine m_callf hX [0, 1] bodied_16 (fun k2 h => Len_c W0 n f k2 h) ?_ rfl rfl ?_ ?_
  · all_goals (first | (simp [MH, MB, MT, MV, MV.MVs, MC.MCs, MC, renC.renCs, renC, up]; done) | (simp [MH, MB, MT, MV, MV.MVs, MC.MCs, MC, renC.renCs, renC, up]; omega) | (simp [MH, MB, MT, MV, MV.MVs, MC.MCs, MC, renC.renCs, renC, up] <;> omega))
  · all_goals (first | (simp [MH, MB, MT, MV, MV.MVs, MC.MCs, MC, renC.renCs, renC, up]; done) | (simp [MH, MB, MT, MV, MV.MVs, MC.MCs, MC, renC.renCs, renC, up]; omega) | (simp [MH, MB, MT, MV, MV.MVs, MC.MCs, MC, renC.renCs, renC, up] <;> omega))
  cbv
  refine ⟨by subst hX; exact show (2 : Int) ≠ 0 from by decide, ?_⟩
  repeat' (first | (refine m_cond_t hX (by first | rfl | assumption | (subst hX; rfl)) ?_; cbv) | (refine m_cond_f hX (by first | rfl | assumption | (subst hX; rfl)) ?_; cbv) | fail)
  refine m_callf hX [0, 1] bodied_16 (fun k2 h => Len_c W0 n f k2 h) ?_ rfl rfl ?_ ?_
  · all_goals (first | (simp [MH, MB, MT, MV, MV.MVs, MC.MCs, MC, renC.renCs, renC, up]; done) | (simp [MH, MB, MT, MV, MV.MVs, MC.MCs, MC, renC.renCs, renC, up]; omega) | (simp [MH, MB, MT, MV, MV.MVs, MC.MCs, MC, renC.renCs, renC, up] <;> omega))
  · all_goals (first | (simp [MH, MB, MT, MV, MV.MVs, MC.MCs, MC, renC.renCs, renC, up]; done) | (simp [MH, MB, MT, MV, MV.MVs, MC.MCs, MC, renC.renCs, renC, up]; omega) | (simp [MH, MB, MT, MV, MV.MVs, MC.MCs, MC, renC.renCs, renC, up] <;> omega))
  cbv
  repeat' (first | (refine m_cond_t hX (by first | rfl | assumption | (subst hX; rfl)) ?_; cbv) | (refine m_cond_f hX (by first | rfl | assumption | (subst hX; rfl)) ?_; cbv) | fail)
  have hq : X.toN (X.bin .quo .i64 (Int.ofNat n) 2) = h := by
    have h1 := hG.even
    have h2 := hG.b
    have h3 := hG.hN
    subst hX
    show (IntKind.i64.wrap ((n : Int).tdiv 2)).toNat = h
    rw [quo2 (by omega)]
    omega
  refine m_cond_f hX (by
    have h1 := hG.even
    have h2 := hG.b
    have h3 := hG.hN
    subst hX
    show (if false = true then true else (IntKind.i64.wrap (2 * IntKind.i64.wrap ((n : Int).tdiv 2)) != (n : Int))) = false
    rw [quo2 (by omega), wrap_eq (by omega) (by omega)]
    simp
    omega) ?_
  cbv
  refine m_draw tab_ok hX [2, 3] [16, 19] [(0,0),(1,0),(2,0),(3,0),(4,1),(5,0),(6,0),(7,0),(9,0),(10,0),(11,0),(12,1),(13,0),(14,0),(8,2),(15,2),(16,3),(17,0),(18,0),(19,3)] (by kernel_rfl) (by simp) ?_
  cbv
  have hn1 : X.nadd 0 (X.toN (X.bin .quo .i64 (Int.ofNat n) 2)) = h := by rw [hq]; subst hX; exact Nat.zero_add h
  have hn2 : X.nsub n (X.toN (X.bin .quo .i64 (Int.ofNat n) 2)) = h := by
    rw [hq]
    have h1 := hG.even
    subst hX
    show n - h = h
    omega
  have hi1 : X.lohi 0 (X.bin .quo .i64 (Int.ofNat n) 2) ∧ X.le (X.bin .quo .i64 (Int.ofNat n) 2) n ∧ X.lohi (X.bin .quo .i64 (Int.ofNat n) 2) (X.ofN n) := by
    have h2 := hG.b
    have h3 := hG.hN
    subst hX
    show ((0 : Int) ≤ 0 ∧ 0 ≤ IntKind.i64.wrap ((n : Int).tdiv 2)) ∧ IntKind.i64.wrap ((n : Int).tdiv 2) ≤ n ∧ (0 ≤ IntKind.i64.wrap ((n : Int).tdiv 2) ∧ IntKind.i64.wrap ((n : Int).tdiv 2) ≤ (n : Int))
    rw [quo2 (by omega)]
    omega
  refine ⟨hi1.1, hi1.2.1, hi1.2.2, ?_⟩
  refine m_callf hX [2, 3] bodied_47 (fun k2 h => list_c W0 m g k2 h) ?_ rfl rfl ?_ ?_
  · all_goals (first | (simp [MH, MB, MT, MV, MV.MVs, MC.MCs, MC, renC.renCs, renC, up]; done) | (simp [MH, MB, MT, MV, MV.MVs, MC.MCs, MC, renC.renCs, renC, up]; omega) | (simp [MH, MB, MT, MV, MV.MVs, MC.MCs, MC, renC.renCs, renC, up] <;> omega))
  · all_goals (first | (simp [MH, MB, MT, MV, MV.MVs, MC.MCs, MC, renC.renCs, renC, up]; done) | (simp [MH, MB, MT, MV, MV.MVs, MC.MCs, MC, renC.renCs, renC, up]; omega) | (simp [MH, MB, MT, MV, MV.MVs, MC.MCs, MC, renC.renCs, renC, up] <;> omega))
  cbv
  refine m_callf hX [4, 1, 3] bodied_53 (fun k2 hk2 => Concat_into W0 n m h h f g (h + m) N G (fun q => match q with | 0 => [.sl 1 0 h none] | 1 => [.sl 2 0 m none] | _ => [.sl 1 h h none]) rfl rfl rfl
    (by have h1 := hG.even; omega) rfl (by have h1 := hG.even; have h3 := hG.hN; omega) hG.b hG.g0 hG.g1 hG.g2 (some 3) k2 hk2) ?_ rfl rfl ?_ ?_
  · refine And.intro (And.intro rfl (And.intro rfl (And.intro rfl (And.intro (Nat.le_refl _) fun q hq3 => ?_)))) (And.intro (by all_goals simp [MB, MC.MCs, MC, renC.renCs, renC, up]) (And.intro (by all_goals simp [MB, MC.MCs, MC, renC.renCs, renC, up]) trivial))
    obtain rfl | rfl | rfl : q = 0 ∨ q = 1 ∨ q = 2 := by omega
    · show MC.MCs _ [.sl 1 0 h none] [.sl 1 0 (X.toN (X.bin .quo .i64 (Int.ofNat n) 2)) none]
      exact ⟨⟨rfl, rfl, hq.symm, .inl rfl⟩, trivial⟩
    · show MC.MCs _ [.sl 2 0 m none] [.sl 3 0 m none]
      exact ⟨⟨rfl, rfl, rfl, .inl rfl⟩, trivial⟩
    · show MC.MCs _ [.sl 1 h h none] [.sl 1 (X.nadd 0 (X.toN (X.bin .quo .i64 (Int.ofNat n) 2))) (X.nsub n (X.toN (X.bin .quo .i64 (Int.ofNat n) 2))) none]
      exact ⟨⟨rfl, hn1.symm, hn2.symm, .inl rfl⟩, trivial⟩
  · simp [MV.MVs, MV, MC]
  cbv
  refine ⟨_, _, [some 0, some 1, some 2, some 3, some 5], ?_, rfl, rfl, ?_, hk⟩
  all_goals (first | (simp [MH, MB, MT, MV, MV.MVs, MC.MCs, MC, renC.renCs, renC, up]; done) | (simp [MH, MB, MT, MV, MV.MVs, MC.MCs, MC, renC.renCs, renC, up]; omega) | (simp [MH, MB, MT, MV, MV.MVs, MC.MCs, MC, renC.renCs, renC, up] <;> omega))
end Go.Proofs.Ytnfoibgafmeenaa.AM
