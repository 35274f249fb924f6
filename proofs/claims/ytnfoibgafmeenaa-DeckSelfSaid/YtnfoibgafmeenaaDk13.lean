/- More of decks, as contracts on the abstract machine. No condition but that what they read is there. -/
import Derived.Test.YtnfoibgafmeenaaDk12
namespace Go.Proofs.Ytnfoibgafmeenaa.AM
open Go Go.RowKit
set_option cbv.warning false
set_option maxRecDepth 100000
set_option linter.unusedVariables false
set_option linter.unusedSimpArgs false
theorem Over_c (W0 : World) (n m N : Nat) (f g G : Nat → Int) (hG : UnderG m n N g f G)
    (k : V → Heap → Prop) (hk : k (.tup []) [deckAt 4 N, ints true n f, deckAt 3 m, ints true m g, ints true N G]) : ACall Try.prog W0 36 [.one (.ptr 0 0 0), .one (.ptr 2 0 0)] [deckAt 1 n, ints true n f, deckAt 3 m, ints true m g] k := by
  refine m_body tab_ok (fn := Try.f36) (by kernel_rfl) rfl ?_
  intro X hX
  cbv
  repeat' (first | (refine m_cond_t hX (by first | rfl | assumption | (subst hX; rfl)) ?_; cbv) | (refine m_cond_f hX (by first | rfl | assumption | (subst hX; rfl)) ?_; cbv) | fail)
  refine m_draw tab_ok hX [2, 3] [8, 11] [(0,0),(1,0),(3,0),(4,0),(5,0),(6,1),(2,2),(7,2),(8,3),(9,0),(10,0),(11,3)] (by kernel_rfl) (by simp) ?_
  cbv
  refine m_callf hX [2, 3] bodied_47 (fun k2 h => list_c W0 m g k2 h) ?_ rfl rfl ?_ ?_
  · all_goals (first | (simp [MH, MB, MT, MV, MV.MVs, MC.MCs, MC, renC.renCs, renC, up]; done) | (simp [MH, MB, MT, MV, MV.MVs, MC.MCs, MC, renC.renCs, renC, up]; omega) | (simp [MH, MB, MT, MV, MV.MVs, MC.MCs, MC, renC.renCs, renC, up] <;> omega))
  · all_goals (first | (simp [MH, MB, MT, MV, MV.MVs, MC.MCs, MC, renC.renCs, renC, up]; done) | (simp [MH, MB, MT, MV, MV.MVs, MC.MCs, MC, renC.renCs, renC, up]; omega) | (simp [MH, MB, MT, MV, MV.MVs, MC.MCs, MC, renC.renCs, renC, up] <;> omega))
  cbv
  refine m_callf hX [4, 1, 3] bodied_53 (fun k2 hk2 => Concat_over W0 n m f g N G (fun q => match q with | 0 => [.sl 2 0 m none] | _ => [.sl 1 0 n none]) rfl rfl
    hG.hN hG.b hG.g0 hG.g1 (some 2) k2 hk2) ?_ rfl rfl ?_ ?_
  · refine And.intro (And.intro rfl (And.intro rfl (And.intro rfl (And.intro (Nat.le_refl _) fun q hq3 => ?_)))) (And.intro (by all_goals simp [MB, MC.MCs, MC, renC.renCs, renC, up]) (And.intro (by all_goals simp [MB, MC.MCs, MC, renC.renCs, renC, up]) trivial))
    obtain rfl | rfl : q = 0 ∨ q = 1 := by omega
    · show MC.MCs _ [.sl 2 0 m none] [.sl 3 0 m none]
      exact ⟨⟨rfl, rfl, rfl, .inl rfl⟩, trivial⟩
    · show MC.MCs _ [.sl 1 0 n none] [.sl 1 0 n none]
      exact ⟨⟨rfl, rfl, rfl, .inl rfl⟩, trivial⟩
  · simp [MV.MVs, MV, MC]
  cbv
  refine ⟨_, _, [some 0, some 1, some 2, some 3, some 5], ?_, rfl, rfl, ?_, hk⟩
  all_goals (first | (simp [MH, MB, MT, MV, MV.MVs, MC.MCs, MC, renC.renCs, renC, up]; done) | (simp [MH, MB, MT, MV, MV.MVs, MC.MCs, MC, renC.renCs, renC, up]; omega) | (simp [MH, MB, MT, MV, MV.MVs, MC.MCs, MC, renC.renCs, renC, up] <;> omega))
structure OddI (n h : Nat) : Prop where
  odd : n = 2 * h + 1
  b : n ≤ 1000000
theorem Into_odd (W0 : World) (n m h : Nat) (f g : Nat → Int) (hG : OddI n h)
    (k : V → Heap → Prop) (hk : k (.one (.bool false)) [deckAt 1 n, ints true n f, deckAt 3 m, ints true m g]) : ACall Try.prog W0 37 [.one (.ptr 0 0 0), .one (.ptr 2 0 0)] [deckAt 1 n, ints true n f, deckAt 3 m, ints true m g] k := by
  refine m_body tab_ok (fn := Try.f37) (by kernel_rfl) rfl ?_
  intro X hX
  cbv
  refine m_callf hX [0, 1] bodied_16 (fun k2 h => Len_c W0 n f k2 h) ?_ rfl rfl ?_ ?_
  · all_goals (first | (simp [MH, MB, MT, MV, MV.MVs, MC.MCs, MC, renC.renCs, renC, up]; done) | (simp [MH, MB, MT, MV, MV.MVs, MC.MCs, MC, renC.renCs, renC, up]; omega) | (simp [MH, MB, MT, MV, MV.MVs, MC.MCs, MC, renC.renCs, renC, up] <;> omega))
  · all_goals (first | (simp [MH, MB, MT, MV, MV.MVs, MC.MCs, MC, renC.renCs, renC, up]; done) | (simp [MH, MB, MT, MV, MV.MVs, MC.MCs, MC, renC.renCs, renC, up]; omega) | (simp [MH, MB, MT, MV, MV.MVs, MC.MCs, MC, renC.renCs, renC, up] <;> omega))
  cbv
  refine ⟨by subst hX; exact show (2 : Int) ≠ 0 from by decide, ?_⟩
  repeat' (first | (refine m_cond_t hX (by first | rfl | assumption | (subst hX; rfl)) ?_; cbv) | (refine m_cond_f hX (by first | rfl | assumption | (subst hX; rfl)) ?_; cbv) | fail)
  refine m_callf hX [0, 1] bodied_16 (fun k2 h => Len_c W0 n f k2 h) ?_ rfl rfl ?_ ?_
  · all_goals (first | (simp [MH, MB, MT, MV, MV.MVs, MC.MCs, MC, renC.renCs, renC, up]; done) | (simp [MH, MB, MT, MV, MV.MVs, MC.MCs, MC, renC.renCs, renC, up]; omega) | (simp [MH, MB, MT, MV, MV.MVs, MC.MCs, MC, renC.renCs, renC, up] <;> omega))
  · all_goals (first | (simp [MH, MB, MT, MV, MV.MVs, MC.MCs, MC, renC.renCs, renC, up]; done) | (simp [MH, MB, MT, MV, MV.MVs, MC.MCs, MC, renC.renCs, renC, up]; omega) | (simp [MH, MB, MT, MV, MV.MVs, MC.MCs, MC, renC.renCs, renC, up] <;> omega))
  cbv
  repeat' (first | (refine m_cond_t hX (by first | rfl | assumption | (subst hX; rfl)) ?_; cbv) | (refine m_cond_f hX (by first | rfl | assumption | (subst hX; rfl)) ?_; cbv) | fail)
  refine m_cond_t hX (by
    have h1 := hG.odd
    have h2 := hG.b
    subst hX
    show (if false = true then true else (IntKind.i64.wrap (2 * IntKind.i64.wrap ((n : Int).tdiv 2)) != (n : Int))) = true
    rw [quo2 (by omega), wrap_eq (by omega) (by omega)]
    simp
    omega) ?_
  cbv
  refine ⟨_, _, [some 0, some 1, some 2, some 3], ?_, rfl, rfl, ?_, hk⟩
  all_goals (first | (simp [MH, MB, MT, MV, MV.MVs, MC.MCs, MC, renC.renCs, renC, up]; done) | (simp [MH, MB, MT, MV, MV.MVs, MC.MCs, MC, renC.renCs, renC, up]; omega) | (simp [MH, MB, MT, MV, MV.MVs, MC.MCs, MC, renC.renCs, renC, up] <;> omega))
theorem joined_2 (W0 : World) (r1 r2 : Bool) (n m N : Nat) (c1 c2 : Option Nat) (f g G : Nat → Int) (hG : UnderG n m N f g G) (k : V → Heap → Prop) (hk : k (.one (.sl 2 0 N none)) [ints r1 n f, ints r2 m g, ints true N G]) : ACall Try.prog W0 14 [.one (.sl 0 0 n c1), .one (.sl 1 0 m c2), .one .nils] [ints r1 n f, ints r2 m g] k := by
  have hN := hG.hN
  have hb := hG.b
  refine m_body tab_ok (fn := Try.f14) (by kernel_rfl) rfl ?_
  intro X hX
  cbv
  refine m_append tab_ok hX n (fun q => [.int .i64 (G q)]) rfl rfl rfl rfl rfl rfl (by decide) rfl rfl rfl ?_ ?_
  · exact ⟨by omega, by omega, by omega, by show n * 8 ≤ _; omega, by omega, fun _ _ => rfl, fun _ h => by omega, fun q hq => by simp only [Nat.zero_add]; rw [hG.g0 q hq]⟩
  cbv
  refine m_append tab_ok hX N (fun q => [.int .i64 (G q)]) rfl rfl rfl rfl rfl rfl (by decide) rfl rfl rfl ?_ ?_
  · exact ⟨by omega, by omega, by omega, by show N * 8 ≤ _; omega, by omega, fun _ _ => rfl, fun q _ => by simp only [Nat.zero_add], fun q hq => by simp only [Nat.zero_add]; rw [hG.g1 q hq]⟩
  cbv
  refine m_append tab_ok hX N (fun q => [.int .i64 (G q)]) rfl rfl rfl rfl rfl rfl (by decide) rfl rfl rfl ?_ ?_
  · exact ⟨by omega, by omega, by omega, by show N * 8 ≤ _; omega, by omega, fun _ h => by omega, fun q _ => by simp only [Nat.zero_add], fun _ h => by omega⟩
  cbv
  refine ⟨_, _, [some 0, some 1, some 4], ?_, rfl, rfl, ?_, hk⟩
  all_goals (first | (simp [MH, MB, MT, MV, MV.MVs, MC.MCs, MC, renC.renCs, renC, up]; done) | (simp [MH, MB, MT, MV, MV.MVs, MC.MCs, MC, renC.renCs, renC, up]; omega) | (simp [MH, MB, MT, MV, MV.MVs, MC.MCs, MC, renC.renCs, renC, up] <;> omega))
theorem joined_s (W0 : World) (r1 : Bool) (n N : Nat) (c1 c2 : Option Nat) (f G : Nat → Int) (hG : UnderG n n N f f G) (k : V → Heap → Prop) (hk : k (.one (.sl 1 0 N none)) [ints r1 n f, ints true N G]) : ACall Try.prog W0 14 [.one (.sl 0 0 n c1), .one (.sl 0 0 n c2), .one .nils] [ints r1 n f] k := by
  have hN := hG.hN
  have hb := hG.b
  refine m_body tab_ok (fn := Try.f14) (by kernel_rfl) rfl ?_
  intro X hX
  cbv
  refine m_append tab_ok hX n (fun q => [.int .i64 (G q)]) rfl rfl rfl rfl rfl rfl (by decide) rfl rfl rfl ?_ ?_
  · exact ⟨by omega, by omega, by omega, by show n * 8 ≤ _; omega, by omega, fun _ _ => rfl, fun _ h => by omega, fun q hq => by simp only [Nat.zero_add]; rw [hG.g0 q hq]⟩
  cbv
  refine m_append tab_ok hX N (fun q => [.int .i64 (G q)]) rfl rfl rfl rfl rfl rfl (by decide) rfl rfl rfl ?_ ?_
  · exact ⟨by omega, by omega, by omega, by show N * 8 ≤ _; omega, by omega, fun _ _ => rfl, fun q _ => by simp only [Nat.zero_add], fun q hq => by simp only [Nat.zero_add]; rw [hG.g1 q hq]⟩
  cbv
  refine m_append tab_ok hX N (fun q => [.int .i64 (G q)]) rfl rfl rfl rfl rfl rfl (by decide) rfl rfl rfl ?_ ?_
  · exact ⟨by omega, by omega, by omega, by show N * 8 ≤ _; omega, by omega, fun _ h => by omega, fun q _ => by simp only [Nat.zero_add], fun _ h => by omega⟩
  cbv
  refine ⟨_, _, [some 0, some 3], ?_, rfl, rfl, ?_, hk⟩
  all_goals (first | (simp [MH, MB, MT, MV, MV.MVs, MC.MCs, MC, renC.renCs, renC, up]; done) | (simp [MH, MB, MT, MV, MV.MVs, MC.MCs, MC, renC.renCs, renC, up]; omega) | (simp [MH, MB, MT, MV, MV.MVs, MC.MCs, MC, renC.renCs, renC, up] <;> omega))
theorem joined_3 (W0 : World) (r1 r2 : Bool) (n m h S N : Nat) (c1 c2 c3 : Option Nat) (f g G : Nat → Int) (hG : IntoG n m h N f g G) (hS : h + m = S) (k : V → Heap → Prop) (hk : k (.one (.sl 2 0 N none)) [ints r1 n f, ints r2 m g, ints true N G]) : ACall Try.prog W0 14 [.one (.sl 0 0 h c1), .one (.sl 1 0 m c2), .one (.sl 0 h h c3)] [ints r1 n f, ints r2 m g] k := by
  have hN := hG.hN
  have hb := hG.b
  have he := hG.even
  refine m_body tab_ok (fn := Try.f14) (by kernel_rfl) rfl ?_
  intro X hX
  cbv
  refine m_append tab_ok hX h (fun q => [.int .i64 (G q)]) rfl rfl rfl rfl rfl rfl (by decide) rfl rfl rfl ?_ ?_
  · exact ⟨by omega, by omega, by omega, by show h * 8 ≤ _; omega, by omega, fun _ _ => rfl, fun _ h => by omega, fun q hq => by simp only [Nat.zero_add]; rw [hG.g0 q hq]⟩
  cbv
  refine m_append tab_ok hX S (fun q => [.int .i64 (G q)]) rfl rfl rfl rfl rfl rfl (by decide) rfl rfl rfl ?_ ?_
  · exact ⟨by omega, by omega, by omega, by show S * 8 ≤ _; omega, by omega, fun _ _ => rfl, fun q _ => by simp only [Nat.zero_add], fun q hq => by simp only [Nat.zero_add]; rw [hG.g1 q hq]⟩
  cbv
  refine m_append tab_ok hX N (fun q => [.int .i64 (G q)]) rfl rfl rfl rfl rfl rfl (by decide) rfl rfl rfl ?_ ?_
  · exact ⟨by omega, by omega, by omega, by show N * 8 ≤ _; omega, by omega, fun _ _ => rfl, fun q _ => by simp only [Nat.zero_add], fun q hq => by rw [← hS, hG.g2 q hq]⟩
  cbv
  refine ⟨_, _, [some 0, some 1, some 4], ?_, rfl, rfl, ?_, hk⟩
  all_goals (first | (simp [MH, MB, MT, MV, MV.MVs, MC.MCs, MC, renC.renCs, renC, up]; done) | (simp [MH, MB, MT, MV, MV.MVs, MC.MCs, MC, renC.renCs, renC, up]; omega) | (simp [MH, MB, MT, MV, MV.MVs, MC.MCs, MC, renC.renCs, renC, up] <;> omega))
end Go.Proofs.Ytnfoibgafmeenaa.AM
