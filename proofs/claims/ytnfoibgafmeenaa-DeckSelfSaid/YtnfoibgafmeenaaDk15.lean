/- DeckSelf: what the law comes to, as a contract on the abstract machine. No condition but that what it reads is there. -/
import Derived.Test.YtnfoibgafmeenaaDk14
namespace Go.Proofs.Ytnfoibgafmeenaa.AM
open Go Go.RowKit
set_option cbv.warning false
set_option maxRecDepth 100000
set_option linter.unusedVariables false
set_option linter.unusedSimpArgs false
theorem Concat_nil1 (W0 : World) (n : Nat) (f : Nat → Int) (G : Nat → Int) (F : Nat → List C) (h0 : F 0 = [.nils]) (h1 : F 1 = [.sl 1 0 n none]) (hb : n ≤ 8796093022208) (hG : ∀ q, q < n → G q = f q) (c : Option Nat) (k : V → Heap → Prop) (hk : k (.one (.sl 2 0 n none)) [rowS 2 F, ints true n f, ints true n G]) : ACall Try.prog W0 53 [.one (.sl 0 0 2 c)] [rowS 2 F, ints true n f] k := by
  refine m_body tab_ok (fn := Try.f53) (by kernel_rfl) rfl ?_
  intro X hX
  cbv
  have e0 : F (X.nadd 0 (X.toN 0)) = [.nils] := by subst hX; exact h0
  have e1 : F (X.nadd 0 (X.toN (X.bin .add .i64 0 1))) = [.sl 1 0 n none] := by subst hX; exact h1
  refine m_rounds [(), (), ()] tab_ok hX ?_
  refine aloop_step fun L0 hL0 K0 hK0 => ?_
  cbv
  repeat' (first | (refine m_cond_t hX (by first | rfl | assumption | (subst hX; rfl)) ?_; cbv) | (refine m_cond_f hX (by first | rfl | assumption | (subst hX; rfl)) ?_; cbv) | fail)
  refine ⟨by subst hX; exact show (0 : Int) ≤ 0 ∧ (0 : Int) < 2 from by decide, by subst hX; exact show 0 < 2 from by decide, ?_⟩
  rw [e0]
  cbv
  refine m_cond_f hX (by subst hX; rfl) ?_
  cbv
  refine hL0 _ _ ?_
  refine aloop_step fun L1 hL1 K1 hK1 => ?_
  cbv
  repeat' (first | (refine m_cond_t hX (by first | rfl | assumption | (subst hX; rfl)) ?_; cbv) | (refine m_cond_f hX (by first | rfl | assumption | (subst hX; rfl)) ?_; cbv) | fail)
  refine ⟨by subst hX; exact show (0 : Int) ≤ 1 ∧ (1 : Int) < 2 from by decide, by subst hX; exact show 1 < 2 from by decide, ?_⟩
  rw [e1]
  cbv
  refine m_cond_f hX (by subst hX; simp (disch := omega) [std, cmpS, binS, wrap_eq]; try omega) ?_
  cbv
  refine hL1 _ _ ?_
  refine aloop_step fun L hL K hK => ?_
  cbv
  repeat' (first | (refine m_cond_t hX (by first | rfl | assumption | (subst hX; rfl)) ?_; cbv) | (refine m_cond_f hX (by first | rfl | assumption | (subst hX; rfl)) ?_; cbv) | fail)
  refine hK _ _ _ _ ?_
  cbv
  have hsum : IsN (X.bin .add .i64 (X.bin .add .i64 0 0) (X.ofN n)) n := by
    subst hX
    refine ⟨?_⟩
    simp (disch := omega) only [std, binS, wrap_eq]
    omega
  refine m_callf hX [] bodied_65 (fun k2 hk2 => Grow_nil W0 (X.bin .add .i64 (X.bin .add .i64 0 0) (X.ofN n)) n hsum hb k2 (fun _ => 0) hk2) ?_ rfl rfl ?_ ?_
  · simp [MH]
  · simp [MV, MV.MVs, MC]
  cbv
  refine m_rounds [(), (), ()] tab_ok hX ?_
  refine aloop_step fun M0 hM0 N0 hN0 => ?_
  cbv
  repeat' (first | (refine m_cond_t hX (by first | rfl | assumption | (subst hX; rfl)) ?_; cbv) | (refine m_cond_f hX (by first | rfl | assumption | (subst hX; rfl)) ?_; cbv) | fail)
  refine ⟨by subst hX; exact show (0 : Int) ≤ 0 ∧ (0 : Int) < 2 from by decide, by subst hX; exact show 0 < 2 from by decide, ?_⟩
  rw [e0]
  cbv
  refine m_append tab_ok hX 0 (fun q => [.int .i64 (G q)]) rfl rfl rfl rfl rfl rfl (by decide) rfl rfl rfl ?_ ?_
  · refine ⟨by omega, by omega, by omega, by omega, by omega, fun _ h => by omega, fun q hq => by omega, fun q hq => by omega⟩
  cbv
  refine hM0 _ _ ?_
  refine aloop_step fun M1 hM1 N1 hN1 => ?_
  cbv
  repeat' (first | (refine m_cond_t hX (by first | rfl | assumption | (subst hX; rfl)) ?_; cbv) | (refine m_cond_f hX (by first | rfl | assumption | (subst hX; rfl)) ?_; cbv) | fail)
  refine ⟨by subst hX; exact show (0 : Int) ≤ 1 ∧ (1 : Int) < 2 from by decide, by subst hX; exact show 1 < 2 from by decide, ?_⟩
  rw [e1]
  cbv
  refine m_append tab_ok hX n (fun q => [.int .i64 (G q)]) rfl rfl rfl rfl rfl rfl (by decide) rfl rfl rfl ?_ ?_
  · refine ⟨by omega, by omega, by omega, by show n * 8 ≤ _; omega, by omega, fun _ _ => rfl, fun q hq => by omega, fun q hq => ?_⟩
    have := hG q hq
    simp only [Nat.zero_add]
    rw [this]
  cbv
  refine hM1 _ _ ?_
  refine aloop_step fun M hM N hN => ?_
  cbv
  repeat' (first | (refine m_cond_t hX (by first | rfl | assumption | (subst hX; rfl)) ?_; cbv) | (refine m_cond_f hX (by first | rfl | assumption | (subst hX; rfl)) ?_; cbv) | fail)
  refine hN _ _ _ _ ?_
  cbv
  refine ⟨_, _, [some 0, some 1, some 4], ?_, rfl, rfl, ?_, hk⟩
  · refine ⟨⟨rfl, rfl, rfl, Nat.le_refl _, fun q hq => ?_⟩, by simp [MB, MC.MCs, MC], by simp [MB, MC.MCs, MC], trivial⟩
    obtain rfl | rfl : q = 0 ∨ q = 1 := by omega
    · rw [h0]; simp [MC.MCs, MC]
    · rw [h1]; simp [MC.MCs, MC]
  · simp [MV, MC]
theorem list_nil (W0 : World) (k : V → Heap → Prop) (hk : k (.one .nils) []) : ACall Try.prog W0 47 [.one .nilp] [] k := by
  refine m_body tab_ok (fn := Try.f47) (by kernel_rfl) rfl ?_
  intro X hX
  cbv
  repeat' (first | (refine m_cond_t hX (by first | rfl | assumption | (subst hX; rfl)) ?_; cbv) | (refine m_cond_f hX (by first | rfl | assumption | (subst hX; rfl)) ?_; cbv) | fail)
  refine ⟨_, _, [], ?_, rfl, rfl, ?_, hk⟩
  · trivial
  · simp [MV, MC]
theorem Len_nil (W0 : World) (k : V → Heap → Prop) (hk : k (.one (.int .i64 0)) []) : ACall Try.prog W0 16 [.one .nilp] [] k := by
  refine m_body tab_ok (fn := Try.f16) (by kernel_rfl) rfl ?_
  intro X hX
  cbv
  refine m_call hX bodied_47 (list_nil W0 _ ?_)
  cbv
  refine ⟨_, _, [], ?_, rfl, rfl, ?_, hk⟩
  · trivial
  · simp [MV, MC]
theorem Clone_nils (W0 : World) (k : V → Heap → Prop) (hk : k (.one .nils) []) : ACall Try.prog W0 46 [.one .nils] [] k := by
  refine m_body tab_ok (fn := Try.f46) (by kernel_rfl) rfl ?_
  intro X hX
  cbv
  repeat' (first | (refine m_cond_t hX (by first | rfl | assumption | (subst hX; rfl)) ?_; cbv) | (refine m_cond_f hX (by first | rfl | assumption | (subst hX; rfl)) ?_; cbv) | fail)
  refine ⟨_, _, [], ?_, rfl, rfl, ?_, hk⟩
  · trivial
  · simp [MV, MC]
theorem List_nil (W0 : World) (k : V → Heap → Prop) (hk : k (.one .nils) []) : ACall Try.prog W0 18 [.one .nilp] [] k := by
  refine m_body tab_ok (fn := Try.f18) (by kernel_rfl) rfl ?_
  intro X hX
  cbv
  refine m_call hX bodied_47 (list_nil W0 _ ?_)
  cbv
  refine m_call hX bodied_46 (Clone_nils W0 _ ?_)
  cbv
  refine ⟨_, _, [], ?_, rfl, rfl, ?_, hk⟩
  · trivial
  · simp [MV, MC]
theorem Reverse_nils (W0 : World) (k : V → Heap → Prop) (hk : k (.tup []) []) : ACall Try.prog W0 48 [.one .nils] [] k := by
  refine m_body tab_ok (fn := Try.f48) (by kernel_rfl) rfl ?_
  intro X hX
  cbv
  refine m_rounds [()] tab_ok hX ?_
  refine aloop_step fun L hL K hK => ?_
  cbv
  refine m_cond_f hX (by subst hX; rfl) ?_
  cbv
  refine hK _ _ _ _ ?_
  cbv
  refine ⟨_, _, [], ?_, rfl, rfl, ?_, hk⟩
  · trivial
  · trivial
theorem Turn_none (W0 : World) (k : V → Heap → Prop) (hk : k (.tup []) []) : ACall Try.prog W0 19 [.one .nilp, .one .nilf] [] k := by
  refine m_body tab_ok (fn := Try.f19) (by kernel_rfl) rfl ?_
  intro X hX
  cbv
  refine m_call hX bodied_47 (list_nil W0 _ ?_)
  cbv
  refine m_call hX bodied_48 (Reverse_nils W0 _ ?_)
  cbv
  repeat' (first | (refine m_cond_t hX (by first | rfl | assumption | (subst hX; rfl)) ?_; cbv) | (refine m_cond_f hX (by first | rfl | assumption | (subst hX; rfl)) ?_; cbv) | fail)
  refine ⟨_, _, [], ?_, rfl, rfl, ?_, hk⟩
  · trivial
  · trivial
theorem Cut_none (W0 : World) (x : Int) (k : V → Heap → Prop) (hk : k (.one .nilp) []) : ACall Try.prog W0 30 [.one .nilp, .one (.int .i64 x)] [] k := by
  refine m_body tab_ok (fn := Try.f30) (by kernel_rfl) rfl ?_
  intro X hX
  cbv
  repeat' (first | (refine m_cond_t hX (by first | rfl | assumption | (subst hX; rfl)) ?_; cbv) | (refine m_cond_f hX (by first | rfl | assumption | (subst hX; rfl)) ?_; cbv) | fail)
  refine ⟨_, _, [], ?_, rfl, rfl, ?_, hk⟩
  · trivial
  · simp [MV, MC]
theorem Over_none (W0 : World) (n : Nat) (f : Nat → Int) (k : V → Heap → Prop) (hk : k (.tup []) [deckAt 1 n, ints true n f]) : ACall Try.prog W0 36 [.one .nilp, .one (.ptr 0 0 0)] [deckAt 1 n, ints true n f] k := by
  refine m_body tab_ok (fn := Try.f36) (by kernel_rfl) rfl ?_
  intro X hX
  cbv
  repeat' (first | (refine m_cond_t hX (by first | rfl | assumption | (subst hX; rfl)) ?_; cbv) | (refine m_cond_f hX (by first | rfl | assumption | (subst hX; rfl)) ?_; cbv) | fail)
  refine ⟨_, _, [some 0, some 1], ?_, rfl, rfl, ?_, hk⟩
  all_goals (first | (simp [MH, MB, MT, MV, MV.MVs, MC.MCs, MC, renC.renCs, renC, up]; done) | (simp [MH, MB, MT, MV, MV.MVs, MC.MCs, MC, renC.renCs, renC, up]; omega) | (simp [MH, MB, MT, MV, MV.MVs, MC.MCs, MC, renC.renCs, renC, up] <;> omega))
theorem Under_none (W0 : World) (n : Nat) (f : Nat → Int) (k : V → Heap → Prop) (hk : k (.tup []) [deckAt 1 n, ints true n f]) : ACall Try.prog W0 31 [.one .nilp, .one (.ptr 0 0 0)] [deckAt 1 n, ints true n f] k := by
  refine m_body tab_ok (fn := Try.f31) (by kernel_rfl) rfl ?_
  intro X hX
  cbv
  repeat' (first | (refine m_cond_t hX (by first | rfl | assumption | (subst hX; rfl)) ?_; cbv) | (refine m_cond_f hX (by first | rfl | assumption | (subst hX; rfl)) ?_; cbv) | fail)
  refine ⟨_, _, [some 0, some 1], ?_, rfl, rfl, ?_, hk⟩
  all_goals (first | (simp [MH, MB, MT, MV, MV.MVs, MC.MCs, MC, renC.renCs, renC, up]; done) | (simp [MH, MB, MT, MV, MV.MVs, MC.MCs, MC, renC.renCs, renC, up]; omega) | (simp [MH, MB, MT, MV, MV.MVs, MC.MCs, MC, renC.renCs, renC, up] <;> omega))
theorem Into_none (W0 : World) (n : Nat) (f : Nat → Int) (k : V → Heap → Prop) (hk : k (.one (.bool false)) [deckAt 1 n, ints true n f]) : ACall Try.prog W0 37 [.one .nilp, .one (.ptr 0 0 0)] [deckAt 1 n, ints true n f] k := by
  refine m_body tab_ok (fn := Try.f37) (by kernel_rfl) rfl ?_
  intro X hX
  cbv
  refine m_callf hX [] bodied_16 (fun k2 hk2 => Len_nil W0 k2 hk2) ?_ rfl rfl ?_ ?_
  · (first | (simp [MH, MB, MT, MV, MV.MVs, MC.MCs, MC, renC.renCs, renC, up]; done) | (simp [MH, MB, MT, MV, MV.MVs, MC.MCs, MC, renC.renCs, renC, up]; omega) | (simp [MH, MB, MT, MV, MV.MVs, MC.MCs, MC, renC.renCs, renC, up] <;> omega))
  · simp [MV, MV.MVs, MC]
  cbv
  refine ⟨by subst hX; exact show (2 : Int) ≠ 0 from by decide, ?_⟩
  repeat' (first | (refine m_cond_t hX (by first | rfl | assumption | (subst hX; rfl)) ?_; cbv) | (refine m_cond_f hX (by first | rfl | assumption | (subst hX; rfl)) ?_; cbv) | fail)
  refine ⟨_, _, [some 0, some 1], ?_, rfl, rfl, ?_, hk⟩
  all_goals (first | (simp [MH, MB, MT, MV, MV.MVs, MC.MCs, MC, renC.renCs, renC, up]; done) | (simp [MH, MB, MT, MV, MV.MVs, MC.MCs, MC, renC.renCs, renC, up]; omega) | (simp [MH, MB, MT, MV, MV.MVs, MC.MCs, MC, renC.renCs, renC, up] <;> omega))
theorem Over_self (W0 : World) (n N : Nat) (f G : Nat → Int) (hG : UnderG n n N f f G)
    (k : V → Heap → Prop) (hk : k (.tup []) [deckAt 2 N, ints true n f, ints true N G]) : ACall Try.prog W0 36 [.one (.ptr 0 0 0), .one (.ptr 0 0 0)] [deckAt 1 n, ints true n f] k := by
  refine m_body tab_ok (fn := Try.f36) (by kernel_rfl) rfl ?_
  intro X hX
  cbv
  repeat' (first | (refine m_cond_t hX (by first | rfl | assumption | (subst hX; rfl)) ?_; cbv) | (refine m_cond_f hX (by first | rfl | assumption | (subst hX; rfl)) ?_; cbv) | fail)
  refine m_drawT tab_ok hX [] [2,6,8,11] (.one 0 0 (.one 1 0 (.one 3 0 (.one 4 0 (.one 5 0 (.two 2 3 (.one 6 3 (.one 7 2 (.one 8 3 (.one 9 0 (.one 10 0 (.one 11 3 .fin)))))) 6 3 (.one 2 3 (.one 7 2 (.one 8 3 (.one 9 0 (.one 10 0 (.one 11 3 .fin)))))))))))) (by kernel_rfl) (by simp) ?_
  cbv
  refine And.intro ?_ ?_
  all_goals
    refine m_callf hX [0, 1] bodied_47 (fun k2 hk2 => list_c W0 n f k2 hk2) ?_ rfl rfl ?_ ?_
    · simp [MH, MB, MC.MCs, MC, renC.renCs, renC, up]
    · simp [MV, MV.MVs, MC]
    cbv
    refine m_callf hX [2, 1] bodied_53 (fun k2 hk2 => Concat_self W0 n f N G (fun q => match q with | 0 => [.sl 1 0 n none] | _ => [.sl 1 0 n none]) rfl rfl
      hG.hN hG.b hG.g0 hG.g1 (some 2) k2 hk2) ?_ rfl rfl ?_ ?_
    · refine And.intro (And.intro rfl (And.intro rfl (And.intro rfl (And.intro (Nat.le_refl _) fun q hq3 => ?_)))) (And.intro (by all_goals simp [MB, MC.MCs, MC, renC.renCs, renC, up]) trivial)
      obtain rfl | rfl : q = 0 ∨ q = 1 := by omega
      · show MC.MCs _ [.sl 1 0 n none] [.sl 1 0 n none]
        exact ⟨⟨rfl, rfl, rfl, .inl rfl⟩, trivial⟩
      · show MC.MCs _ [.sl 1 0 n none] [.sl 1 0 n none]
        exact ⟨⟨rfl, rfl, rfl, .inl rfl⟩, trivial⟩
    · simp [MV.MVs, MV, MC]
    cbv
    refine ⟨_, _, [some 0, some 1, some 3], ?_, rfl, rfl, ?_, hk⟩
    · simp [MH, MB, MC.MCs, MC, renC.renCs, renC, up]
    · simp [MV, MV.MVs, MC]
theorem Under_self (W0 : World) (n N : Nat) (f G : Nat → Int) (hG : UnderG n n N f f G)
    (k : V → Heap → Prop) (hk : k (.tup []) [deckAt 2 N, ints true n f, ints true N G]) : ACall Try.prog W0 31 [.one (.ptr 0 0 0), .one (.ptr 0 0 0)] [deckAt 1 n, ints true n f] k := by
  refine m_body tab_ok (fn := Try.f31) (by kernel_rfl) rfl ?_
  intro X hX
  cbv
  repeat' (first | (refine m_cond_t hX (by first | rfl | assumption | (subst hX; rfl)) ?_; cbv) | (refine m_cond_f hX (by first | rfl | assumption | (subst hX; rfl)) ?_; cbv) | fail)
  refine m_drawT tab_ok hX [] [4,6,8,11] (.one 0 0 (.one 1 0 (.one 2 0 (.one 3 0 (.one 5 0 (.two 4 3 (.one 6 3 (.one 7 2 (.one 8 3 (.one 9 0 (.one 10 0 (.one 11 3 .fin)))))) 6 3 (.one 4 3 (.one 7 2 (.one 8 3 (.one 9 0 (.one 10 0 (.one 11 3 .fin)))))))))))) (by kernel_rfl) (by simp) ?_
  cbv
  refine And.intro ?_ ?_
  all_goals
    refine m_callf hX [0, 1] bodied_47 (fun k2 hk2 => list_c W0 n f k2 hk2) ?_ rfl rfl ?_ ?_
    · simp [MH, MB, MC.MCs, MC, renC.renCs, renC, up]
    · simp [MV, MV.MVs, MC]
    cbv
    refine m_callf hX [2, 1] bodied_53 (fun k2 hk2 => Concat_self W0 n f N G (fun q => match q with | 0 => [.sl 1 0 n none] | _ => [.sl 1 0 n none]) rfl rfl
      hG.hN hG.b hG.g0 hG.g1 (some 2) k2 hk2) ?_ rfl rfl ?_ ?_
    · refine And.intro (And.intro rfl (And.intro rfl (And.intro rfl (And.intro (Nat.le_refl _) fun q hq3 => ?_)))) (And.intro (by all_goals simp [MB, MC.MCs, MC, renC.renCs, renC, up]) trivial)
      obtain rfl | rfl : q = 0 ∨ q = 1 := by omega
      · show MC.MCs _ [.sl 1 0 n none] [.sl 1 0 n none]
        exact ⟨⟨rfl, rfl, rfl, .inl rfl⟩, trivial⟩
      · show MC.MCs _ [.sl 1 0 n none] [.sl 1 0 n none]
        exact ⟨⟨rfl, rfl, rfl, .inl rfl⟩, trivial⟩
    · simp [MV.MVs, MV, MC]
    cbv
    refine ⟨_, _, [some 0, some 1, some 3], ?_, rfl, rfl, ?_, hk⟩
    · simp [MH, MB, MC.MCs, MC, renC.renCs, renC, up]
    · simp [MV, MV.MVs, MC]
theorem Over_nilarg (W0 : World) (n : Nat) (f G : Nat → Int) (hb : n ≤ 8796093022208) (hG : ∀ q, q < n → G q = f q)
    (k : V → Heap → Prop) (hk : k (.tup []) [deckAt 2 n, ints true n f, ints true n G]) : ACall Try.prog W0 36 [.one (.ptr 0 0 0), .one .nilp] [deckAt 1 n, ints true n f] k := by
  refine m_body tab_ok (fn := Try.f36) (by kernel_rfl) rfl ?_
  intro X hX
  cbv
  repeat' (first | (refine m_cond_t hX (by first | rfl | assumption | (subst hX; rfl)) ?_; cbv) | (refine m_cond_f hX (by first | rfl | assumption | (subst hX; rfl)) ?_; cbv) | fail)
  refine m_draw tab_ok hX [] [8, 11] [(0,0),(1,0),(3,0),(4,0),(5,0),(6,1),(2,2),(7,2),(8,3),(9,0),(10,0),(11,3)] (by kernel_rfl) (by simp) ?_
  cbv
  refine m_callf hX [] bodied_47 (fun k2 hk2 => list_nil W0 k2 hk2) ?_ rfl rfl ?_ ?_
  · (first | (simp [MH, MB, MT, MV, MV.MVs, MC.MCs, MC, renC.renCs, renC, up]; done) | (simp [MH, MB, MT, MV, MV.MVs, MC.MCs, MC, renC.renCs, renC, up]; omega) | (simp [MH, MB, MT, MV, MV.MVs, MC.MCs, MC, renC.renCs, renC, up] <;> omega))
  · simp [MV, MV.MVs, MC]
  cbv
  refine m_callf hX [2, 1] bodied_53 (fun k2 hk2 => Concat_nil1 W0 n f G (fun q => match q with | 0 => [.nils] | _ => [.sl 1 0 n none]) rfl rfl
    hb hG (some 2) k2 hk2) ?_ rfl rfl ?_ ?_
  · refine And.intro (And.intro rfl (And.intro rfl (And.intro rfl (And.intro (Nat.le_refl _) fun q hq3 => ?_)))) (And.intro (by all_goals simp [MB, MC.MCs, MC, renC.renCs, renC, up]) trivial)
    obtain rfl | rfl : q = 0 ∨ q = 1 := by omega
    · show MC.MCs _ [.nils] [.nils]
      exact ⟨trivial, trivial⟩
    · show MC.MCs _ [.sl 1 0 n none] [.sl 1 0 n none]
      exact ⟨⟨rfl, rfl, rfl, .inl rfl⟩, trivial⟩
  · simp [MV.MVs, MV, MC]
  cbv
  refine ⟨_, _, [some 0, some 1, some 3], ?_, rfl, rfl, ?_, hk⟩
  · simp [MH, MB, MC.MCs, MC, renC.renCs, renC, up]
  · simp [MV, MV.MVs, MC]
theorem DeckSelf_in (W0 : World) (r1 r2 : Bool) (n m N M : Nat) (c1 c2 : Option Nat) (f g G1 G2 : Nat → Int) (hn : n ≤ 40) (hm : m ≤ 40) (hG1 : UnderG n n N f f G1) (hG2 : UnderG m m M g g G2) (k : V → Heap → Prop) (hk : k (.one (.bool true)) [ints r1 n f, ints r2 m g]) : ACall Try.prog W0 10 [.one (.sl 0 0 n c1), .one (.sl 1 0 m c2)] [ints r1 n f, ints r2 m g] k := by
  have hN := hG1.hN
  have hM := hG2.hN
  have f1 : ¬ (40 : Int) < (n : Int) := by omega
  have f2 : ¬ (40 : Int) < (m : Int) := by omega
  refine m_body tab_ok (fn := Try.f10) (by kernel_rfl) rfl ?_
  intro X hX
  cbv
  refine m_callf hX [] bodied_13 (fun k2 hk2 => alive_c W0 k2 hk2) ?_ rfl rfl ?_ ?_
  · (first | (simp [MH, MB, MT, MV, MV.MVs, MC.MCs, MC, renC.renCs, renC, up]; done) | (simp [MH, MB, MT, MV, MV.MVs, MC.MCs, MC, renC.renCs, renC, up]; omega) | (simp [MH, MB, MT, MV, MV.MVs, MC.MCs, MC, renC.renCs, renC, up] <;> omega))
  · simp [MV, MV.MVs, MC]
  cbv
  repeat' (first | (refine m_cond_t hX (by first | rfl | assumption | (subst hX; rfl)) ?_; cbv) | (refine m_cond_f hX (by first | rfl | assumption | (subst hX; rfl)) ?_; cbv) | fail)
  repeat' (first | (refine m_cond_t hX (by first | rfl | assumption | (subst_vars; simp [std, cmpS, binS, f1, f2]; done) | fail) ?_; cbv) | (refine m_cond_f hX (by first | rfl | assumption | (subst_vars; simp [std, cmpS, binS, f1, f2]; done) | fail) ?_; cbv) | (refine And.intro (by first | rfl | assumption | (subst_vars; simp [std, cmpS, binS, f1, f2]; done) | fail) ?_) | fail)
  refine m_callf hX [0] bodied_15 (fun k2 hk2 => Of_G W0 r1 n 0 n c1 f f (by simp) (by omega) (fun q _ => by rw [Nat.zero_add]) k2 hk2) ?_ rfl rfl ?_ ?_
  · (first | (simp [MH, MB, MT, MV, MV.MVs, MC.MCs, MC, renC.renCs, renC, up]; done) | (simp [MH, MB, MT, MV, MV.MVs, MC.MCs, MC, renC.renCs, renC, up]; omega) | (simp [MH, MB, MT, MV, MV.MVs, MC.MCs, MC, renC.renCs, renC, up] <;> omega))
  · simp [MV, MV.MVs, MC]
  cbv
  refine m_callf hX [1] bodied_15 (fun k2 hk2 => Of_G W0 r2 m 0 m c2 g g (by simp) (by omega) (fun q _ => by rw [Nat.zero_add]) k2 hk2) ?_ rfl rfl ?_ ?_
  · (first | (simp [MH, MB, MT, MV, MV.MVs, MC.MCs, MC, renC.renCs, renC, up]; done) | (simp [MH, MB, MT, MV, MV.MVs, MC.MCs, MC, renC.renCs, renC, up]; omega) | (simp [MH, MB, MT, MV, MV.MVs, MC.MCs, MC, renC.renCs, renC, up] <;> omega))
  · simp [MV, MV.MVs, MC]
  cbv
  refine m_callf hX [2, 3] bodied_36 (fun k2 hk2 => Over_self W0 n N f G1 hG1 k2 hk2) ?_ rfl rfl ?_ ?_
  · (first | (simp [MH, MB, MT, MV, MV.MVs, MC.MCs, MC, renC.renCs, renC, up]; done) | (simp [MH, MB, MT, MV, MV.MVs, MC.MCs, MC, renC.renCs, renC, up]; omega) | (simp [MH, MB, MT, MV, MV.MVs, MC.MCs, MC, renC.renCs, renC, up] <;> omega))
  · simp [MV, MV.MVs, MC]
  cbv
  refine m_callf hX [4, 5] bodied_31 (fun k2 hk2 => Under_self W0 m M g G2 hG2 k2 hk2) ?_ rfl rfl ?_ ?_
  · (first | (simp [MH, MB, MT, MV, MV.MVs, MC.MCs, MC, renC.renCs, renC, up]; done) | (simp [MH, MB, MT, MV, MV.MVs, MC.MCs, MC, renC.renCs, renC, up]; omega) | (simp [MH, MB, MT, MV, MV.MVs, MC.MCs, MC, renC.renCs, renC, up] <;> omega))
  · simp [MV, MV.MVs, MC]
  cbv
  refine m_callf hX [2, 6] bodied_36 (fun k2 hk2 => Over_none W0 N G1 k2 hk2) ?_ rfl rfl ?_ ?_
  · (first | (simp [MH, MB, MT, MV, MV.MVs, MC.MCs, MC, renC.renCs, renC, up]; done) | (simp [MH, MB, MT, MV, MV.MVs, MC.MCs, MC, renC.renCs, renC, up]; omega) | (simp [MH, MB, MT, MV, MV.MVs, MC.MCs, MC, renC.renCs, renC, up] <;> omega))
  · simp [MV, MV.MVs, MC]
  cbv
  refine m_callf hX [2, 6] bodied_31 (fun k2 hk2 => Under_none W0 N G1 k2 hk2) ?_ rfl rfl ?_ ?_
  · (first | (simp [MH, MB, MT, MV, MV.MVs, MC.MCs, MC, renC.renCs, renC, up]; done) | (simp [MH, MB, MT, MV, MV.MVs, MC.MCs, MC, renC.renCs, renC, up]; omega) | (simp [MH, MB, MT, MV, MV.MVs, MC.MCs, MC, renC.renCs, renC, up] <;> omega))
  · simp [MV, MV.MVs, MC]
  cbv
  refine m_callf hX [] bodied_19 (fun k2 hk2 => Turn_none W0 k2 hk2) ?_ rfl rfl ?_ ?_
  · (first | (simp [MH, MB, MT, MV, MV.MVs, MC.MCs, MC, renC.renCs, renC, up]; done) | (simp [MH, MB, MT, MV, MV.MVs, MC.MCs, MC, renC.renCs, renC, up]; omega) | (simp [MH, MB, MT, MV, MV.MVs, MC.MCs, MC, renC.renCs, renC, up] <;> omega))
  · simp [MV, MV.MVs, MC]
  cbv
  refine m_callf hX [4, 7] bodied_36 (fun k2 hk2 => Over_nilarg W0 M G2 G2 (by omega) (fun _ _ => rfl) k2 hk2) ?_ rfl rfl ?_ ?_
  · (first | (simp [MH, MB, MT, MV, MV.MVs, MC.MCs, MC, renC.renCs, renC, up]; done) | (simp [MH, MB, MT, MV, MV.MVs, MC.MCs, MC, renC.renCs, renC, up]; omega) | (simp [MH, MB, MT, MV, MV.MVs, MC.MCs, MC, renC.renCs, renC, up] <;> omega))
  · simp [MV, MV.MVs, MC]
  cbv
  refine m_callf hX [2, 6] bodied_18 (fun k2 hk2 => List_c W0 N G1 (by omega) k2 hk2) ?_ rfl rfl ?_ ?_
  · (first | (simp [MH, MB, MT, MV, MV.MVs, MC.MCs, MC, renC.renCs, renC, up]; done) | (simp [MH, MB, MT, MV, MV.MVs, MC.MCs, MC, renC.renCs, renC, up]; omega) | (simp [MH, MB, MT, MV, MV.MVs, MC.MCs, MC, renC.renCs, renC, up] <;> omega))
  · simp [MV, MV.MVs, MC]
  cbv
  refine m_callf hX [0] bodied_14 (fun k2 hk2 => joined_s W0 r1 n N c1 c1 f G1 hG1 k2 hk2) ?_ rfl rfl ?_ ?_
  · (first | (simp [MH, MB, MT, MV, MV.MVs, MC.MCs, MC, renC.renCs, renC, up]; done) | (simp [MH, MB, MT, MV, MV.MVs, MC.MCs, MC, renC.renCs, renC, up]; omega) | (simp [MH, MB, MT, MV, MV.MVs, MC.MCs, MC, renC.renCs, renC, up] <;> omega))
  · simp [MV, MV.MVs, MC]
  cbv
  refine m_callq hX [9, 10] bodied_17 (fun k2 hk2 => Ints_c W0 true true N N none none G1 G1 (by omega) k2 hk2) ?_ rfl rfl ?_ ?_
  · (first | (simp [MH, MB, MT, MV, MV.MVs, MC.MCs, MC, renC.renCs, renC, up]; done) | (simp [MH, MB, MT, MV, MV.MVs, MC.MCs, MC, renC.renCs, renC, up]; omega) | (simp [MH, MB, MT, MV, MV.MVs, MC.MCs, MC, renC.renCs, renC, up] <;> omega))
  · simp [MV, MV.MVs, MC]
  intro b hb
  obtain rfl : b = true := hb.2 ⟨rfl, fun _ _ => rfl⟩
  cbv
  repeat' (first | (refine m_cond_t hX (by first | rfl | assumption | (subst hX; rfl)) ?_; cbv) | (refine m_cond_f hX (by first | rfl | assumption | (subst hX; rfl)) ?_; cbv) | fail)
  refine m_callf hX [4, 8] bodied_18 (fun k2 hk2 => List_c W0 M G2 (by omega) k2 hk2) ?_ rfl rfl ?_ ?_
  · (first | (simp [MH, MB, MT, MV, MV.MVs, MC.MCs, MC, renC.renCs, renC, up]; done) | (simp [MH, MB, MT, MV, MV.MVs, MC.MCs, MC, renC.renCs, renC, up]; omega) | (simp [MH, MB, MT, MV, MV.MVs, MC.MCs, MC, renC.renCs, renC, up] <;> omega))
  · simp [MV, MV.MVs, MC]
  cbv
  repeat' (first | (refine m_cond_t hX (by first | rfl | assumption | (subst hX; rfl)) ?_; cbv) | (refine m_cond_f hX (by first | rfl | assumption | (subst hX; rfl)) ?_; cbv) | fail)
  refine m_callf hX [1] bodied_14 (fun k2 hk2 => joined_s W0 r2 m M c2 c2 g G2 hG2 k2 hk2) ?_ rfl rfl ?_ ?_
  · (first | (simp [MH, MB, MT, MV, MV.MVs, MC.MCs, MC, renC.renCs, renC, up]; done) | (simp [MH, MB, MT, MV, MV.MVs, MC.MCs, MC, renC.renCs, renC, up]; omega) | (simp [MH, MB, MT, MV, MV.MVs, MC.MCs, MC, renC.renCs, renC, up] <;> omega))
  · simp [MV, MV.MVs, MC]
  cbv
  repeat' (first | (refine m_cond_t hX (by first | rfl | assumption | (subst hX; rfl)) ?_; cbv) | (refine m_cond_f hX (by first | rfl | assumption | (subst hX; rfl)) ?_; cbv) | fail)
  refine m_callq hX [11, 12] bodied_17 (fun k2 hk2 => Ints_c W0 true true M M none none G2 G2 (by omega) k2 hk2) ?_ rfl rfl ?_ ?_
  · (first | (simp [MH, MB, MT, MV, MV.MVs, MC.MCs, MC, renC.renCs, renC, up]; done) | (simp [MH, MB, MT, MV, MV.MVs, MC.MCs, MC, renC.renCs, renC, up]; omega) | (simp [MH, MB, MT, MV, MV.MVs, MC.MCs, MC, renC.renCs, renC, up] <;> omega))
  · simp [MV, MV.MVs, MC]
  intro b hb
  obtain rfl : b = true := hb.2 ⟨rfl, fun _ _ => rfl⟩
  cbv
  repeat' (first | (refine m_cond_t hX (by first | rfl | assumption | (subst hX; rfl)) ?_; cbv) | (refine m_cond_f hX (by first | rfl | assumption | (subst hX; rfl)) ?_; cbv) | fail)
  refine m_callf hX [] bodied_16 (fun k2 hk2 => Len_nil W0 k2 hk2) ?_ rfl rfl ?_ ?_
  · (first | (simp [MH, MB, MT, MV, MV.MVs, MC.MCs, MC, renC.renCs, renC, up]; done) | (simp [MH, MB, MT, MV, MV.MVs, MC.MCs, MC, renC.renCs, renC, up]; omega) | (simp [MH, MB, MT, MV, MV.MVs, MC.MCs, MC, renC.renCs, renC, up] <;> omega))
  · simp [MV, MV.MVs, MC]
  cbv
  repeat' (first | (refine m_cond_t hX (by first | rfl | assumption | (subst hX; rfl)) ?_; cbv) | (refine m_cond_f hX (by first | rfl | assumption | (subst hX; rfl)) ?_; cbv) | fail)
  refine m_callf hX [] bodied_18 (fun k2 hk2 => List_nil W0 k2 hk2) ?_ rfl rfl ?_ ?_
  · (first | (simp [MH, MB, MT, MV, MV.MVs, MC.MCs, MC, renC.renCs, renC, up]; done) | (simp [MH, MB, MT, MV, MV.MVs, MC.MCs, MC, renC.renCs, renC, up]; omega) | (simp [MH, MB, MT, MV, MV.MVs, MC.MCs, MC, renC.renCs, renC, up] <;> omega))
  · simp [MV, MV.MVs, MC]
  cbv
  repeat' (first | (refine m_cond_t hX (by first | rfl | assumption | (subst hX; rfl)) ?_; cbv) | (refine m_cond_f hX (by first | rfl | assumption | (subst hX; rfl)) ?_; cbv) | fail)
  refine m_callf hX [2, 6] bodied_37 (fun k2 hk2 => Into_none W0 N G1 k2 hk2) ?_ rfl rfl ?_ ?_
  · (first | (simp [MH, MB, MT, MV, MV.MVs, MC.MCs, MC, renC.renCs, renC, up]; done) | (simp [MH, MB, MT, MV, MV.MVs, MC.MCs, MC, renC.renCs, renC, up]; omega) | (simp [MH, MB, MT, MV, MV.MVs, MC.MCs, MC, renC.renCs, renC, up] <;> omega))
  · simp [MV, MV.MVs, MC]
  cbv
  repeat' (first | (refine m_cond_t hX (by first | rfl | assumption | (subst hX; rfl)) ?_; cbv) | (refine m_cond_f hX (by first | rfl | assumption | (subst hX; rfl)) ?_; cbv) | fail)
  refine m_callf hX [] bodied_30 (fun k2 hk2 => Cut_none W0 1 k2 hk2) ?_ rfl rfl ?_ ?_
  · (first | (simp [MH, MB, MT, MV, MV.MVs, MC.MCs, MC, renC.renCs, renC, up]; done) | (simp [MH, MB, MT, MV, MV.MVs, MC.MCs, MC, renC.renCs, renC, up]; omega) | (simp [MH, MB, MT, MV, MV.MVs, MC.MCs, MC, renC.renCs, renC, up] <;> omega))
  · simp [MV, MV.MVs, MC]
  cbv
  repeat' (first | (refine m_cond_t hX (by first | rfl | assumption | (subst hX; rfl)) ?_; cbv) | (refine m_cond_f hX (by first | rfl | assumption | (subst hX; rfl)) ?_; cbv) | fail)
  refine ⟨_, _, [some 0, some 1], ?_, rfl, rfl, ?_, hk⟩
  · simp [MH, MB, MC.MCs, MC, renC.renCs, renC, up]
  · simp [MV, MC] <;> (subst hX; rfl)
theorem DeckSelf_big (W0 : World) (r1 r2 : Bool) (n m : Nat) (c1 c2 : Option Nat) (f g : Nat → Int) (hb : 40 < n ∨ 40 < m) (k : V → Heap → Prop) (hk : k (.one (.bool true)) [ints r1 n f, ints r2 m g]) : ACall Try.prog W0 10 [.one (.sl 0 0 n c1), .one (.sl 1 0 m c2)] [ints r1 n f, ints r2 m g] k := by
  refine m_body tab_ok (fn := Try.f10) (by kernel_rfl) rfl ?_
  intro X hX
  cbv
  refine m_callf hX [] bodied_13 (fun k2 hk2 => alive_c W0 k2 hk2) ?_ rfl rfl ?_ ?_
  · (first | (simp [MH, MB, MT, MV, MV.MVs, MC.MCs, MC, renC.renCs, renC, up]; done) | (simp [MH, MB, MT, MV, MV.MVs, MC.MCs, MC, renC.renCs, renC, up]; omega) | (simp [MH, MB, MT, MV, MV.MVs, MC.MCs, MC, renC.renCs, renC, up] <;> omega))
  · simp [MV, MV.MVs, MC]
  cbv
  repeat' (first | (refine m_cond_t hX (by first | rfl | assumption | (subst hX; rfl)) ?_; cbv) | (refine m_cond_f hX (by first | rfl | assumption | (subst hX; rfl)) ?_; cbv) | fail)
  refine m_cond hX (fun h => ?_) (fun h => ?_) <;> cbv
  ·
    repeat' (first | (refine m_cond_t hX (by first | rfl | assumption | (subst hX; rfl)) ?_; cbv) | (refine m_cond_f hX (by first | rfl | assumption | (subst hX; rfl)) ?_; cbv) | fail)
    refine ⟨_, _, [some 0, some 1], ?_, rfl, rfl, ?_, hk⟩
    · simp [MH, MB, MC.MCs, MC, renC.renCs, renC, up]
    · simp [MV, MC]
  · have hm : 40 < m := by
      have : ¬ (40 : Int) < (n : Int) := by subst hX; simpa [std, cmpS] using h
      omega
    have f2 : (40 : Int) < (m : Int) := by omega
    repeat' (first | (refine m_cond_t hX (by first | rfl | assumption | (subst hX; rfl)) ?_; cbv) | (refine m_cond_f hX (by first | rfl | assumption | (subst hX; rfl)) ?_; cbv) | fail)
    refine m_cond_t hX (by subst hX; simp [std, cmpS] at h ⊢; first | omega | (right; omega) | simp [f2]) ?_
    cbv
    refine ⟨_, _, [some 0, some 1], ?_, rfl, rfl, ?_, hk⟩
    · simp [MH, MB, MC.MCs, MC, renC.renCs, renC, up]
    · simp [MV, MC]
theorem DeckSelf_c (W0 : World) (r1 r2 : Bool) (n m : Nat) (c1 c2 : Option Nat) (f g : Nat → Int) (k : V → Heap → Prop) (hk : k (.one (.bool true)) [ints r1 n f, ints r2 m g]) : ACall Try.prog W0 10 [.one (.sl 0 0 n c1), .one (.sl 1 0 m c2)] [ints r1 n f, ints r2 m g] k := by
  by_cases hb : 40 < n ∨ 40 < m
  · exact DeckSelf_big W0 r1 r2 n m c1 c2 f g hb k hk
  · obtain ⟨G1, hG1⟩ := under_ex n n f f (by omega)
    obtain ⟨G2, hG2⟩ := under_ex m m g g (by omega)
    exact DeckSelf_in W0 r1 r2 n m _ _ c1 c2 f g G1 G2 (by omega) (by omega) hG1 hG2 k hk
end Go.Proofs.Ytnfoibgafmeenaa.AM
