/- What turning a deck over comes to, as contracts on the abstract machine. No condition but that what they read is there. -/
import Derived.Test.YtnfoibgafmeenaaDk2
namespace Go.Proofs.Ytnfoibgafmeenaa.AM
open Go Go.RowKit
set_option cbv.warning false
set_option maxRecDepth 100000
set_option linter.unusedVariables false
set_option linter.unusedSimpArgs false
theorem Turn_nil (W0 : World) (n : Nat) (f : Nat → Int) (hn : n ≤ 17592186044416) (k : V → Heap → Prop) (hk : k (.tup []) [deck n, ints true n fun q => f (n - 1 - q)]) : ACall Try.prog W0 19 [.one (.ptr 0 0 0), .one .nilf] [deck n, ints true n f] k := by
  refine m_body tab_ok (fn := Try.f19) (by kernel_rfl) rfl ?_
  intro X hX
  cbv
  refine m_call hX bodied_47 (list_c W0 n f _ ?_)
  cbv
  refine m_callf hX [1] bodied_48 (fun k2 h => Reverse_c W0 n none f hn k2 h) ?_ rfl rfl ?_ ?_
  · simp [MH, MB, MC.MCs, MC]
  · simp [MV, MV.MVs, MC]
  cbv
  repeat' (first | (refine m_cond_t hX (by first | rfl | assumption | (subst hX; rfl)) ?_; cbv) | (refine m_cond_f hX (by first | rfl | assumption | (subst hX; rfl)) ?_; cbv) | fail)
  refine ⟨_, _, [some 0, some 1], ?_, rfl, rfl, ?_, hk⟩
  all_goals (first | (simp [MH, MB, MT, MV, MV.MVs, MC.MCs, MC, renC.renCs, renC, up]; done) | (simp [MH, MB, MT, MV, MV.MVs, MC.MCs, MC, renC.renCs, renC, up]; omega) | (simp [MH, MB, MT, MV, MV.MVs, MC.MCs, MC, renC.renCs, renC, up] <;> omega))
def turnF (n : Nat) (f : Nat → Int) (a : Nat) (q : Nat) : Int := if q < a then IntKind.i64.wrap (0 - f (n - 1 - q)) else f (n - 1 - q)
structure TurnI (n : Nat) (f : Nat → Int) (a : Nat) (i : Int) (g : Nat → Int) : Prop where
  h1 : a ≤ n
  h2 : i = a
  h3 : ∀ q, q < n → g q = turnF n f a q
theorem Turn_neg (W0 : World) (n : Nat) (f : Nat → Int) (hn : n ≤ 17592186044416) (k : V → Heap → Prop) (hk : k (.tup []) [deck n, ints true n (backF n f true)]) : ACall Try.prog W0 19 [.one (.ptr 0 0 0), .one (.fn 21 [])] [deck n, ints true n f] k := by
  refine m_body tab_ok (fn := Try.f19) (by kernel_rfl) rfl ?_
  intro X hX
  cbv
  refine m_call hX bodied_47 (list_c W0 n f _ ?_)
  cbv
  refine m_callf hX [1] bodied_48 (fun k2 h => Reverse_c W0 n none f hn k2 h) ?_ rfl rfl ?_ ?_
  · simp [MH, MB, MC.MCs, MC]
  · simp [MV, MV.MVs, MC]
  cbv
  repeat' (first | (refine m_cond_t hX (by first | rfl | assumption | (subst hX; rfl)) ?_; cbv) | (refine m_cond_f hX (by first | rfl | assumption | (subst hX; rfl)) ?_; cbv) | fail)
  refine m_callf hX [0, 1] bodied_47 (fun k2 h => list_c W0 n (fun q => f (n - 1 - q)) k2 h) ?_ rfl rfl ?_ ?_
  · all_goals (first | (simp [MH, MB, MT, MV, MV.MVs, MC.MCs, MC, renC.renCs, renC, up]; done) | (simp [MH, MB, MT, MV, MV.MVs, MC.MCs, MC, renC.renCs, renC, up]; omega) | (simp [MH, MB, MT, MV, MV.MVs, MC.MCs, MC, renC.renCs, renC, up] <;> omega))
  · simp [MV, MV.MVs, MC]
  cbv
  refine m_loop tab_ok hX (fun b : Nat × Int × (Nat → Int) => TurnI n f b.1 b.2.1 b.2.2) (fun b => ([.one (.ptr 0 0 0), .one (.fn 21 [])] ++ List.replicate 10 (.one .undef) ++ [.one (.sl 1 0 n none), .one (.int .i64 n), .one (.int .i64 b.2.1)] ++ List.replicate 14 (.one .undef), [deck n, ints true n b.2.2])) (fun b => n - b.1) ?_ ?_
  · refine ⟨⟨0, 0, fun q => f (n - 1 - q)⟩, ⟨by omega, rfl, fun _ _ => rfl⟩, [some 0, some 1], ?_, rfl, rfl, ?_⟩
    · simp [MH, MB, MC.MCs, MC, renC.renCs, renC, turnF]
    · subst hX
      simp [MT, MV.MVs, MV, MC, std, binS, MC.MCs]
  · rintro ⟨a, i, g⟩ hb
    replace hb : TurnI n f a i g := hb
    cbv
    refine m_cond hX (fun h => ?_) (fun h => ?_) <;> cbv
    · have hh : (0 ≤ i ∧ i < n) ∧ i.toNat = a ∧ a < n := by
        obtain ⟨h1, h2, h3⟩ := hb
        have : i < n := by subst hX; simpa [std, cmpS] using h
        omega
      obtain ⟨hh1, hh2, hh3⟩ := hh
      refine ⟨by subst hX; exact hh1, by subst hX; show 0 + i.toNat < n; omega, ?_⟩
      refine m_draw tab_ok hX [] [9] [(0,0),(1,0),(2,0),(3,1),(4,0),(5,0),(6,0),(7,2),(8,0),(9,3)] (by kernel_rfl) (by simp) ?_
      cbv
      refine m_callq hX [] bodied_21 (fun k2 h => negative_c W0 (g (X.nadd 0 (X.toN i))) [] k2 h) ?_ rfl rfl ?_ ?_
      · simp [MH]
      · simp [MV, MV.MVs, MC]
      intro y hy
      cbv
      replace hy : y = IntKind.i64.wrap (0 - g (X.nadd 0 (X.toN i))) := hy
      obtain ⟨h1, h2, h3⟩ := hb
      subst hX
      simp only [std, binS, show ∀ x, Nat.add 0 x = x from Nat.zero_add, hh2] at hy ⊢
      refine ⟨hh1, hh3, ⟨a + 1, i + 1, turnF n f (a + 1)⟩, ⟨by omega, by simp [h2], fun _ _ => rfl⟩, by simp; omega, [some 0, some 1], ?_, rfl, rfl, ?_⟩
      · simp only [MH, MB, MC.MCs, MC]
        refine ⟨by simp [MC.MCs, MC], ⟨rfl, rfl, rfl, Nat.le_refl _, fun q hq => ?_⟩, trivial⟩
        show MC.MCs _ [C.int IntKind.i64 (turnF n f (a + 1) q)] (if q = a then splice [C.int IntKind.i64 (g q)] 0 [C.int IntKind.i64 y] else [C.int IntKind.i64 (g q)])
        by_cases hqa : q = a
        · rw [if_pos hqa]
          simp only [splice, List.set, MC.MCs, MC]
          refine ⟨⟨trivial, ?_⟩, trivial⟩
          rw [hqa, turnF, if_pos (by omega), hy, h3 a hh3, turnF, if_neg (by omega)]
        · rw [if_neg hqa]
          simp only [MC.MCs, MC]
          refine ⟨⟨trivial, ?_⟩, trivial⟩
          rw [h3 q hq, turnF, turnF]
          by_cases hq2 : q < a
          · rw [if_pos hq2, if_pos (by omega)]
          · rw [if_neg hq2, if_neg (by omega)]
      · simp [MT, MV.MVs, MV, MC, MC.MCs]
        exact (wrap_eq (by omega) (by omega)).symm
    · have hh : a = n := by
        obtain ⟨h1, h2, h3⟩ := hb
        have : ¬ i < n := by subst hX; simpa [std, cmpS] using h
        omega
      subst hh
      refine ⟨_, _, [some 0, some 1], ?_, rfl, rfl, ?_, hk⟩
      · obtain ⟨h1, h2, h3⟩ := hb
        simp only [MH, MB, MC.MCs, MC]
        refine ⟨by simp [MC.MCs, MC], ⟨rfl, rfl, rfl, Nat.le_refl _, fun q hq => ⟨⟨rfl, ?_⟩, trivial⟩⟩, trivial⟩
        rw [h3 q hq, turnF, if_pos hq, backF, if_pos rfl]
      · simp [MV, MV.MVs]
end Go.Proofs.Ytnfoibgafmeenaa.AM
