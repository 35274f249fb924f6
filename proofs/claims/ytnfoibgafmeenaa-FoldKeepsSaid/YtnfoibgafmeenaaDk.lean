/- What the functions of package deck and of the statements' own arithmetic come to, as contracts on the abstract machine. No condition but that what they read is there. -/
import Derived.Test.YtnfoibgafmeenaaTab
namespace Go.Proofs.Ytnfoibgafmeenaa.AM
open Go Go.RowKit
set_option cbv.warning false
set_option maxRecDepth 100000
set_option linter.unusedVariables false
set_option linter.unusedSimpArgs false
theorem bodied_46 : Bodied Try.prog 46 := ⟨Try.f46, by kernel_rfl, by kernel_rfl, by kernel_rfl⟩
theorem bodied_47 : Bodied Try.prog 47 := ⟨Try.f47, by kernel_rfl, by kernel_rfl, by kernel_rfl⟩
theorem bodied_48 : Bodied Try.prog 48 := ⟨Try.f48, by kernel_rfl, by kernel_rfl, by kernel_rfl⟩
theorem bodied_14 : Bodied Try.prog 14 := ⟨Try.f14, by kernel_rfl, by kernel_rfl, by kernel_rfl⟩
theorem bodied_15 : Bodied Try.prog 15 := ⟨Try.f15, by kernel_rfl, by kernel_rfl, by kernel_rfl⟩
theorem bodied_16 : Bodied Try.prog 16 := ⟨Try.f16, by kernel_rfl, by kernel_rfl, by kernel_rfl⟩
theorem bodied_17 : Bodied Try.prog 17 := ⟨Try.f17, by kernel_rfl, by kernel_rfl, by kernel_rfl⟩
theorem bodied_18 : Bodied Try.prog 18 := ⟨Try.f18, by kernel_rfl, by kernel_rfl, by kernel_rfl⟩
theorem bodied_19 : Bodied Try.prog 19 := ⟨Try.f19, by kernel_rfl, by kernel_rfl, by kernel_rfl⟩
theorem bodied_20 : Bodied Try.prog 20 := ⟨Try.f20, by kernel_rfl, by kernel_rfl, by kernel_rfl⟩
theorem bodied_21 : Bodied Try.prog 21 := ⟨Try.f21, by kernel_rfl, by kernel_rfl, by kernel_rfl⟩
theorem bodied_37 : Bodied Try.prog 37 := ⟨Try.f37, by kernel_rfl, by kernel_rfl, by kernel_rfl⟩
theorem bodied_53 : Bodied Try.prog 53 := ⟨Try.f53, by kernel_rfl, by kernel_rfl, by kernel_rfl⟩
theorem bodied_65 : Bodied Try.prog 65 := ⟨Try.f65, by kernel_rfl, by kernel_rfl, by kernel_rfl⟩
/-- A row of numbers. -/
abbrev ints (rw : Bool) (n : Nat) (f : Nat → Int) : Option B := some (.row rw 3 1 n fun q => [.int .i64 (f q)])
theorem wrap_eq {x : Int} (h1 : -9223372036854775808 ≤ x) (h2 : x ≤ 9223372036854775807) : IntKind.i64.wrap x = x := by
  unfold IntKind.wrap
  simp [IntKind.bits, IntKind.signed]
  omega
theorem Clone_some (W0 : World) (rw : Bool) (n i m c : Nat) (f : Nat → Int) (h : i + m ≤ n) (hm : m ≤ 17592186044416) (k : V → Heap → Prop) (hk : k (.one (.sl 1 0 m none)) [ints rw n f, ints true m fun q => f (i + q)]) : ACall Try.prog W0 46 [.one (.sl 0 i m (some c))] [ints rw n f] k := by
  refine m_body tab_ok (fn := Try.f46) (by kernel_rfl) rfl ?_
  intro X hX
  cbv
  repeat' (first | (refine m_cond_t hX (by first | rfl | assumption | (subst hX; rfl)) ?_; cbv) | (refine m_cond_f hX (by first | rfl | assumption | (subst hX; rfl)) ?_; cbv) | fail)
  refine m_append tab_ok hX m (fun q => [.int .i64 (f (i + q))]) rfl rfl rfl rfl rfl rfl (by decide) rfl rfl rfl ?_ ?_
  · exact ⟨h, rfl, by omega, by show m * 8 ≤ _; omega, by omega, fun _ _ => rfl, fun _ h => by omega, fun q _ => by rw [Nat.zero_add]⟩
  cbv
  refine ⟨_, _, [some 0, some 2], ?_, rfl, rfl, ?_, hk⟩
  all_goals (first | (simp [MH, MB, MT, MV, MV.MVs, MC.MCs, MC, renC.renCs, renC, up]; done) | (simp [MH, MB, MT, MV, MV.MVs, MC.MCs, MC, renC.renCs, renC, up]; omega) | (simp [MH, MB, MT, MV, MV.MVs, MC.MCs, MC, renC.renCs, renC, up] <;> omega))
theorem Clone_nil (W0 : World) (rw : Bool) (n : Nat) (f : Nat → Int) (g : Nat → Int) (k : V → Heap → Prop) (hk : k (.one (.sl 1 0 0 none)) [ints rw n f, ints true 0 g]) : ACall Try.prog W0 46 [.one .nils] [ints rw n f] k := by
  refine m_body tab_ok (fn := Try.f46) (by kernel_rfl) rfl ?_
  intro X hX
  cbv
  repeat' (first | (refine m_cond_t hX (by first | rfl | assumption | (subst hX; rfl)) ?_; cbv) | (refine m_cond_f hX (by first | rfl | assumption | (subst hX; rfl)) ?_; cbv) | fail)
  refine ⟨_, _, [some 0, none], ?_, rfl, rfl, ?_, hk⟩
  all_goals (first | (simp [MH, MB, MT, MV, MV.MVs, MC.MCs, MC, renC.renCs, renC, up]; done) | (simp [MH, MB, MT, MV, MV.MVs, MC.MCs, MC, renC.renCs, renC, up]; omega) | (simp [MH, MB, MT, MV, MV.MVs, MC.MCs, MC, renC.renCs, renC, up] <;> omega))
/-- slices.Clone. -/
theorem Clone_c (W0 : World) (rw : Bool) (n i m : Nat) (c : Option Nat) (f : Nat → Int) (h : i + m ≤ n) (hm : m ≤ 17592186044416) (k : V → Heap → Prop) (hk : k (.one (.sl 1 0 m none)) [ints rw n f, ints true m fun q => f (i + q)]) : ACall Try.prog W0 46 [.one (.sl 0 i m c)] [ints rw n f] k :=
  ACall.split [] [] (fun c _ => Clone_some W0 rw n i m c f h hm k hk) (fun h0 => by subst h0; exact Clone_nil W0 rw n f _ k hk)
/-- slices.Reverse, of a whole row. -/
def rev (n a : Nat) (f : Nat → Int) (q : Nat) : Int := if q < a ∨ n - 1 - a < q then f (n - 1 - q) else f q
structure RevI (n : Nat) (f : Nat → Int) (a : Nat) (i j : Int) (g : Nat → Int) : Prop where
  h1 : 2 * a ≤ n
  h2 : i = a
  h3 : j = (n - 1 - a : Int)
  h4 : ∀ q, q < n → g q = rev n a f q
theorem Reverse_c (W0 : World) (n : Nat) (c : Option Nat) (f : Nat → Int) (hn : n ≤ 17592186044416) (k : V → Heap → Prop) (hk : k (.tup []) [ints true n fun q => f (n - 1 - q)]) : ACall Try.prog W0 48 [.one (.sl 0 0 n c)] [ints true n f] k := by
  refine m_body tab_ok (fn := Try.f48) (by kernel_rfl) rfl ?_
  intro X hX
  cbv
  refine m_loop tab_ok hX (fun b : Nat × Int × Int × (Nat → Int) => RevI n f b.1 b.2.1 b.2.2.1 b.2.2.2) (fun b => ([.one (.sl 0 0 n c), .one .undef, .one (.int .i64 b.2.1), .one (.int .i64 b.2.2.1)] ++ List.replicate 24 (.one .undef), [ints true n b.2.2.2])) (fun b => n - b.1) ?_ ?_
  · refine ⟨⟨0, 0, n - 1, f⟩, ⟨by omega, rfl, by simp, fun q hq => ?_⟩, [some 0], ?_, rfl, rfl, ?_⟩
    · simp only [rev]
      rw [if_neg (by omega)]
    · simp [MH, MB, MC.MCs, MC]
    · subst hX
      simp [MT, MV.MVs, MV, MC, std, binS]
      exact (wrap_eq (by omega) (by omega)).symm
  · rintro ⟨a, i, j, g⟩ hb
    replace hb : RevI n f a i j g := hb
    cbv
    refine m_cond hX (fun h => ?_) (fun h => ?_) <;> cbv
    · refine m_draw tab_ok hX [] [13, 15] [(0,0),(1,0),(2,0),(3,0),(4,0),(5,0),(6,0),(7,1),(8,0),(9,0),(10,0),(11,1),(12,0),(13,3),(14,0),(15,3)] (by kernel_rfl) (by simp) ?_
      cbv
      subst hX
      obtain ⟨h1, h2, h3, h4⟩ := hb
      have hlt : i < j := by simpa [std, cmpS] using h
      simp only [std, binS]
      have ea : i.toNat = a := by omega
      have eb : j.toNat = n - 1 - a := by omega
      simp only [show ∀ x, Nat.add 0 x = x from Nat.zero_add, ea, eb]
      refine ⟨⟨by omega, by omega⟩, by omega, ⟨by omega, by omega⟩, by omega, ⟨by omega, by omega⟩, by omega, ⟨by omega, by omega⟩, by omega, ⟨a + 1, i + 1, j - 1, rev n (a + 1) f⟩, ⟨by omega, by simp [h2], by simp [h3]; omega, fun _ _ => rfl⟩, by simp; omega, [some 0], ?_, rfl, rfl, ?_⟩
      · simp only [MH, MB, MC.MCs, MC]
        simp
        intro q hq
        have e1 : ∀ (c : Prop) [Decidable c] (x y : Int), (if c then splice [C.int IntKind.i64 x] 0 [C.int IntKind.i64 y] else [C.int IntKind.i64 x]) = [C.int .i64 (if c then y else x)] := by
          intro c _ x y
          split <;> rfl
        simp only [e1, MC.MCs, MC]
        simp
        rw [h4 a (by omega), h4 (n - 1 - a) (by omega), h4 q hq]
        simp only [rev]
        (repeat' split) <;> first | rfl | omega | (exfalso; omega) | (congr 1; omega)
      · simp [MT, MV.MVs, MV, MC]
        exact ⟨(wrap_eq (by omega) (by omega)).symm, (wrap_eq (by omega) (by omega)).symm⟩
    · obtain ⟨h1, h2, h3, h4⟩ := hb
      have hlt : ¬ i < j := by subst hX; simpa [std, cmpS] using h
      refine ⟨_, _, [some 0], ?_, rfl, rfl, ?_, hk⟩
      · simp [MH, MB, MC.MCs, MC]
        intro q hq
        rw [h4 q hq]
        simp only [rev]
        split
        · rfl
        · congr 1
          omega
      · simp [MV, MV.MVs]
/-- A deck: a box with its list. -/
abbrev deck (n : Nat) : Option B := some (.box 73 [.sl 1 0 n none])
theorem list_c (W0 : World) (n : Nat) (f : Nat → Int) (k : V → Heap → Prop) (hk : k (.one (.sl 1 0 n none)) [deck n, ints true n f]) : ACall Try.prog W0 47 [.one (.ptr 0 0 0)] [deck n, ints true n f] k := by
  refine m_body tab_ok (fn := Try.f47) (by kernel_rfl) rfl ?_
  intro X hX
  cbv
  repeat' (first | (refine m_cond_t hX (by first | rfl | assumption | (subst hX; rfl)) ?_; cbv) | (refine m_cond_f hX (by first | rfl | assumption | (subst hX; rfl)) ?_; cbv) | fail)
  refine ⟨_, _, [some 0, some 1], ?_, rfl, rfl, ?_, hk⟩
  all_goals (first | (simp [MH, MB, MT, MV, MV.MVs, MC.MCs, MC, renC.renCs, renC, up]; done) | (simp [MH, MB, MT, MV, MV.MVs, MC.MCs, MC, renC.renCs, renC, up]; omega) | (simp [MH, MB, MT, MV, MV.MVs, MC.MCs, MC, renC.renCs, renC, up] <;> omega))
theorem Len_c (W0 : World) (n : Nat) (f : Nat → Int) (k : V → Heap → Prop) (hk : k (.one (.int .i64 (n : Int))) [deck n, ints true n f]) : ACall Try.prog W0 16 [.one (.ptr 0 0 0)] [deck n, ints true n f] k := by
  refine m_body tab_ok (fn := Try.f16) (by kernel_rfl) rfl ?_
  intro X hX
  cbv
  refine m_call hX bodied_47 (list_c W0 n f _ ?_)
  cbv
  subst hX
  refine ⟨_, _, [some 0, some 1], ?_, rfl, rfl, ?_, hk⟩
  · simp [MH, MB, MC.MCs, MC]
  · simp [MV, MC, std]
theorem List_c (W0 : World) (n : Nat) (f : Nat → Int) (hn : n ≤ 17592186044416) (k : V → Heap → Prop) (hk : k (.one (.sl 2 0 n none)) [deck n, ints true n f, ints true n f]) : ACall Try.prog W0 18 [.one (.ptr 0 0 0)] [deck n, ints true n f] k := by
  refine m_body tab_ok (fn := Try.f18) (by kernel_rfl) rfl ?_
  intro X hX
  cbv
  refine m_call hX bodied_47 (list_c W0 n f _ ?_)
  cbv
  refine m_callf hX [1] bodied_46 (fun k2 h => Clone_c W0 true n 0 n none f (by simp) hn k2 h) ?_ rfl rfl ?_ ?_
  · simp [MH, MB, MC.MCs, MC]
  · simp [MV, MV.MVs, MC]
  cbv
  refine ⟨_, _, [some 0, some 1, some 2], ?_, rfl, rfl, ?_, hk⟩
  all_goals (first | (simp [MH, MB, MT, MV, MV.MVs, MC.MCs, MC, renC.renCs, renC, up]; done) | (simp [MH, MB, MT, MV, MV.MVs, MC.MCs, MC, renC.renCs, renC, up]; omega) | (simp [MH, MB, MT, MV, MV.MVs, MC.MCs, MC, renC.renCs, renC, up] <;> omega))
theorem Of_c (W0 : World) (rw : Bool) (n i m : Nat) (c : Option Nat) (f : Nat → Int) (h : i + m ≤ n) (hm : m ≤ 17592186044416) (k : V → Heap → Prop) (hk : k (.one (.ptr 1 0 0)) [ints rw n f, some (.box 73 [.sl 2 0 m none]), ints true m fun q => f (i + q)]) : ACall Try.prog W0 15 [.one (.sl 0 i m c)] [ints rw n f] k := by
  refine m_body tab_ok (fn := Try.f15) (by kernel_rfl) rfl ?_
  intro X hX
  cbv
  refine m_call hX bodied_46 (Clone_c W0 rw n i m c f h hm _ ?_)
  cbv
  refine ⟨_, _, [some 0, some 2, some 1], ?_, rfl, rfl, ?_, hk⟩
  all_goals (first | (simp [MH, MB, MT, MV, MV.MVs, MC.MCs, MC, renC.renCs, renC, up]; done) | (simp [MH, MB, MT, MV, MV.MVs, MC.MCs, MC, renC.renCs, renC, up]; omega) | (simp [MH, MB, MT, MV, MV.MVs, MC.MCs, MC, renC.renCs, renC, up] <;> omega))
end Go.Proofs.Ytnfoibgafmeenaa.AM
