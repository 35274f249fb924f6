/- What laying decks upon one another comes to, as contracts on the abstract machine. No condition but that what they read is there. -/
import Derived.Test.YtnfoibgafmeenaaDk9
namespace Go.Proofs.Ytnfoibgafmeenaa.AM
open Go Go.RowKit
set_option cbv.warning false
set_option maxRecDepth 100000
set_option linter.unusedVariables false
set_option linter.unusedSimpArgs false
theorem bodied_30 : Bodied Try.prog 30 := ⟨Try.f30, by kernel_rfl, by kernel_rfl, by kernel_rfl⟩
theorem bodied_31 : Bodied Try.prog 31 := ⟨Try.f31, by kernel_rfl, by kernel_rfl, by kernel_rfl⟩
theorem bodied_36 : Bodied Try.prog 36 := ⟨Try.f36, by kernel_rfl, by kernel_rfl, by kernel_rfl⟩
structure UnderG (n m N : Nat) (f g G : Nat → Int) : Prop where
  hN : n + m = N
  b : N ≤ 8796093022208
  g0 : ∀ q, q < n → G q = f q
  g1 : ∀ q, q < m → G (n + q) = g q
theorem Under_c (W0 : World) (n m N : Nat) (f g G : Nat → Int) (hG : UnderG n m N f g G)
    (k : V → Heap → Prop) (hk : k (.tup []) [deckAt 4 N, ints true n f, deckAt 3 m, ints true m g, ints true N G]) : ACall Try.prog W0 31 [.one (.ptr 0 0 0), .one (.ptr 2 0 0)] [deckAt 1 n, ints true n f, deckAt 3 m, ints true m g] k := by
  refine m_body tab_ok (fn := Try.f31) (by kernel_rfl) rfl ?_
  intro X hX
  cbv
  repeat' (first | (refine m_cond_t hX (by first | rfl | assumption | (subst hX; rfl)) ?_; cbv) | (refine m_cond_f hX (by first | rfl | assumption | (subst hX; rfl)) ?_; cbv) | fail)
  refine m_draw tab_ok hX [2, 3] [8, 11] [(0,0),(1,0),(2,0),(3,0),(4,1),(5,0),(6,2),(7,2),(8,3),(9,0),(10,0),(11,3)] (by kernel_rfl) (by simp) ?_
  cbv
  refine m_callf hX [2, 3] bodied_47 (fun k2 h => list_c W0 m g k2 h) ?_ rfl rfl ?_ ?_
  · all_goals (first | (simp [MH, MB, MT, MV, MV.MVs, MC.MCs, MC, renC.renCs, renC, up]; done) | (simp [MH, MB, MT, MV, MV.MVs, MC.MCs, MC, renC.renCs, renC, up]; omega) | (simp [MH, MB, MT, MV, MV.MVs, MC.MCs, MC, renC.renCs, renC, up] <;> omega))
  · all_goals (first | (simp [MH, MB, MT, MV, MV.MVs, MC.MCs, MC, renC.renCs, renC, up]; done) | (simp [MH, MB, MT, MV, MV.MVs, MC.MCs, MC, renC.renCs, renC, up]; omega) | (simp [MH, MB, MT, MV, MV.MVs, MC.MCs, MC, renC.renCs, renC, up] <;> omega))
  cbv
  refine m_callf hX [4, 1, 3] bodied_53 (fun k2 hk2 => Concat_under W0 n m f g N G (fun q => match q with | 0 => [.sl 1 0 n none] | _ => [.sl 2 0 m none]) rfl rfl
    hG.hN hG.b hG.g0 hG.g1 (some 2) k2 hk2) ?_ rfl rfl ?_ ?_
  · refine And.intro (And.intro rfl (And.intro rfl (And.intro rfl (And.intro (Nat.le_refl _) fun q hq3 => ?_)))) (And.intro (by all_goals simp [MB, MC.MCs, MC, renC.renCs, renC, up]) (And.intro (by all_goals simp [MB, MC.MCs, MC, renC.renCs, renC, up]) trivial))
    obtain rfl | rfl : q = 0 ∨ q = 1 := by omega
    · show MC.MCs _ [.sl 1 0 n none] [.sl 1 0 n none]
      exact ⟨⟨rfl, rfl, rfl, .inl rfl⟩, trivial⟩
    · show MC.MCs _ [.sl 2 0 m none] [.sl 3 0 m none]
      exact ⟨⟨rfl, rfl, rfl, .inl rfl⟩, trivial⟩
  · simp [MV.MVs, MV, MC]
  cbv
  refine ⟨_, _, [some 0, some 1, some 2, some 3, some 5], ?_, rfl, rfl, ?_, hk⟩
  all_goals (first | (simp [MH, MB, MT, MV, MV.MVs, MC.MCs, MC, renC.renCs, renC, up]; done) | (simp [MH, MB, MT, MV, MV.MVs, MC.MCs, MC, renC.renCs, renC, up]; omega) | (simp [MH, MB, MT, MV, MV.MVs, MC.MCs, MC, renC.renCs, renC, up] <;> omega))
structure CutG (n m l : Nat) (x : Int) (f G1 G2 : Nat → Int) : Prop where
  hx : m = (max (min x n) 0).toNat
  hl : m + l = n
  b : n ≤ 8796093022208
  g1 : ∀ q, q < m → G1 q = f q
  g2 : ∀ q, q < l → G2 q = f (m + q)
theorem Clone_G (W0 : World) (rw : Bool) (n i m : Nat) (c : Option Nat) (f G : Nat → Int) (h : i + m ≤ n) (hm : m ≤ 17592186044416) (hG : ∀ q, q < m → G q = f (i + q)) (k : V → Heap → Prop) (hk : k (.one (.sl 1 0 m none)) [ints rw n f, ints true m G]) : ACall Try.prog W0 46 [.one (.sl 0 i m c)] [ints rw n f] k := by
  refine ACall.tidy (Clone_c W0 rw n i m c f h hm _ ⟨_, _, [some 0, some 1], ?_, rfl, rfl, ?_, hk⟩)
  · simp [MH, MB, MC.MCs, MC]; exact hG
  · simp [MV, MC]
theorem Cut_c (W0 : World) (n m l : Nat) (x : Int) (f G1 G2 : Nat → Int) (hG : CutG n m l x f G1 G2)
    (k : V → Heap → Prop) (hk : k (.one (.ptr 2 0 0)) [deckAt 4 l, ints true n f, deckAt 3 m, ints true m G1, ints true l G2]) : ACall Try.prog W0 30 [.one (.ptr 0 0 0), .one (.int .i64 x)] [deckAt 1 n, ints true n f] k := by
  refine m_body tab_ok (fn := Try.f30) (by kernel_rfl) rfl ?_
  intro X hX
  cbv
  repeat' (first | (refine m_cond_t hX (by first | rfl | assumption | (subst hX; rfl)) ?_; cbv) | (refine m_cond_f hX (by first | rfl | assumption | (subst hX; rfl)) ?_; cbv) | fail)
  have hq : X.toN (X.mm .max (X.mm .min x (X.ofN n)) 0) = m := by
    have h1 := hG.hx
    subst hX
    show (if (if (n : Int) < x then (n : Int) else x) < 0 then (0 : Int) else if (n : Int) < x then (n : Int) else x).toNat = m
    omega
  have hn1 : X.nadd 0 (X.toN (X.mm .max (X.mm .min x (X.ofN n)) 0)) = m := by rw [hq]; subst hX; exact Nat.zero_add m
  have hn2 : X.nsub n (X.toN (X.mm .max (X.mm .min x (X.ofN n)) 0)) = l := by
    rw [hq]
    have h1 := hG.hl
    subst hX
    show n - m = l
    omega
  have hi1 : X.lohi 0 (X.mm .max (X.mm .min x (X.ofN n)) 0) ∧ X.le (X.mm .max (X.mm .min x (X.ofN n)) 0) n ∧ X.lohi (X.mm .max (X.mm .min x (X.ofN n)) 0) (X.ofN n) := by
    subst hX
    show ((0 : Int) ≤ 0 ∧ 0 ≤ (if (if (n : Int) < x then (n : Int) else x) < 0 then (0 : Int) else if (n : Int) < x then (n : Int) else x)) ∧ (if (if (n : Int) < x then (n : Int) else x) < 0 then (0 : Int) else if (n : Int) < x then (n : Int) else x) ≤ n ∧
      (0 ≤ (if (if (n : Int) < x then (n : Int) else x) < 0 then (0 : Int) else if (n : Int) < x then (n : Int) else x) ∧ (if (if (n : Int) < x then (n : Int) else x) < 0 then (0 : Int) else if (n : Int) < x then (n : Int) else x) ≤ (n : Int))
    omega
  refine ⟨hi1.1, hi1.2.1, ?_⟩
  refine m_callf hX [1] bodied_15 (fun k2 h => Of_G W0 true n 0 m none f G1 (by have h1 := hG.hl; omega) (by have h1 := hG.hl; have h2 := hG.b; omega) (fun q hq => by rw [Nat.zero_add]; exact hG.g1 q hq) k2 h) ?_ rfl rfl ?_ ?_
  · all_goals (first | (simp [MH, MB, MT, MV, MV.MVs, MC.MCs, MC, renC.renCs, renC, up]; done) | (simp [MH, MB, MT, MV, MV.MVs, MC.MCs, MC, renC.renCs, renC, up]; omega) | (simp [MH, MB, MT, MV, MV.MVs, MC.MCs, MC, renC.renCs, renC, up] <;> omega))
  · exact ⟨⟨rfl, rfl, hq.symm, .inl rfl⟩, trivial⟩
  cbv
  refine ⟨hi1.2.2, ?_⟩
  refine m_callf hX [1] bodied_46 (fun k2 h => Clone_G W0 true n m l none f G2 (by have h1 := hG.hl; omega) (by have h1 := hG.hl; have h2 := hG.b; omega) hG.g2 k2 h) ?_ rfl rfl ?_ ?_
  · all_goals (first | (simp [MH, MB, MT, MV, MV.MVs, MC.MCs, MC, renC.renCs, renC, up]; done) | (simp [MH, MB, MT, MV, MV.MVs, MC.MCs, MC, renC.renCs, renC, up]; omega) | (simp [MH, MB, MT, MV, MV.MVs, MC.MCs, MC, renC.renCs, renC, up] <;> omega))
  · exact ⟨⟨rfl, hn1.symm, hn2.symm, .inl rfl⟩, trivial⟩
  cbv
  refine ⟨_, _, [some 0, some 1, some 2, some 3, some 4], ?_, rfl, rfl, ?_, hk⟩
  all_goals (first | (simp [MH, MB, MT, MV, MV.MVs, MC.MCs, MC, renC.renCs, renC, up]; done) | (simp [MH, MB, MT, MV, MV.MVs, MC.MCs, MC, renC.renCs, renC, up]; omega) | (simp [MH, MB, MT, MV, MV.MVs, MC.MCs, MC, renC.renCs, renC, up] <;> omega))
structure IntsO (n : Nat) (f g : Nat → Int) (j : Nat) (a : Nat) (i : Int) : Prop where
  h1 : a ≤ n
  h2 : i = a
  h3 : ∀ q, q < a → f q = g (j + q)
theorem Ints_oeq (W0 : World) (r1 r2 : Bool) (n j n2 : Nat) (c1 c2 : Option Nat) (f g : Nat → Int) (hj : j + n ≤ n2) (hn : n ≤ 17592186044416) (k : V → Heap → Prop) (hk : ∀ b : Bool, (b = true ↔ ∀ q, q < n → f q = g (j + q)) → k (.one (.bool b)) [ints r1 n f, ints r2 n2 g]) :
    ACall Try.prog W0 17 [.one (.sl 0 0 n c1), .one (.sl 1 j n c2)] [ints r1 n f, ints r2 n2 g] k := by
  refine m_body tab_ok (fn := Try.f17) (by kernel_rfl) rfl ?_
  intro X hX
  cbv
  refine m_cond_f hX (by subst hX; simp [std, cmpS]) ?_
  cbv
  refine m_loop tab_ok hX (fun b : Nat × Int => IntsO n f g j b.1 b.2) (fun b => ([.one (.sl 0 0 n c1), .one (.sl 1 j n c2), .one .undef, .one .undef, .one .undef, .one (.int .i64 b.2)] ++ List.replicate 20 (.one .undef), [ints r1 n f, ints r2 n2 g])) (fun b => n - b.1) ?_ ?_
  · refine ⟨⟨0, 0⟩, ⟨by omega, rfl, by omega⟩, [some 0, some 1], ?_, rfl, rfl, ?_⟩
    all_goals (first | (simp [MH, MB, MT, MV, MV.MVs, MC.MCs, MC, renC.renCs, renC, up]; done) | (simp [MH, MB, MT, MV, MV.MVs, MC.MCs, MC, renC.renCs, renC, up]; omega) | (simp [MH, MB, MT, MV, MV.MVs, MC.MCs, MC, renC.renCs, renC, up] <;> omega))
  · rintro ⟨a, i⟩ hb
    replace hb : IntsO n f g j a i := hb
    cbv
    refine m_cond hX (fun h => ?_) (fun h => ?_) <;> cbv
    · refine m_draw tab_ok hX [] [] [(0,0),(1,0),(2,0),(3,1),(4,0),(5,0),(6,0),(7,1),(8,0)] (by kernel_rfl) (by simp) ?_
      cbv
      have hh : (0 ≤ i ∧ i < n) ∧ 0 + i.toNat = a ∧ a < n := by
        obtain ⟨h1, h2, h3⟩ := hb
        have : i < n := by subst hX; simpa [std, cmpS] using h
        omega
      obtain ⟨hh1, hh2, hh3⟩ := hh
      have hh4 : j + i.toNat = j + a := by omega
      refine ⟨by subst hX; exact hh1, by subst hX; show 0 + i.toNat < n; omega, by subst hX; exact hh1, by subst hX; show j + i.toNat < n2; omega, ?_⟩
      refine m_cond hX (fun h5 => ?_) (fun h5 => ?_) <;> cbv
      · refine ⟨_, _, [some 0, some 1], ?_, rfl, rfl, ?_, hk false ?_⟩
        · simp [MH, MB, MC.MCs, MC]
        · simp [MV, MC]
        · subst hX
          simp only [std, cmpS] at h5
          simp only [Bool.false_eq_true, false_iff]
          intro hall
          rw [show Nat.add 0 i.toNat = a from hh2, show Nat.add j i.toNat = j + a from hh4, hall a hh3] at h5
          simp at h5
      · obtain ⟨h1, h2, h3⟩ := hb
        refine ⟨⟨a + 1, i + 1⟩, ⟨by omega, by simp [h2], fun q hq => ?_⟩, by simp; omega, [some 0, some 1], ?_, rfl, rfl, ?_⟩
        · by_cases hqa : q < a
          · exact h3 q hqa
          · obtain rfl : q = a := by omega
            subst hX
            simp only [std, cmpS, show Nat.add 0 i.toNat = q from hh2, show Nat.add j i.toNat = j + q from hh4] at h5
            simpa using h5
        · simp [MH, MB, MC.MCs, MC]
        · subst hX
          simp [MT, MV.MVs, MV, MC, std, binS]
          exact (wrap_eq (by omega) (by omega)).symm
    · refine ⟨_, _, [some 0, some 1], ?_, rfl, rfl, ?_, hk true ?_⟩
      · simp [MH, MB, MC.MCs, MC]
      · simp [MV, MC]
      · obtain ⟨h1, h2, h3⟩ := hb
        have : ¬ i < n := by subst hX; simpa [std, cmpS] using h
        simp only [true_iff]
        intro q hq
        exact h3 q (by omega)
end Go.Proofs.Ytnfoibgafmeenaa.AM
