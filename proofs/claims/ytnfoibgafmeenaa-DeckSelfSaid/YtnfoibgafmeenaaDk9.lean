/- What slices.Concat comes to, as contracts on the abstract machine. No condition but that what it reads is there. -/
import Derived.Test.YtnfoibgafmeenaaDk8
namespace Go.Proofs.Ytnfoibgafmeenaa.AM
open Go Go.RowKit
set_option cbv.warning false
set_option maxRecDepth 100000
set_option linter.unusedVariables false
set_option linter.unusedSimpArgs false
/-- A list, and another one. -/
theorem Concat_under (W0 : World) (n m : Nat) (f g : Nat → Int) (s1 : Nat) (G : Nat → Int) (F : Nat → List C) (h0 : F 0 = [.sl 1 0 n none]) (h1 : F 1 = [.sl 2 0 m none])  (hs1 : n + m = s1) (hb : s1 ≤ 8796093022208) (hG0 : ∀ q, q < n → G (q) = f q) (hG1 : ∀ q, q < m → G (n + q) = g q) (c : Option Nat) (k : V → Heap → Prop) (hk : k (.one (.sl 3 0 (s1) none)) [rowS 2 F, ints true n f, ints true m g, ints true (s1) G]) : ACall Try.prog W0 53 [.one (.sl 0 0 2 c)] [rowS 2 F, ints true n f, ints true m g] k := by
  refine m_body tab_ok (fn := Try.f53) (by kernel_rfl) rfl ?_
  intro X hX
  cbv
  have e0 : F (X.nadd 0 (X.toN 0)) = [.sl 1 0 n none] := by subst hX; exact h0
  have e1 : F (X.nadd 0 (X.toN (X.bin .add .i64 0 1))) = [.sl 2 0 m none] := by subst hX; exact h1
  refine m_rounds [(), (), ()] tab_ok hX ?_
  refine aloop_step fun L0 hL0 K0 hK0 => ?_
  cbv
  repeat' (first | (refine m_cond_t hX (by first | rfl | assumption | (subst hX; rfl)) ?_; cbv) | (refine m_cond_f hX (by first | rfl | assumption | (subst hX; rfl)) ?_; cbv) | fail)
  refine ⟨by subst hX; exact show (0 : Int) ≤ 0 ∧ (0 : Int) < 2 from by decide, by subst hX; exact show 0 < 2 from by decide, ?_⟩
  rw [e0]
  cbv
  refine m_cond_f hX (by subst hX; simp (disch := omega) [std, cmpS, binS, wrap_eq]; try omega) ?_
  cbv
  refine hL0 _ _ ?_
  refine aloop_step fun L1 hL1 K1 hK1 => ?_
  cbv
  repeat' (first | (refine m_cond_t hX (by first | rfl | assumption | (subst hX; rfl)) ?_; cbv) | (refine m_cond_f hX (by first | rfl | assumption | (subst hX; rfl)) ?_; cbv) | fail)
  refine ⟨by subst hX; exact show (0 : Int) ≤ 1 ∧ (1 : Int) < 2 from by decide, by subst hX; exact show 1 < 2 from by decide, ?_⟩
  rw [e1]
  cbv
  refine m_cond_f hX (by subst hX; simp (disch := omega) [std, cmpS, binS, wrap_eq]; try omega) ?_
  cbv
  refine hL1 _ _ ?_
  refine aloop_step fun L hL K hK => ?_
  cbv
  repeat' (first | (refine m_cond_t hX (by first | rfl | assumption | (subst hX; rfl)) ?_; cbv) | (refine m_cond_f hX (by first | rfl | assumption | (subst hX; rfl)) ?_; cbv) | fail)
  refine hK _ _ _ _ ?_
  cbv
  have hsum : IsN (X.bin .add .i64 (X.bin .add .i64 0 (X.ofN n)) (X.ofN m)) (s1) := by
    subst hX
    refine ⟨?_⟩
    simp (disch := omega) only [std, binS, wrap_eq]
    omega
  refine m_callf hX [] bodied_65 (fun k2 hk2 => Grow_nil W0 (X.bin .add .i64 (X.bin .add .i64 0 (X.ofN n)) (X.ofN m)) (s1) hsum hb k2 (fun _ => 0) hk2) ?_ rfl rfl ?_ ?_
  · simp [MH]
  · simp [MV, MV.MVs, MC]
  cbv
  refine m_rounds [(), (), ()] tab_ok hX ?_
  refine aloop_step fun M0 hM0 N0 hN0 => ?_
  cbv
  repeat' (first | (refine m_cond_t hX (by first | rfl | assumption | (subst hX; rfl)) ?_; cbv) | (refine m_cond_f hX (by first | rfl | assumption | (subst hX; rfl)) ?_; cbv) | fail)
  refine ⟨by subst hX; exact show (0 : Int) ≤ 0 ∧ (0 : Int) < 2 from by decide, by subst hX; exact show 0 < 2 from by decide, ?_⟩
  rw [e0]
  cbv
  refine m_append tab_ok hX (n) (fun q => [.int .i64 (G q)]) rfl rfl rfl rfl rfl rfl (by decide) rfl rfl rfl ?_ ?_
  · refine ⟨by omega, by omega, by omega, by show (n) * 8 ≤ _; omega, by omega, fun _ _ => rfl, fun q hq => ?_, fun q hq => ?_⟩
    · first | (exfalso; omega) | (simp only [Nat.zero_add]; done) | rfl
    · have := hG0 q hq
      try simp only [Nat.zero_add] at this ⊢
      rw [this]
  cbv
  refine hM0 _ _ ?_
  refine aloop_step fun M1 hM1 N1 hN1 => ?_
  cbv
  repeat' (first | (refine m_cond_t hX (by first | rfl | assumption | (subst hX; rfl)) ?_; cbv) | (refine m_cond_f hX (by first | rfl | assumption | (subst hX; rfl)) ?_; cbv) | fail)
  refine ⟨by subst hX; exact show (0 : Int) ≤ 1 ∧ (1 : Int) < 2 from by decide, by subst hX; exact show 1 < 2 from by decide, ?_⟩
  rw [e1]
  cbv
  refine m_append tab_ok hX (s1) (fun q => [.int .i64 (G q)]) rfl rfl rfl rfl rfl rfl (by decide) rfl rfl rfl ?_ ?_
  · refine ⟨by omega, by omega, by omega, by show (s1) * 8 ≤ _; omega, by omega, fun _ _ => rfl, fun q hq => ?_, fun q hq => ?_⟩
    · first | (exfalso; omega) | (simp only [Nat.zero_add]; done) | rfl
    · have := hG1 q hq
      try simp only [Nat.zero_add] at this ⊢
      rw [this]
  cbv
  refine hM1 _ _ ?_
  refine aloop_step fun M hM N hN => ?_
  cbv
  repeat' (first | (refine m_cond_t hX (by first | rfl | assumption | (subst hX; rfl)) ?_; cbv) | (refine m_cond_f hX (by first | rfl | assumption | (subst hX; rfl)) ?_; cbv) | fail)
  refine hN _ _ _ _ ?_
  cbv
  refine ⟨_, _, [some 0, some 1, some 2, some 5], ?_, rfl, rfl, ?_, hk⟩
  · refine ⟨⟨rfl, rfl, rfl, Nat.le_refl _, fun q hq => ?_⟩, by simp [MB, MC.MCs, MC], by simp [MB, MC.MCs, MC], by simp [MB, MC.MCs, MC], trivial⟩
    obtain rfl | rfl : q = 0 ∨ q = 1 := by omega
    · rw [h0]; simp [MC.MCs, MC]
    · rw [h1]; simp [MC.MCs, MC]
  · simp [MV, MC]
/-- Another list, and a list. -/
theorem Concat_over (W0 : World) (n m : Nat) (f g : Nat → Int) (s1 : Nat) (G : Nat → Int) (F : Nat → List C) (h0 : F 0 = [.sl 2 0 m none]) (h1 : F 1 = [.sl 1 0 n none])  (hs1 : m + n = s1) (hb : s1 ≤ 8796093022208) (hG0 : ∀ q, q < m → G (q) = g q) (hG1 : ∀ q, q < n → G (m + q) = f q) (c : Option Nat) (k : V → Heap → Prop) (hk : k (.one (.sl 3 0 (s1) none)) [rowS 2 F, ints true n f, ints true m g, ints true (s1) G]) : ACall Try.prog W0 53 [.one (.sl 0 0 2 c)] [rowS 2 F, ints true n f, ints true m g] k := by
  refine m_body tab_ok (fn := Try.f53) (by kernel_rfl) rfl ?_
  intro X hX
  cbv
  have e0 : F (X.nadd 0 (X.toN 0)) = [.sl 2 0 m none] := by subst hX; exact h0
  have e1 : F (X.nadd 0 (X.toN (X.bin .add .i64 0 1))) = [.sl 1 0 n none] := by subst hX; exact h1
  refine m_rounds [(), (), ()] tab_ok hX ?_
  refine aloop_step fun L0 hL0 K0 hK0 => ?_
  cbv
  repeat' (first | (refine m_cond_t hX (by first | rfl | assumption | (subst hX; rfl)) ?_; cbv) | (refine m_cond_f hX (by first | rfl | assumption | (subst hX; rfl)) ?_; cbv) | fail)
  refine ⟨by subst hX; exact show (0 : Int) ≤ 0 ∧ (0 : Int) < 2 from by decide, by subst hX; exact show 0 < 2 from by decide, ?_⟩
  rw [e0]
  cbv
  refine m_cond_f hX (by subst hX; simp (disch := omega) [std, cmpS, binS, wrap_eq]; try omega) ?_
  cbv
  refine hL0 _ _ ?_
  refine aloop_step fun L1 hL1 K1 hK1 => ?_
  cbv
  repeat' (first | (refine m_cond_t hX (by first | rfl | assumption | (subst hX; rfl)) ?_; cbv) | (refine m_cond_f hX (by first | rfl | assumption | (subst hX; rfl)) ?_; cbv) | fail)
  refine ⟨by subst hX; exact show (0 : Int) ≤ 1 ∧ (1 : Int) < 2 from by decide, by subst hX; exact show 1 < 2 from by decide, ?_⟩
  rw [e1]
  cbv
  refine m_cond_f hX (by subst hX; simp (disch := omega) [std, cmpS, binS, wrap_eq]; try omega) ?_
  cbv
  refine hL1 _ _ ?_
  refine aloop_step fun L hL K hK => ?_
  cbv
  repeat' (first | (refine m_cond_t hX (by first | rfl | assumption | (subst hX; rfl)) ?_; cbv) | (refine m_cond_f hX (by first | rfl | assumption | (subst hX; rfl)) ?_; cbv) | fail)
  refine hK _ _ _ _ ?_
  cbv
  have hsum : IsN (X.bin .add .i64 (X.bin .add .i64 0 (X.ofN m)) (X.ofN n)) (s1) := by
    subst hX
    refine ⟨?_⟩
    simp (disch := omega) only [std, binS, wrap_eq]
    omega
  refine m_callf hX [] bodied_65 (fun k2 hk2 => Grow_nil W0 (X.bin .add .i64 (X.bin .add .i64 0 (X.ofN m)) (X.ofN n)) (s1) hsum hb k2 (fun _ => 0) hk2) ?_ rfl rfl ?_ ?_
  · simp [MH]
  · simp [MV, MV.MVs, MC]
  cbv
  refine m_rounds [(), (), ()] tab_ok hX ?_
  refine aloop_step fun M0 hM0 N0 hN0 => ?_
  cbv
  repeat' (first | (refine m_cond_t hX (by first | rfl | assumption | (subst hX; rfl)) ?_; cbv) | (refine m_cond_f hX (by first | rfl | assumption | (subst hX; rfl)) ?_; cbv) | fail)
  refine ⟨by subst hX; exact show (0 : Int) ≤ 0 ∧ (0 : Int) < 2 from by decide, by subst hX; exact show 0 < 2 from by decide, ?_⟩
  rw [e0]
  cbv
  refine m_append tab_ok hX (m) (fun q => [.int .i64 (G q)]) rfl rfl rfl rfl rfl rfl (by decide) rfl rfl rfl ?_ ?_
  · refine ⟨by omega, by omega, by omega, by show (m) * 8 ≤ _; omega, by omega, fun _ _ => rfl, fun q hq => ?_, fun q hq => ?_⟩
    · first | (exfalso; omega) | (simp only [Nat.zero_add]; done) | rfl
    · have := hG0 q hq
      try simp only [Nat.zero_add] at this ⊢
      rw [this]
  cbv
  refine hM0 _ _ ?_
  refine aloop_step fun M1 hM1 N1 hN1 => ?_
  cbv
  repeat' (first | (refine m_cond_t hX (by first | rfl | assumption | (subst hX; rfl)) ?_; cbv) | (refine m_cond_f hX (by first | rfl | assumption | (subst hX; rfl)) ?_; cbv) | fail)
  refine ⟨by subst hX; exact show (0 : Int) ≤ 1 ∧ (1 : Int) < 2 from by decide, by subst hX; exact show 1 < 2 from by decide, ?_⟩
  rw [e1]
  cbv
  refine m_append tab_ok hX (s1) (fun q => [.int .i64 (G q)]) rfl rfl rfl rfl rfl rfl (by decide) rfl rfl rfl ?_ ?_
  · refine ⟨by omega, by omega, by omega, by show (s1) * 8 ≤ _; omega, by omega, fun _ _ => rfl, fun q hq => ?_, fun q hq => ?_⟩
    · first | (exfalso; omega) | (simp only [Nat.zero_add]; done) | rfl
    · have := hG1 q hq
      try simp only [Nat.zero_add] at this ⊢
      rw [this]
  cbv
  refine hM1 _ _ ?_
  refine aloop_step fun M hM N hN => ?_
  cbv
  repeat' (first | (refine m_cond_t hX (by first | rfl | assumption | (subst hX; rfl)) ?_; cbv) | (refine m_cond_f hX (by first | rfl | assumption | (subst hX; rfl)) ?_; cbv) | fail)
  refine hN _ _ _ _ ?_
  cbv
  refine ⟨_, _, [some 0, some 1, some 2, some 5], ?_, rfl, rfl, ?_, hk⟩
  · refine ⟨⟨rfl, rfl, rfl, Nat.le_refl _, fun q hq => ?_⟩, by simp [MB, MC.MCs, MC], by simp [MB, MC.MCs, MC], by simp [MB, MC.MCs, MC], trivial⟩
    obtain rfl | rfl : q = 0 ∨ q = 1 := by omega
    · rw [h0]; simp [MC.MCs, MC]
    · rw [h1]; simp [MC.MCs, MC]
  · simp [MV, MC]
/-- A list twice. -/
theorem Concat_self (W0 : World) (n : Nat) (f : Nat → Int) (s1 : Nat) (G : Nat → Int) (F : Nat → List C) (h0 : F 0 = [.sl 1 0 n none]) (h1 : F 1 = [.sl 1 0 n none])  (hs1 : n + n = s1) (hb : s1 ≤ 8796093022208) (hG0 : ∀ q, q < n → G (q) = f q) (hG1 : ∀ q, q < n → G (n + q) = f q) (c : Option Nat) (k : V → Heap → Prop) (hk : k (.one (.sl 2 0 (s1) none)) [rowS 2 F, ints true n f, ints true (s1) G]) : ACall Try.prog W0 53 [.one (.sl 0 0 2 c)] [rowS 2 F, ints true n f] k := by
  refine m_body tab_ok (fn := Try.f53) (by kernel_rfl) rfl ?_
  intro X hX
  cbv
  have e0 : F (X.nadd 0 (X.toN 0)) = [.sl 1 0 n none] := by subst hX; exact h0
  have e1 : F (X.nadd 0 (X.toN (X.bin .add .i64 0 1))) = [.sl 1 0 n none] := by subst hX; exact h1
  refine m_rounds [(), (), ()] tab_ok hX ?_
  refine aloop_step fun L0 hL0 K0 hK0 => ?_
  cbv
  repeat' (first | (refine m_cond_t hX (by first | rfl | assumption | (subst hX; rfl)) ?_; cbv) | (refine m_cond_f hX (by first | rfl | assumption | (subst hX; rfl)) ?_; cbv) | fail)
  refine ⟨by subst hX; exact show (0 : Int) ≤ 0 ∧ (0 : Int) < 2 from by decide, by subst hX; exact show 0 < 2 from by decide, ?_⟩
  rw [e0]
  cbv
  refine m_cond_f hX (by subst hX; simp (disch := omega) [std, cmpS, binS, wrap_eq]; try omega) ?_
  cbv
  refine hL0 _ _ ?_
  refine aloop_step fun L1 hL1 K1 hK1 => ?_
  cbv
  repeat' (first | (refine m_cond_t hX (by first | rfl | assumption | (subst hX; rfl)) ?_; cbv) | (refine m_cond_f hX (by first | rfl | assumption | (subst hX; rfl)) ?_; cbv) | fail)
  refine ⟨by subst hX; exact show (0 : Int) ≤ 1 ∧ (1 : Int) < 2 from by decide, by subst hX; exact show 1 < 2 from by decide, ?_⟩
  rw [e1]
  cbv
  refine m_cond_f hX (by subst hX; simp (disch := omega) [std, cmpS, binS, wrap_eq]; try omega) ?_
  cbv
  refine hL1 _ _ ?_
  refine aloop_step fun L hL K hK => ?_
  cbv
  repeat' (first | (refine m_cond_t hX (by first | rfl | assumption | (subst hX; rfl)) ?_; cbv) | (refine m_cond_f hX (by first | rfl | assumption | (subst hX; rfl)) ?_; cbv) | fail)
  refine hK _ _ _ _ ?_
  cbv
  have hsum : IsN (X.bin .add .i64 (X.bin .add .i64 0 (X.ofN n)) (X.ofN n)) (s1) := by
    subst hX
    refine ⟨?_⟩
    simp (disch := omega) only [std, binS, wrap_eq]
    omega
  refine m_callf hX [] bodied_65 (fun k2 hk2 => Grow_nil W0 (X.bin .add .i64 (X.bin .add .i64 0 (X.ofN n)) (X.ofN n)) (s1) hsum hb k2 (fun _ => 0) hk2) ?_ rfl rfl ?_ ?_
  · simp [MH]
  · simp [MV, MV.MVs, MC]
  cbv
  refine m_rounds [(), (), ()] tab_ok hX ?_
  refine aloop_step fun M0 hM0 N0 hN0 => ?_
  cbv
  repeat' (first | (refine m_cond_t hX (by first | rfl | assumption | (subst hX; rfl)) ?_; cbv) | (refine m_cond_f hX (by first | rfl | assumption | (subst hX; rfl)) ?_; cbv) | fail)
  refine ⟨by subst hX; exact show (0 : Int) ≤ 0 ∧ (0 : Int) < 2 from by decide, by subst hX; exact show 0 < 2 from by decide, ?_⟩
  rw [e0]
  cbv
  refine m_append tab_ok hX (n) (fun q => [.int .i64 (G q)]) rfl rfl rfl rfl rfl rfl (by decide) rfl rfl rfl ?_ ?_
  · refine ⟨by omega, by omega, by omega, by show (n) * 8 ≤ _; omega, by omega, fun _ _ => rfl, fun q hq => ?_, fun q hq => ?_⟩
    · first | (exfalso; omega) | (simp only [Nat.zero_add]; done) | rfl
    · have := hG0 q hq
      try simp only [Nat.zero_add] at this ⊢
      rw [this]
  cbv
  refine hM0 _ _ ?_
  refine aloop_step fun M1 hM1 N1 hN1 => ?_
  cbv
  repeat' (first | (refine m_cond_t hX (by first | rfl | assumption | (subst hX; rfl)) ?_; cbv) | (refine m_cond_f hX (by first | rfl | assumption | (subst hX; rfl)) ?_; cbv) | fail)
  refine ⟨by subst hX; exact show (0 : Int) ≤ 1 ∧ (1 : Int) < 2 from by decide, by subst hX; exact show 1 < 2 from by decide, ?_⟩
  rw [e1]
  cbv
  refine m_append tab_ok hX (s1) (fun q => [.int .i64 (G q)]) rfl rfl rfl rfl rfl rfl (by decide) rfl rfl rfl ?_ ?_
  · refine ⟨by omega, by omega, by omega, by show (s1) * 8 ≤ _; omega, by omega, fun _ _ => rfl, fun q hq => ?_, fun q hq => ?_⟩
    · first | (exfalso; omega) | (simp only [Nat.zero_add]; done) | rfl
    · have := hG1 q hq
      try simp only [Nat.zero_add] at this ⊢
      rw [this]
  cbv
  refine hM1 _ _ ?_
  refine aloop_step fun M hM N hN => ?_
  cbv
  repeat' (first | (refine m_cond_t hX (by first | rfl | assumption | (subst hX; rfl)) ?_; cbv) | (refine m_cond_f hX (by first | rfl | assumption | (subst hX; rfl)) ?_; cbv) | fail)
  refine hN _ _ _ _ ?_
  cbv
  refine ⟨_, _, [some 0, some 1, some 4], ?_, rfl, rfl, ?_, hk⟩
  · refine ⟨⟨rfl, rfl, rfl, Nat.le_refl _, fun q hq => ?_⟩, by simp [MB, MC.MCs, MC], by simp [MB, MC.MCs, MC], trivial⟩
    obtain rfl | rfl : q = 0 ∨ q = 1 := by omega
    · rw [h0]; simp [MC.MCs, MC]
    · rw [h1]; simp [MC.MCs, MC]
  · simp [MV, MC]
end Go.Proofs.Ytnfoibgafmeenaa.AM
