/- What the functions of package deck and of the statements' own arithmetic come to, as contracts on the abstract machine. No condition but that what they read is there. -/
import Derived.Test.YtnfoibgafmeenaaDk
namespace Go.Proofs.Ytnfoibgafmeenaa.AM
open Go Go.RowKit
set_option cbv.warning false
set_option maxRecDepth 100000
set_option linter.unusedVariables false
set_option linter.unusedSimpArgs false
theorem joined_1 (W0 : World) (rw : Bool) (n i m : Nat) (c : Option Nat) (f : Nat → Int) (h : i + m ≤ n) (hm : m ≤ 8796093022208) (k : V → Heap → Prop) (hk : k (.one (.sl 1 0 m none)) [ints rw n f, ints true m fun q => f (i + q)]) : ACall Try.prog W0 14 [.one (.sl 0 i m c), .one .nils, .one .nils] [ints rw n f] k := by
  refine m_body tab_ok (fn := Try.f14) (by kernel_rfl) rfl ?_
  intro X hX
  cbv
  refine m_append tab_ok hX m (fun q => [.int .i64 (f (i + q))]) rfl rfl rfl rfl rfl rfl (by decide) rfl rfl rfl ?_ ?_
  · exact ⟨h, rfl, by omega, by show m * 8 ≤ _; omega, by omega, fun _ _ => rfl, fun _ h => by omega, fun q _ => by rw [Nat.zero_add]⟩
  cbv
  refine m_append tab_ok hX m (fun q => [.int .i64 (f (i + q))]) rfl rfl rfl rfl rfl rfl (by decide) rfl rfl rfl ?_ ?_
  · exact ⟨by omega, by simp, by omega, by show m * 8 ≤ _; omega, by omega, fun _ h => by omega, fun q _ => by simp only [Nat.zero_add], fun _ h => by omega⟩
  cbv
  refine m_append tab_ok hX m (fun q => [.int .i64 (f (i + q))]) rfl rfl rfl rfl rfl rfl (by decide) rfl rfl rfl ?_ ?_
  · exact ⟨by omega, by simp, by omega, by show m * 8 ≤ _; omega, by omega, fun _ h => by omega, fun q _ => by simp only [Nat.zero_add], fun _ h => by omega⟩
  cbv
  refine ⟨_, _, [some 0, some 3], ?_, rfl, rfl, ?_, hk⟩
  all_goals (first | (simp [MH, MB, MT, MV, MV.MVs, MC.MCs, MC, renC.renCs, renC, up]; done) | (simp [MH, MB, MT, MV, MV.MVs, MC.MCs, MC, renC.renCs, renC, up]; omega) | (simp [MH, MB, MT, MV, MV.MVs, MC.MCs, MC, renC.renCs, renC, up] <;> omega))
theorem negative_c (W0 : World) (x : Int) (H : Heap) (k : V → Heap → Prop) (hk : ∀ y, y = IntKind.i64.wrap (0 - x) → k (.one (.int .i64 y)) []) : ACall Try.prog W0 21 [.one (.int .i64 x)] [] k := by
  refine m_body tab_ok (fn := Try.f21) (by kernel_rfl) rfl ?_
  intro X hX
  cbv
  subst hX
  refine ⟨_, _, [], ?_, rfl, rfl, ?_, hk _ rfl⟩
  · simp [MH]
  · simp [MV, MC, std, binS]
structure IntsI (n : Nat) (f g : Nat → Int) (a : Nat) (i : Int) : Prop where
  h1 : a ≤ n
  h2 : i = a
  h3 : ∀ q, q < a → f q = g q
theorem Ints_eq (W0 : World) (r1 r2 : Bool) (n : Nat) (c1 c2 : Option Nat) (f g : Nat → Int) (hn : n ≤ 17592186044416) (k : V → Heap → Prop) (hk : ∀ b : Bool, (b = true ↔ ∀ q, q < n → f q = g q) → k (.one (.bool b)) [ints r1 n f, ints r2 n g]) :
    ACall Try.prog W0 17 [.one (.sl 0 0 n c1), .one (.sl 1 0 n c2)] [ints r1 n f, ints r2 n g] k := by
  refine m_body tab_ok (fn := Try.f17) (by kernel_rfl) rfl ?_
  intro X hX
  cbv
  refine m_cond_f hX (by subst hX; simp [std, cmpS]) ?_
  cbv
  refine m_loop tab_ok hX (fun b : Nat × Int => IntsI n f g b.1 b.2) (fun b => ([.one (.sl 0 0 n c1), .one (.sl 1 0 n c2), .one .undef, .one .undef, .one .undef, .one (.int .i64 b.2)] ++ List.replicate 20 (.one .undef), [ints r1 n f, ints r2 n g])) (fun b => n - b.1) ?_ ?_
  · refine ⟨⟨0, 0⟩, ⟨by omega, rfl, by omega⟩, [some 0, some 1], ?_, rfl, rfl, ?_⟩
    all_goals (first | (simp [MH, MB, MT, MV, MV.MVs, MC.MCs, MC, renC.renCs, renC, up]; done) | (simp [MH, MB, MT, MV, MV.MVs, MC.MCs, MC, renC.renCs, renC, up]; omega) | (simp [MH, MB, MT, MV, MV.MVs, MC.MCs, MC, renC.renCs, renC, up] <;> omega))
  · rintro ⟨a, i⟩ hb
    replace hb : IntsI n f g a i := hb
    cbv
    refine m_cond hX (fun h => ?_) (fun h => ?_) <;> cbv
    · refine m_draw tab_ok hX [] [] [(0,0),(1,0),(2,0),(3,1),(4,0),(5,0),(6,0),(7,1),(8,0)] (by kernel_rfl) (by simp) ?_
      cbv
      have hh : (0 ≤ i ∧ i < n) ∧ 0 + i.toNat = a ∧ a < n := by
        obtain ⟨h1, h2, h3⟩ := hb
        have : i < n := by subst hX; simpa [std, cmpS] using h
        omega
      obtain ⟨hh1, hh2, hh3⟩ := hh
      refine ⟨by subst hX; exact hh1, by subst hX; show 0 + i.toNat < n; omega, by subst hX; exact hh1, by subst hX; show 0 + i.toNat < n; omega, ?_⟩
      refine m_cond hX (fun h5 => ?_) (fun h5 => ?_) <;> cbv
      · refine ⟨_, _, [some 0, some 1], ?_, rfl, rfl, ?_, hk false ?_⟩
        · simp [MH, MB, MC.MCs, MC]
        · simp [MV, MC]
        · subst hX
          simp only [std, cmpS] at h5
          simp only [Bool.false_eq_true, false_iff]
          intro hall
          rw [show Nat.add 0 i.toNat = a from hh2, hall a hh3] at h5
          simp at h5
      · obtain ⟨h1, h2, h3⟩ := hb
        refine ⟨⟨a + 1, i + 1⟩, ⟨by omega, by simp [h2], fun q hq => ?_⟩, by simp; omega, [some 0, some 1], ?_, rfl, rfl, ?_⟩
        · by_cases hqa : q < a
          · exact h3 q hqa
          · obtain rfl : q = a := by omega
            subst hX
            simp only [std, cmpS, show Nat.add 0 i.toNat = q from hh2] at h5
            simpa using h5
        · simp [MH, MB, MC.MCs, MC]
        · subst hX
          simp [MT, MV.MVs, MV, MC, std, binS]
          exact (wrap_eq (by omega) (by omega)).symm
    · refine ⟨_, _, [some 0, some 1], ?_, rfl, rfl, ?_, hk true ?_⟩
      · simp [MH, MB, MC.MCs, MC]
      · simp [MV, MC]
      · obtain ⟨h1, h2, h3⟩ := hb
        have : ¬ i < n := by subst hX; simpa [std, cmpS] using h
        simp only [true_iff]
        intro q hq
        exact h3 q (by omega)
theorem Ints_ne (W0 : World) (r1 r2 : Bool) (n m : Nat) (c1 c2 : Option Nat) (f g : Nat → Int) (hn : n ≠ m) (k : V → Heap → Prop) (hk : k (.one (.bool false)) [ints r1 n f, ints r2 m g]) :
    ACall Try.prog W0 17 [.one (.sl 0 0 n c1), .one (.sl 1 0 m c2)] [ints r1 n f, ints r2 m g] k := by
  refine m_body tab_ok (fn := Try.f17) (by kernel_rfl) rfl ?_
  intro X hX
  cbv
  refine m_cond_t hX (by subst hX; simp [std, cmpS]; omega) ?_
  cbv
  refine ⟨_, _, [some 0, some 1], ?_, rfl, rfl, ?_, hk⟩
  all_goals (first | (simp [MH, MB, MT, MV, MV.MVs, MC.MCs, MC, renC.renCs, renC, up]; done) | (simp [MH, MB, MT, MV, MV.MVs, MC.MCs, MC, renC.renCs, renC, up]; omega) | (simp [MH, MB, MT, MV, MV.MVs, MC.MCs, MC, renC.renCs, renC, up] <;> omega))
/-- gatherumref07.Ints. -/
theorem Ints_c (W0 : World) (r1 r2 : Bool) (n m : Nat) (c1 c2 : Option Nat) (f g : Nat → Int) (hn : n ≤ 17592186044416) (k : V → Heap → Prop) (hk : ∀ b : Bool, (b = true ↔ n = m ∧ ∀ q, q < n → f q = g q) → k (.one (.bool b)) [ints r1 n f, ints r2 m g]) :
    ACall Try.prog W0 17 [.one (.sl 0 0 n c1), .one (.sl 1 0 m c2)] [ints r1 n f, ints r2 m g] k := by
  by_cases h : n = m
  · subst h
    exact Ints_eq W0 r1 r2 n c1 c2 f g hn k fun b hb => hk b (by simpa using hb)
  · exact Ints_ne W0 r1 r2 n m c1 c2 f g h k (hk false (by simp [h]))
structure BackI (n : Nat) (a : Nat) (i : Int) : Prop where
  h1 : a ≤ n
  h2 : i = (n - 1 - a : Int)
def backF (n : Nat) (f : Nat → Int) (neg : Bool) (q : Nat) : Int := if neg then IntKind.i64.wrap (0 - f (n - 1 - q)) else f (n - 1 - q)
theorem back_c (W0 : World) (rw : Bool) (n : Nat) (c : Option Nat) (f : Nat → Int) (neg : Bool) (hn : n ≤ 17592186044) (k : V → Heap → Prop) (hk : k (.one (.sl 1 0 n none)) [ints rw n f, ints true n (backF n f neg)]) :
    ACall Try.prog W0 20 [.one (.sl 0 0 n c), .one (.bool neg)] [ints rw n f] k := by
  refine m_body tab_ok (fn := Try.f20) (by kernel_rfl) rfl ?_
  intro X hX
  cbv
  refine m_loop tab_ok hX (fun b : Nat × Int => BackI n b.1 b.2) (fun b => ([.one (.sl 0 0 n c), .one (.bool neg), .one .undef, .one .undef, .one .undef, .one (.sl 1 0 b.1 none), .one (.int .i64 b.2)] ++ List.replicate 20 (.one .undef), [ints rw n f, ints true b.1 (backF n f neg)])) (fun b => n - b.1) ?_ ?_
  · refine ⟨⟨0, n - 1⟩, ⟨by omega, by simp⟩, [some 0, none], ?_, rfl, rfl, ?_⟩
    · all_goals (first | (simp [MH, MB, MT, MV, MV.MVs, MC.MCs, MC, renC.renCs, renC, up]; done) | (simp [MH, MB, MT, MV, MV.MVs, MC.MCs, MC, renC.renCs, renC, up]; omega) | (simp [MH, MB, MT, MV, MV.MVs, MC.MCs, MC, renC.renCs, renC, up] <;> omega))
    · subst hX
      simp [MT, MV.MVs, MV, MC, std, binS]
      exact (wrap_eq (by omega) (by omega)).symm
  · rintro ⟨a, i⟩ hb
    replace hb : BackI n a i := hb
    cbv
    refine m_cond hX (fun h => ?_) (fun h => ?_) <;> cbv
    · have hh : (0 ≤ i ∧ i < n) ∧ i.toNat = n - 1 - a ∧ a < n := by
        obtain ⟨h1, h2⟩ := hb
        have : 0 ≤ i := by subst hX; simpa [std, cmpS] using h
        omega
      obtain ⟨hh1, hh2, hh3⟩ := hh
      refine ⟨by subst hX; exact hh1, by subst hX; show 0 + i.toNat < n; omega, ?_⟩
      refine m_cond hX (fun h5 => ?_) (fun h5 => ?_) <;> cbv
      all_goals
        refine m_append tab_ok hX (a + 1) (fun q => [.int .i64 (backF n f neg q)]) rfl rfl rfl rfl rfl rfl (by decide) rfl rfl rfl ?_ ?_
        · refine ⟨by omega, by omega, by omega, by show (a + 1) * 8 ≤ _; omega, by omega, fun q hq => ?_, fun q hq => by simp only [Nat.zero_add], fun q hq => ?_⟩
          · obtain rfl : q = 0 := by omega
            rfl
          · obtain rfl : q = 0 := by omega
            subst hX
            simp [std, binS, backF, h5, hh2, show ∀ x, Nat.add 0 x = x from Nat.zero_add]
            try omega
        · cbv
          refine ⟨⟨a + 1, i - 1⟩, ?_, ?_, [some 0, some 3], ?_, rfl, rfl, ?_⟩
          · obtain ⟨h1, h2⟩ := hb
            exact ⟨by omega, by omega⟩
          · show n - (a + 1) < n - a; omega
          · simp [MH, MB, MC.MCs, MC]
          · obtain ⟨h1, h2⟩ := hb
            subst hX
            simp [MT, MV.MVs, MV, MC, std, binS]
            exact (wrap_eq (by omega) (by omega)).symm
    · have hh : a = n := by
        obtain ⟨h1, h2⟩ := hb
        have : ¬ 0 ≤ i := by subst hX; simpa [std, cmpS] using h
        omega
      subst hh
      refine ⟨_, _, [some 0, some 1], ?_, rfl, rfl, ?_, hk⟩
      all_goals (first | (simp [MH, MB, MT, MV, MV.MVs, MC.MCs, MC, renC.renCs, renC, up]; done) | (simp [MH, MB, MT, MV, MV.MVs, MC.MCs, MC, renC.renCs, renC, up]; omega) | (simp [MH, MB, MT, MV, MV.MVs, MC.MCs, MC, renC.renCs, renC, up] <;> omega))
end Go.Proofs.Ytnfoibgafmeenaa.AM
