/- As much paper is there as was, and it lies where it is folded to. No condition but that turns are turns. -/
import Derived.Test.YtnfoibgafmeenaaFo22
namespace Go.Proofs.Ytnfoibgafmeenaa.AM
open Go Go.RowKit
set_option maxRecDepth 100000
set_option linter.unusedVariables false
set_option linter.unusedSimpArgs false
def La.area (l : La) : Int := (l.x1 - l.x0) * (l.y1 - l.y0)
def La.areaE (l : La) : Int := if l.emp then 0 else l.area
def sumA : List La → Int
  | [] => 0
  | l :: ls => l.area + sumA ls
theorem sumA_append : ∀ (A B : List La), sumA (A ++ B) = sumA A + sumA B
  | [], B => by simp [sumA]
  | l :: A, B => by
    show l.area + sumA (A ++ B) = l.area + sumA A + sumA B
    rw [sumA_append A B]
    omega
theorem sumA_reverse : ∀ A : List La, sumA A.reverse = sumA A
  | [] => rfl
  | l :: A => by
    rw [List.reverse_cons, sumA_append, sumA_reverse A]
    show sumA A + (l.area + 0) = l.area + sumA A
    omega
theorem sumA_filter (p : La → Bool) : ∀ A : List La, sumA (A.filter p) + sumA (A.filter fun z => !p z) = sumA A
  | [] => rfl
  | l :: A => by
    have := sumA_filter p A
    cases h : p l <;> simp [h, sumA] <;> omega
theorem sumA_layF (upr : Bool) (n : Int) : ∀ A : List La, sumA (A.map (layF upr n)) = sumA A
  | [] => rfl
  | l :: A => by
    rw [List.map_cons]
    unfold sumA
    rw [sumA_layF upr n A]
    rfl
theorem area_part {l : La} (ht : Tu l.t) {r0 r1 r2 r3 : Int} (h0 : r0 < r2) (h1 : r1 < r3) : (l.part r0 r1 r2 r3).area = (r2 - r0) * (r3 - r1) := by
  have h : ((l.part r0 r1 r2 r3).x1 - (l.part r0 r1 r2 r3).x0 = r2 - r0 ∧ (l.part r0 r1 r2 r3).y1 - (l.part r0 r1 r2 r3).y0 = r3 - r1) ∨ ((l.part r0 r1 r2 r3).x1 - (l.part r0 r1 r2 r3).x0 = r3 - r1 ∧ (l.part r0 r1 r2 r3).y1 - (l.part r0 r1 r2 r3).y0 = r2 - r0) := by
    unfold La.part
    rcases ht.cases with h | h | h | h | h | h | h | h <;> rw [h] <;> simp only [bA, bB, bC, bD, tBack, dX, dY] <;> simp <;> omega
  unfold La.area
  rcases h with ⟨e1, e2⟩ | ⟨e1, e2⟩ <;> rw [e1, e2]
  exact Int.mul_comm _ _
theorem La.area_lies {l : La} (ht : Tu l.t) (he : ¬ l.emp) : l.area = (l.c - l.a) * (l.d - l.b) := by
  obtain ⟨p1, p2⟩ := La.pos ht he
  have := area_part (l := l) ht p1 p2
  rw [La.part_self ht he] at this
  exact this
theorem sumA_cut (upr : Bool) (n : Int) (l : La) (ht : Tu l.t) : sumA (cutL upr n l) = l.areaE := by
  unfold cutL La.areaE
  by_cases he : l.emp
  · rw [if_pos he, if_pos he]
    rfl
  · obtain ⟨p1, p2⟩ := La.pos ht he
    rw [if_neg he, if_neg he]
    by_cases hth : thru upr n l.a l.b l.c l.d
    · rw [if_pos hth]
      unfold sumA sumA sumA
      rw [La.area_lies ht he]
      cases upr
      · simp [thru] at hth
        simp only [Bool.false_eq_true, if_false]
        rw [area_part ht p1 hth.1, area_part ht p1 hth.2, Int.add_zero, ← Int.mul_add]
        congr 1
        omega
      · simp [thru] at hth
        simp only [if_true]
        rw [area_part ht hth.1 p2, area_part ht hth.2 p2, Int.add_zero, ← Int.add_mul]
        congr 1
        omega
    · rw [if_neg hth]
      show l.area + 0 = l.area
      omega
def sumE : List La → Int
  | [] => 0
  | l :: ls => l.areaE + sumE ls
theorem sumA_flat (upr : Bool) (n : Int) : ∀ xs : List La, (∀ l ∈ xs, Tu l.t) → sumA (xs.flatMap (cutL upr n)) = sumE xs
  | [], _ => rfl
  | l :: xs, h => by
    rw [List.flatMap_cons, sumA_append, sumA_cut upr n l (h l (by simp)), sumA_flat upr n xs fun z hz => h z (by simp [hz])]
    rfl
theorem sumA_one (upr low under : Bool) (n : Int) (xs : List La) (h : ∀ l ∈ xs, Tu l.t) : sumA (oneL upr low under n xs) = sumE xs := by
  rw [← sumA_flat upr n xs h]
  have e3 := sumA_filter (mvB upr low n) (xs.flatMap (cutL upr n))
  have e1 : sumA (mvL upr low n (xs.flatMap (cutL upr n))).reverse = sumA ((xs.flatMap (cutL upr n)).filter (mvB upr low n)) := by
    rw [sumA_reverse]
    unfold mvL
    rw [sumA_layF]
  have e2 : sumA (rsL upr low n (xs.flatMap (cutL upr n))) = sumA ((xs.flatMap (cutL upr n)).filter fun z => !mvB upr low n z) := rfl
  unfold oneL
  split
  · rw [sumA_append, e1, e2]; omega
  · rw [sumA_append, e1, e2]; omega
/-- It lies behind the line. -/
def beyond (upr low : Bool) (n : Int) (z : La) : Prop := if upr then (if low then n ≤ z.a else z.c ≤ n) else (if low then n ≤ z.b else z.d ≤ n)
theorem half_beyond (upr low : Bool) (n : Int) (l z : La) (ht : Tu l.t) (h : halfL upr n (!low) l = some z) : beyond upr low n z := by
  by_cases he : l.emp
  · unfold halfL at h
    rw [if_pos (.inl he)] at h
    cases h
  · obtain ⟨p1, p2⟩ := La.pos ht he
    have L := fun (r0 r1 r2 r3 : Int) h0 h1 => La.part_lies (l := l) ht (r0 := r0) (r1 := r1) (r2 := r2) (r3 := r3) h0 h1
    cases upr <;> cases low <;> simp only [Bool.not_true, Bool.not_false] at h
    · rw [halfL_ft ht he] at h
      split at h
      · cases h
        have := (L l.a l.b l.c (min l.d n) p1 (by omega)).2.2.2
        simp [beyond, this]
        omega
      · cases h
    · rw [halfL_ff ht he] at h
      split at h
      · cases h
        have := (L l.a (max l.b n) l.c l.d p1 (by omega)).2.1
        simp [beyond, this]
        omega
      · cases h
    · rw [halfL_tt ht he] at h
      split at h
      · cases h
        have := (L l.a l.b (min l.c n) l.d (by omega) p2).2.2.1
        simp [beyond, this]
        omega
      · cases h
    · rw [halfL_tf ht he] at h
      split at h
      · cases h
        have := (L (max l.a n) l.b l.c l.d (by omega) p2).1
        simp [beyond, this]
        omega
      · cases h
theorem then_0_4 : tThen 0 4 = 4 := by decide +kernel
theorem then_1_4 : tThen 1 4 = 7 := by decide +kernel
theorem then_2_4 : tThen 2 4 = 6 := by decide +kernel
theorem then_3_4 : tThen 3 4 = 5 := by decide +kernel
theorem then_4_4 : tThen 4 4 = 0 := by decide +kernel
theorem then_5_4 : tThen 5 4 = 3 := by decide +kernel
theorem then_6_4 : tThen 6 4 = 2 := by decide +kernel
theorem then_7_4 : tThen 7 4 = 1 := by decide +kernel
theorem then_0_6 : tThen 0 6 = 6 := by decide +kernel
theorem then_1_6 : tThen 1 6 = 5 := by decide +kernel
theorem then_2_6 : tThen 2 6 = 4 := by decide +kernel
theorem then_3_6 : tThen 3 6 = 7 := by decide +kernel
theorem then_4_6 : tThen 4 6 = 2 := by decide +kernel
theorem then_5_6 : tThen 5 6 = 1 := by decide +kernel
theorem then_6_6 : tThen 6 6 = 0 := by decide +kernel
theorem then_7_6 : tThen 7 6 = 3 := by decide +kernel
theorem layF_lies_t {n : Int} {z : La} (ht : Tu z.t) : (layF true n z).a = 2 * n - z.c ∧ (layF true n z).c = 2 * n - z.a := by
  simp only [layF, La.a, La.b, La.c, La.d, fT, fX, fY, if_true, Bool.false_eq_true, if_false]
  rcases ht.cases with h | h | h | h | h | h | h | h <;> rw [h] <;> simp only [then_0_4, then_1_4, then_2_4, then_3_4, then_4_4, then_5_4, then_6_4, then_7_4, bA, bB, bC, bD, dX, dY] <;> simp <;> omega
theorem layF_lies_f {n : Int} {z : La} (ht : Tu z.t) : (layF false n z).b = 2 * n - z.d ∧ (layF false n z).d = 2 * n - z.b := by
  simp only [layF, La.a, La.b, La.c, La.d, fT, fX, fY, if_true, Bool.false_eq_true, if_false]
  rcases ht.cases with h | h | h | h | h | h | h | h <;> rw [h] <;> simp only [then_0_6, then_1_6, then_2_6, then_3_6, then_4_6, then_5_6, then_6_6, then_7_6, bA, bB, bC, bD, dX, dY] <;> simp <;> omega
theorem beyond_lay (upr low : Bool) (n : Int) (l y : La) (ht : Tu l.t) (h : halfL upr n low l = some y) : beyond upr low n (layF upr n y) := by
  have hy : beyond upr (!low) n y := half_beyond upr (!low) n l y ht (by rw [Bool.not_not]; exact h)
  have hty : Tu y.t := by
    unfold halfL at h
    split at h
    · cases h
    · cases h; exact ht
  cases upr
  · obtain ⟨e1, e2⟩ := layF_lies_f (n := n) hty
    cases low <;> simp [beyond, e1, e2] at hy ⊢ <;> omega
  · obtain ⟨e1, e2⟩ := layF_lies_t (n := n) hty
    cases low <;> simp [beyond, e1, e2] at hy ⊢ <;> omega
theorem one_beyond (upr low under : Bool) (n : Int) (xs : List La) (h : ∀ l ∈ xs, Tu l.t) : ∀ z ∈ oneL upr low under n xs, beyond upr low n z := by
  rw [one_fold upr low under n xs h]
  have h1 : ∀ z ∈ xs.filterMap (halfL upr n (!low)), beyond upr low n z := fun z hz => by
    obtain ⟨l, hl, hlz⟩ := List.mem_filterMap.1 hz
    exact half_beyond upr low n l z (h l hl) hlz
  have h2 : ∀ z ∈ xs.reverse.filterMap (fun l => (halfL upr n low l).map (layF upr n)), beyond upr low n z := fun z hz => by
    obtain ⟨l, hl, hlz⟩ := List.mem_filterMap.1 hz
    obtain ⟨y, hy, rfl⟩ := Option.map_eq_some_iff.1 hlz
    exact beyond_lay upr low n l y (h l (by simpa using hl)) hy
  intro z hz
  unfold foldL at hz
  cases under <;> simp only [if_true, if_false, Bool.false_eq_true, List.nil_append, List.append_nil] at hz <;> rcases List.mem_append.1 hz with hz | hz <;> first | exact h1 z hz | exact h2 z hz
theorem wrap_sum (S p : Int) : IntKind.i64.wrap (IntKind.i64.wrap S + IntKind.i64.wrap p) = IntKind.i64.wrap (S + p) := by
  unfold IntKind.wrap
  simp [IntKind.bits, IntKind.signed]
  omega
/-- A sum over the first ones. -/
def sumTo (f : Nat → Int) : Nat → Int
  | 0 => 0
  | n + 1 => sumTo f n + f n
theorem sumTo_tells {u : Nat} {f : Nat → La} {M : List La} (h : Tells u f M) (p : La → Int) (s : List La → Int) (h0 : s [] = 0) (h1 : ∀ A z, s (A ++ [z]) = s A + p z) : sumTo (fun q => p (f q)) u = s M := by
  have hn := h.n
  have key : ∀ a, a ≤ u → sumTo (fun q => p (f q)) a = s (M.take a) := by
    intro a
    induction a with
    | zero => intro _; simp [sumTo, h0]
    | succ a ih =>
      intro ha
      rw [getD_take_succ M a (by omega), h1, ← ih (by omega), ← h.f a (by omega)]
      rfl
  rw [key u (Nat.le_refl _), List.take_of_length_le (by omega)]
theorem sumE_snoc (A : List La) (z : La) : sumE (A ++ [z]) = sumE A + z.areaE := by
  induction A with
  | nil => simp [sumE]
  | cons l A ih =>
    rw [List.cons_append]
    unfold sumE
    rw [ih]
    omega
theorem sumA_snoc (A : List La) (z : La) : sumA (A ++ [z]) = sumA A + z.area := by
  rw [sumA_append]
  show sumA A + (z.area + 0) = _
  omega
end Go.Proofs.Ytnfoibgafmeenaa.AM
