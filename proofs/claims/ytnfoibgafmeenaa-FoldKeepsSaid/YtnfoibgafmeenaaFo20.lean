/- What the program makes of folded layers is what the reference makes of them. No condition but that turns are turns. -/
import Derived.Test.YtnfoibgafmeenaaFo19
namespace Go.Proofs.Ytnfoibgafmeenaa.AM
open Go Go.RowKit
set_option maxRecDepth 100000
set_option linter.unusedVariables false
set_option linter.unusedSimpArgs false
theorem box_back {t X Y x0 y0 x1 y1 : Int} (ht : Tu t) (h0 : x0 < x1) (h1 : y0 < y1) :
    bA (tBack t) (-dX (tBack t) X Y) (-dY (tBack t) X Y) (bA t X Y x0 y0 x1 y1) (bB t X Y x0 y0 x1 y1) (bC t X Y x0 y0 x1 y1) (bD t X Y x0 y0 x1 y1) = x0 ∧
    bB (tBack t) (-dX (tBack t) X Y) (-dY (tBack t) X Y) (bA t X Y x0 y0 x1 y1) (bB t X Y x0 y0 x1 y1) (bC t X Y x0 y0 x1 y1) (bD t X Y x0 y0 x1 y1) = y0 ∧
    bC (tBack t) (-dX (tBack t) X Y) (-dY (tBack t) X Y) (bA t X Y x0 y0 x1 y1) (bB t X Y x0 y0 x1 y1) (bC t X Y x0 y0 x1 y1) (bD t X Y x0 y0 x1 y1) = x1 ∧
    bD (tBack t) (-dX (tBack t) X Y) (-dY (tBack t) X Y) (bA t X Y x0 y0 x1 y1) (bB t X Y x0 y0 x1 y1) (bC t X Y x0 y0 x1 y1) (bD t X Y x0 y0 x1 y1) = y1 := by
  rcases ht.cases with rfl | rfl | rfl | rfl | rfl | rfl | rfl | rfl <;> simp only [bA, bB, bC, bD, tBack, dX, dY] <;> simp <;> omega
theorem back_box {t X Y r0 r1 r2 r3 : Int} (ht : Tu t) (h0 : r0 < r2) (h1 : r1 < r3) :
    bA t X Y (bA (tBack t) (-dX (tBack t) X Y) (-dY (tBack t) X Y) r0 r1 r2 r3) (bB (tBack t) (-dX (tBack t) X Y) (-dY (tBack t) X Y) r0 r1 r2 r3) (bC (tBack t) (-dX (tBack t) X Y) (-dY (tBack t) X Y) r0 r1 r2 r3) (bD (tBack t) (-dX (tBack t) X Y) (-dY (tBack t) X Y) r0 r1 r2 r3) = r0 ∧
    bB t X Y (bA (tBack t) (-dX (tBack t) X Y) (-dY (tBack t) X Y) r0 r1 r2 r3) (bB (tBack t) (-dX (tBack t) X Y) (-dY (tBack t) X Y) r0 r1 r2 r3) (bC (tBack t) (-dX (tBack t) X Y) (-dY (tBack t) X Y) r0 r1 r2 r3) (bD (tBack t) (-dX (tBack t) X Y) (-dY (tBack t) X Y) r0 r1 r2 r3) = r1 ∧
    bC t X Y (bA (tBack t) (-dX (tBack t) X Y) (-dY (tBack t) X Y) r0 r1 r2 r3) (bB (tBack t) (-dX (tBack t) X Y) (-dY (tBack t) X Y) r0 r1 r2 r3) (bC (tBack t) (-dX (tBack t) X Y) (-dY (tBack t) X Y) r0 r1 r2 r3) (bD (tBack t) (-dX (tBack t) X Y) (-dY (tBack t) X Y) r0 r1 r2 r3) = r2 ∧
    bD t X Y (bA (tBack t) (-dX (tBack t) X Y) (-dY (tBack t) X Y) r0 r1 r2 r3) (bB (tBack t) (-dX (tBack t) X Y) (-dY (tBack t) X Y) r0 r1 r2 r3) (bC (tBack t) (-dX (tBack t) X Y) (-dY (tBack t) X Y) r0 r1 r2 r3) (bD (tBack t) (-dX (tBack t) X Y) (-dY (tBack t) X Y) r0 r1 r2 r3) = r3 := by
  rcases ht.cases with rfl | rfl | rfl | rfl | rfl | rfl | rfl | rfl <;> simp only [bA, bB, bC, bD, tBack, dX, dY] <;> simp <;> omega
theorem La.part_self {l : La} (ht : Tu l.t) (he : ¬ l.emp) : l.part l.a l.b l.c l.d = l := by
  unfold La.emp at he
  obtain ⟨h1, h2, h3, h4⟩ := box_back (X := l.X) (Y := l.Y) ht (show l.x0 < l.x1 by omega) (show l.y0 < l.y1 by omega)
  unfold La.part La.a La.b La.c La.d
  rw [h1, h2, h3, h4]
theorem La.part_lies {l : La} (ht : Tu l.t) {r0 r1 r2 r3 : Int} (h0 : r0 < r2) (h1 : r1 < r3) : (l.part r0 r1 r2 r3).a = r0 ∧ (l.part r0 r1 r2 r3).b = r1 ∧ (l.part r0 r1 r2 r3).c = r2 ∧ (l.part r0 r1 r2 r3).d = r3 := back_box ht h0 h1
theorem La.pos {l : La} (ht : Tu l.t) (he : ¬ l.emp) : l.a < l.c ∧ l.b < l.d := by
  unfold La.emp at he
  exact l.box.pos ht (by omega) (by omega)
theorem halfL_tt {n : Int} {l : La} (ht : Tu l.t) (he : ¬ l.emp) : halfL true n true l = if l.a < n then some (l.part l.a l.b (min l.c n) l.d) else none := by
  obtain ⟨p1, p2⟩ := La.pos ht he
  unfold halfL
  by_cases h : l.a < n
  · rw [if_neg, if_pos h]
    · simp [hA, hB, hC, hD]
    · rintro (g | g)
      · exact he g
      · unfold meetP at g
        simp [hA, hB, hC, hD] at g
        omega
  · rw [if_pos, if_neg h]
    refine .inr ?_
    unfold meetP
    simp [hA, hB, hC, hD]
    omega
theorem halfL_tf {n : Int} {l : La} (ht : Tu l.t) (he : ¬ l.emp) : halfL true n false l = if n < l.c then some (l.part (max l.a n) l.b l.c l.d) else none := by
  obtain ⟨p1, p2⟩ := La.pos ht he
  unfold halfL
  by_cases h : n < l.c
  · rw [if_neg, if_pos h]
    · simp [hA, hB, hC, hD]
    · rintro (g | g)
      · exact he g
      · unfold meetP at g
        simp [hA, hB, hC, hD] at g
        omega
  · rw [if_pos, if_neg h]
    refine .inr ?_
    unfold meetP
    simp [hA, hB, hC, hD]
    omega
theorem halfL_ft {n : Int} {l : La} (ht : Tu l.t) (he : ¬ l.emp) : halfL false n true l = if l.b < n then some (l.part l.a l.b l.c (min l.d n)) else none := by
  obtain ⟨p1, p2⟩ := La.pos ht he
  unfold halfL
  by_cases h : l.b < n
  · rw [if_neg, if_pos h]
    · simp [hA, hB, hC, hD]
    · rintro (g | g)
      · exact he g
      · unfold meetP at g
        simp [hA, hB, hC, hD] at g
        omega
  · rw [if_pos, if_neg h]
    refine .inr ?_
    unfold meetP
    simp [hA, hB, hC, hD]
    omega
theorem halfL_ff {n : Int} {l : La} (ht : Tu l.t) (he : ¬ l.emp) : halfL false n false l = if n < l.d then some (l.part l.a (max l.b n) l.c l.d) else none := by
  obtain ⟨p1, p2⟩ := La.pos ht he
  unfold halfL
  by_cases h : n < l.d
  · rw [if_neg, if_pos h]
    · simp [hA, hB, hC, hD]
    · rintro (g | g)
      · exact he g
      · unfold meetP at g
        simp [hA, hB, hC, hD] at g
        omega
  · rw [if_pos, if_neg h]
    refine .inr ?_
    unfold meetP
    simp [hA, hB, hC, hD]
    omega
theorem half_cut (upr low : Bool) (n : Int) (l : La) (ht : Tu l.t) : (cutL upr n l).filter (mvB upr low n) = (halfL upr n low l).toList ∧ (cutL upr n l).filter (fun z => !mvB upr low n z) = (halfL upr n (!low) l).toList := by
  by_cases he : l.emp
  · unfold cutL halfL
    rw [if_pos he, if_pos (.inl he), if_pos (.inl he)]
    exact ⟨rfl, rfl⟩
  · obtain ⟨p1, p2⟩ := La.pos ht he
    have hs := La.part_self ht he
    have L := fun (r0 r1 r2 r3 : Int) h0 h1 => La.part_lies (l := l) ht (r0 := r0) (r1 := r1) (r2 := r2) (r3 := r3) h0 h1
    unfold cutL
    rw [if_neg he]
    cases upr
    · by_cases h1 : l.b < n
      · by_cases h2 : n < l.d
        · rw [if_pos (by simp [thru]; omega)]
          have m0 : mvB false low n (l.part l.a l.b l.c n) = low := by
            unfold mvB eE
            simp [(L l.a l.b l.c n p1 h1).2.2.2]
          have m1 : mvB false low n (l.part l.a n l.c l.d) = !low := by
            unfold mvB eE
            have : ¬ l.d ≤ n := by omega
            simp [(L l.a n l.c l.d p1 h2).2.2.2, this]
          have e0 : min l.d n = n := by omega
          have e1 : max l.b n = n := by omega
          cases low <;> simp [halfL_ft ht he, halfL_ff ht he, h1, h2, m0, m1, e0, e1]
        · rw [if_neg (by simp [thru]; omega)]
          have m0 : mvB false low n l = low := by
            unfold mvB eE
            have : l.d ≤ n := by omega
            simp [this]
          have e0 : min l.d n = l.d := by omega
          cases low <;> simp [halfL_ft ht he, halfL_ff ht he, h1, h2, m0, e0, hs]
      · rw [if_neg (by simp [thru]; omega)]
        have h2 : n < l.d := by omega
        have m0 : mvB false low n l = !low := by
          unfold mvB eE
          have : ¬ l.d ≤ n := by omega
          simp [this]
        have e1 : max l.b n = l.b := by omega
        cases low <;> simp [halfL_ft ht he, halfL_ff ht he, h1, h2, m0, e1, hs]
    · by_cases h1 : l.a < n
      · by_cases h2 : n < l.c
        · rw [if_pos (by simp [thru]; omega)]
          have m0 : mvB true low n (l.part l.a l.b n l.d) = low := by
            unfold mvB eE
            simp [(L l.a l.b n l.d h1 p2).2.2.1]
          have m1 : mvB true low n (l.part n l.b l.c l.d) = !low := by
            unfold mvB eE
            have : ¬ l.c ≤ n := by omega
            simp [(L n l.b l.c l.d h2 p2).2.2.1, this]
          have e0 : min l.c n = n := by omega
          have e1 : max l.a n = n := by omega
          cases low <;> simp [halfL_tt ht he, halfL_tf ht he, h1, h2, m0, m1, e0, e1]
        · rw [if_neg (by simp [thru]; omega)]
          have m0 : mvB true low n l = low := by
            unfold mvB eE
            have : l.c ≤ n := by omega
            simp [this]
          have e0 : min l.c n = l.c := by omega
          cases low <;> simp [halfL_tt ht he, halfL_tf ht he, h1, h2, m0, e0, hs]
      · rw [if_neg (by simp [thru]; omega)]
        have h2 : n < l.c := by omega
        have m0 : mvB true low n l = !low := by
          unfold mvB eE
          have : ¬ l.c ≤ n := by omega
          simp [this]
        have e1 : max l.a n = l.a := by omega
        cases low <;> simp [halfL_tt ht he, halfL_tf ht he, h1, h2, m0, e1, hs]
theorem flatMap_toList (g : La → Option La) : ∀ xs : List La, xs.flatMap (fun l => (g l).toList) = xs.filterMap g
  | [] => rfl
  | l :: xs => by
    rw [List.flatMap_cons, flatMap_toList g xs]
    cases h : g l <;> simp [h]
theorem filter_flatMap' (p : La → Bool) (f : La → List La) : ∀ xs : List La, (xs.flatMap f).filter p = xs.flatMap fun l => (f l).filter p
  | [] => rfl
  | l :: xs => by
    rw [List.flatMap_cons, List.flatMap_cons, List.filter_append, filter_flatMap' p f xs]
theorem flatMap_congr' {f g : La → List La} : ∀ {xs : List La}, (∀ l ∈ xs, f l = g l) → xs.flatMap f = xs.flatMap g
  | [], _ => rfl
  | l :: xs, h => by
    rw [List.flatMap_cons, List.flatMap_cons, h l (by simp), flatMap_congr' fun z hz => h z (by simp [hz])]
/-- THE PLAIN LAW. -/
theorem one_fold (upr low under : Bool) (n : Int) (xs : List La) (h : ∀ l ∈ xs, Tu l.t) : oneL upr low under n xs = foldL upr low under n xs := by
  have e1 : mvL upr low n (xs.flatMap (cutL upr n)) = (xs.filterMap (halfL upr n low)).map (layF upr n) := by
    unfold mvL
    rw [filter_flatMap', flatMap_congr' fun l hl => (half_cut upr low n l (h l hl)).1, flatMap_toList]
  have e2 : rsL upr low n (xs.flatMap (cutL upr n)) = xs.filterMap (halfL upr n (!low)) := by
    unfold rsL
    rw [filter_flatMap', flatMap_congr' fun l hl => (half_cut upr low n l (h l hl)).2, flatMap_toList]
  unfold oneL foldL
  rw [e1, e2, List.map_filterMap, ← List.filterMap_reverse]
  cases under <;> simp
end Go.Proofs.Ytnfoibgafmeenaa.AM
