/- What the reference makes of layers that are folded, in plain words; its Half, told as an option. No condition but that the numbers are near. -/
import Derived.Test.YtnfoibgafmeenaaFo16
namespace Go.Proofs.Ytnfoibgafmeenaa.AM
open Go Go.RowKit
set_option cbv.warning false
set_option maxRecDepth 100000
set_option linter.unusedVariables false
set_option linter.unusedSimpArgs false
instance (a0 a1 a2 a3 b0 b1 b2 b3 : Int) : Decidable (meetP a0 a1 a2 a3 b0 b1 b2 b3) := by unfold meetP; exact inferInstance
def halfL (upr : Bool) (n : Int) (low : Bool) (l : La) : Option La :=
  if l.emp ∨ meetP l.a l.b l.c l.d (hA upr low n l.a) (hB upr low n l.b) (hC upr low n l.c) (hD upr low n l.d) then none
  else some (l.part (max l.a (hA upr low n l.a)) (max l.b (hB upr low n l.b)) (min l.c (hC upr low n l.c)) (min l.d (hD upr low n l.d)))
structure IsHalf (upr : Bool) (n : Int) (low : Bool) (l : La) (e : Bool) (z : La) : Prop where
  h : (e = false ∧ halfL upr n low l = none) ∨ (e = true ∧ halfL upr n low l = some z)
theorem RHalfG_c (W0 : World) (upr low : Bool) (n : Int) (l : La) (hl : l.Near 576460752303423488) (hn : Nr 576460752303423488 n) (k : V → Heap → Prop)
    (hk : ∀ b : Bool × La, IsHalf upr n low l b.1 b.2 → k (.tup [.agg (lc b.2), .one (.bool b.1)]) []) : ACall Try.prog W0 61 [.agg (lc l), .one (.bool upr), .one (.int .i64 n), .one (.bool low)] [] k := by
  refine RHalf_c W0 l.t l.X l.Y l.x0 l.y0 l.x1 l.y1 n upr low hl.t hl.X hl.Y hl.x0 hl.y0 hl.x1 hl.y1 hn k fun b hb => ?_
  obtain ⟨e, c0, c1, c2, c3, c4, c5, c6⟩ := b
  refine hk (e, ⟨c0, c1, c2, c3, c4, c5, c6⟩) ⟨?_⟩
  obtain ⟨la, lb, lc, ld, hB, ⟨la', lb', lc', ld', hB', h⟩⟩ := hb
  obtain ⟨rfl, rfl, rfl, rfl⟩ := hB
  obtain ⟨rfl, rfl, rfl, rfl⟩ := hB'
  rcases h with ⟨rfl, h⟩ | ⟨rfl, h1, h2, h3, h4, h5, h6, h7⟩
  · refine .inl ⟨rfl, ?_⟩
    unfold halfL
    rw [if_pos]
    unfold La.emp
    rcases h with h | h | h
    · exact .inl (.inl h)
    · exact .inl (.inr h)
    · exact .inr h
  · refine .inr ⟨rfl, ?_⟩
    unfold halfL
    rw [if_neg]
    · replace h4 : c4 = l.t := h4
      replace h5 : c5 = l.X := h5
      replace h6 : c6 = l.Y := h6
      show some (l.part _ _ _ _) = some (⟨c0, c1, c2, c3, c4, c5, c6⟩ : La)
      rw [h4, h5, h6]
      exact (congrArg some (IsPart.eq h7)).symm
    · rintro (h | h)
      · unfold La.emp at h; omega
      · exact h3 h
theorem halfL_near {K : Int} {upr low : Bool} {n : Int} {l z : La} (h : l.Near K) (hn : Nr K n) (hz : halfL upr n low l = some z) : z.Near (4 * K) := by
  have hK : 0 ≤ K := by obtain ⟨p, q⟩ := hn; omega
  obtain ⟨p0, p1, p2, p3⟩ := l.box.nr (L := 2 * K) h.t h.X h.Y h.x0 h.y0 h.x1 h.y1 (by omega)
  have hn' : Nr (2 * K) n := hn.up (by omega)
  unfold halfL at hz
  split at hz
  · cases hz
  · cases hz
    refine h.part (p0.max ?_) (p1.max ?_) (p2.min ?_) (p3.min ?_)
    · unfold hA
      split
      · exact p0.max hn'
      · exact p0
    · unfold hB
      split
      · exact p1.max hn'
      · exact p1
    · unfold hC
      split
      · exact p2.min hn'
      · exact p2
    · unfold hD
      split
      · exact p3.min hn'
      · exact p3
def foldL (upr low under : Bool) (n : Int) (xs : List La) : List La :=
  (if under then xs.filterMap (halfL upr n (!low)) else []) ++ xs.reverse.filterMap (fun l => (halfL upr n low l).map (layF upr n)) ++ (if under then [] else xs.filterMap (halfL upr n (!low)))
/-- A part of a loop: what came of the first ones. -/
structure FI (on : Bool) (A : List La) (hf : La → Option La) (xs : List La) (a : Nat) (i : Int) (u : Nat) (f : Nat → La) : Prop where
  h : a ≤ xs.length
  ei : i = a
  on : on = false → a = 0
  eO : Tells u f (A ++ (xs.take a).filterMap hf)
  len : u ≤ A.length + a
structure FD (A : List La) (hf : La → Option La) (xs : List La) (a : Nat) (i : Int) (u : Nat) (f : Nat → La) : Prop where
  h : a ≤ xs.length
  ei : i = (xs.length : Int) - 1 - a
  eO : Tells u f (A ++ (xs.reverse.take a).filterMap hf)
  len : u ≤ A.length + a
theorem filterMap_none {A xs : List La} {h : La → Option La} {a : Nat} (ha : a < xs.length) {l : La} (hl : l = xs.getD a La.zero) (e : h l = none) : A ++ (xs.take (a + 1)).filterMap h = A ++ (xs.take a).filterMap h := by
  rw [getD_take_succ xs a ha, List.filterMap_append, ← hl]
  simp [e]
theorem filterMap_some {A xs : List La} {h : La → Option La} {a : Nat} (ha : a < xs.length) {l z : La} (hl : l = xs.getD a La.zero) (e : h l = some z) : A ++ (xs.take (a + 1)).filterMap h = (A ++ (xs.take a).filterMap h) ++ [z] := by
  rw [getD_take_succ xs a ha, List.filterMap_append, ← hl, ← List.append_assoc]
  simp [e]
theorem getD_reverse {xs : List La} {a : Nat} (h : a < xs.length) : xs.reverse.getD a La.zero = xs.getD (xs.length - 1 - a) La.zero := by
  simp only [List.getD_eq_getElem?_getD]
  rw [List.getElem?_reverse h]
end Go.Proofs.Ytnfoibgafmeenaa.AM
