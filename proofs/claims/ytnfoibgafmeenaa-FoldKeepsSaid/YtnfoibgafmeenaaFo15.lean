/- Layers that are folded at a line, as the program does it, as a contract on the abstract machine. No condition but that the numbers are near and the layers few. -/
import Derived.Test.YtnfoibgafmeenaaFo14
namespace Go.Proofs.Ytnfoibgafmeenaa.AM
open Go Go.RowKit
set_option cbv.warning false
set_option maxRecDepth 100000
set_option linter.unusedVariables false
set_option linter.unusedSimpArgs false
theorem bodied_41 : Bodied Try.prog 41 := ⟨Try.f41, by kernel_rfl, by kernel_rfl, by kernel_rfl⟩
theorem bodied_56 : Bodied Try.prog 56 := ⟨Try.f56, by kernel_rfl, by kernel_rfl, by kernel_rfl⟩
def mvL (upr low : Bool) (n : Int) (ps : List La) : List La := (ps.filter (mvB upr low n)).map (layF upr n)
def rsL (upr low : Bool) (n : Int) (ps : List La) : List La := ps.filter fun z => !mvB upr low n z
def oneL (upr low under : Bool) (n : Int) (xs : List La) : List La :=
  if under then rsL upr low n (xs.flatMap (cutL upr n)) ++ (mvL upr low n (xs.flatMap (cutL upr n))).reverse else (mvL upr low n (xs.flatMap (cutL upr n))).reverse ++ rsL upr low n (xs.flatMap (cutL upr n))
theorem La.Near.up {K L : Int} {l : La} (h : l.Near K) (hl : K ≤ L) : l.Near L := ⟨h.t, h.X.up hl, h.Y.up hl, h.x0.up hl, h.y0.up hl, h.x1.up hl, h.y1.up hl⟩
theorem La.Near.part {K : Int} {l : La} (h : l.Near K) {r0 r1 r2 r3 : Int} (h0 : Nr (2 * K) r0) (h1 : Nr (2 * K) r1) (h2 : Nr (2 * K) r2) (h3 : Nr (2 * K) r3) : (l.part r0 r1 r2 r3).Near (4 * K) := by
  have hK : 0 ≤ K := by obtain ⟨p, q⟩ := h.X; omega
  obtain ⟨q1, q2⟩ := Nr.dX h.t.back h.X h.Y
  obtain ⟨p0, p1, p2, p3⟩ := (IsBox.nr (L := 4 * K) (K := 2 * K) ⟨rfl, rfl, rfl, rfl⟩ h.t.back (q1.neg.up (by omega)) (q2.neg.up (by omega)) h0 h1 h2 h3 (by omega))
  exact ⟨h.t, h.X.up (by omega), h.Y.up (by omega), p0, p1, p2, p3⟩
theorem cutL_near {K : Int} {upr : Bool} {n : Int} {l z : La} (h : l.Near K) (hn : Nr K n) (hz : z ∈ cutL upr n l) : z.Near (4 * K) := by
  have hK : 0 ≤ K := by obtain ⟨p, q⟩ := hn; omega
  obtain ⟨p0, p1, p2, p3⟩ := l.box.nr (L := 2 * K) h.t h.X h.Y h.x0 h.y0 h.x1 h.y1 (by omega)
  have hn' : Nr (2 * K) n := hn.up (by omega)
  unfold cutL at hz
  split at hz
  · cases hz
  · split at hz
    · simp only [List.mem_cons, List.not_mem_nil, or_false] at hz
      rcases hz with rfl | rfl <;> cases upr <;> exact h.part (by assumption) (by assumption) (by assumption) (by assumption)
    · simp only [List.mem_cons, List.not_mem_nil, or_false] at hz
      subst hz
      exact h.up (by omega)
theorem cutL_len (upr : Bool) (n : Int) (l : La) : (cutL upr n l).length ≤ 2 := by
  unfold cutL
  split
  · simp
  · split <;> simp
structure OneI (upr low : Bool) (n : Int) (xs : List La) (a : Nat) (i : Int) (u : Nat) (f : Nat → La) (v : Nat) (g : Nat → La) : Prop where
  h : a ≤ xs.length
  ei : i = a
  eM : Tells u f (mvL upr low n ((xs.take a).flatMap (cutL upr n)))
  eR : Tells v g (rsL upr low n ((xs.take a).flatMap (cutL upr n)))
  len : u + v ≤ 2 * a
structure OneJ (upr low : Bool) (n : Int) (xs : List La) (a : Nat) (P : List La) (b : Nat) (j : Int) (u : Nat) (f : Nat → La) (v : Nat) (g : Nat → La) : Prop where
  h : b ≤ P.length
  ej : j = b
  eM : Tells u f (mvL upr low n ((xs.take a).flatMap (cutL upr n) ++ P.take b))
  eR : Tells v g (rsL upr low n ((xs.take a).flatMap (cutL upr n) ++ P.take b))
  len : u + v ≤ 2 * a + b
theorem mvL_snoc (upr low : Bool) (n : Int) (A : List La) (z : La) : mvL upr low n (A ++ [z]) = mvL upr low n A ++ (if mvB upr low n z then [layF upr n z] else []) := by
  unfold mvL
  rw [List.filter_append, List.map_append]
  congr 1
  cases h : mvB upr low n z <;> simp [h]
theorem rsL_snoc (upr low : Bool) (n : Int) (A : List La) (z : La) : rsL upr low n (A ++ [z]) = rsL upr low n A ++ (if mvB upr low n z then [] else [z]) := by
  unfold rsL
  rw [List.filter_append]
  congr 1
  cases h : mvB upr low n z <;> simp [h]
theorem mvB_of {upr low : Bool} {n : Int} {z : La} {b : Bool} (h : b = true ↔ (eE upr z.c z.d ≤ n ↔ low = true)) : b = mvB upr low n z := by
  unfold mvB
  by_cases hd : eE upr z.c z.d ≤ n <;> cases low <;> cases b <;> simp [hd] at h ⊢
theorem getD_take_succ (xs : List La) (a : Nat) (h : a < xs.length) : xs.take (a + 1) = xs.take a ++ [xs.getD a La.zero] := by
  rw [List.take_succ_eq_append_getElem h]
  congr 2
  simp [h]
theorem Tells.snoc {v : Nat} {g : Nat → La} {A : List La} (h : Tells v g A) (z : La) : ∃ g' : Nat → La, Tells (v + 1) g' (A ++ [z]) ∧ (∀ q, q < v → g' q = g q) ∧ g' v = z := by
  have hn := h.n
  refine ⟨fun q => (A ++ [z]).getD q La.zero, ⟨by simp [hn], fun _ _ => rfl⟩, fun q hq => ?_, ?_⟩
  · rw [h.f q hq]
    simp only [List.getD_eq_getElem?_getD]
    rw [List.getElem?_append_left (by omega)]
  · simp only [List.getD_eq_getElem?_getD]
    rw [hn, List.getElem?_append_right (by omega)]
    simp
theorem IsThen.layF {upr : Bool} {n a b c q0 q1 q2 : Int} {z : La} (hf : IsFlip upr n a b c) (h : IsThen z.t z.X z.Y a b c q0 q1 q2) : (⟨z.x0, z.y0, z.x1, z.y1, q0, q1, q2⟩ : La) = AM.layF upr n z := by
  obtain ⟨rfl, rfl, rfl⟩ := hf
  obtain ⟨rfl, rfl, rfl⟩ := h
  rfl
theorem fT_tu (upr : Bool) : Tu (fT upr) := by cases upr <;> exact ⟨by decide, by decide⟩
theorem fX_nr {K n : Int} {upr : Bool} (h : Nr K n) : Nr (2 * K) (fX upr n) := by
  obtain ⟨h1, h2⟩ := h
  cases upr <;> constructor <;> simp [fX] <;> omega
theorem fY_nr {K n : Int} {upr : Bool} (h : Nr K n) : Nr (2 * K) (fY upr n) := by
  obtain ⟨h1, h2⟩ := h
  cases upr <;> constructor <;> simp [fY] <;> omega
theorem Tells.rev {u : Nat} {f : Nat → La} {B : List La} (h : Tells u f B) : Tells u (fun q => f (u - 1 - q)) B.reverse := by
  have hn := h.n
  refine ⟨by simp [hn], fun q hq => ?_⟩
  show f (u - 1 - q) = _
  rw [h.f _ (by omega)]
  simp only [List.getD_eq_getElem?_getD]
  rw [List.getElem?_reverse (by omega), hn]
theorem Tells.app {v u : Nat} {g f : Nat → La} {A B : List La} (h : Tells v g A) (k : Tells u f B) : (A ++ B).length = v + u ∧ (∀ q, q < v → (A ++ B).getD q La.zero = g q) ∧ ∀ q, q < u → (A ++ B).getD (v + q) La.zero = f q := by
  have h1 := h.n
  have h2 := k.n
  refine ⟨by simp [h1, h2], fun q hq => ?_, fun q hq => ?_⟩
  · rw [h.f q hq]
    simp only [List.getD_eq_getElem?_getD]
    rw [List.getElem?_append_left (by omega)]
  · rw [k.f q hq]
    simp only [List.getD_eq_getElem?_getD]
    rw [List.getElem?_append_right (by omega), h1]
    congr 2
    omega
theorem allOk_lc (z : La) : allOk (lc z) = true := rfl
end Go.Proofs.Ytnfoibgafmeenaa.AM
