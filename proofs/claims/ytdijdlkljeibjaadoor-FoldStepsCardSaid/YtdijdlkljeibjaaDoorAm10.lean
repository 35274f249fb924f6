/- Less may be said of a state: blocks renamed, forgotten, told in other words; a call sees its own blocks alone; loops. -/
import Derived.Test.YtdijdlkljeibjaaDoorAm9
namespace Go.Proofs.YtdijdlkljeibjaaDoor.AM
open Go Go.RowKit
set_option linter.unusedVariables false
set_option linter.unusedSimpArgs false

abbrev Sg := List (Option Nat)

/-- The first says no more than the second, whose blocks it names anew. -/
def MC (σ : Sg) : C → C → Prop
  | .undef, _ => True
  | .int k n, .int k' n' => k = k' ∧ n = n'
  | .bool b, .bool b' => b = b'
  | .str s, .str s' => s = s'
  | .ptr id i j, .ptr g i' j' => σ[id]? = some (some g) ∧ i = i' ∧ j = j'
  | .nilp, .nilp => True
  | .sl id i len cap, .sl g i' len' cap' => σ[id]? = some (some g) ∧ i = i' ∧ len = len' ∧ (cap = none ∨ cap = cap')
  | .sl id i len cap, .nils => σ[id]? = some none ∧ len = 0 ∧ cap = none
  | .nils, .nils => True
  | .fn f caps, .fn f' caps' => f = f' ∧ MCs σ caps caps'
  | .nilf, .nilf => True
  | .raw v, .raw v' => v = v'
  | _, _ => False
where MCs (σ : Sg) : List C → List C → Prop
  | [], [] => True
  | c :: cs, d :: ds => MC σ c d ∧ MCs σ cs ds
  | _, _ => False

def MV (σ : Sg) : V → V → Prop
  | .one .undef, _ => True
  | .one c, .one d => MC σ c d
  | .agg cs, .agg ds => MC.MCs σ cs ds
  | .tup vs, .tup us => MVs σ vs us
  | _, _ => False
where MVs (σ : Sg) : List V → List V → Prop
  | [], [] => True
  | c :: cs, d :: ds => MV σ c d ∧ MVs σ cs ds
  | _, _ => False

def MB (σ : Sg) : B → B → Prop
  | .box t cs, .box t' cs' => t = t' ∧ MC.MCs σ cs cs'
  | .row rw t sz n f, .row rw' t' sz' n' f' => rw = rw' ∧ t = t' ∧ sz = sz' ∧ n ≤ n' ∧ ∀ i, i < n → MC.MCs σ (f i) (f' i)
  | .obj o, .obj o' => o = o'
  | _, _ => False

/-- Block by block. -/
def MH (σ : Sg) (H : Heap) : Heap → Sg → Prop
  | [], [] => True
  | none :: hs, _ :: ss => MH σ H hs ss
  | some x :: hs, some g :: ss => (match H.getD g none with | some y => MB σ x y | none => False) ∧ MH σ H hs ss
  | some x :: hs, none :: ss => (match x with | .row _ _ _ n _ => n = 0 | _ => False) ∧ MH σ H hs ss
  | _, _ => False

def noDup : Sg → Bool
  | [] => true
  | none :: s => noDup s
  | some g :: s => !(s.contains (some g)) && noDup s

/-- The names as the new state has them. -/
def reN (σ : Sg) (r : Pl) : Pl := fun id => match σ[id]? with
  | some (some g) => r g
  | some none => some .nil
  | none => none

mutual
theorem MC.rel {σ : Sg} {r : Pl} : ∀ {c d : C} {v : Value}, MC σ c d → CR r d v → CR (reN σ r) c v
  | .undef, d, v, _, _ => by unfold CR; trivial
  | .int k n, .int k' n', v, h, H => by unfold MC at h; unfold CR at H ⊢; rw [h.1, h.2]; exact H
  | .bool b, .bool b', v, h, H => by unfold MC at h; unfold CR at H ⊢; rw [h]; exact H
  | .str b, .str b', v, h, H => by unfold MC at h; unfold CR at H ⊢; rw [h]; exact H
  | .ptr id i j, .ptr g i' j', v, h, H => by
    unfold MC at h
    unfold CR at H ⊢
    obtain ⟨h1, rfl, rfl⟩ := h
    obtain ⟨rw_, b, o, s, e, e1, e2⟩ := H
    exact ⟨rw_, b, o, s, e, by unfold reN; rw [h1]; exact e1, e2⟩
  | .nilp, .nilp, v, h, H => H
  | .sl id i len cap, .sl g i' len' cap', v, h, H => by
    unfold MC at h
    unfold CR at H ⊢
    obtain ⟨h1, rfl, rfl, h2⟩ := h
    rcases H with ⟨rw_, b, o, s, e, ad, c, e1, e2, e3, e4, e5⟩ | ⟨e1, ⟨ad, e2, e4⟩, e3⟩
    · exact .inl ⟨rw_, b, o, s, e, ad, c, by unfold reN; rw [h1]; exact e1, e2, e3, e4, fun n hn => by
        rcases h2 with rfl | rfl
        · cases hn
        · exact e5 n hn⟩
    · refine .inr ⟨by unfold reN; rw [h1]; exact e1, ⟨ad, e2, ?_⟩, e3⟩
      rcases h2 with rfl | rfl
      · exact .inl rfl
      · exact e4
  | .sl id i len cap, .nils, v, h, H => by
    unfold MC at h
    unfold CR at H ⊢
    exact .inr ⟨by unfold reN; rw [h.1], ⟨none, H, .inl h.2.2⟩, h.2.1⟩
  | .nils, .nils, v, h, H => H
  | .fn f caps, .fn f' caps', v, h, H => by
    unfold MC at h
    unfold CR at H ⊢
    obtain ⟨vs, e1, e2⟩ := H
    exact ⟨vs, by rw [h.1]; exact e1, MCs.rel h.2 e2⟩
  | .nilf, .nilf, v, h, H => H
  | .raw u, .raw u', v, h, H => by unfold MC at h; unfold CR at H ⊢; rw [h]; exact H
theorem MCs.rel {σ : Sg} {r : Pl} : ∀ {c d : List C} {v : List Value}, MC.MCs σ c d → CRs r d v → CRs (reN σ r) c v
  | [], [], v, h, H => by cases v <;> simp_all [CRs]
  | c :: cs, d :: ds, v :: vs, h, H => by
    unfold MC.MCs at h
    unfold CRs at H ⊢
    exact ⟨MC.rel h.1 H.1, MCs.rel h.2 H.2⟩
  | c :: cs, d :: ds, [], h, H => by simp [CRs] at H
  | [], _ :: _, _, h, _ => by simp [MC.MCs] at h
  | _ :: _, [], _, h, _ => by simp [MC.MCs] at h
end

mutual
theorem MV.rel {σ : Sg} {r : Pl} : ∀ {c d : V} {v : Value}, MV σ c d → VR r d v → VR (reN σ r) c v
  | .one c, .one d, v, h, H => by
    unfold VR at H ⊢
    cases c <;> first | exact MC.rel h H | (unfold CR; trivial)
  | .one c, .agg ds, v, h, H => by
    cases c <;> first | exact h.elim | (unfold VR CR; trivial)
  | .one c, .tup ds, v, h, H => by
    cases c <;> first | exact h.elim | (unfold VR CR; trivial)
  | .agg cs, .agg ds, v, h, H => by
    unfold VR at H ⊢
    obtain ⟨vs, e1, e2⟩ := H
    exact ⟨vs, e1, MCs.rel h e2⟩
  | .tup cs, .tup ds, v, h, H => by
    unfold MV at h
    unfold VR at H ⊢
    obtain ⟨vs, e1, e2⟩ := H
    exact ⟨vs, e1, MVs.rel h e2⟩
  | .agg cs, .one d, v, h, H => h.elim
  | .agg cs, .tup d, v, h, H => h.elim
  | .tup cs, .one d, v, h, H => by simp [MV] at h
  | .tup cs, .agg d, v, h, H => by simp [MV] at h
theorem MVs.rel {σ : Sg} {r : Pl} : ∀ {c d : List V} {v : List Value}, MV.MVs σ c d → VRs r d v → VRs (reN σ r) c v
  | [], [], v, h, H => by cases v <;> simp_all [VRs]
  | c :: cs, d :: ds, v :: vs, h, H => by
    unfold MV.MVs at h
    unfold VRs at H ⊢
    exact ⟨MV.rel h.1 H.1, MVs.rel h.2 H.2⟩
  | c :: cs, d :: ds, [], h, H => by simp [VRs] at H
  | [], _ :: _, _, h, _ => by simp [MV.MVs] at h
  | _ :: _, [], _, h, _ => by simp [MV.MVs] at h
end

theorem MCs.length {σ : Sg} : ∀ {c d : List C}, MC.MCs σ c d → c.length = d.length
  | [], [], _ => rfl
  | c :: cs, d :: ds, h => by unfold MC.MCs at h; simp [MCs.length h.2]
  | [], _ :: _, h => by simp [MC.MCs] at h
  | _ :: _, [], h => by simp [MC.MCs] at h

theorem MCs.get {σ : Sg} : ∀ {c d : List C}, MC.MCs σ c d → ∀ (i : Nat) (x : C), c[i]? = some x → ∃ y, d[i]? = some y ∧ MC σ x y
  | [], [], _, i, x, h => by simp at h
  | c :: cs, d :: ds, H, i, x, h => by
    unfold MC.MCs at H
    cases i with
    | zero => simp at h; subst h; exact ⟨d, by simp, H.1⟩
    | succ i => simpa using MCs.get H.2 i x (by simpa using h)
  | [], _ :: _, H, _, _, _ => by simp [MC.MCs] at H
  | _ :: _, [], H, _, _, _ => by simp [MC.MCs] at H

theorem MB.rel {σ : Sg} {r : Pl} {w : World} {b o e : Nat} {x y : B} (h : MB σ x y) (H : BR r w b o e y) : BR (reN σ r) w b o e x := by
  cases x with
  | box t cs =>
    cases y with
    | box t' cs' =>
      obtain ⟨rfl, h⟩ := h
      obtain ⟨us, h1, h0, h2⟩ := H
      refine ⟨us, h1, h0, fun j c hc => ?_⟩
      obtain ⟨d, hd, hm⟩ := MCs.get h j c hc
      obtain ⟨v, e1, e2⟩ := h2 j d hd
      exact ⟨v, e1, hm.rel e2⟩
    | _ => exact h.elim
  | row rw_ t sz n f =>
    cases y with
    | box => exact h.elim
    | obj => exact h.elim
    | row rw2 t' sz' n' f' =>
      obtain ⟨rfl, rfl, rfl, hn, h⟩ := h
      obtain ⟨us, t2, fr, h1, h0, h3, h2⟩ := H
      replace h2 := fun i (hi : i < n) => h2 i (Nat.lt_of_lt_of_le hi hn)
      refine ⟨us, t2, fr, h1, h0, h3, fun i hi => ⟨by rw [MCs.length (h i hi)]; exact (h2 i hi).1, fun j c hc => ?_⟩⟩
      obtain ⟨d, hd, hm⟩ := MCs.get (h i hi) j c hc
      obtain ⟨v, e1, e2⟩ := (h2 i hi).2 j d hd
      exact ⟨v, e1, hm.rel e2⟩
  | obj ob =>
    cases y with
    | obj ob' => cases h; exact H
    | _ => exact h.elim

theorem MB.sz {σ : Sg} {x y : B} (h : MB σ x y) : x.sz = y.sz := by
  cases x <;> cases y <;> first | exact h.elim | rfl | exact h.2.2.1
theorem MB.rw_ {σ : Sg} {x y : B} (h : MB σ x y) : x.rw = y.rw := by
  cases x <;> cases y <;> first | exact h.elim | rfl | exact h.1

theorem MH.get {σ : Sg} {H : Heap} : ∀ {H2 : Heap} {ss : Sg}, MH σ H H2 ss → H2.length = ss.length ∧ ∀ (j : Nat) (x : B), H2[j]? = some (some x) → (∃ g y, ss[j]? = some (some g) ∧ H[g]? = some (some y) ∧ MB σ x y) ∨ (ss[j]? = some none ∧ ∃ rw t sz f, x = .row rw t sz 0 f)
  | [], [], _ => ⟨rfl, fun j x h => by simp at h⟩
  | none :: hs, s :: ss, h => by
    unfold MH at h
    obtain ⟨h1, h2⟩ := MH.get h
    refine ⟨by simp [h1], fun j x hx => ?_⟩
    cases j with
    | zero => simp at hx
    | succ j => simpa using h2 j x (by simpa using hx)
  | some x :: hs, some g :: ss, h => by
    unfold MH at h
    obtain ⟨h1, h2⟩ := MH.get h.2
    refine ⟨by simp [h1], fun j y hy => ?_⟩
    cases j with
    | zero =>
      simp at hy
      subst hy
      left
      have h3 := h.1
      rw [List.getD_eq_getElem?_getD] at h3
      cases hg : H[g]? with
      | none => rw [hg] at h3; exact h3.elim
      | some q =>
        rw [hg] at h3
        cases q with
        | none => exact h3.elim
        | some q => exact ⟨g, q, by simp, hg, h3⟩
    | succ j => simpa using h2 j y (by simpa using hy)
  | some x :: hs, none :: ss, h => by
    unfold MH at h
    obtain ⟨h1, h2⟩ := MH.get h.2
    refine ⟨by simp [h1], fun j y hy => ?_⟩
    cases j with
    | zero =>
      simp at hy
      subst hy
      right
      have h3 := h.1
      cases x with
      | box => exact h3.elim
      | obj => exact h3.elim
      | row rw_ t sz n f => simp only at h3; subst h3; exact ⟨by simp, _, _, _, _, rfl⟩
    | succ j => simpa using h2 j y (by simpa using hy)
  | [], _ :: _, h => by simp [MH] at h
  | none :: _, [], h => by simp [MH] at h
  | some _ :: _, [], h => by simp [MH] at h

theorem noDup_inj : ∀ {s : Sg}, noDup s = true → ∀ (i j g : Nat), s[i]? = some (some g) → s[j]? = some (some g) → i = j
  | [], _, i, j, g, h, _ => by simp at h
  | none :: s, hn, i, j, g, hi, hj => by
    unfold noDup at hn
    cases i with
    | zero => simp at hi
    | succ i =>
      cases j with
      | zero => simp at hj
      | succ j => rw [noDup_inj hn i j g (by simpa using hi) (by simpa using hj)]
  | some q :: s, hn, i, j, g, hi, hj => by
    unfold noDup at hn
    simp only [Bool.and_eq_true, Bool.not_eq_true', List.contains_eq_mem, decide_eq_false_iff_not] at hn
    cases i with
    | zero =>
      simp at hi
      subst hi
      cases j with
      | zero => rfl
      | succ j => exact absurd (List.mem_of_getElem? (by simpa using hj)) hn.1
    | succ i =>
      cases j with
      | zero =>
        simp at hj
        subst hj
        exact absurd (List.mem_of_getElem? (by simpa using hi)) hn.1
      | succ j => rw [noDup_inj hn.2 i j g (by simpa using hi) (by simpa using hj)]

/-- The dead ones of the first n blocks are let off. -/
def mute (n : Nat) : Nat → Heap → Sg → Sg
  | i, none :: hs, q :: s => (match Nat.blt i n with | true => none | false => q) :: mute n (i + 1) hs s
  | i, some _ :: hs, q :: s => q :: mute n (i + 1) hs s
  | _, [], s => s
  | _, _ :: _, [] => []
/-- The other dead ones have names of their own. -/
def deadOk (n : Nat) : Nat → Heap → Sg → Bool
  | i, none :: hs, q :: s => (match Nat.blt i n with | true => true | false => match q with | some g => Nat.ble n g | none => true) && deadOk n (i + 1) hs s
  | i, some _ :: hs, _ :: s => deadOk n (i + 1) hs s
  | _, [], [] => true
  | _, _, _ => false
def okS (n : Nat) (H2 : Heap) (s : Sg) : Bool := noDup s || (noDup (mute n 0 H2 s) && deadOk n 0 H2 s)
theorem okS_of {n : Nat} {H2 : Heap} {s : Sg} (h : noDup s = true) : okS n H2 s = true := by unfold okS; rw [h]; rfl
theorem mute_live {n : Nat} : ∀ {i : Nat} {H : Heap} {s : Sg} {j : Nat} {x : B}, H[j]? = some (some x) → (mute n i H s)[j]? = s[j]?
  | i, [], s, j, x, h => by simp at h
  | i, none :: hs, [], j, x, h => by simp [mute]
  | i, some _ :: hs, [], j, x, h => by simp [mute]
  | i, none :: hs, q :: s, 0, x, h => by simp at h
  | i, some _ :: hs, q :: s, 0, x, h => by simp [mute]
  | i, none :: hs, q :: s, j + 1, x, h => by
    simp only [mute, List.getElem?_cons_succ]
    exact mute_live (by simpa using h)
  | i, some _ :: hs, q :: s, j + 1, x, h => by
    simp only [mute, List.getElem?_cons_succ]
    exact mute_live (by simpa using h)
theorem mute_late {n : Nat} : ∀ {i : Nat} {H : Heap} {s : Sg} {j : Nat}, H.length = s.length → n ≤ i + j → (mute n i H s)[j]? = s[j]?
  | i, [], s, j, hl, h => by simp [mute]
  | i, none :: hs, [], j, hl, h => by simp [mute]
  | i, some _ :: hs, [], j, hl, h => by simp [mute]
  | i, none :: hs, q :: s, 0, hl, h => by
    have hb : Nat.blt i n = false := by
      cases hb : Nat.blt i n with
      | false => rfl
      | true => have := Nat.le_of_ble_eq_true hb; omega
    simp [mute, hb]
  | i, some _ :: hs, q :: s, 0, hl, h => by simp [mute]
  | i, none :: hs, q :: s, j + 1, hl, h => by
    simp only [mute, List.getElem?_cons_succ]
    exact mute_late (by simpa using hl) (by omega)
  | i, some _ :: hs, q :: s, j + 1, hl, h => by
    simp only [mute, List.getElem?_cons_succ]
    exact mute_late (by simpa using hl) (by omega)
theorem deadOk_get {n : Nat} : ∀ {i : Nat} {H : Heap} {s : Sg} {j g : Nat}, deadOk n i H s = true → H[j]? = some none → n ≤ i + j → s[j]? = some (some g) → n ≤ g
  | i, [], s, j, g, h, h1, h2, h3 => by simp at h1
  | i, none :: hs, [], j, g, h, h1, h2, h3 => by simp at h3
  | i, some _ :: hs, [], j, g, h, h1, h2, h3 => by simp at h3
  | i, none :: hs, q :: s, 0, g, h, h1, h2, h3 => by
    have hb : Nat.blt i n = false := by
      cases hb : Nat.blt i n with
      | false => rfl
      | true => have := Nat.le_of_ble_eq_true hb; omega
    simp at h3
    subst h3
    simp only [deadOk, hb, Bool.and_eq_true] at h
    exact Nat.le_of_ble_eq_true h.1
  | i, some _ :: hs, q :: s, 0, g, h, h1, h2, h3 => by simp at h1
  | i, none :: hs, q :: s, j + 1, g, h, h1, h2, h3 => by
    simp only [deadOk, Bool.and_eq_true] at h
    exact deadOk_get h.2 (by simpa using h1) (by omega) (by simpa using h3)
  | i, some _ :: hs, q :: s, j + 1, g, h, h1, h2, h3 => by
    simp only [deadOk] at h
    exact deadOk_get h (by simpa using h1) (by omega) (by simpa using h3)
theorem okS_inj {n : Nat} {H2 : Heap} {s : Sg} (h : okS n H2 s = true) {i j g : Nat} {x y : B} (hx : H2[i]? = some (some x)) (hy : H2[j]? = some (some y)) (hi : s[i]? = some (some g)) (hj : s[j]? = some (some g)) : i = j := by
  unfold okS at h
  rw [Bool.or_eq_true, Bool.and_eq_true] at h
  rcases h with h | ⟨h, _⟩
  · exact noDup_inj h i j g hi hj
  · exact noDup_inj h i j g (by rw [mute_live hx]; exact hi) (by rw [mute_live hy]; exact hj)
theorem okS_late {n : Nat} {H2 : Heap} {s : Sg} (h : okS n H2 s = true) (hl : H2.length = s.length) {i g : Nat} (hi : n ≤ i) (hg : g < n) (hs : s[i]? = some (some g)) (hk : s[g]? = some (some g)) : ∃ x, H2[i]? = some (some x) := by
  unfold okS at h
  rw [Bool.or_eq_true, Bool.and_eq_true] at h
  rcases h with h | ⟨_, h⟩
  · have := noDup_inj h i g g hs hk
    omega
  · have hlt : i < s.length := (List.getElem?_eq_some_iff.1 hs).1
    cases hh : H2[i]? with
    | none => have := List.getElem?_eq_none_iff.1 hh; omega
    | some q =>
      cases q with
      | some x => exact ⟨x, rfl⟩
      | none => have := deadOk_get h hh (by omega) hs; omega

theorem WR.weaken {n : Nat} {W0 : World} {r : Pl} {fz : Fz} {H H2 : Heap} {w : World} {σ : Sg} (h : WR W0 r fz H w) (hm : MH σ H H2 σ) (hn : okS n H2 σ = true) : WR W0 (reN σ r) fz H2 w := by
  obtain ⟨hl, hm⟩ := hm.get
  refine ⟨h.below, h.froz, h.old, fun id hid => ?_, fun j x hx => ?_, fun j j' x x' b o s e o' s' e' hx hx' he he' => ?_⟩
  · unfold reN
    rw [List.getElem?_eq_none (by omega)]
  · rcases hm j x hx with ⟨g, y, h1, h2, h3⟩ | ⟨h1, h2⟩
    · rcases h.live g y h2 with ⟨b, o, e, e1, e2, e4, e3⟩ | ⟨e1, rw_, t, sz, f, rfl⟩
      · exact .inl ⟨b, o, e, by unfold reN; rw [h1, h3.sz, h3.rw_]; exact e1, by rw [h3.rw_]; exact e2, by rw [h3.rw_]; exact e4, h3.rel e3⟩
      · refine .inr ⟨by unfold reN; rw [h1]; exact e1, ?_⟩
        cases x with
        | box => exact h3.elim
        | obj => exact h3.elim
        | row rw2 t' sz' n f' => obtain ⟨_, _, _, h0, _⟩ := h3; exact ⟨rw2, t', sz', f', by rw [Nat.le_zero.1 h0]⟩
    · exact .inr ⟨by unfold reN; rw [h1], h2⟩
  · unfold reN at he he'
    rcases hm j x hx with ⟨g, y, h1, h2, h3⟩ | ⟨h1, h2⟩
    · rw [h1] at he
      rcases hm j' x' hx' with ⟨g', y', h1', h2', h3'⟩ | ⟨h1', h2'⟩
      · rw [h1'] at he'
        have := h.inj g g' y y' _ _ _ _ _ _ _ h2 h2' he he'
        subst this
        exact okS_inj hn hx hx' h1 h1'
      · rw [h1'] at he'; cases he'
    · rw [h1] at he; cases he

/-- The first n blocks keep their names. -/
def keeps : Nat → Sg → Bool
  | 0, _ => true
  | n + 1, s => (match s[n]? with | some (some g) => Nat.beq g n | _ => false) && keeps n s

theorem keeps_get : ∀ {n : Nat} {s : Sg}, keeps n s = true → ∀ i, i < n → s[i]? = some (some i)
  | 0, _, _, i, h => by omega
  | n + 1, s, h, i, hi => by
    unfold keeps at h
    rw [Bool.and_eq_true] at h
    by_cases he : i = n
    · subst he
      have h1 := h.1
      split at h1
      · rename_i g hg; rw [hg, Nat.eq_of_beq_eq_true h1]
      · cases h1
    · exact keeps_get h.2 i (by omega)

theorem Stp.weaken {W0 : World} {r r1 : Pl} {fz fz1 : Fz} {H H1 H2 : Heap} {w w1 : World} {σ : Sg} (h : Stp r fz H w r1 fz1 H1 w1) (hw : WR W0 r1 fz1 H1 w1) (hm : MH σ H1 H2 σ) (hn : okS H.length H2 σ = true) (hk : keeps H.length σ = true) : Stp r fz H w (reN σ r1) fz1 H2 w1 := by
  obtain ⟨hl, hm⟩ := hm.get
  have hkg := keeps_get hk
  have hle : H.length ≤ H2.length := by
    rcases Nat.eq_zero_or_pos H.length with h0 | h0
    · omega
    · have := (List.getElem?_eq_some_iff.1 (hkg (H.length - 1) (by omega))).1
      omega
  refine ⟨hle, fun id hid => ?_, h.phi, h.size, fun id b o s e hid he => ?_, fun id x hid hx => ?_, h.frame, h.newf⟩
  · unfold reN
    rw [hkg id hid]
    exact h.ext id hid
  · unfold reN at he
    cases hs : σ[id]? with
    | none => rw [hs] at he; cases he
    | some q =>
      rw [hs] at he
      cases q with
      | none => cases he
      | some g =>
        simp only at he
        rcases Nat.lt_or_ge g H.length with hg | hg
        · obtain ⟨x, hx⟩ := okS_late hn (by omega) hid hg hs (hkg g hg)
          rcases hm id x hx with ⟨g', y, h1, h2, h3⟩ | ⟨h1, _⟩
          · rw [hs] at h1
            cases h1
            obtain ⟨y', hy'⟩ := h.dead g y hg h2
            exact .inr ⟨g, y', o, s, e, hy', by rw [← h.ext g hg]; exact he⟩
          · rw [hs] at h1; cases h1
        · exact h.fresh g b o s e hg he
  · rcases hm id x hx with ⟨g, y, h1, h2, h3⟩ | ⟨h1, _⟩
    · rw [hkg id hid] at h1
      cases h1
      exact h.dead id y hid h2
    · rw [hkg id hid] at h1
      cases h1

/-- Temporaries. -/
def MT (σ : Sg) : List V → List V → Prop := MV.MVs σ

theorem TR.weaken {r : Pl} {T T2 : List V} {tmps : Array Value} {σ : Sg} (h : TR r T tmps) (hm : MT σ T2 T) : TR (reN σ r) T2 tmps := by
  have hget : ∀ {c d : List V}, MV.MVs σ c d → c.length = d.length ∧ ∀ (i : Nat) (x : V), c[i]? = some x → ∃ y, d[i]? = some y ∧ MV σ x y := by
    intro c
    induction c with
    | nil => intro d hd; cases d <;> simp_all [MV.MVs]
    | cons c cs ih =>
      intro d hd
      cases d with
      | nil => simp [MV.MVs] at hd
      | cons d ds =>
        unfold MV.MVs at hd
        obtain ⟨h1, h2⟩ := ih hd.2
        refine ⟨by simp [h1], fun i x hx => ?_⟩
        cases i with
        | zero => simp at hx; subst hx; exact ⟨d, by simp, hd.1⟩
        | succ i => simpa using h2 i x (by simpa using hx)
  obtain ⟨h1, h2⟩ := hget hm
  refine ⟨h1.trans h.len, fun t => ?_⟩
  rw [List.getD_eq_getElem?_getD]
  cases ht : T2[t]? with
  | none => simp; unfold VR CR; trivial
  | some x =>
    obtain ⟨y, e1, e2⟩ := h2 t x ht
    have := h.get t
    rw [List.getD_eq_getElem?_getD, e1] at this
    exact e2.rel this

/-- What a call comes to may be told with less. -/
def Tidy (n : Nat) (k : V → Heap → Prop) (v : V) (H : Heap) : Prop := ∃ v2 H2 σ, MH σ H H2 σ ∧ okS n H2 σ = true ∧ keeps n σ = true ∧ MV σ v2 v ∧ k v2 H2

theorem ACall.tidy {P : Program} {W0 : World} {f : FuncId} {args : List V} {H : Heap} {k : V → Heap → Prop} (h : ACall P W0 f args H (Tidy H.length k)) : ACall P W0 f args H k := by
  intro r fz w vs hw hvs
  refine (h r fz w vs hw hvs).mono fun e w' ⟨v, u, H', r', fz', he, ⟨v2, H2, σ, h1, h2, h3, h4, h5⟩, hw', hv, hst⟩ => ?_
  exact ⟨v2, u, H2, reN σ r', fz', he, h5, hw'.weaken h1 h2, h4.rel hv, hst.weaken hw' h1 h2 h3⟩
end Go.Proofs.YtdijdlkljeibjaaDoor.AM
