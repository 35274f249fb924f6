/- Plain words on fields of a line: which octets may be seen, where a quoted text ends, where a part ends, the fields of a line. No program in sight; no condition. -/
import Derived.Test.YthkbomclongjgaaDoorPk
namespace Go.Proofs.YthkbomclongjgaaDoor.Pk
set_option linter.unusedVariables false
set_option linter.unusedSimpArgs false

theorem eq_lit (n : Int) {c d : UInt8} (h : c = d) (hd : (d.toNat : Int) = n) : (c.toNat : Int) = n := by rw [h]; exact hd
theorem ne_lit (n : Int) {c d : UInt8} (h : c ≠ d) (hd : (d.toNat : Int) = n) : ¬ (c.toNat : Int) = n := by
  intro e
  apply h
  apply UInt8.toNat_inj.1
  omega
def seenB (c : UInt8) : Bool := decide (32 ≤ c.toNat) && decide (c.toNat ≤ 126)
def blankB (c : UInt8) : Bool := c == 32 || c == 9

/-- Behind an opening quote: what belongs to the quoted text, its end with it, and what stands behind. -/
def qL : List UInt8 → Option (List UInt8 × List UInt8)
  | [] => none
  | [c] => if c = 34 then some ([34], []) else none
  | c :: d :: l => if seenB c = false then none else if c = 34 then some ([34], d :: l) else
    if c = 92 then (if seenB d = false then none else (qL l).map fun p => (c :: d :: p.1, p.2))
    else (qL (d :: l)).map fun p => (c :: p.1, p.2)

theorem seenB_34 : seenB 34 = true := by decide
theorem seenB_92 : seenB 92 = true := by decide
theorem qL_one {c : UInt8} (h : c = 34) : qL [c] = some ([c], []) := by subst h; rfl
theorem qL_lone {c : UInt8} (h : c ≠ 34) : qL [c] = none := by simp [qL, h]
theorem qL_bad {c : UInt8} {l : List UInt8} (h : seenB c = false) : qL (c :: l) = none := by
  cases l with
  | nil => exact qL_lone (fun e => by subst e; cases h)
  | cons d l => simp [qL, h]
theorem qL_close {c : UInt8} {l : List UInt8} (h : c = 34) : qL (c :: l) = some ([c], l) := by
  subst h
  cases l with
  | nil => rfl
  | cons d l => simp [qL, seenB_34]
theorem qL_esc {c d : UInt8} {l : List UInt8} (h : c = 92) (hd : seenB d = true) : qL (c :: d :: l) = (qL l).map fun p => (c :: d :: p.1, p.2) := by subst h; simp [qL, hd, seenB_92]
theorem qL_escbad {c d : UInt8} {l : List UInt8} (h : c = 92) (hd : seenB d = false) : qL (c :: d :: l) = none := by subst h; simp [qL, hd]
theorem qL_more {c : UInt8} {l : List UInt8} (hs : seenB c = true) (h : c ≠ 34) (h2 : c ≠ 92) : qL (c :: l) = (qL l).map fun p => (c :: p.1, p.2) := by
  cases l with
  | nil => rw [qL_lone h]; rfl
  | cons d l => simp [qL, hs, h, h2]
theorem qL_split : ∀ (n : Nat) (l : List UInt8), l.length ≤ n → ∀ a b, qL l = some (a, b) → l = a ++ b ∧ a ≠ [] := by
  intro n
  induction n with
  | zero =>
    intro l hl a b h
    have : l = [] := List.length_eq_zero_iff.1 (by omega)
    subst this
    simp [qL] at h
  | succ n ih =>
    intro l hl a b h
    match l, hl, h with
    | [], _, h => simp [qL] at h
    | [c], _, h =>
      simp only [qL] at h
      split at h
      · rename_i hc; simp at h; obtain ⟨rfl, rfl⟩ := h; subst hc; simp
      · cases h
    | c :: d :: l, hl, h =>
      simp only [qL] at h
      split at h
      · cases h
      · split at h
        · rename_i hc; simp at h; obtain ⟨rfl, rfl⟩ := h; subst hc; simp
        · split at h
          · split at h
            · cases h
            · obtain ⟨⟨a', b'⟩, h1, h2⟩ := Option.map_eq_some_iff.1 h
              simp only [Prod.mk.injEq] at h2
              obtain ⟨rfl, rfl⟩ := h2
              have := (ih l (by simp at hl; omega) _ _ h1).1
              simp [this]
          · obtain ⟨⟨a', b'⟩, h1, h2⟩ := Option.map_eq_some_iff.1 h
            simp only [Prod.mk.injEq] at h2
            obtain ⟨rfl, rfl⟩ := h2
            have := (ih (d :: l) (by simp at hl ⊢; omega) _ _ h1).1
            simp [this]

/-- A part: as far as something blank, a remark, or the end. -/
def partL : Nat → List UInt8 → Option (List UInt8 × List UInt8)
  | _, [] => some ([], [])
  | 0, _ => none
  | n + 1, c :: l => if blankB c = true then some ([], c :: l) else if c = 35 then some ([], c :: l) else
    if c = 34 then (match qL l with
      | none => none
      | some (p, r) => (partL n r).map fun q => (c :: p ++ q.1, q.2))
    else if seenB c = false then none else (partL n l).map fun q => (c :: q.1, q.2)

theorem partL_split : ∀ (n : Nat) (l : List UInt8) (a b : List UInt8), partL n l = some (a, b) → l = a ++ b := by
  intro n
  induction n with
  | zero =>
    intro l a b h
    cases l with
    | nil => simp [partL] at h; obtain ⟨rfl, rfl⟩ := h; rfl
    | cons c l => simp [partL] at h
  | succ n ih =>
    intro l a b h
    cases l with
    | nil => simp [partL] at h; obtain ⟨rfl, rfl⟩ := h; rfl
    | cons c l =>
      simp only [partL] at h
      split at h
      · simp at h; obtain ⟨rfl, rfl⟩ := h; rfl
      · split at h
        · simp at h; obtain ⟨rfl, rfl⟩ := h; rfl
        · split at h
          · split at h
            · cases h
            · rename_i p r hq
              obtain ⟨⟨a', b'⟩, h1, h2⟩ := Option.map_eq_some_iff.1 h
              simp only [Prod.mk.injEq] at h2
              obtain ⟨rfl, rfl⟩ := h2
              have e1 := (qL_split l.length l (Nat.le_refl _) _ _ hq).1
              have e2 := ih _ _ _ h1
              rw [e1]
              simp [← e2]
          · split at h
            · cases h
            · obtain ⟨⟨a', b'⟩, h1, h2⟩ := Option.map_eq_some_iff.1 h
              simp only [Prod.mk.injEq] at h2
              obtain ⟨rfl, rfl⟩ := h2
              have e2 := ih _ _ _ h1
              rw [e2]
              rfl
theorem partL_more : ∀ (n : Nat) (l : List UInt8), l.length ≤ n → partL (n + 1) l = partL n l := by
  intro n
  induction n with
  | zero =>
    intro l hl
    have : l = [] := List.length_eq_zero_iff.1 (by omega)
    subst this
    rfl
  | succ n ih =>
    intro l hl
    cases l with
    | nil => rfl
    | cons c l =>
      rw [partL, partL]
      simp only [List.length_cons] at hl
      rw [ih l (by omega)]
      cases hq : qL l with
      | none => rfl
      | some q =>
        obtain ⟨p, r⟩ := q
        have e1 := (qL_split l.length l (Nat.le_refl _) _ _ hq).1
        have : r.length ≤ n := by have := congrArg List.length e1; simp at this; omega
        simp only [ih r this]
theorem partL_mono (l : List UInt8) : ∀ (m n : Nat), l.length ≤ n → partL (n + m) l = partL n l := by
  intro m
  induction m with
  | zero => intro n _; rfl
  | succ m ih =>
    intro n hn
    rw [← Nat.add_assoc, partL_more _ _ (by omega), ih n hn]
theorem partL_blank {n : Nat} {c : UInt8} {l : List UInt8} (h : blankB c = true) : partL (n + 1) (c :: l) = some ([], c :: l) := by simp [partL, h]
theorem partL_remark {n : Nat} {c : UInt8} {l : List UInt8} (h : c = 35) : partL (n + 1) (c :: l) = some ([], c :: l) := by simp [partL, h]
theorem partL_quote {n : Nat} {c : UInt8} {l : List UInt8} (h : c = 34) : partL (n + 1) (c :: l) = match qL l with
      | none => none
      | some (p, r) => (partL n r).map fun q => (c :: p ++ q.1, q.2) := by
  subst h
  rw [partL, if_neg (by decide), if_neg (by decide), if_pos rfl]
theorem partL_bad {n : Nat} {c : UInt8} {l : List UInt8} (h1 : blankB c = false) (h2 : c ≠ 35) (h3 : c ≠ 34) (h : seenB c = false) : partL (n + 1) (c :: l) = none := by simp [partL, h1, h2, h3, h]
theorem partL_step {n : Nat} {c : UInt8} {l : List UInt8} (h1 : blankB c = false) (h2 : c ≠ 35) (h3 : c ≠ 34) (h : seenB c = true) : partL (n + 1) (c :: l) = (partL n l).map fun q => (c :: q.1, q.2) := by simp [partL, h1, h2, h3, h]
/-- What stands behind a part: nothing, something blank, or a remark. -/
theorem partL_stop : ∀ (n : Nat) (l : List UInt8) (a b : List UInt8), partL n l = some (a, b) → b = [] ∨ ∃ c t, b = c :: t ∧ (blankB c = true ∨ c = 35) := by
  intro n
  induction n with
  | zero =>
    intro l a b h
    cases l with
    | nil => simp [partL] at h; obtain ⟨rfl, rfl⟩ := h; exact .inl rfl
    | cons c l => simp [partL] at h
  | succ n ih =>
    intro l a b h
    cases l with
    | nil => simp [partL] at h; obtain ⟨rfl, rfl⟩ := h; exact .inl rfl
    | cons c l =>
      simp only [partL] at h
      split at h
      · rename_i hb; simp at h; obtain ⟨rfl, rfl⟩ := h; exact .inr ⟨c, l, rfl, .inl hb⟩
      · split at h
        · rename_i hb; simp at h; obtain ⟨rfl, rfl⟩ := h; exact .inr ⟨c, l, rfl, .inr hb⟩
        · split at h
          · split at h
            · cases h
            · obtain ⟨⟨a', b'⟩, h1, h2⟩ := Option.map_eq_some_iff.1 h
              simp only [Prod.mk.injEq] at h2
              obtain ⟨rfl, rfl⟩ := h2
              exact ih _ _ _ h1
          · split at h
            · cases h
            · obtain ⟨⟨a', b'⟩, h1, h2⟩ := Option.map_eq_some_iff.1 h
              simp only [Prod.mk.injEq] at h2
              obtain ⟨rfl, rfl⟩ := h2
              exact ih _ _ _ h1
/-- A part that begins with what is neither blank nor a remark is not empty. -/
theorem partL_some {n : Nat} {c : UInt8} {l a b : List UInt8} (h1 : blankB c = false) (h2 : c ≠ 35) (h : partL n (c :: l) = some (a, b)) : a ≠ [] := by
  cases n with
  | zero => simp [partL] at h
  | succ n =>
    simp only [partL, h1, h2, if_false, Bool.false_eq_true] at h
    split at h
    · split at h
      · cases h
      · obtain ⟨⟨a', b'⟩, h1, h2⟩ := Option.map_eq_some_iff.1 h
        simp only [Prod.mk.injEq] at h2
        obtain ⟨rfl, rfl⟩ := h2
        simp
    · split at h
      · cases h
      · obtain ⟨⟨a', b'⟩, h1, h2⟩ := Option.map_eq_some_iff.1 h
        simp only [Prod.mk.injEq] at h2
        obtain ⟨rfl, rfl⟩ := h2
        simp

/-- A line's fields, part by part. -/
def fieldsL : Nat → List (List UInt8) → List UInt8 → List (List UInt8) × Bool
  | _, out, [] => (out, true)
  | 0, _, _ => ([], false)
  | n + 1, out, c :: l => if c = 35 then (out, true) else if blankB c = true then fieldsL n out l else
    match partL (l.length + 1) (c :: l) with
    | none => ([], false)
    | some (a, b) => fieldsL n (out ++ [a]) b

/-- The document's own way: octet by octet. -/
def refL (out : List (List UInt8)) (part : List UInt8) (within free : Bool) : List UInt8 → List (List UInt8) × Bool
  | [] => if part = [] then (if within = true then ([], false) else (out, true)) else (if within = true then ([], false) else (out ++ [part], true))
  | c :: l => if within = true then (if seenB c = false then ([], false) else refL out (part ++ [c]) (free || (c != 34)) (!free && (c == 92)) l)
    else if blankB c = true then refL (if part = [] then out else out ++ [part]) [] within free l
    else if c = 35 then ((if part = [] then out else out ++ [part]), true)
    else if seenB c = false then ([], false)
    else refL out (part ++ [c]) (c == 34) free l

theorem refL_quoted : ∀ (n : Nat) (l : List UInt8), l.length ≤ n → ∀ out part, part ≠ [] →
    refL out part true false l = match qL l with
      | none => ([], false)
      | some (a, b) => refL out (part ++ a) false false b := by
  intro n
  induction n with
  | zero =>
    intro l hl out part hp
    have : l = [] := List.length_eq_zero_iff.1 (by omega)
    subst this
    simp [qL, refL, hp]
  | succ n ih =>
    intro l hl out part hp
    match l, hl with
    | [], _ => simp [qL, refL, hp]
    | [c], _ =>
      by_cases hc : c = 34
      · subst hc
        simp [qL, refL, seenB_34]
      · by_cases hs : seenB c = false
        · simp [qL, refL, hs, hc]
        · by_cases h9 : c = 92
          · subst h9; simp [qL, refL]
          · simp [qL, refL, hs, hc, h9]
    | c :: d :: l, hl =>
      by_cases hs : seenB c = false
      · simp [qL, refL, hs]
      · by_cases hc : c = 34
        · subst hc
          rw [refL, if_pos rfl, if_neg hs]
          simp [qL, seenB_34]
        · rw [refL, if_pos rfl, if_neg hs]
          by_cases h9 : c = 92
          · subst h9
            rw [show (false || ((92 : UInt8) != 34)) = true from by decide, show (!false && ((92 : UInt8) == 92)) = true from by decide, refL, if_pos rfl]
            by_cases hd : seenB d = false
            · simp [qL, hd]
            · rw [if_neg hd]
              simp only [Bool.true_or, Bool.not_true, Bool.false_and]
              have := ih l (by simp at hl; omega) out (part ++ [92] ++ [d]) (by simp)
              simp only [qL, hs, hd, hc]
              simp only [if_false, if_true]
              rw [this]
              cases qL l with
              | none => rfl
              | some q => simp
          · have e1 : (c != 34) = true := by simpa using hc
            have e2 : (c == 92) = false := by simpa using h9
            rw [e1, e2]
            simp only [Bool.false_or, Bool.and_false]
            rw [ih (d :: l) (by simp at hl ⊢; omega) out (part ++ [c]) (by simp)]
            simp only [qL, hs, hc, h9, if_false, Bool.false_eq_true]
            cases qL (d :: l) with
            | none => rfl
            | some q => simp

theorem refL_part : ∀ (n : Nat) (l : List UInt8), l.length ≤ n → ∀ out part,
    refL out part false false l = match partL n l with
      | none => ([], false)
      | some (a, b) => refL out (part ++ a) false false b := by
  intro n
  induction n with
  | zero =>
    intro l hl out part
    have : l = [] := List.length_eq_zero_iff.1 (by omega)
    subst this
    simp [partL]
  | succ n ih =>
    intro l hl out part
    cases l with
    | nil => simp [partL]
    | cons c l =>
      simp only [List.length_cons] at hl
      rw [partL]
      by_cases hb : blankB c = true
      · simp [hb]
      · by_cases hr : c = 35
        · simp [hb, hr]
        · rw [if_neg hb, if_neg hr]
          by_cases hq : c = 34
          · subst hq
            rw [if_pos rfl, refL]
            simp only [Bool.false_eq_true, if_false]
            rw [if_neg hb, if_neg hr, if_neg (by decide)]
            rw [show ((34 : UInt8) == 34) = true from rfl, refL_quoted l.length l (Nat.le_refl _) out (part ++ [34]) (by simp)]
            cases hq : qL l with
            | none => rfl
            | some q =>
              obtain ⟨p, r⟩ := q
              simp only []
              have e1 := (qL_split l.length l (Nat.le_refl _) _ _ hq).1
              rw [ih r (by have := congrArg List.length e1; simp at this; omega)]
              cases partL n r with
              | none => rfl
              | some q => simp
          · rw [if_neg hq, refL]
            simp only [Bool.false_eq_true, if_false]
            rw [if_neg hb, if_neg hr]
            by_cases hs : seenB c = false
            · simp [hs]
            · rw [if_neg hs, if_neg hs]
              have e1 : (c == 34) = false := by simpa using hq
              rw [e1, ih l (by omega)]
              cases partL n l with
              | none => rfl
              | some q => simp

theorem refL_fields : ∀ (n : Nat) (l : List UInt8), l.length ≤ n → ∀ out, refL out [] false false l = fieldsL n out l := by
  intro n
  induction n with
  | zero =>
    intro l hl out
    have : l = [] := List.length_eq_zero_iff.1 (by omega)
    subst this
    simp [refL, fieldsL]
  | succ n ih =>
    intro l hl out
    cases l with
    | nil => simp [refL, fieldsL]
    | cons c l =>
      simp only [List.length_cons] at hl
      rw [fieldsL]
      by_cases hr : c = 35
      · subst hr
        simp [refL, show blankB 35 = false from by decide]
      · rw [if_neg hr]
        by_cases hb : blankB c = true
        · rw [if_pos hb, refL]
          simp only [Bool.false_eq_true, if_false]
          rw [if_pos hb, if_pos trivial]
          exact ih l (by omega) out
        · rw [if_neg hb, refL_part (l.length + 1) (c :: l) (by simp) out []]
          cases hp : partL (l.length + 1) (c :: l) with
          | none => rfl
          | some q =>
            obtain ⟨a, b⟩ := q
            simp only [List.nil_append]
            have ha := partL_some (by simpa using hb) hr hp
            have es := partL_split _ _ _ _ hp
            have hlb : b.length ≤ n := by
              have := congrArg List.length es
              have : 0 < a.length := List.length_pos_iff.2 ha
              simp at *; omega
            rcases partL_stop _ _ _ _ hp with rfl | ⟨d, t, rfl, hd⟩
            · simp [refL, ha, fieldsL]
            · rw [← ih (d :: t) hlb]
              by_cases hbd : blankB d = true
              · rw [refL, refL]
                simp [hbd, ha]
              · have h35 : d = 35 := by rcases hd with h | h
                                        · exact absurd h hbd
                                        · exact h
                subst h35
                rw [refL, refL]
                simp [hbd, ha]

/-! #### fields stand for themselves -/
theorem qL_app : ∀ (n : Nat) (l : List UInt8), l.length ≤ n → ∀ p r, qL l = some (p, r) → ∀ x, qL (p ++ x) = some (p, x) := by
  intro n
  induction n with
  | zero =>
    intro l hl p r h
    have : l = [] := List.length_eq_zero_iff.1 (by omega)
    subst this
    simp [qL] at h
  | succ n ih =>
    intro l hl p r h x
    match l, hl, h with
    | [], _, h => simp [qL] at h
    | c :: l, hl, h =>
      by_cases h34 : c = 34
      · rw [qL_close h34] at h
        simp at h
        obtain ⟨rfl, rfl⟩ := h
        exact qL_close h34
      · by_cases hs : seenB c = false
        · rw [qL_bad hs] at h; cases h
        · have hs' : seenB c = true := by simpa using hs
          by_cases h92 : c = 92
          · match l, hl, h with
            | [], _, h => rw [qL_lone h34] at h; cases h
            | d :: l, hl, h =>
              by_cases hd : seenB d = true
              · rw [qL_esc h92 hd] at h
                obtain ⟨⟨p', r'⟩, h1, h2⟩ := Option.map_eq_some_iff.1 h
                simp only [Prod.mk.injEq] at h2
                obtain ⟨rfl, rfl⟩ := h2
                rw [List.cons_append, List.cons_append, qL_esc h92 hd, ih l (by simp at hl; omega) _ _ h1]
                rfl
              · rw [qL_escbad h92 (by simpa using hd)] at h; cases h
          · rw [qL_more hs' h34 h92] at h
            obtain ⟨⟨p', r'⟩, h1, h2⟩ := Option.map_eq_some_iff.1 h
            simp only [Prod.mk.injEq] at h2
            obtain ⟨rfl, rfl⟩ := h2
            rw [List.cons_append, qL_more hs' h34 h92, ih l (by simp at hl; omega) _ _ h1]
            rfl
/-- A part stands for itself, with something blank behind it, or a remark, or nothing. -/
def Stands (a : List UInt8) : Prop := ∀ (n : Nat) (t : List UInt8), (t = [] ∨ ∃ d u, t = d :: u ∧ (blankB d = true ∨ d = 35)) → (a ++ t).length ≤ n → partL n (a ++ t) = some (a, t)
theorem partL_stands : ∀ (n : Nat) (l a b : List UInt8), partL n l = some (a, b) → Stands a := by
  intro n
  induction n with
  | zero =>
    intro l a b h
    cases l with
    | nil =>
      simp [partL] at h; obtain ⟨rfl, rfl⟩ := h
      intro m t ht hm
      rcases ht with rfl | ⟨d, u, rfl, hd⟩
      · simp [partL]
      · obtain ⟨m, rfl⟩ : ∃ q, m = q + 1 := ⟨m - 1, by simp at hm; omega⟩
        rcases hd with hd | hd
        · exact partL_blank hd
        · exact partL_remark hd
    | cons c l => simp [partL] at h
  | succ n ih =>
    intro l a b h
    have none_ : Stands [] := by
      intro m t ht hm
      rcases ht with rfl | ⟨d, u, rfl, hd⟩
      · simp [partL]
      · obtain ⟨m, rfl⟩ : ∃ q, m = q + 1 := ⟨m - 1, by simp at hm; omega⟩
        rcases hd with hd | hd
        · exact partL_blank hd
        · exact partL_remark hd
    cases l with
    | nil => simp [partL] at h; obtain ⟨rfl, rfl⟩ := h; exact none_
    | cons c l =>
      by_cases hb : blankB c = true
      · rw [partL_blank hb] at h; simp at h; obtain ⟨rfl, rfl⟩ := h; exact none_
      · have hb' : blankB c = false := by simpa using hb
        by_cases h35 : c = 35
        · rw [partL_remark h35] at h; simp at h; obtain ⟨rfl, rfl⟩ := h; exact none_
        · by_cases h34 : c = 34
          · rw [partL_quote h34] at h
            cases hq : qL l with
            | none => rw [hq] at h; cases h
            | some q =>
              obtain ⟨p, r⟩ := q
              rw [hq] at h
              obtain ⟨⟨a', b'⟩, h1, h2⟩ := Option.map_eq_some_iff.1 h
              simp only [Prod.mk.injEq] at h2
              obtain ⟨rfl, rfl⟩ := h2
              intro m t ht hm
              obtain ⟨m, rfl⟩ : ∃ q, m = q + 1 := ⟨m - 1, by simp at hm; omega⟩
              rw [show (c :: p ++ a') ++ t = c :: (p ++ (a' ++ t)) by simp, partL_quote h34, qL_app l.length l (Nat.le_refl _) _ _ hq]
              simp only []
              rw [ih _ _ _ h1 m t ht (by simp at hm ⊢; omega)]
              rfl
          · by_cases hs : seenB c = false
            · rw [partL_bad hb' h35 h34 hs] at h; cases h
            · have hs' : seenB c = true := by simpa using hs
              rw [partL_step hb' h35 h34 hs'] at h
              obtain ⟨⟨a', b'⟩, h1, h2⟩ := Option.map_eq_some_iff.1 h
              simp only [Prod.mk.injEq] at h2
              obtain ⟨rfl, rfl⟩ := h2
              intro m t ht hm
              obtain ⟨m, rfl⟩ : ∃ q, m = q + 1 := ⟨m - 1, by simp at hm; omega⟩
              rw [show (c :: a') ++ t = c :: (a' ++ t) by simp, partL_step hb' h35 h34 hs', ih _ _ _ h1 m t ht (by simp at hm ⊢; omega)]
              rfl
def FieldOk (a : List UInt8) : Prop := a ≠ [] ∧ Stands a
theorem fieldsL_fields : ∀ (n : Nat) (l : List UInt8) (out : List (List UInt8)), (∀ f ∈ out, FieldOk f) → ∀ f ∈ (fieldsL n out l).1, FieldOk f := by
  intro n
  induction n with
  | zero => intro l out h; cases l <;> simp [fieldsL]; exact h
  | succ n ih =>
    intro l out h
    cases l with
    | nil => simpa [fieldsL] using h
    | cons c l =>
      simp only [fieldsL]
      split
      · exact h
      · split
        · exact ih l out h
        · rename_i h35 hbl
          split
          · simp
          · rename_i a b hp
            apply ih
            intro f hf
            rcases List.mem_append.1 hf with hf | hf
            · exact h f hf
            · rw [List.mem_singleton.1 hf]
              exact ⟨partL_some (by simpa using hbl) h35 hp, partL_stands _ _ _ _ hp⟩
theorem refL_blanks (out : List (List UInt8)) : ∀ (w l : List UInt8), (∀ c ∈ w, blankB c = true) → refL out [] false false (w ++ l) = refL out [] false false l := by
  intro w
  induction w with
  | nil => intro l _; rfl
  | cons c w ih =>
    intro l h
    rw [List.cons_append, refL]
    simp only [Bool.false_eq_true, if_false]
    rw [if_pos (h c (by simp)), if_pos trivial]
    exact ih l (fun d hd => h d (by simp [hd]))
theorem refL_field (out : List (List UInt8)) (f : List UInt8) (d : UInt8) (t : List UInt8) (hf : FieldOk f) (hd : blankB d = true) : refL out [] false false (f ++ d :: t) = refL (out ++ [f]) [] false false t := by
  rw [refL_part (f ++ d :: t).length _ (Nat.le_refl _), hf.2 _ (d :: t) (.inr ⟨d, t, rfl, .inl hd⟩) (Nat.le_refl _)]
  simp only [List.nil_append]
  rw [refL]
  simp only [Bool.false_eq_true, if_false]
  rw [if_pos hd, if_neg hf.1]
/-- Fields, each with blanks behind it. -/
def spaced (blank : List UInt8) : List (List UInt8) → List UInt8
  | [] => []
  | f :: fs => f ++ blank ++ spaced blank fs
theorem refL_spaced (blank : List UInt8) (d : UInt8) (w : List UInt8) (hw : blank = d :: w) (hb : ∀ c ∈ blank, blankB c = true) (rest : List UInt8) : ∀ (fs out : List (List UInt8)), (∀ f ∈ fs, FieldOk f) →
    refL out [] false false (spaced blank fs ++ 35 :: rest) = (out ++ fs, true) := by
  intro fs
  induction fs with
  | nil => intro out _; simp [spaced, refL, show blankB 35 = false from by decide]
  | cons f fs ih =>
    intro out h
    rw [spaced, List.append_assoc, List.append_assoc, hw, List.cons_append, refL_field out f d _ (h f (by simp)) (hb d (by simp [hw])),
      refL_blanks _ w _ (fun c hc => hb c (by simp [hw, hc])), ← hw, ih (out ++ [f]) (fun g hg => h g (by simp [hg]))]
    simp
theorem fieldsL_false : ∀ (n : Nat) (l : List UInt8) (out : List (List UInt8)), (fieldsL n out l).2 = false → (fieldsL n out l).1 = [] := by
  intro n
  induction n with
  | zero => intro l out h; cases l <;> simp [fieldsL] at h ⊢
  | succ n ih =>
    intro l out
    cases l with
    | nil => simp [fieldsL]
    | cons c l =>
      simp only [fieldsL]
      split
      · simp
      · split
        · exact ih l out
        · split
          · simp
          · exact ih _ _
def sumL : List (List UInt8) → Nat
  | [] => 0
  | f :: fs => f.length + sumL fs
theorem sumL_app (a : List (List UInt8)) (b : List UInt8) : sumL (a ++ [b]) = sumL a + b.length := by
  induction a with
  | nil => simp [sumL]
  | cons c a ih => simp [sumL, ih]; omega
theorem fieldsL_sum : ∀ (n : Nat) (out : List (List UInt8)) (l : List UInt8), (fieldsL n out l).1.length ≤ out.length + l.length ∧ sumL (fieldsL n out l).1 ≤ sumL out + l.length := by
  intro n
  induction n with
  | zero => intro out l; cases l <;> simp [fieldsL, sumL]
  | succ n ih =>
    intro out l
    cases l with
    | nil => simp [fieldsL]
    | cons c l =>
      simp only [fieldsL]
      split
      · simp
      · split
        · have := ih out l; simp; omega
        · rename_i h35 hbl
          split
          · simp [sumL]
          · rename_i a b hp
            have es := partL_split _ _ _ _ hp
            have ha := partL_some (by simpa using hbl) h35 hp
            have hal : 0 < a.length := List.length_pos_iff.2 ha
            have := congrArg List.length es
            have h2 := ih (out ++ [a]) b
            rw [sumL_app] at h2
            simp at *; omega

/-! #### quoted texts -/
def escL : List UInt8 → List UInt8
  | [] => []
  | c :: l => if c = 34 ∨ c = 92 then 92 :: c :: escL l else c :: escL l
/-- A text's quoted text; none: it has an octet that may not be. -/
def quoteL (l : List UInt8) : Option (List UInt8) := if l.all seenB then some (34 :: escL l ++ [34]) else none
def unqI : List UInt8 → List UInt8
  | [] => []
  | [_] => []
  | c :: d :: l => if c = 92 then d :: unqI l else c :: unqI (d :: l)
def unqR : List UInt8 → List UInt8
  | [] => []
  | [_] => []
  | c :: d :: l => if c = 92 ∧ l ≠ [] then d :: unqR l else c :: unqR (d :: l)
theorem escL_len (l : List UInt8) : l.length ≤ (escL l).length ∧ (escL l).length ≤ 2 * l.length := by
  induction l with
  | nil => simp [escL]
  | cons c l ih =>
    unfold escL
    split <;> simp <;> omega
theorem escL_ne (l : List UInt8) : escL l ++ [34] ≠ [] := by simp
theorem qL_escL : ∀ (l : List UInt8), l.all seenB = true → qL (escL l ++ [34]) = some (escL l ++ [34], []) := by
  intro l
  induction l with
  | nil => intro _; rfl
  | cons c l ih =>
    intro h
    simp only [List.all_cons, Bool.and_eq_true] at h
    unfold escL
    split
    · rw [List.cons_append, List.cons_append, qL_esc rfl h.1, ih h.2]; rfl
    · rename_i hc
      rw [List.cons_append, qL_more h.1 (fun e => hc (.inl e)) (fun e => hc (.inr e)), ih h.2]; rfl
theorem unqI_escL : ∀ (l : List UInt8), unqI (escL l ++ [34]) = l := by
  intro l
  induction l with
  | nil => rfl
  | cons c l ih =>
    unfold escL
    split
    · rw [List.cons_append, List.cons_append, unqI, if_pos rfl, ih]
    · rename_i hc
      rcases h : escL l ++ [34] with _ | ⟨d, t⟩
      · exact absurd h (escL_ne l)
      · rw [List.cons_append, h, unqI, if_neg (fun e => hc (.inr e)), ← h, ih]
theorem unqR_escL : ∀ (l : List UInt8), unqR (escL l ++ [34]) = l := by
  intro l
  induction l with
  | nil => rfl
  | cons c l ih =>
    unfold escL
    split
    · rw [List.cons_append, List.cons_append, unqR, if_pos ⟨rfl, escL_ne l⟩, ih]
    · rename_i hc
      rcases h : escL l ++ [34] with _ | ⟨d, t⟩
      · exact absurd h (escL_ne l)
      · rw [List.cons_append, h, unqR, if_neg (fun e => hc (.inr e.1)), ← h, ih]
def endsQ (v : List UInt8) : Bool := match qL v with
  | some (_, []) => true
  | _ => false
/-- What a text is the quoted text of, or nothing. -/
def unquoteI (s : List UInt8) : List UInt8 × Bool :=
  match s with
  | c :: v => if c = 34 ∧ endsQ v = true ∧ quoteL (unqI v) = some s then (unqI v, true) else ([], false)
  | [] => ([], false)
def unquoteR (s : List UInt8) : List UInt8 × Bool :=
  match s with
  | c :: v => if v ≠ [] ∧ quoteL (unqR v) = some s then (unqR v, true) else ([], false)
  | [] => ([], false)
theorem quoteL_some {x s : List UInt8} (h : quoteL x = some s) : s = 34 :: (escL x ++ [34]) ∧ x.all seenB = true := by
  unfold quoteL at h
  split at h
  · rename_i ha
    exact ⟨by simpa using h.symm, ha⟩
  · cases h
theorem unquoteR_quote {x s : List UInt8} (h : quoteL x = some s) : unquoteR s = (x, true) := by
  obtain ⟨rfl, ha⟩ := quoteL_some h
  simp only [unquoteR]
  rw [unqR_escL, if_pos ⟨by simp, h⟩]
theorem unquoteI_quote {x s : List UInt8} (h : quoteL x = some s) : unquoteI s = (x, true) := by
  obtain ⟨rfl, ha⟩ := quoteL_some h
  simp only [unquoteI]
  rw [unqI_escL, if_pos ⟨by trivial, by unfold endsQ; rw [qL_escL x ha], h⟩]
theorem unquote_same (s : List UInt8) : unquoteI s = unquoteR s := by
  by_cases h : ∃ x, quoteL x = some s
  · obtain ⟨x, h⟩ := h
    rw [unquoteI_quote h, unquoteR_quote h]
  · cases s with
    | nil => rfl
    | cons c v =>
      simp only [unquoteI, unquoteR]
      rw [if_neg (fun e => h ⟨_, e.2.2⟩), if_neg (fun e => h ⟨_, e.2⟩)]
end Go.Proofs.YthkbomclongjgaaDoor.Pk
