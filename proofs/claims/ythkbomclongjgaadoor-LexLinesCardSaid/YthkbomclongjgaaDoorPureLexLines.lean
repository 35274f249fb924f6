/- The pure statement of LexLines: the lines of a text, put together with line feeds between, are the text; none of them holds a line feed. No condition beyond the statement's own. -/
import Derived.Test.YthkbomclongjgaaDoorPLexLinesx3
import Derived.Test.YthkbomclongjgaaDoorPk
namespace Go.Proofs.YthkbomclongjgaaDoor.Pure
open Go.RowKit Go.Proofs.YthkbomclongjgaaDoor.PLexLines Go.Proofs.YthkbomclongjgaaDoorW.PrintWords Go.Proofs.YthkbomclongjgaaDoorW.PrintLast Go.Proofs.YthkbomclongjgaaDoor.Pk

/-- The lines: what stands between line feeds. -/
def lines : List UInt8 → List (List UInt8)
  | [] => [[]]
  | c :: l => if c = 10 then [] :: lines l else match lines l with
    | [] => [[c]]
    | h :: t => (c :: h) :: t

theorem lines_ne (l : List UInt8) : lines l ≠ [] := by
  cases l with
  | nil => simp [lines]
  | cons c l => unfold lines; split; · simp
                split <;> simp

theorem lines_cut (h : List UInt8) (hh : ∀ c ∈ h, c ≠ 10) (t : List UInt8) : lines (h ++ 10 :: t) = h :: lines t := by
  induction h with
  | nil => simp [lines]
  | cons c h ih =>
    have hc : c ≠ 10 := hh c (by simp)
    rw [List.cons_append, lines, if_neg hc, ih (fun c hc => hh c (by simp [hc]))]
theorem lines_end (h : List UInt8) (hh : ∀ c ∈ h, c ≠ 10) : lines h = [h] := by
  induction h with
  | nil => simp [lines]
  | cons c h ih =>
    have hc : c ≠ 10 := hh c (by simp)
    rw [lines, if_neg hc, ih (fun c hc => hh c (by simp [hc]))]

theorem index_ten (l : List UInt8) : (∃ h t, l = h ++ 10 :: t ∧ (∀ c ∈ h, c ≠ 10) ∧ Lib.index l [10] = h.length) ∨ ((∀ c ∈ l, c ≠ 10) ∧ Lib.index l [10] = -1) := by
  induction l with
  | nil => right; exact ⟨by simp, rfl⟩
  | cons c l ih =>
    by_cases hc : c = 10
    · subst hc
      left; exact ⟨[], l, rfl, by simp, by simp [Lib.index]⟩
    · have hp : ([10] : List UInt8).isPrefixOf (c :: l) = false := by
        simp [List.isPrefixOf, beq_eq_false_iff_ne]; exact fun e => hc e.symm
      rcases ih with ⟨h, t, rfl, hh, hi⟩ | ⟨hh, hi⟩
      · left
        refine ⟨c :: h, t, rfl, ?_, ?_⟩
        · intro d hd; rcases List.mem_cons.1 hd with rfl | hd
          · exact hc
          · exact hh d hd
        · unfold Lib.index; rw [hp, hi]
          have : (((h.length : Nat) : Int) == -1) = false := by rw [beq_eq_false_iff_ne]; omega
          simp [this]
      · right
        refine ⟨?_, ?_⟩
        · intro d hd; rcases List.mem_cons.1 hd with rfl | hd
          · exact hc
          · exact hh d hd
        · unfold Lib.index; rw [hp, hi]; rfl

theorem splitK_lines : ∀ (n : Nat) (l : List UInt8), l.length ≤ n → ∀ k, Lib.count l [10] = k → Lib.splitK [10] 0 k l = lines l := by
  intro n
  induction n with
  | zero =>
    intro l hl k hk
    have : l = [] := List.length_eq_zero_iff.1 (by omega)
    subst this
    have : k = 0 := by rw [← hk]; rfl
    subst this
    rfl
  | succ n ih =>
    intro l hl k hk
    rcases index_ten l with ⟨h, t, rfl, hh, hi⟩ | ⟨hh, hi⟩
    · rw [Lib.count_hit (by simp) hi] at hk
      have hd : (h ++ 10 :: t).drop (h.length + 1) = t := by
        rw [← List.drop_drop]; simp
      have hd' : (h ++ 10 :: t).drop (h.length + ([10] : List UInt8).length) = t := hd
      rw [hd'] at hk
      obtain ⟨k, rfl⟩ : ∃ m, k = m + 1 := ⟨k - 1, by omega⟩
      have hne : ¬ (Lib.index (h ++ 10 :: t) [10] == -1) = true := by rw [hi]; simp
      rw [Lib.splitK, if_neg hne, hi]
      have e1 : (h ++ 10 :: t).take (((h.length : Nat) : Int).toNat + 0) = h := by simp
      have e2 : (h ++ 10 :: t).drop (((h.length : Nat) : Int).toNat + ([10] : List UInt8).length) = t := hd
      rw [e1, e2, ih t (by simp at hl; omega) k (by omega), lines_cut h hh]
    · rw [Lib.count_miss hi] at hk
      subst hk
      rw [lines_end l hh]; rfl

theorem lines_f (l : List UInt8) (hs : l.length < 4294967281) : ExtLex.lex_Lines.f (mk l) = some ((lines l).map mk) := by
  unfold ExtLex.lex_Lines.f
  rw [if_pos (by simpa using hs)]
  congr 1
  have h := Lib.splitB_data ⟨#[10]⟩ 0 (Lib.countB (mk l) ⟨#[10]⟩) (mk l)
  have h2 : Lib.splitK [10] 0 (Lib.countB (mk l) ⟨#[10]⟩) l = lines l := splitK_lines l.length l (Nat.le_refl _) _ rfl
  have h3 : (Lib.splitB ⟨#[10]⟩ 0 (Lib.countB (mk l) ⟨#[10]⟩) (mk l)).map (·.data.toList) = lines l := by
    rw [h]; simpa using h2
  rw [← h3, List.map_map]
  conv => lhs; rw [← List.map_id (Lib.splitB _ _ _ _)]
  apply List.map_congr_left
  intro a _
  rfl

/-- Put together, from some place on. -/
def glued (first : Bool) (acc : List UInt8) : List (List UInt8) → List UInt8
  | [] => acc
  | h :: t => glued false ((if first then acc else acc ++ [10]) ++ h) t

theorem glued_cons (first : Bool) (acc : List UInt8) (h : List UInt8) (t : List (List UInt8)) (p : List UInt8) : glued first (p ++ acc) ((h) :: t) = p ++ glued first acc (h :: t) := by
  induction t generalizing first acc h p with
  | nil => cases first <;> simp [glued]
  | cons g t ih =>
    rw [glued, glued]
    have : ((if first = true then p ++ acc else p ++ acc ++ [10]) ++ h) = p ++ ((if first = true then acc else acc ++ [10]) ++ h) := by cases first <;> simp
    rw [this]
    exact ih false _ g p

theorem glued_lines (l : List UInt8) : glued true [] (lines l) = l := by
  induction l with
  | nil => rfl
  | cons c l ih =>
    unfold lines
    by_cases hc : c = 10
    · subst hc
      rw [if_pos rfl]
      rcases hl : lines l with _ | ⟨h, t⟩
      · exact absurd hl (lines_ne l)
      · rw [hl] at ih
        rw [glued]
        have e := glued_cons true [] h t [10]
        simp only [List.append_nil] at e
        rw [ih] at e
        show _ = [10] ++ l
        rw [← e]
        simp [glued]
    · rw [if_neg hc]
      rcases hl : lines l with _ | ⟨h, t⟩
      · exact absurd hl (lines_ne l)
      · rw [hl] at ih
        simp only []
        have e := glued_cons true [] h t [c]
        rw [ih] at e
        simp only [List.append_nil] at e
        rw [glued] at e ⊢
        simpa using e

theorem lines_no (l : List UInt8) : ∀ h ∈ lines l, ∀ c ∈ h, c ≠ 10 := by
  induction l with
  | nil => intro h hh; simp [lines] at hh; subst hh; simp
  | cons c l ih =>
    unfold lines
    by_cases hc : c = 10
    · rw [if_pos hc]
      intro h hh
      rcases List.mem_cons.1 hh with rfl | hh
      · simp
      · exact ih h hh
    · rw [if_neg hc]
      rcases hl : lines l with _ | ⟨h, t⟩
      · exact absurd hl (lines_ne l)
      · rw [hl] at ih
        intro g hg d hd
        rcases List.mem_cons.1 hg with rfl | hg
        · rcases List.mem_cons.1 hd with rfl | hd
          · exact hc
          · exact ih h (by simp) d hd
        · exact ih g (by simp [hg]) d hd

def total : List (List UInt8) → Nat
  | [] => 0
  | h :: t => h.length + 1 + total t
theorem total_glued (l : List (List UInt8)) (first : Bool) (acc : List UInt8) : acc.length + total l ≤ (glued first acc l).length + (if first then 1 else 0) := by
  induction l generalizing first acc with
  | nil => simp [total, glued]
  | cons h t ih =>
    have := ih false ((if first then acc else acc ++ [10]) ++ h)
    rw [glued, total]
    cases first
    · simp at this ⊢; omega
    · simp at this ⊢; omega
theorem total_len (l : List (List UInt8)) : l.length ≤ total l := by
  induction l with
  | nil => simp [total]
  | cons h t ih => simp [total]; omega

theorem in_line (x0 x4 : ByteArray) (pre : List ByteArray) (h : List UInt8) (post : List ByteArray) (r : Bool) (hp : pre.length < 1000000) (hb : h.length < 1000000)
    (next : Ev (fun k => gatherumlaw10_LexLines.l0 k x0 (pre ++ mk h :: post) x4 ((pre.length : Int) + 1)) r) (hh : ∀ c ∈ h, c ≠ 10) :
    ∀ (u v : List UInt8), h = u ++ v → Ev (fun k => gatherumlaw10_LexLines.l1 k x0 (pre ++ mk h :: post) x4 (pre.length : Int) (u.length : Int)) r := by
  intro u v
  induction v generalizing u with
  | nil =>
    intro e
    refine ev_step next (fun k hk => ?_)
    simp only [gatherumlaw10_LexLines.l1]
    rw [if_pos (by omega), if_pos (by simp; omega), rdOf_app _ _ _ _ _ rfl, if_neg (by subst e; simp), wr (by omega) (by omega)]
    exact hk
  | cons c v ih =>
    intro e
    have ih' := ih (u ++ [c]) (by simp [e])
    refine ev_step ih' (fun k hk => ?_)
    simp only [gatherumlaw10_LexLines.l1]
    have hl : u.length < h.length := by subst e; simp
    rw [if_pos (by omega), if_pos (by simp; omega), rdOf_app _ _ _ _ _ rfl, if_pos (by simpa using hl), if_pos (by omega), if_neg (by
      subst e
      rw [bt_app u c v _ rfl]
      intro hc
      exact hh c (by simp) (UInt8.toNat_inj.1 (by simp; omega))), wr (by omega) (by omega)]
    simpa using hk

theorem over_lines (x0 : List UInt8) : ∀ (post : List (List UInt8)) (pre : List (List UInt8)) (acc : List UInt8), (∀ h ∈ post, ∀ c ∈ h, c ≠ 10) → pre.length + post.length < 10000 ∧ total post + acc.length < 10000 →
    glued (decide (pre.length = 0)) acc post = x0 → (pre ++ post ≠ []) →
    Ev (fun k => gatherumlaw10_LexLines.l0 k (mk x0) ((pre ++ post).map mk) (mk acc) (pre.length : Int)) true := by
  intro post
  induction post with
  | nil =>
    intro pre acc hh hb hg hne
    refine ev_end (fun k => ?_)
    simp only [gatherumlaw10_LexLines.l0]
    simp only [List.append_nil] at hne
    rw [if_neg (by simp), if_pos (by simpa [glued] using hg)]
    have : 0 < pre.length := List.length_pos_iff.2 hne
    simp; omega
  | cons h t ih =>
    intro pre acc hh hb hg hne
    have hlen := total_len t
    simp only [total] at hb
    have next := ih (pre ++ [h]) ((if pre.length = 0 then acc else acc ++ [10]) ++ h) (fun g hg => hh g (by simp [hg])) ⟨by simp at hb ⊢; omega, by
      by_cases h0 : pre.length = 0
      · simp [h0]; omega
      · rw [if_neg h0]; simp; omega⟩ (by
      rw [← hg, glued]
      by_cases h0 : pre.length = 0 <;> simp [h0]) (by simp)
    have hne10 := hh h (by simp)
    rw [show (pre ++ [h] ++ t) = pre ++ h :: t by simp] at next
    have e1 : (pre ++ h :: t).map mk = pre.map mk ++ mk h :: t.map mk := by simp
    rw [e1] at next ⊢
    have hl1 : ∀ acc', Ev (fun k => gatherumlaw10_LexLines.l0 k (mk x0) (pre.map mk ++ mk h :: t.map mk) (mk acc') ((pre.length : Int) + 1)) true → Ev (fun k => gatherumlaw10_LexLines.l1 k (mk x0) (pre.map mk ++ mk h :: t.map mk) (mk acc') (pre.length : Int) 0) true := by
      intro acc' hn
      have := in_line (mk x0) (mk acc') (pre.map mk) h (t.map mk) true (by simp; omega) (by omega) (by simpa using hn) hne10 [] h rfl
      simpa using this
    have hj : ∀ acc0 : List UInt8, acc0.length < 20000 → Ev (fun k => gatherumlaw10_LexLines.l0 k (mk x0) (pre.map mk ++ mk h :: t.map mk) (mk (acc0 ++ h)) ((pre.length : Int) + 1)) true → Ev (fun k => gatherumlaw10_LexLines.j1 k (mk x0) (pre.map mk ++ mk h :: t.map mk) (mk acc0) (pre.length : Int)) true := by
      intro acc0 ha hn
      refine ev_step (hl1 _ hn) (fun k hk => ?_)
      simp only [gatherumlaw10_LexLines.j1]
      rw [if_pos (by omega), if_pos (by simp; omega), rdOf_app _ _ _ _ _ (by simp), mk_append, if_pos (by simp; omega)]
      exact hk
    by_cases h0 : pre.length = 0
    · rw [if_pos h0] at next
      have := hj acc (by omega) (by simpa using next)
      refine ev_step this (fun k hk => ?_)
      simp only [gatherumlaw10_LexLines.l0]
      rw [if_pos (by simp; omega), if_neg (by omega)]
      exact hk
    · rw [if_neg h0] at next
      have := hj (acc ++ [10]) (by simp; omega) (by simpa using next)
      refine ev_step this (fun k hk => ?_)
      simp only [gatherumlaw10_LexLines.l0]
      rw [if_pos (by simp; omega), if_pos (by omega), if_pos (by simp; omega)]
      rw [show (⟨#[10]⟩ : ByteArray) = mk [10] from rfl, mk_append]
      exact hk

theorem alive : Ev (fun k => gatherumlaw10_alive.f k) true := Ev.of (fun k => gatherumlaw10_alive.mono k) (k := 100) (by kernel_rfl)

theorem LexLines : gatherumlaw10_LexLines.Pure := by
  intro a0 hs
  obtain ⟨l, rfl⟩ := exists_mk a0
  apply ev_done
  simp only [gatherumlaw10_LexLines.f]
  refine Ev.bind alive ?_
  simp only [if_true]
  by_cases hl : (l.length : Int) > 1000
  · exact ev_now fun k => by rw [if_pos (by simpa using hl)]
  · have hb := total_glued (lines l) true []
    rw [glued_lines] at hb
    have := over_lines l (lines l) [] [] (lines_no l) (by have := total_len (lines l); simp at hb ⊢; omega) (glued_lines l) (lines_ne l)
    refine ev_map this (fun k hk => ?_)
    rw [if_neg (by simpa using hl), lines_f l (by omega)]
    simpa [mk] using hk
end Go.Proofs.YthkbomclongjgaaDoor.Pure
