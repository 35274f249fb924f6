/- The pure statement of LexBlanks: fields with more blanks between them, and a remark behind, are the same fields. No condition beyond the statement's own. -/
import Derived.Test.YthkbomclongjgaaDoorPLexBlanksx3
import Derived.Test.YthkbomclongjgaaDoorPkLex
namespace Go.Proofs.YthkbomclongjgaaDoor.Pure
open Go.RowKit Go.Proofs.YthkbomclongjgaaDoor.PLexBlanks Go.Proofs.YthkbomclongjgaaDoorW.PrintWords Go.Proofs.YthkbomclongjgaaDoorW.PrintLast Go.Proofs.YthkbomclongjgaaDoor.Pk
set_option linter.unusedSimpArgs false
set_option linter.unusedVariables false

theorem seen_f (c : UInt8) : lex_seen.f (c.toNat : Int) = some (seenB c) := by
  have h := c.toNat_lt
  unfold lex_seen.f num_In.f
  rw [wr (by omega) (by omega)]
  by_cases h1 : 32 ≤ c.toNat
  · rw [if_pos (by omega)]
    simp only [Option.bind_some, seenB]
    congr 1
    simp [h1]
    omega
  · rw [if_neg (by omega)]
    simp [seenB, h1]
theorem blank_f (c : UInt8) : lex_blank.f (c.toNat : Int) = some (blankB c) := by
  unfold lex_blank.f blankB
  by_cases h : c = 32
  · subst h; rfl
  · rw [if_neg (ne_lit 32 h rfl)]
    by_cases h2 : c = 9
    · subst h2; rfl
    · rw [beq_eq_false_iff_ne.2 h, beq_eq_false_iff_ne.2 h2, beq_eq_false_iff_ne.2 (ne_lit 9 h2 rfl)]; rfl

def qEnd (u : Nat) : Option (List UInt8 × List UInt8) → Int
  | none => 0
  | some (a, _) => (u : Int) + a.length

theorem quoted_off (s : List UInt8) (i : Int) (h : (s.length : Int) ≤ i) : Ev (fun k => lex_quoted.l0 k (mk s) i) 0 := by
  refine ev_end (fun k => ?_)
  simp only [lex_quoted.l0]
  rw [if_neg (by simp <;> omega)]

theorem quoted_at : ∀ (n : Nat) (v : List UInt8), v.length ≤ n → ∀ (u s : List UInt8), s = u ++ v → s.length ≤ 5000 → Ev (fun k => lex_quoted.l0 k (mk s) (u.length : Int)) (qEnd u.length (qL v)) := by
  intro n
  induction n with
  | zero =>
    intro v hv u s hs hl
    have : v = [] := List.length_eq_zero_iff.1 (by omega)
    subst this
    subst hs
    exact quoted_off _ _ (by simp)
  | succ n ih =>
    intro v hv u s hs hl
    match v, hv, hs with
    | [], _, hs => subst hs; exact quoted_off _ _ (by simp)
    | [c], _, hs =>
      have hb : bt (mk s) (u.length : Int) = (c.toNat : Int) := by subst hs; exact bt_app u c [] _ rfl
      have hlen : s.length = u.length + 1 := by subst hs; simp
      have off := quoted_off s ((u.length : Int) + 1) (by omega)
      have off2 := quoted_off s ((u.length : Int) + 2) (by omega)
      refine ev_step2 off off2 (fun k hk hk2 => ?_)
      simp only [lex_quoted.l0]
      rw [if_pos (by simp <;> omega), if_pos (by omega), hb, seen_f]
      simp only [Option.bind_some]
      by_cases h34 : c = 34
      · rw [if_pos (by rw [h34]; exact seenB_34), if_pos (eq_lit 34 h34 rfl), wr (by omega) (by omega), qL_one h34]
        simp [qEnd]
      · rw [qL_lone h34]
        by_cases hsn : seenB c = true
        · rw [if_pos hsn, if_neg (ne_lit 34 h34 rfl)]
          by_cases h92 : c = 92
          · rw [if_pos (eq_lit 92 h92 rfl), wr (by omega) (by omega), if_neg (by simp <;> omega), wr (by omega) (by omega)]
            simp only [qEnd]
            rw [show ((u.length : Int) + 1 + 1) = (u.length : Int) + 2 by omega]
            exact hk2
          · rw [if_neg (ne_lit 92 h92 rfl), wr (by omega) (by omega)]
            exact hk
        · rw [if_neg hsn]; rfl
    | c :: d :: l, hv, hs =>
      have hb : bt (mk s) (u.length : Int) = (c.toNat : Int) := by subst hs; exact bt_app u c _ _ rfl
      have hlen : s.length = u.length + 2 + l.length := by subst hs; simp; omega
      have hb2 : bt (mk s) ((u.length : Int) + 1) = (d.toNat : Int) := by
        subst hs
        have := bt_app (u ++ [c]) d l ((u.length : Int) + 1) (by simp)
        simpa using this
      have r1 := ih (d :: l) (by simp at hv ⊢; omega) (u ++ [c]) s (by simp [hs]) hl
      have r2 := ih l (by simp at hv; omega) (u ++ [c, d]) s (by simp [hs]) hl
      refine ev_step2 r1 r2 (fun k hk hk2 => ?_)
      simp only [lex_quoted.l0]
      rw [if_pos (by simp <;> omega), if_pos (by omega), hb, seen_f]
      simp only [Option.bind_some]
      by_cases hsn : seenB c = true
      · rw [if_pos hsn]
        by_cases h34 : c = 34
        · rw [if_pos (eq_lit 34 h34 rfl), wr (by omega) (by omega), qL_close h34]
          simp [qEnd]
        · rw [if_neg (ne_lit 34 h34 rfl)]
          by_cases h92 : c = 92
          · rw [if_pos (eq_lit 92 h92 rfl), wr (by omega) (by omega), if_pos (by simp <;> omega), if_pos (by omega), hb2, seen_f]
            simp only [Option.bind_some]
            by_cases hd : seenB d = true
            · rw [if_pos hd, wr (by omega) (by omega)]
              have e : qEnd (u ++ [c, d]).length (qL l) = qEnd u.length (qL (c :: d :: l)) := by
                rw [qL_esc h92 hd]
                cases qL l with
                | none => rfl
                | some q => simp [qEnd]; omega
              rw [← e, ← hk2, show (((u ++ [c, d]).length : Nat) : Int) = (u.length : Int) + 1 + 1 by simp; omega]
            · rw [if_neg hd]
              have hd' : seenB d = false := by simpa using hd
              rw [qL_escbad h92 hd']
              rfl
          · rw [if_neg (ne_lit 92 h92 rfl), wr (by omega) (by omega)]
            have e : qEnd (u ++ [c]).length (qL (d :: l)) = qEnd u.length (qL (c :: d :: l)) := by
              rw [qL_more hsn h34 h92]
              cases qL (d :: l) with
              | none => rfl
              | some q => simp [qEnd]; omega
            rw [← e, ← hk, show (((u ++ [c]).length : Nat) : Int) = (u.length : Int) + 1 by simp]
      · rw [if_neg hsn]
        have hsn' : seenB c = false := by simpa using hsn
        rw [qL_bad hsn']
        rfl

def pEnd (u : Nat) : Option (List UInt8 × List UInt8) → Int
  | none => -1
  | some (a, _) => (u : Int) + a.length

theorem part_at : ∀ (n : Nat) (v : List UInt8), v.length ≤ n → ∀ (u s : List UInt8), s = u ++ v → s.length ≤ 4000 → Ev (fun k => lex_part.l0 k (mk s) (u.length : Int)) (pEnd u.length (partL n v)) := by
  intro n
  induction n with
  | zero =>
    intro v hv u s hs hl
    have : v = [] := List.length_eq_zero_iff.1 (by omega)
    subst this
    subst hs
    have : Ev (fun k => lex_part.j1 k (mk (u ++ [])) (u.length : Int) false) (pEnd u.length (partL 0 [])) := by
      refine ev_end (fun k => ?_)
      simp [lex_part.j1, partL, pEnd]
    refine ev_step this (fun k hk => ?_)
    simp only [lex_part.l0]
    rw [if_neg (by simp)]
    exact hk
  | succ n ih =>
    intro v hv u s hs hl
    match v, hv, hs with
    | [], _, hs =>
      subst hs
      have : Ev (fun k => lex_part.j1 k (mk (u ++ [])) (u.length : Int) false) (pEnd u.length (partL (n + 1) [])) := by
        refine ev_end (fun k => ?_)
        simp [lex_part.j1, partL, pEnd]
      refine ev_step this (fun k hk => ?_)
      simp only [lex_part.l0]
      rw [if_neg (by simp)]
      exact hk
    | c :: l, hv, hs =>
      have hb : bt (mk s) (u.length : Int) = (c.toNat : Int) := by subst hs; exact bt_app u c _ _ rfl
      have hlen : s.length = u.length + 1 + l.length := by subst hs; simp; omega
      have stop : ∀ q, partL (n + 1) (c :: l) = some ([], q) → Ev (fun k => lex_part.j1 k (mk s) (u.length : Int) false) (pEnd u.length (partL (n + 1) (c :: l))) := by
        intro q hq
        refine ev_end (fun k => ?_)
        rw [hq]
        simp [lex_part.j1, pEnd]
      by_cases hbl : blankB c = true
      · refine ev_step (stop (c :: l) (partL_blank hbl)) (fun k hk => ?_)
        simp only [lex_part.l0]
        rw [if_pos (by simp <;> omega), if_pos (by omega), hb, blank_f]
        simp only [Option.bind_some]
        rw [if_pos hbl]
        exact hk
      · by_cases h35 : c = 35
        · refine ev_step (stop (c :: l) (partL_remark h35)) (fun k hk => ?_)
          simp only [lex_part.l0]
          rw [if_pos (by simp <;> omega), if_pos (by omega), hb, blank_f]
          simp only [Option.bind_some]
          rw [if_neg hbl, show ((c.toNat : Int) != 35) = false by simpa using eq_lit 35 h35 rfl]
          exact hk
        · have go : Ev (fun k => lex_part.j1 k (mk s) (u.length : Int) true) (pEnd u.length (partL (n + 1) (c :: l))) := by
            by_cases h34 : c = 34
            · have hq := quoted_at l.length l (Nat.le_refl _) [c] (c :: l) rfl (by simp <;> omega)
              cases hql : qL l with
              | none =>
                rw [hql] at hq
                refine ev_step hq (fun k hk => ?_)
                simp only [lex_part.j1]
                rw [if_pos trivial, if_pos (by omega), if_pos (by simp <;> omega), hb, if_pos (eq_lit 34 h34 rfl), if_pos (by simp <;> omega), mk_extract_to_end]
                have e : s.drop (u.length : Int).toNat = c :: l := by subst hs; simp
                rw [e]
                unfold lex_quoted.f
                rw [show ((([c] : List UInt8).length : Nat) : Int) = 1 from rfl] at hk
                rw [hk]
                simp only [Option.bind_some, qEnd]
                rw [if_pos trivial, partL_quote h34, hql]
                rfl
              | some q =>
                obtain ⟨p, r⟩ := q
                have esp := (qL_split l.length l (Nat.le_refl _) _ _ hql)
                have hrl : r.length ≤ n := by have := congrArg List.length esp.1; simp at this hv; omega
                have rc := ih r hrl (u ++ c :: p) s (by rw [hs, esp.1]; simp) hl
                rw [hql] at hq
                refine ev_step2 hq rc (fun k hk hk2 => ?_)
                simp only [lex_part.j1]
                rw [if_pos trivial, if_pos (by omega), if_pos (by simp <;> omega), hb, if_pos (eq_lit 34 h34 rfl), if_pos (by simp <;> omega), mk_extract_to_end]
                have e : s.drop (u.length : Int).toNat = c :: l := by subst hs; simp
                rw [e]
                unfold lex_quoted.f
                rw [show ((([c] : List UInt8).length : Nat) : Int) = 1 from rfl] at hk
                rw [hk]
                simp only [Option.bind_some, qEnd]
                have hpl : p.length ≤ l.length := by have := congrArg List.length esp.1; simp at this; omega
                rw [if_neg (by simp <;> omega), seen_f]
                simp only [Option.bind_some]
                rw [if_pos (by rw [h34]; exact seenB_34), wr (by simp <;> omega) (by simp <;> omega)]
                have e2 : pEnd (u ++ c :: p).length (partL n r) = pEnd u.length (partL (n + 1) (c :: l)) := by
                  rw [partL_quote h34, hql]
                  simp only []
                  cases partL n r with
                  | none => rfl
                  | some q => simp [pEnd]; omega
                rw [← e2, ← hk2, show (((u ++ c :: p).length : Nat) : Int) = (u.length : Int) + ((([c] : List UInt8).length : Nat) + (p.length : Int)) by simp; omega]
            · by_cases hsn : seenB c = true
              · have rc := ih l (by simp at hv; omega) (u ++ [c]) s (by simp [hs]) hl
                refine ev_step rc (fun k hk => ?_)
                simp only [lex_part.j1]
                rw [if_pos trivial, if_pos (by omega), if_pos (by simp <;> omega), hb, if_neg (ne_lit 34 h34 rfl), seen_f]
                simp only [Option.bind_some]
                rw [if_pos hsn, wr (by omega) (by omega)]
                have e2 : pEnd (u ++ [c]).length (partL n l) = pEnd u.length (partL (n + 1) (c :: l)) := by
                  rw [partL_step (by simpa using hbl) h35 h34 hsn]
                  cases partL n l with
                  | none => rfl
                  | some q => simp [pEnd]; omega
                rw [← e2, ← hk, show (((u ++ [c]).length : Nat) : Int) = (u.length : Int) + 1 by simp]
              · refine ev_end (fun k => ?_)
                simp only [lex_part.j1]
                rw [if_pos trivial, if_pos (by omega), if_pos (by simp <;> omega), hb, if_neg (ne_lit 34 h34 rfl), seen_f]
                simp only [Option.bind_some]
                rw [if_neg hsn]
                have hsn' : seenB c = false := by simpa using hsn
                rw [partL_bad (by simpa using hbl) h35 h34 hsn']
                rfl
          refine ev_step go (fun k hk => ?_)
          simp only [lex_part.l0]
          rw [if_pos (by simp <;> omega), if_pos (by omega), hb, blank_f]
          simp only [Option.bind_some]
          rw [if_neg hbl, show ((c.toNat : Int) != 35) = true by simpa using ne_lit 35 h35 rfl]
          exact hk

theorem Fields_at : ∀ (n : Nat) (l : List UInt8), l.length ≤ n → ∀ (out : List (List UInt8)), l.length ≤ 4000 → out.length + l.length ≤ 10000 →
    Ev (fun k => lex_Fields.l0 k (mk l) (out.map mk)) (((fieldsL n out l).1.map mk), (fieldsL n out l).2) := by
  intro n
  induction n with
  | zero =>
    intro l hl out hb ho
    have : l = [] := List.length_eq_zero_iff.1 (by omega)
    subst this
    have : Ev (fun k => lex_Fields.j1 k (mk []) (out.map mk) false) (((fieldsL 0 out []).1.map mk), (fieldsL 0 out []).2) := by
      refine ev_end (fun k => ?_)
      simp [lex_Fields.j1, fieldsL]
    refine ev_step this (fun k hk => ?_)
    simp only [lex_Fields.l0]
    rw [if_pos (by simp)]
    exact hk
  | succ n ih =>
    intro l hl out hb ho
    match l, hl with
    | [], _ =>
      have : Ev (fun k => lex_Fields.j1 k (mk []) (out.map mk) false) (((fieldsL (n + 1) out []).1.map mk), (fieldsL (n + 1) out []).2) := by
        refine ev_end (fun k => ?_)
        simp [lex_Fields.j1, fieldsL]
      refine ev_step this (fun k hk => ?_)
      simp only [lex_Fields.l0]
      rw [if_pos (by simp)]
      exact hk
    | c :: l, hl =>
      simp only [List.length_cons] at hl hb ho
      by_cases h35 : c = 35
      · have : Ev (fun k => lex_Fields.j1 k (mk (c :: l)) (out.map mk) false) (((fieldsL (n + 1) out (c :: l)).1.map mk), (fieldsL (n + 1) out (c :: l)).2) := by
          refine ev_end (fun k => ?_)
          simp [lex_Fields.j1, fieldsL, h35]
        refine ev_step this (fun k hk => ?_)
        simp only [lex_Fields.l0]
        rw [if_neg (by simp), if_pos (by simp <;> omega), bt_mk0, show ((c.toNat : Int) != 35) = false by simpa using eq_lit 35 h35 rfl]
        exact hk
      · have go : Ev (fun k => lex_Fields.j1 k (mk (c :: l)) (out.map mk) true) (((fieldsL (n + 1) out (c :: l)).1.map mk), (fieldsL (n + 1) out (c :: l)).2) := by
          by_cases hbl : blankB c = true
          · have rc := ih l (by omega) out (by omega) (by omega)
            refine ev_step rc (fun k hk => ?_)
            simp only [lex_Fields.j1]
            rw [if_pos trivial, if_pos (by simp <;> omega), bt_mk0, blank_f]
            simp only [Option.bind_some]
            rw [if_pos hbl, if_pos (by simp <;> omega), mk_extract_to_end]
            simp only [fieldsL, h35, hbl, if_false, if_true, List.drop_succ_cons, List.drop_zero]
            exact hk
          · have hp := part_at (l.length + 1) (c :: l) (by simp) [] (c :: l) rfl (by simp <;> omega)
            cases hpl : partL (l.length + 1) (c :: l) with
            | none =>
              rw [hpl] at hp
              refine ev_step hp (fun k hk => ?_)
              simp only [lex_Fields.j1]
              rw [if_pos trivial, if_pos (by simp <;> omega), bt_mk0, blank_f]
              simp only [Option.bind_some]
              rw [if_neg hbl]
              unfold lex_part.f
              rw [show ((([] : List UInt8).length : Nat) : Int) = 0 from rfl] at hk
              rw [hk]
              simp only [Option.bind_some, pEnd]
              rw [if_pos (by decide)]
              simp [fieldsL, h35, hbl, hpl]
            | some q =>
              obtain ⟨a, b⟩ := q
              have es := partL_split _ _ _ _ hpl
              have ha := partL_some (by simpa using hbl) h35 hpl
              have hal : 0 < a.length := List.length_pos_iff.2 ha
              have hlen : l.length + 1 = a.length + b.length := by have := congrArg List.length es; simpa using this
              have rc := ih b (by omega) (out ++ [a]) (by omega) (by simp <;> omega)
              rw [hpl] at hp
              refine ev_step2 hp rc (fun k hk hk2 => ?_)
              simp only [lex_Fields.j1]
              rw [if_pos trivial, if_pos (by simp <;> omega), bt_mk0, blank_f]
              simp only [Option.bind_some]
              rw [if_neg hbl]
              unfold lex_part.f
              rw [show ((([] : List UInt8).length : Nat) : Int) = 0 from rfl] at hk
              rw [hk]
              simp only [Option.bind_some, pEnd, List.length_nil]
              rw [if_neg (by simp <;> omega), if_pos (by simp), if_pos (by simp <;> omega), if_pos (by simp <;> omega), mk_extract_to_end, mk_extract]
              have e1 : (c :: l).drop (((0 : Nat) : Int) + (a.length : Int)).toNat = b := by
                rw [es]; simp
              have e2 : ((c :: l).take (((0 : Nat) : Int) + (a.length : Int)).toNat).drop 0 = a := by
                rw [es]; simp
              rw [e1, e2]
              simp only [fieldsL, h35, hbl, if_false, hpl, Bool.false_eq_true]
              rw [← hk2]
              simp
        refine ev_step go (fun k hk => ?_)
        simp only [lex_Fields.l0]
        rw [if_neg (by simp), if_pos (by simp <;> omega), bt_mk0, show ((c.toNat : Int) != 35) = true by simpa using ne_lit 35 h35 rfl]
        exact hk

theorem Fields_f (l : List UInt8) (h : l.length ≤ 4000) : Ev (fun k => lex_Fields.f k (mk l)) ((fieldsL l.length [] l).1.map mk, (fieldsL l.length [] l).2) := by
  have := Fields_at l.length l (Nat.le_refl _) [] h (by simp <;> omega)
  exact this
theorem same_at (post : List ByteArray) : ∀ (pre : List ByteArray), pre.length + post.length < 1000000 → Ev (fun k => gatherumref07_Same.l0 k (pre ++ post) (pre ++ post) (pre.length : Int)) true := by
  induction post with
  | nil =>
    intro pre h
    refine ev_end (fun k => ?_)
    simp only [gatherumref07_Same.l0]
    rw [if_neg (by simp)]
  | cons c l ih =>
    intro pre h
    have := ih (pre ++ [c]) (by simp at h ⊢; omega)
    refine ev_step this (fun k hk => ?_)
    simp only [gatherumref07_Same.l0]
    simp only [List.length_cons] at h
    rw [if_pos (by simp; omega), if_pos (by omega), if_pos (by simp; omega), if_pos (by trivial), wr (by omega) (by omega)]
    simpa using hk
theorem same_f (l : List ByteArray) (h : l.length < 1000000) : Ev (fun k => gatherumref07_Same.f k l l) true := by
  refine ev_map (same_at l [] (by simpa using h)) (fun k hk => ?_)
  unfold gatherumref07_Same.f
  rw [if_pos rfl]
  exact hk


theorem alive : Ev (fun k => gatherumlaw10_alive.f k) true := Ev.of (fun k => gatherumlaw10_alive.mono k) (k := 100) (by kernel_rfl)

/-- The second loop: fields are put together, each with blanks behind it; then a remark; then they are read. -/
theorem put_at (rem blank : List UInt8) (d : UInt8) (w : List UInt8) (hw : blank = d :: w) (hb : ∀ c ∈ blank, blankB c = true) (hbl : blank.length ≤ 10) (hr : rem.length ≤ 100) (all : List (List UInt8)) (hf : ∀ f ∈ all, FieldOk f) (hall : sumL all ≤ 300 ∧ all.length ≤ 300) :
    ∀ (post pre : List (List UInt8)), all = pre ++ post → ∀ acc, acc ++ spaced blank post = blank ++ spaced blank all → (acc ++ spaced blank post).length ≤ 3500 →
    Ev (fun k => gatherumlaw10_LexBlanks.l1 k (mk rem) (all.map mk) (mk blank) (mk acc) (pre.length : Int)) true := by
  intro post
  induction post with
  | nil =>
    intro pre hp acc ha hl
    simp only [spaced, List.append_nil] at ha hl
    have e : acc ++ [35] ++ rem = blank ++ (spaced blank all ++ 35 :: rem) := by rw [ha]; simp
    have h1 := Fields_f (acc ++ [35] ++ rem) (by simp; omega)
    rw [← refL_fields _ _ (Nat.le_refl _), e, refL_blanks _ _ _ hb, refL_spaced blank d w hw hb rem all [] hf, ← e] at h1
    have h2 := same_f (all.map mk) (by simp; omega)
    refine ev_step2 h1 h2 (fun k k1 k2 => ?_)
    simp only [gatherumlaw10_LexBlanks.l1]
    rw [if_neg (by simp [hp]), if_pos (by simp; omega), show (⟨#[35]⟩ : ByteArray) = mk [35] from rfl, mk_append, if_pos (by simp; omega), mk_append, k1]
    simp only [Option.bind_some]
    rw [if_pos (by trivial)]
    simp only [List.nil_append]
    rw [k2]
    rfl
  | cons f post ih =>
    intro pre hp acc ha hl
    simp only [spaced] at ha hl
    have := ih (pre ++ [f]) (by simp [hp]) (acc ++ f ++ blank) (by rw [← ha]; simp) (by simp at hl ⊢; omega)
    refine ev_step this (fun k hk => ?_)
    simp only [gatherumlaw10_LexBlanks.l1]
    have e : all.map mk = pre.map mk ++ mk f :: post.map mk := by rw [hp]; simp
    have hlen : all.length = pre.length + 1 + post.length := by rw [hp]; simp; omega
    simp at hl
    rw [if_pos (by simp; omega), if_pos (by omega), show rdOf ByteArray.empty (all.map mk) (pre.length : Int) = mk f by rw [e]; exact rdOf_app _ _ _ _ _ (by simp), if_pos (by simp; omega), mk_append, if_pos (by simp; omega), mk_append, wr (by omega) (by omega)]
    rw [← hk]
    simp

/-- The first loop: the blanks. -/
theorem gap_at (g : Int) (hg : 0 ≤ g ∧ g ≤ 255) (rem : List UInt8) (hr : rem.length ≤ 100) (all : List (List UInt8)) (hf : ∀ f ∈ all, FieldOk f) (hall : sumL all ≤ 300 ∧ all.length ≤ 300) :
    ∀ (n : Nat) (i : Nat), (i : Int) + n = g % 5 → Ev (fun k => gatherumlaw10_LexBlanks.l0 k g (mk rem) (all.map mk) (mk ([9, 32] ++ List.replicate i 32)) (i : Int)) true := by
  have ht : wrap64 (Int.tmod g 5) = g % 5 := by
    rw [Int.tmod_eq_emod_of_nonneg hg.1]
    exact wr (by omega) (by omega)
  intro n
  induction n with
  | zero =>
    intro i hi
    have hsp : ∀ fs : List (List UInt8), ∀ b : List UInt8, b.length ≤ 10 → (spaced b fs).length ≤ sumL fs + 10 * fs.length := by
      intro fs b hb
      induction fs with
      | nil => simp [spaced]
      | cons f fs ih => simp [spaced, sumL]; omega
    have := put_at rem ([9, 32] ++ List.replicate i 32) 9 ([32] ++ List.replicate i 32) rfl (by
      intro c hc
      simp only [List.cons_append, List.nil_append, List.mem_cons, List.mem_replicate] at hc
      rcases hc with rfl | rfl | ⟨_, rfl⟩ <;> decide) (by simp; omega) hr all hf hall all [] rfl ([9, 32] ++ List.replicate i 32) rfl (by
      have := hsp all ([9, 32] ++ List.replicate i 32) (by simp; omega)
      simp at this ⊢; omega)
    refine ev_step this (fun k hk => ?_)
    simp only [gatherumlaw10_LexBlanks.l0]
    rw [ht, if_neg (by omega)]
    exact hk
  | succ n ih =>
    intro i hi
    have := ih (i + 1) (by omega)
    refine ev_step this (fun k hk => ?_)
    simp only [gatherumlaw10_LexBlanks.l0]
    rw [ht, if_pos (by omega), if_pos (by simp; omega), show (⟨#[32]⟩ : ByteArray) = mk [32] from rfl, mk_append, wr (by omega) (by omega)]
    rw [← hk, List.append_assoc, ← List.replicate_succ']
    rfl

theorem LexBlanks : gatherumlaw10_LexBlanks.Pure := by
  intro a0 a1 a2 hs h1 h2
  obtain ⟨l, rfl⟩ := exists_mk a0
  obtain ⟨rem, rfl⟩ := exists_mk a2
  have hg : 0 ≤ a1 ∧ a1 ≤ 255 := by
    have := h1
    simp [Lit.wf, IntKind.min, IntKind.max, IntKind.signed, IntKind.bits] at this
    omega
  apply ev_done
  simp only [gatherumlaw10_LexBlanks.f]
  refine Ev.bind alive ?_
  simp only [if_true]
  have out : Ev (fun k => gatherumlaw10_LexBlanks.j0 k (mk l) a1 (mk rem) true) true := ev_end fun k => by simp [gatherumlaw10_LexBlanks.j0]
  by_cases hl : (l.length : Int) > 300
  · exact ev_map out fun k hk => by rw [if_pos (by simpa using hl)]; exact hk
  · by_cases hr : (rem.length : Int) > 100
    · exact ev_map out fun k hk => by rw [if_neg (by simpa using hl), show decide (((mk rem).size : Int) > 100) = true by simpa using hr]; exact hk
    · have e1 := Fields_f l (by omega)
      have hsum := fieldsL_sum l.length [] l
      simp [sumL] at hsum
      have go : Ev (fun k => gatherumlaw10_LexBlanks.j0 k (mk l) a1 (mk rem) false) true := by
        by_cases hok : (fieldsL l.length [] l).2 = true
        · have e2 := gap_at a1 hg rem (by omega) (fieldsL l.length [] l).1 (fieldsL_fields _ _ _ (by simp)) (by omega) (a1 % 5).toNat 0 (by omega)
          refine ev_step2 e1 e2 (fun k k1 k2 => ?_)
          simp only [gatherumlaw10_LexBlanks.j0]
          rw [if_neg (by decide), k1]
          simp only [Option.bind_some]
          rw [if_pos hok]
          simpa [mk] using k2
        · have hok' : (fieldsL l.length [] l).2 = false := by simpa using hok
          refine ev_step e1 (fun k k1 => ?_)
          simp only [gatherumlaw10_LexBlanks.j0]
          rw [if_neg (by decide), k1]
          simp only [Option.bind_some]
          rw [if_neg hok, fieldsL_false _ _ _ hok']
          rfl
      refine ev_map go (fun k hk => ?_)
      rw [if_neg (by simpa using hl), show decide (((mk rem).size : Int) > 100) = false by simpa using hr]
      exact hk
end Go.Proofs.YthkbomclongjgaaDoor.Pure
