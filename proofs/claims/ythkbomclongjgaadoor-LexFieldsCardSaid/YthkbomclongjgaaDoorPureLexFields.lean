/- The pure statement of LexFields: the fields told part by part are those told octet by octet. No condition beyond the statement's own. -/
import Derived.Test.YthkbomclongjgaaDoorPLexFieldsx3
import Derived.Test.YthkbomclongjgaaDoorPkLex
namespace Go.Proofs.YthkbomclongjgaaDoor.Pure
open Go.RowKit Go.Proofs.YthkbomclongjgaaDoor.PLexFields Go.Proofs.YthkbomclongjgaaDoorW.PrintWords Go.Proofs.YthkbomclongjgaaDoorW.PrintLast Go.Proofs.YthkbomclongjgaaDoor.Pk

set_option linter.unusedSimpArgs false
set_option linter.unusedVariables false
theorem seen_f (c : UInt8) : lex_seen.f (c.toNat : Int) = some (seenB c) := by
  have h := c.toNat_lt
  unfold lex_seen.f num_In.f
  rw [wr (by omega) (by omega)]
  by_cases h1 : 32 ≤ c.toNat
  · rw [if_pos (by omega)]
    simp only [Option.bind_some, seenB]
    congr 1
    simp [h1]
    omega
  · rw [if_neg (by omega)]
    simp [seenB, h1]
theorem blank_f (c : UInt8) : lex_blank.f (c.toNat : Int) = some (blankB c) := by
  unfold lex_blank.f blankB
  by_cases h : c = 32
  · subst h; rfl
  · rw [if_neg (ne_lit 32 h rfl)]
    by_cases h2 : c = 9
    · subst h2; rfl
    · rw [beq_eq_false_iff_ne.2 h, beq_eq_false_iff_ne.2 h2, beq_eq_false_iff_ne.2 (ne_lit 9 h2 rfl)]; rfl

def qEnd (u : Nat) : Option (List UInt8 × List UInt8) → Int
  | none => 0
  | some (a, _) => (u : Int) + a.length

theorem quoted_off (s : List UInt8) (i : Int) (h : (s.length : Int) ≤ i) : Ev (fun k => lex_quoted.l0 k (mk s) i) 0 := by
  refine ev_end (fun k => ?_)
  simp only [lex_quoted.l0]
  rw [if_neg (by simp <;> omega)]

theorem quoted_at : ∀ (n : Nat) (v : List UInt8), v.length ≤ n → ∀ (u s : List UInt8), s = u ++ v → s.length ≤ 5000 → Ev (fun k => lex_quoted.l0 k (mk s) (u.length : Int)) (qEnd u.length (qL v)) := by
  intro n
  induction n with
  | zero =>
    intro v hv u s hs hl
    have : v = [] := List.length_eq_zero_iff.1 (by omega)
    subst this
    subst hs
    exact quoted_off _ _ (by simp)
  | succ n ih =>
    intro v hv u s hs hl
    match v, hv, hs with
    | [], _, hs => subst hs; exact quoted_off _ _ (by simp)
    | [c], _, hs =>
      have hb : bt (mk s) (u.length : Int) = (c.toNat : Int) := by subst hs; exact bt_app u c [] _ rfl
      have hlen : s.length = u.length + 1 := by subst hs; simp
      have off := quoted_off s ((u.length : Int) + 1) (by omega)
      have off2 := quoted_off s ((u.length : Int) + 2) (by omega)
      refine ev_step2 off off2 (fun k hk hk2 => ?_)
      simp only [lex_quoted.l0]
      rw [if_pos (by simp <;> omega), if_pos (by omega), hb, seen_f]
      simp only [Option.bind_some]
      by_cases h34 : c = 34
      · rw [if_pos (by rw [h34]; exact seenB_34), if_pos (eq_lit 34 h34 rfl), wr (by omega) (by omega), qL_one h34]
        simp [qEnd]
      · rw [qL_lone h34]
        by_cases hsn : seenB c = true
        · rw [if_pos hsn, if_neg (ne_lit 34 h34 rfl)]
          by_cases h92 : c = 92
          · rw [if_pos (eq_lit 92 h92 rfl), wr (by omega) (by omega), if_neg (by simp <;> omega), wr (by omega) (by omega)]
            simp only [qEnd]
            rw [show ((u.length : Int) + 1 + 1) = (u.length : Int) + 2 by omega]
            exact hk2
          · rw [if_neg (ne_lit 92 h92 rfl), wr (by omega) (by omega)]
            exact hk
        · rw [if_neg hsn]; rfl
    | c :: d :: l, hv, hs =>
      have hb : bt (mk s) (u.length : Int) = (c.toNat : Int) := by subst hs; exact bt_app u c _ _ rfl
      have hlen : s.length = u.length + 2 + l.length := by subst hs; simp; omega
      have hb2 : bt (mk s) ((u.length : Int) + 1) = (d.toNat : Int) := by
        subst hs
        have := bt_app (u ++ [c]) d l ((u.length : Int) + 1) (by simp)
        simpa using this
      have r1 := ih (d :: l) (by simp at hv ⊢; omega) (u ++ [c]) s (by simp [hs]) hl
      have r2 := ih l (by simp at hv; omega) (u ++ [c, d]) s (by simp [hs]) hl
      refine ev_step2 r1 r2 (fun k hk hk2 => ?_)
      simp only [lex_quoted.l0]
      rw [if_pos (by simp <;> omega), if_pos (by omega), hb, seen_f]
      simp only [Option.bind_some]
      by_cases hsn : seenB c = true
      · rw [if_pos hsn]
        by_cases h34 : c = 34
        · rw [if_pos (eq_lit 34 h34 rfl), wr (by omega) (by omega), qL_close h34]
          simp [qEnd]
        · rw [if_neg (ne_lit 34 h34 rfl)]
          by_cases h92 : c = 92
          · rw [if_pos (eq_lit 92 h92 rfl), wr (by omega) (by omega), if_pos (by simp <;> omega), if_pos (by omega), hb2, seen_f]
            simp only [Option.bind_some]
            by_cases hd : seenB d = true
            · rw [if_pos hd, wr (by omega) (by omega)]
              have e : qEnd (u ++ [c, d]).length (qL l) = qEnd u.length (qL (c :: d :: l)) := by
                rw [qL_esc h92 hd]
                cases qL l with
                | none => rfl
                | some q => simp [qEnd]; omega
              rw [← e, ← hk2, show (((u ++ [c, d]).length : Nat) : Int) = (u.length : Int) + 1 + 1 by simp; omega]
            · rw [if_neg hd]
              have hd' : seenB d = false := by simpa using hd
              rw [qL_escbad h92 hd']
              rfl
          · rw [if_neg (ne_lit 92 h92 rfl), wr (by omega) (by omega)]
            have e : qEnd (u ++ [c]).length (qL (d :: l)) = qEnd u.length (qL (c :: d :: l)) := by
              rw [qL_more hsn h34 h92]
              cases qL (d :: l) with
              | none => rfl
              | some q => simp [qEnd]; omega
            rw [← e, ← hk, show (((u ++ [c]).length : Nat) : Int) = (u.length : Int) + 1 by simp]
      · rw [if_neg hsn]
        have hsn' : seenB c = false := by simpa using hsn
        rw [qL_bad hsn']
        rfl

def pEnd (u : Nat) : Option (List UInt8 × List UInt8) → Int
  | none => -1
  | some (a, _) => (u : Int) + a.length

theorem part_at : ∀ (n : Nat) (v : List UInt8), v.length ≤ n → ∀ (u s : List UInt8), s = u ++ v → s.length ≤ 2000 → Ev (fun k => lex_part.l0 k (mk s) (u.length : Int)) (pEnd u.length (partL n v)) := by
  intro n
  induction n with
  | zero =>
    intro v hv u s hs hl
    have : v = [] := List.length_eq_zero_iff.1 (by omega)
    subst this
    subst hs
    have : Ev (fun k => lex_part.j1 k (mk (u ++ [])) (u.length : Int) false) (pEnd u.length (partL 0 [])) := by
      refine ev_end (fun k => ?_)
      simp [lex_part.j1, partL, pEnd]
    refine ev_step this (fun k hk => ?_)
    simp only [lex_part.l0]
    rw [if_neg (by simp)]
    exact hk
  | succ n ih =>
    intro v hv u s hs hl
    match v, hv, hs with
    | [], _, hs =>
      subst hs
      have : Ev (fun k => lex_part.j1 k (mk (u ++ [])) (u.length : Int) false) (pEnd u.length (partL (n + 1) [])) := by
        refine ev_end (fun k => ?_)
        simp [lex_part.j1, partL, pEnd]
      refine ev_step this (fun k hk => ?_)
      simp only [lex_part.l0]
      rw [if_neg (by simp)]
      exact hk
    | c :: l, hv, hs =>
      have hb : bt (mk s) (u.length : Int) = (c.toNat : Int) := by subst hs; exact bt_app u c _ _ rfl
      have hlen : s.length = u.length + 1 + l.length := by subst hs; simp; omega
      have stop : ∀ q, partL (n + 1) (c :: l) = some ([], q) → Ev (fun k => lex_part.j1 k (mk s) (u.length : Int) false) (pEnd u.length (partL (n + 1) (c :: l))) := by
        intro q hq
        refine ev_end (fun k => ?_)
        rw [hq]
        simp [lex_part.j1, pEnd]
      by_cases hbl : blankB c = true
      · refine ev_step (stop (c :: l) (partL_blank hbl)) (fun k hk => ?_)
        simp only [lex_part.l0]
        rw [if_pos (by simp <;> omega), if_pos (by omega), hb, blank_f]
        simp only [Option.bind_some]
        rw [if_pos hbl]
        exact hk
      · by_cases h35 : c = 35
        · refine ev_step (stop (c :: l) (partL_remark h35)) (fun k hk => ?_)
          simp only [lex_part.l0]
          rw [if_pos (by simp <;> omega), if_pos (by omega), hb, blank_f]
          simp only [Option.bind_some]
          rw [if_neg hbl, show ((c.toNat : Int) != 35) = false by simpa using eq_lit 35 h35 rfl]
          exact hk
        · have go : Ev (fun k => lex_part.j1 k (mk s) (u.length : Int) true) (pEnd u.length (partL (n + 1) (c :: l))) := by
            by_cases h34 : c = 34
            · have hq := quoted_at l.length l (Nat.le_refl _) [c] (c :: l) rfl (by simp <;> omega)
              cases hql : qL l with
              | none =>
                rw [hql] at hq
                refine ev_step hq (fun k hk => ?_)
                simp only [lex_part.j1]
                rw [if_pos trivial, if_pos (by omega), if_pos (by simp <;> omega), hb, if_pos (eq_lit 34 h34 rfl), if_pos (by simp <;> omega), mk_extract_to_end]
                have e : s.drop (u.length : Int).toNat = c :: l := by subst hs; simp
                rw [e]
                unfold lex_quoted.f
                rw [show ((([c] : List UInt8).length : Nat) : Int) = 1 from rfl] at hk
                rw [hk]
                simp only [Option.bind_some, qEnd]
                rw [if_pos trivial, partL_quote h34, hql]
                rfl
              | some q =>
                obtain ⟨p, r⟩ := q
                have esp := (qL_split l.length l (Nat.le_refl _) _ _ hql)
                have hrl : r.length ≤ n := by have := congrArg List.length esp.1; simp at this hv; omega
                have rc := ih r hrl (u ++ c :: p) s (by rw [hs, esp.1]; simp) hl
                rw [hql] at hq
                refine ev_step2 hq rc (fun k hk hk2 => ?_)
                simp only [lex_part.j1]
                rw [if_pos trivial, if_pos (by omega), if_pos (by simp <;> omega), hb, if_pos (eq_lit 34 h34 rfl), if_pos (by simp <;> omega), mk_extract_to_end]
                have e : s.drop (u.length : Int).toNat = c :: l := by subst hs; simp
                rw [e]
                unfold lex_quoted.f
                rw [show ((([c] : List UInt8).length : Nat) : Int) = 1 from rfl] at hk
                rw [hk]
                simp only [Option.bind_some, qEnd]
                have hpl : p.length ≤ l.length := by have := congrArg List.length esp.1; simp at this; omega
                rw [if_neg (by simp <;> omega), seen_f]
                simp only [Option.bind_some]
                rw [if_pos (by rw [h34]; exact seenB_34), wr (by simp <;> omega) (by simp <;> omega)]
                have e2 : pEnd (u ++ c :: p).length (partL n r) = pEnd u.length (partL (n + 1) (c :: l)) := by
                  rw [partL_quote h34, hql]
                  simp only []
                  cases partL n r with
                  | none => rfl
                  | some q => simp [pEnd]; omega
                rw [← e2, ← hk2, show (((u ++ c :: p).length : Nat) : Int) = (u.length : Int) + ((([c] : List UInt8).length : Nat) + (p.length : Int)) by simp; omega]
            · by_cases hsn : seenB c = true
              · have rc := ih l (by simp at hv; omega) (u ++ [c]) s (by simp [hs]) hl
                refine ev_step rc (fun k hk => ?_)
                simp only [lex_part.j1]
                rw [if_pos trivial, if_pos (by omega), if_pos (by simp <;> omega), hb, if_neg (ne_lit 34 h34 rfl), seen_f]
                simp only [Option.bind_some]
                rw [if_pos hsn, wr (by omega) (by omega)]
                have e2 : pEnd (u ++ [c]).length (partL n l) = pEnd u.length (partL (n + 1) (c :: l)) := by
                  rw [partL_step (by simpa using hbl) h35 h34 hsn]
                  cases partL n l with
                  | none => rfl
                  | some q => simp [pEnd]; omega
                rw [← e2, ← hk, show (((u ++ [c]).length : Nat) : Int) = (u.length : Int) + 1 by simp]
              · refine ev_end (fun k => ?_)
                simp only [lex_part.j1]
                rw [if_pos trivial, if_pos (by omega), if_pos (by simp <;> omega), hb, if_neg (ne_lit 34 h34 rfl), seen_f]
                simp only [Option.bind_some]
                rw [if_neg hsn]
                have hsn' : seenB c = false := by simpa using hsn
                rw [partL_bad (by simpa using hbl) h35 h34 hsn']
                rfl
          refine ev_step go (fun k hk => ?_)
          simp only [lex_part.l0]
          rw [if_pos (by simp <;> omega), if_pos (by omega), hb, blank_f]
          simp only [Option.bind_some]
          rw [if_neg hbl, show ((c.toNat : Int) != 35) = true by simpa using ne_lit 35 h35 rfl]
          exact hk

theorem Fields_at : ∀ (n : Nat) (l : List UInt8), l.length ≤ n → ∀ (out : List (List UInt8)), l.length ≤ 2000 → out.length + l.length ≤ 10000 →
    Ev (fun k => lex_Fields.l0 k (mk l) (out.map mk)) (((fieldsL n out l).1.map mk), (fieldsL n out l).2) := by
  intro n
  induction n with
  | zero =>
    intro l hl out hb ho
    have : l = [] := List.length_eq_zero_iff.1 (by omega)
    subst this
    have : Ev (fun k => lex_Fields.j1 k (mk []) (out.map mk) false) (((fieldsL 0 out []).1.map mk), (fieldsL 0 out []).2) := by
      refine ev_end (fun k => ?_)
      simp [lex_Fields.j1, fieldsL]
    refine ev_step this (fun k hk => ?_)
    simp only [lex_Fields.l0]
    rw [if_pos (by simp)]
    exact hk
  | succ n ih =>
    intro l hl out hb ho
    match l, hl with
    | [], _ =>
      have : Ev (fun k => lex_Fields.j1 k (mk []) (out.map mk) false) (((fieldsL (n + 1) out []).1.map mk), (fieldsL (n + 1) out []).2) := by
        refine ev_end (fun k => ?_)
        simp [lex_Fields.j1, fieldsL]
      refine ev_step this (fun k hk => ?_)
      simp only [lex_Fields.l0]
      rw [if_pos (by simp)]
      exact hk
    | c :: l, hl =>
      simp only [List.length_cons] at hl hb ho
      by_cases h35 : c = 35
      · have : Ev (fun k => lex_Fields.j1 k (mk (c :: l)) (out.map mk) false) (((fieldsL (n + 1) out (c :: l)).1.map mk), (fieldsL (n + 1) out (c :: l)).2) := by
          refine ev_end (fun k => ?_)
          simp [lex_Fields.j1, fieldsL, h35]
        refine ev_step this (fun k hk => ?_)
        simp only [lex_Fields.l0]
        rw [if_neg (by simp), if_pos (by simp <;> omega), bt_mk0, show ((c.toNat : Int) != 35) = false by simpa using eq_lit 35 h35 rfl]
        exact hk
      · have go : Ev (fun k => lex_Fields.j1 k (mk (c :: l)) (out.map mk) true) (((fieldsL (n + 1) out (c :: l)).1.map mk), (fieldsL (n + 1) out (c :: l)).2) := by
          by_cases hbl : blankB c = true
          · have rc := ih l (by omega) out (by omega) (by omega)
            refine ev_step rc (fun k hk => ?_)
            simp only [lex_Fields.j1]
            rw [if_pos trivial, if_pos (by simp <;> omega), bt_mk0, blank_f]
            simp only [Option.bind_some]
            rw [if_pos hbl, if_pos (by simp <;> omega), mk_extract_to_end]
            simp only [fieldsL, h35, hbl, if_false, if_true, List.drop_succ_cons, List.drop_zero]
            exact hk
          · have hp := part_at (l.length + 1) (c :: l) (by simp) [] (c :: l) rfl (by simp <;> omega)
            cases hpl : partL (l.length + 1) (c :: l) with
            | none =>
              rw [hpl] at hp
              refine ev_step hp (fun k hk => ?_)
              simp only [lex_Fields.j1]
              rw [if_pos trivial, if_pos (by simp <;> omega), bt_mk0, blank_f]
              simp only [Option.bind_some]
              rw [if_neg hbl]
              unfold lex_part.f
              rw [show ((([] : List UInt8).length : Nat) : Int) = 0 from rfl] at hk
              rw [hk]
              simp only [Option.bind_some, pEnd]
              rw [if_pos (by decide)]
              simp [fieldsL, h35, hbl, hpl]
            | some q =>
              obtain ⟨a, b⟩ := q
              have es := partL_split _ _ _ _ hpl
              have ha := partL_some (by simpa using hbl) h35 hpl
              have hal : 0 < a.length := List.length_pos_iff.2 ha
              have hlen : l.length + 1 = a.length + b.length := by have := congrArg List.length es; simpa using this
              have rc := ih b (by omega) (out ++ [a]) (by omega) (by simp <;> omega)
              rw [hpl] at hp
              refine ev_step2 hp rc (fun k hk hk2 => ?_)
              simp only [lex_Fields.j1]
              rw [if_pos trivial, if_pos (by simp <;> omega), bt_mk0, blank_f]
              simp only [Option.bind_some]
              rw [if_neg hbl]
              unfold lex_part.f
              rw [show ((([] : List UInt8).length : Nat) : Int) = 0 from rfl] at hk
              rw [hk]
              simp only [Option.bind_some, pEnd, List.length_nil]
              rw [if_neg (by simp <;> omega), if_pos (by simp), if_pos (by simp <;> omega), if_pos (by simp <;> omega), mk_extract_to_end, mk_extract]
              have e1 : (c :: l).drop (((0 : Nat) : Int) + (a.length : Int)).toNat = b := by
                rw [es]; simp
              have e2 : ((c :: l).take (((0 : Nat) : Int) + (a.length : Int)).toNat).drop 0 = a := by
                rw [es]; simp
              rw [e1, e2]
              simp only [fieldsL, h35, hbl, if_false, hpl, Bool.false_eq_true]
              rw [← hk2]
              simp
        refine ev_step go (fun k hk => ?_)
        simp only [lex_Fields.l0]
        rw [if_neg (by simp), if_pos (by simp <;> omega), bt_mk0, show ((c.toNat : Int) != 35) = true by simpa using ne_lit 35 h35 rfl]
        exact hk

theorem Fields_f (l : List UInt8) (h : l.length ≤ 2000) : Ev (fun k => lex_Fields.f k (mk l)) ((fieldsL l.length [] l).1.map mk, (fieldsL l.length [] l).2) := by
  have := Fields_at l.length l (Nat.le_refl _) [] h (by simp <;> omega)
  exact this

theorem refseen_f (c : UInt8) : gatherumref07_seen.f (c.toNat : Int) = some (seenB c) := by
  unfold gatherumref07_seen.f
  by_cases h1 : 32 ≤ c.toNat
  · rw [if_pos (by omega)]
    congr 1
    simp [seenB, h1]
    omega
  · rw [if_neg (by omega)]
    simp [seenB, h1]

theorem ref_at : ∀ (v : List UInt8) (u s : List UInt8) (out : List (List UInt8)) (part : List UInt8) (within free : Bool), s = u ++ v → s.length ≤ 2000 → out.length ≤ u.length → part.length ≤ u.length →
    Ev (fun k => gatherumref07_Fields.l0 k (mk s) (out.map mk) (mk part) within free (u.length : Int)) ((refL out part within free v).1.map mk, (refL out part within free v).2) := by
  intro v
  induction v with
  | nil =>
    intro u s out part within free hs hl ho hp
    refine ev_end (fun k => ?_)
    simp only [gatherumref07_Fields.l0]
    have hlen : s.length = u.length := by subst hs; simp
    rw [if_neg (by simp <;> omega)]
    by_cases h0 : part = []
    · subst h0
      rw [if_pos (by simp)]
      cases within <;> simp [refL]
    · rw [if_neg (by simpa using h0), if_pos (by simp <;> omega)]
      cases within <;> simp [refL, h0]
  | cons c l ih =>
    intro u s out part within free hs hl ho hp
    have hb : bt (mk s) (u.length : Int) = (c.toNat : Int) := by subst hs; exact bt_app u c _ _ rfl
    have hlen : s.length = u.length + 1 + l.length := by subst hs; simp; omega
    have hx : (mk s).extract ((u.length : Int)).toNat ((u.length : Int) + 1).toNat = mk [c] := by
      rw [mk_extract]
      congr 1
      subst hs
      rw [show ((u.length : Int) + 1).toNat = u.length + 1 by omega, show ((u.length : Int)).toNat = u.length by omega, List.drop_take]
      simp
    have nx : ∀ out' part' within' free', out'.length ≤ u.length + 1 → part'.length ≤ u.length + 1 → Ev (fun k => gatherumref07_Fields.l0 k (mk s) (out'.map mk) (mk part') within' free' ((u.length : Int) + 1)) ((refL out' part' within' free' l).1.map mk, (refL out' part' within' free' l).2) := by
      intro out' part' within' free' h1 h2
      have := ih (u ++ [c]) s out' part' within' free' (by simp [hs]) hl (by simp <;> omega) (by simp <;> omega)
      simpa using this
    cases hw : within with
    | true =>
      have hj : Ev (fun k => gatherumref07_Fields.j1 k (mk s) (out.map mk) (mk part) true free (u.length : Int) (c.toNat : Int) (!(seenB c))) ((refL out part true free (c :: l)).1.map mk, (refL out part true free (c :: l)).2) := by
        by_cases hsn : seenB c = false
        · refine ev_end (fun k => ?_)
          simp only [gatherumref07_Fields.j1]
          rw [if_pos (by rw [hsn]; rfl)]
          simp [refL, hsn]
        · have hsn' : seenB c = true := by simpa using hsn
          have e := nx out (part ++ [c]) (free || (c != 34)) (!free && (c == 92)) (by omega) (by simp <;> omega)
          refine ev_step e (fun k hk => ?_)
          simp only [gatherumref07_Fields.j1]
          rw [if_neg (by rw [hsn']; decide), if_pos (by trivial)]
          have er : refL out part true free (c :: l) = refL out (part ++ [c]) (free || (c != 34)) (!free && (c == 92)) l := by simp [refL, hsn']
          rw [er, ← hk]
          cases free with
          | true =>
            rw [if_pos (by trivial), wr (by omega) (by omega), if_pos (by omega), if_pos (by omega), if_pos (by simp <;> omega), hx, if_pos (by simp <;> omega), mk_append]
            simp
          | false =>
            rw [if_neg (by decide), wr (by omega) (by omega), if_pos (by omega), if_pos (by omega), if_pos (by simp <;> omega), hx, if_pos (by simp <;> omega), mk_append]
            have e1 : ((c.toNat : Int) != 34) = (c != 34) := by
              by_cases h : c = 34
              · rw [h]; rfl
              · rw [show (c != 34) = true by simpa using h]; simpa using ne_lit 34 h rfl
            have e2 : ((c.toNat : Int) == 92) = (c == 92) := by
              by_cases h : c = 92
              · rw [h]; rfl
              · rw [show (c == 92) = false by simpa using h]; simpa using ne_lit 92 h rfl
            rw [e1, e2]
            simp
      refine ev_step hj (fun k hk => ?_)
      simp only [gatherumref07_Fields.l0]
      rw [if_pos (by simp <;> omega), if_pos (by omega), if_pos (by trivial), hb, refseen_f]
      exact hk
    | false =>
      have hj2 : Ev (fun k => gatherumref07_Fields.j2 k (mk s) (out.map mk) (mk part) false free (u.length : Int) (c.toNat : Int) (blankB c)) ((refL out part false free (c :: l)).1.map mk, (refL out part false free (c :: l)).2) := by
        by_cases hbl : blankB c = true
        · have e := nx (if part = [] then out else out ++ [part]) [] false free (by
            by_cases h0 : part = []
            · rw [if_pos h0]; omega
            · rw [if_neg h0]; simp; omega) (by simp)
          refine ev_step e (fun k hk => ?_)
          simp only [gatherumref07_Fields.j2]
          have er : refL out part false free (c :: l) = refL (if part = [] then out else out ++ [part]) [] false free l := by simp [refL, hbl]
          rw [er, ← hk, if_pos hbl]
          by_cases h0 : part = []
          · subst h0
            rw [if_pos (by simp), wr (by omega) (by omega)]
            simp [mk]
          · rw [if_neg (by simpa using h0), if_pos (by simp <;> omega), wr (by omega) (by omega), if_neg h0]
            simp [mk]
        · by_cases h35 : c = 35
          · refine ev_end (fun k => ?_)
            simp only [gatherumref07_Fields.j2]
            rw [if_neg hbl, if_pos (eq_lit 35 h35 rfl)]
            by_cases h0 : part = []
            · subst h0
              rw [if_pos (by simp)]
              simp [refL, hbl, h35]
              rw [h35] at hbl; simp [hbl]
            · rw [if_neg (by simpa using h0), if_pos (by simp <;> omega)]
              simp only [refL, Bool.false_eq_true, if_false]
              rw [if_neg hbl, if_pos h35, if_neg h0]
              simp
          · by_cases hsn : seenB c = false
            · refine ev_end (fun k => ?_)
              simp only [gatherumref07_Fields.j2]
              rw [if_neg hbl, if_neg (ne_lit 35 h35 rfl), refseen_f]
              simp only [Option.bind_some]
              rw [if_neg (by rw [hsn]; decide)]
              simp only [refL, Bool.false_eq_true, if_false]
              rw [if_neg hbl, if_neg h35, if_pos hsn]
              rfl
            · have hsn' : seenB c = true := by simpa using hsn
              have e := nx out (part ++ [c]) (c == 34) free (by omega) (by simp <;> omega)
              refine ev_step e (fun k hk => ?_)
              simp only [gatherumref07_Fields.j2]
              rw [if_neg hbl, if_neg (ne_lit 35 h35 rfl), refseen_f]
              simp only [Option.bind_some]
              rw [if_pos hsn', wr (by omega) (by omega), if_pos (by omega), if_pos (by omega), if_pos (by simp <;> omega), hx, if_pos (by simp <;> omega), mk_append]
              have e2 : ((c.toNat : Int) == 34) = (c == 34) := by
                by_cases h : c = 34
                · rw [h]; rfl
                · rw [show (c == 34) = false by simpa using h]; simpa using ne_lit 34 h rfl
              have er : refL out part false free (c :: l) = refL out (part ++ [c]) (c == 34) free l := by
                simp only [refL, Bool.false_eq_true, if_false]
                rw [if_neg hbl, if_neg h35, if_neg hsn]
              rw [er, e2, ← hk]
      have hj : Ev (fun k => gatherumref07_Fields.j1 k (mk s) (out.map mk) (mk part) false free (u.length : Int) (c.toNat : Int) false) ((refL out part false free (c :: l)).1.map mk, (refL out part false free (c :: l)).2) := by
        refine ev_step hj2 (fun k hk => ?_)
        simp only [gatherumref07_Fields.j1]
        rw [if_neg (by decide), if_neg (by decide)]
        by_cases h32 : c = 32
        · rw [if_pos (eq_lit 32 h32 rfl)]
          rw [show blankB c = true by rw [h32]; rfl] at hk
          exact hk
        · rw [if_neg (ne_lit 32 h32 rfl)]
          have e : blankB c = ((c.toNat : Int) == 9) := by
            unfold blankB
            rw [show (c == 32) = false by simpa using h32, Bool.false_or]
            by_cases h : c = 9
            · rw [h]; rfl
            · rw [show (c == 9) = false by simpa using h]; symm; simpa using ne_lit 9 h rfl
          rw [← e]
          exact hk
      refine ev_step hj (fun k hk => ?_)
      simp only [gatherumref07_Fields.l0]
      rw [if_pos (by simp <;> omega), if_pos (by omega), if_neg (by decide), hb]
      exact hk

theorem ref_f (l : List UInt8) (h : l.length ≤ 2000) : Ev (fun k => gatherumref07_Fields.f k (mk l)) ((refL [] [] false false l).1.map mk, (refL [] [] false false l).2) := by
  have := ref_at l [] l [] [] false false rfl h (by simp) (by simp)
  simpa [gatherumref07_Fields.f, mk] using this

theorem same_at (post : List ByteArray) : ∀ (pre : List ByteArray), pre.length + post.length < 1000000 → Ev (fun k => gatherumref07_Same.l0 k (pre ++ post) (pre ++ post) (pre.length : Int)) true := by
  induction post with
  | nil =>
    intro pre h
    refine ev_end (fun k => ?_)
    simp only [gatherumref07_Same.l0]
    rw [if_neg (by simp)]
  | cons c l ih =>
    intro pre h
    have := ih (pre ++ [c]) (by simp at h ⊢; omega)
    refine ev_step this (fun k hk => ?_)
    simp only [gatherumref07_Same.l0]
    simp only [List.length_cons] at h
    rw [if_pos (by simp; omega), if_pos (by omega), if_pos (by simp; omega), if_pos (by trivial), wr (by omega) (by omega)]
    simpa using hk
theorem same_f (l : List ByteArray) (h : l.length < 1000000) : Ev (fun k => gatherumref07_Same.f k l l) true := by
  refine ev_map (same_at l [] (by simpa using h)) (fun k hk => ?_)
  unfold gatherumref07_Same.f
  rw [if_pos rfl]
  exact hk

theorem fieldsL_many : ∀ (n : Nat) (out : List (List UInt8)) (l : List UInt8), (fieldsL n out l).1.length ≤ out.length + l.length := by
  intro n
  induction n with
  | zero => intro out l; cases l <;> simp [fieldsL]
  | succ n ih =>
    intro out l
    cases l with
    | nil => simp [fieldsL]
    | cons c l =>
      simp only [fieldsL]
      split
      · simp
      · split
        · have := ih out l; simp; omega
        · rename_i h35 hbl
          split
          · simp
          · rename_i a b hp
            have es := partL_split _ _ _ _ hp
            have ha := partL_some (by simpa using hbl) h35 hp
            have hal : 0 < a.length := List.length_pos_iff.2 ha
            have := congrArg List.length es
            have := ih (out ++ [a]) b
            simp at *; omega

theorem alive : Ev (fun k => gatherumlaw10_alive.f k) true := Ev.of (fun k => gatherumlaw10_alive.mono k) (k := 100) (by kernel_rfl)

theorem LexFields : gatherumlaw10_LexFields.Pure := by
  intro a0 hs
  obtain ⟨l, rfl⟩ := exists_mk a0
  apply ev_done
  simp only [gatherumlaw10_LexFields.f]
  refine Ev.bind alive ?_
  simp only [if_true]
  by_cases hl : (l.length : Int) > 1000
  · exact ev_now fun k => by rw [if_pos (by simpa using hl)]
  · have h1 := Fields_f l (by omega)
    have h2 := ref_f l (by omega)
    rw [refL_fields l.length l (Nat.le_refl _)] at h2
    have h3 := same_f ((fieldsL l.length [] l).1.map mk) (by have := fieldsL_many l.length [] l; simp at this ⊢; omega)
    refine ev_map3 h1 h2 h3 (fun k k1 k2 k3 => ?_)
    rw [if_neg (by simpa using hl), k1]
    simp only [Option.bind_some]
    rw [k2]
    simp only [Option.bind_some]
    rw [if_pos (by simp), k3]
    rfl
end Go.Proofs.YthkbomclongjgaaDoor.Pure
