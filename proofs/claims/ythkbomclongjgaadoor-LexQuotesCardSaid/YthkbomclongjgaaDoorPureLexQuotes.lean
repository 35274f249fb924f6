/- The pure statement of LexQuotes: a text comes back from its quoted text, and no other text is one's. No condition beyond the statement's own. -/
import Derived.Test.YthkbomclongjgaaDoorPLexQuotesx4
import Derived.Test.YthkbomclongjgaaDoorPkLex
namespace Go.Proofs.YthkbomclongjgaaDoor.Pure
open Go.RowKit Go.Proofs.YthkbomclongjgaaDoor.PLexQuotes Go.Proofs.YthkbomclongjgaaDoorW.PrintWords Go.Proofs.YthkbomclongjgaaDoorW.PrintLast Go.Proofs.YthkbomclongjgaaDoor.Pk
set_option linter.unusedSimpArgs false
set_option linter.unusedVariables false

theorem seen_f (c : UInt8) : lex_seen.f (c.toNat : Int) = some (seenB c) := by
  have h := c.toNat_lt
  unfold lex_seen.f num_In.f
  rw [wr (by omega) (by omega)]
  by_cases h1 : 32 ≤ c.toNat
  · rw [if_pos (by omega)]
    simp only [Option.bind_some, seenB]
    congr 1
    simp [h1]
    omega
  · rw [if_neg (by omega)]
    simp [seenB, h1]
theorem blank_f (c : UInt8) : lex_blank.f (c.toNat : Int) = some (blankB c) := by
  unfold lex_blank.f blankB
  by_cases h : c = 32
  · subst h; rfl
  · rw [if_neg (ne_lit 32 h rfl)]
    by_cases h2 : c = 9
    · subst h2; rfl
    · rw [beq_eq_false_iff_ne.2 h, beq_eq_false_iff_ne.2 h2, beq_eq_false_iff_ne.2 (ne_lit 9 h2 rfl)]; rfl

def qEnd (u : Nat) : Option (List UInt8 × List UInt8) → Int
  | none => 0
  | some (a, _) => (u : Int) + a.length

theorem quoted_off (s : List UInt8) (i : Int) (h : (s.length : Int) ≤ i) : Ev (fun k => lex_quoted.l0 k (mk s) i) 0 := by
  refine ev_end (fun k => ?_)
  simp only [lex_quoted.l0]
  rw [if_neg (by simp <;> omega)]

theorem quoted_at : ∀ (n : Nat) (v : List UInt8), v.length ≤ n → ∀ (u s : List UInt8), s = u ++ v → s.length ≤ 5000 → Ev (fun k => lex_quoted.l0 k (mk s) (u.length : Int)) (qEnd u.length (qL v)) := by
  intro n
  induction n with
  | zero =>
    intro v hv u s hs hl
    have : v = [] := List.length_eq_zero_iff.1 (by omega)
    subst this
    subst hs
    exact quoted_off _ _ (by simp)
  | succ n ih =>
    intro v hv u s hs hl
    match v, hv, hs with
    | [], _, hs => subst hs; exact quoted_off _ _ (by simp)
    | [c], _, hs =>
      have hb : bt (mk s) (u.length : Int) = (c.toNat : Int) := by subst hs; exact bt_app u c [] _ rfl
      have hlen : s.length = u.length + 1 := by subst hs; simp
      have off := quoted_off s ((u.length : Int) + 1) (by omega)
      have off2 := quoted_off s ((u.length : Int) + 2) (by omega)
      refine ev_step2 off off2 (fun k hk hk2 => ?_)
      simp only [lex_quoted.l0]
      rw [if_pos (by simp <;> omega), if_pos (by omega), hb, seen_f]
      simp only [Option.bind_some]
      by_cases h34 : c = 34
      · rw [if_pos (by rw [h34]; exact seenB_34), if_pos (eq_lit 34 h34 rfl), wr (by omega) (by omega), qL_one h34]
        simp [qEnd]
      · rw [qL_lone h34]
        by_cases hsn : seenB c = true
        · rw [if_pos hsn, if_neg (ne_lit 34 h34 rfl)]
          by_cases h92 : c = 92
          · rw [if_pos (eq_lit 92 h92 rfl), wr (by omega) (by omega), if_neg (by simp <;> omega), wr (by omega) (by omega)]
            simp only [qEnd]
            rw [show ((u.length : Int) + 1 + 1) = (u.length : Int) + 2 by omega]
            exact hk2
          · rw [if_neg (ne_lit 92 h92 rfl), wr (by omega) (by omega)]
            exact hk
        · rw [if_neg hsn]; rfl
    | c :: d :: l, hv, hs =>
      have hb : bt (mk s) (u.length : Int) = (c.toNat : Int) := by subst hs; exact bt_app u c _ _ rfl
      have hlen : s.length = u.length + 2 + l.length := by subst hs; simp; omega
      have hb2 : bt (mk s) ((u.length : Int) + 1) = (d.toNat : Int) := by
        subst hs
        have := bt_app (u ++ [c]) d l ((u.length : Int) + 1) (by simp)
        simpa using this
      have r1 := ih (d :: l) (by simp at hv ⊢; omega) (u ++ [c]) s (by simp [hs]) hl
      have r2 := ih l (by simp at hv; omega) (u ++ [c, d]) s (by simp [hs]) hl
      refine ev_step2 r1 r2 (fun k hk hk2 => ?_)
      simp only [lex_quoted.l0]
      rw [if_pos (by simp <;> omega), if_pos (by omega), hb, seen_f]
      simp only [Option.bind_some]
      by_cases hsn : seenB c = true
      · rw [if_pos hsn]
        by_cases h34 : c = 34
        · rw [if_pos (eq_lit 34 h34 rfl), wr (by omega) (by omega), qL_close h34]
          simp [qEnd]
        · rw [if_neg (ne_lit 34 h34 rfl)]
          by_cases h92 : c = 92
          · rw [if_pos (eq_lit 92 h92 rfl), wr (by omega) (by omega), if_pos (by simp <;> omega), if_pos (by omega), hb2, seen_f]
            simp only [Option.bind_some]
            by_cases hd : seenB d = true
            · rw [if_pos hd, wr (by omega) (by omega)]
              have e : qEnd (u ++ [c, d]).length (qL l) = qEnd u.length (qL (c :: d :: l)) := by
                rw [qL_esc h92 hd]
                cases qL l with
                | none => rfl
                | some q => simp [qEnd]; omega
              rw [← e, ← hk2, show (((u ++ [c, d]).length : Nat) : Int) = (u.length : Int) + 1 + 1 by simp; omega]
            · rw [if_neg hd]
              have hd' : seenB d = false := by simpa using hd
              rw [qL_escbad h92 hd']
              rfl
          · rw [if_neg (ne_lit 92 h92 rfl), wr (by omega) (by omega)]
            have e : qEnd (u ++ [c]).length (qL (d :: l)) = qEnd u.length (qL (c :: d :: l)) := by
              rw [qL_more hsn h34 h92]
              cases qL (d :: l) with
              | none => rfl
              | some q => simp [qEnd]; omega
            rw [← e, ← hk, show (((u ++ [c]).length : Nat) : Int) = (u.length : Int) + 1 by simp]
      · rw [if_neg hsn]
        have hsn' : seenB c = false := by simpa using hsn
        rw [qL_bad hsn']
        rfl

def pEnd (u : Nat) : Option (List UInt8 × List UInt8) → Int
  | none => -1
  | some (a, _) => (u : Int) + a.length

theorem part_at : ∀ (n : Nat) (v : List UInt8), v.length ≤ n → ∀ (u s : List UInt8), s = u ++ v → s.length ≤ 4000 → Ev (fun k => lex_part.l0 k (mk s) (u.length : Int)) (pEnd u.length (partL n v)) := by
  intro n
  induction n with
  | zero =>
    intro v hv u s hs hl
    have : v = [] := List.length_eq_zero_iff.1 (by omega)
    subst this
    subst hs
    have : Ev (fun k => lex_part.j1 k (mk (u ++ [])) (u.length : Int) false) (pEnd u.length (partL 0 [])) := by
      refine ev_end (fun k => ?_)
      simp [lex_part.j1, partL, pEnd]
    refine ev_step this (fun k hk => ?_)
    simp only [lex_part.l0]
    rw [if_neg (by simp)]
    exact hk
  | succ n ih =>
    intro v hv u s hs hl
    match v, hv, hs with
    | [], _, hs =>
      subst hs
      have : Ev (fun k => lex_part.j1 k (mk (u ++ [])) (u.length : Int) false) (pEnd u.length (partL (n + 1) [])) := by
        refine ev_end (fun k => ?_)
        simp [lex_part.j1, partL, pEnd]
      refine ev_step this (fun k hk => ?_)
      simp only [lex_part.l0]
      rw [if_neg (by simp)]
      exact hk
    | c :: l, hv, hs =>
      have hb : bt (mk s) (u.length : Int) = (c.toNat : Int) := by subst hs; exact bt_app u c _ _ rfl
      have hlen : s.length = u.length + 1 + l.length := by subst hs; simp; omega
      have stop : ∀ q, partL (n + 1) (c :: l) = some ([], q) → Ev (fun k => lex_part.j1 k (mk s) (u.length : Int) false) (pEnd u.length (partL (n + 1) (c :: l))) := by
        intro q hq
        refine ev_end (fun k => ?_)
        rw [hq]
        simp [lex_part.j1, pEnd]
      by_cases hbl : blankB c = true
      · refine ev_step (stop (c :: l) (partL_blank hbl)) (fun k hk => ?_)
        simp only [lex_part.l0]
        rw [if_pos (by simp <;> omega), if_pos (by omega), hb, blank_f]
        simp only [Option.bind_some]
        rw [if_pos hbl]
        exact hk
      · by_cases h35 : c = 35
        · refine ev_step (stop (c :: l) (partL_remark h35)) (fun k hk => ?_)
          simp only [lex_part.l0]
          rw [if_pos (by simp <;> omega), if_pos (by omega), hb, blank_f]
          simp only [Option.bind_some]
          rw [if_neg hbl, show ((c.toNat : Int) != 35) = false by simpa using eq_lit 35 h35 rfl]
          exact hk
        · have go : Ev (fun k => lex_part.j1 k (mk s) (u.length : Int) true) (pEnd u.length (partL (n + 1) (c :: l))) := by
            by_cases h34 : c = 34
            · have hq := quoted_at l.length l (Nat.le_refl _) [c] (c :: l) rfl (by simp <;> omega)
              cases hql : qL l with
              | none =>
                rw [hql] at hq
                refine ev_step hq (fun k hk => ?_)
                simp only [lex_part.j1]
                rw [if_pos trivial, if_pos (by omega), if_pos (by simp <;> omega), hb, if_pos (eq_lit 34 h34 rfl), if_pos (by simp <;> omega), mk_extract_to_end]
                have e : s.drop (u.length : Int).toNat = c :: l := by subst hs; simp
                rw [e]
                unfold lex_quoted.f
                rw [show ((([c] : List UInt8).length : Nat) : Int) = 1 from rfl] at hk
                rw [hk]
                simp only [Option.bind_some, qEnd]
                rw [if_pos trivial, partL_quote h34, hql]
                rfl
              | some q =>
                obtain ⟨p, r⟩ := q
                have esp := (qL_split l.length l (Nat.le_refl _) _ _ hql)
                have hrl : r.length ≤ n := by have := congrArg List.length esp.1; simp at this hv; omega
                have rc := ih r hrl (u ++ c :: p) s (by rw [hs, esp.1]; simp) hl
                rw [hql] at hq
                refine ev_step2 hq rc (fun k hk hk2 => ?_)
                simp only [lex_part.j1]
                rw [if_pos trivial, if_pos (by omega), if_pos (by simp <;> omega), hb, if_pos (eq_lit 34 h34 rfl), if_pos (by simp <;> omega), mk_extract_to_end]
                have e : s.drop (u.length : Int).toNat = c :: l := by subst hs; simp
                rw [e]
                unfold lex_quoted.f
                rw [show ((([c] : List UInt8).length : Nat) : Int) = 1 from rfl] at hk
                rw [hk]
                simp only [Option.bind_some, qEnd]
                have hpl : p.length ≤ l.length := by have := congrArg List.length esp.1; simp at this; omega
                rw [if_neg (by simp <;> omega), seen_f]
                simp only [Option.bind_some]
                rw [if_pos (by rw [h34]; exact seenB_34), wr (by simp <;> omega) (by simp <;> omega)]
                have e2 : pEnd (u ++ c :: p).length (partL n r) = pEnd u.length (partL (n + 1) (c :: l)) := by
                  rw [partL_quote h34, hql]
                  simp only []
                  cases partL n r with
                  | none => rfl
                  | some q => simp [pEnd]; omega
                rw [← e2, ← hk2, show (((u ++ c :: p).length : Nat) : Int) = (u.length : Int) + ((([c] : List UInt8).length : Nat) + (p.length : Int)) by simp; omega]
            · by_cases hsn : seenB c = true
              · have rc := ih l (by simp at hv; omega) (u ++ [c]) s (by simp [hs]) hl
                refine ev_step rc (fun k hk => ?_)
                simp only [lex_part.j1]
                rw [if_pos trivial, if_pos (by omega), if_pos (by simp <;> omega), hb, if_neg (ne_lit 34 h34 rfl), seen_f]
                simp only [Option.bind_some]
                rw [if_pos hsn, wr (by omega) (by omega)]
                have e2 : pEnd (u ++ [c]).length (partL n l) = pEnd u.length (partL (n + 1) (c :: l)) := by
                  rw [partL_step (by simpa using hbl) h35 h34 hsn]
                  cases partL n l with
                  | none => rfl
                  | some q => simp [pEnd]; omega
                rw [← e2, ← hk, show (((u ++ [c]).length : Nat) : Int) = (u.length : Int) + 1 by simp]
              · refine ev_end (fun k => ?_)
                simp only [lex_part.j1]
                rw [if_pos trivial, if_pos (by omega), if_pos (by simp <;> omega), hb, if_neg (ne_lit 34 h34 rfl), seen_f]
                simp only [Option.bind_some]
                rw [if_neg hsn]
                have hsn' : seenB c = false := by simpa using hsn
                rw [partL_bad (by simpa using hbl) h35 h34 hsn']
                rfl
          refine ev_step go (fun k hk => ?_)
          simp only [lex_part.l0]
          rw [if_pos (by simp <;> omega), if_pos (by omega), hb, blank_f]
          simp only [Option.bind_some]
          rw [if_neg hbl, show ((c.toNat : Int) != 35) = true by simpa using ne_lit 35 h35 rfl]
          exact hk

theorem Fields_at : ∀ (n : Nat) (l : List UInt8), l.length ≤ n → ∀ (out : List (List UInt8)), l.length ≤ 4000 → out.length + l.length ≤ 10000 →
    Ev (fun k => lex_Fields.l0 k (mk l) (out.map mk)) (((fieldsL n out l).1.map mk), (fieldsL n out l).2) := by
  intro n
  induction n with
  | zero =>
    intro l hl out hb ho
    have : l = [] := List.length_eq_zero_iff.1 (by omega)
    subst this
    have : Ev (fun k => lex_Fields.j1 k (mk []) (out.map mk) false) (((fieldsL 0 out []).1.map mk), (fieldsL 0 out []).2) := by
      refine ev_end (fun k => ?_)
      simp [lex_Fields.j1, fieldsL]
    refine ev_step this (fun k hk => ?_)
    simp only [lex_Fields.l0]
    rw [if_pos (by simp)]
    exact hk
  | succ n ih =>
    intro l hl out hb ho
    match l, hl with
    | [], _ =>
      have : Ev (fun k => lex_Fields.j1 k (mk []) (out.map mk) false) (((fieldsL (n + 1) out []).1.map mk), (fieldsL (n + 1) out []).2) := by
        refine ev_end (fun k => ?_)
        simp [lex_Fields.j1, fieldsL]
      refine ev_step this (fun k hk => ?_)
      simp only [lex_Fields.l0]
      rw [if_pos (by simp)]
      exact hk
    | c :: l, hl =>
      simp only [List.length_cons] at hl hb ho
      by_cases h35 : c = 35
      · have : Ev (fun k => lex_Fields.j1 k (mk (c :: l)) (out.map mk) false) (((fieldsL (n + 1) out (c :: l)).1.map mk), (fieldsL (n + 1) out (c :: l)).2) := by
          refine ev_end (fun k => ?_)
          simp [lex_Fields.j1, fieldsL, h35]
        refine ev_step this (fun k hk => ?_)
        simp only [lex_Fields.l0]
        rw [if_neg (by simp), if_pos (by simp <;> omega), bt_mk0, show ((c.toNat : Int) != 35) = false by simpa using eq_lit 35 h35 rfl]
        exact hk
      · have go : Ev (fun k => lex_Fields.j1 k (mk (c :: l)) (out.map mk) true) (((fieldsL (n + 1) out (c :: l)).1.map mk), (fieldsL (n + 1) out (c :: l)).2) := by
          by_cases hbl : blankB c = true
          · have rc := ih l (by omega) out (by omega) (by omega)
            refine ev_step rc (fun k hk => ?_)
            simp only [lex_Fields.j1]
            rw [if_pos trivial, if_pos (by simp <;> omega), bt_mk0, blank_f]
            simp only [Option.bind_some]
            rw [if_pos hbl, if_pos (by simp <;> omega), mk_extract_to_end]
            simp only [fieldsL, h35, hbl, if_false, if_true, List.drop_succ_cons, List.drop_zero]
            exact hk
          · have hp := part_at (l.length + 1) (c :: l) (by simp) [] (c :: l) rfl (by simp <;> omega)
            cases hpl : partL (l.length + 1) (c :: l) with
            | none =>
              rw [hpl] at hp
              refine ev_step hp (fun k hk => ?_)
              simp only [lex_Fields.j1]
              rw [if_pos trivial, if_pos (by simp <;> omega), bt_mk0, blank_f]
              simp only [Option.bind_some]
              rw [if_neg hbl]
              unfold lex_part.f
              rw [show ((([] : List UInt8).length : Nat) : Int) = 0 from rfl] at hk
              rw [hk]
              simp only [Option.bind_some, pEnd]
              rw [if_pos (by decide)]
              simp [fieldsL, h35, hbl, hpl]
            | some q =>
              obtain ⟨a, b⟩ := q
              have es := partL_split _ _ _ _ hpl
              have ha := partL_some (by simpa using hbl) h35 hpl
              have hal : 0 < a.length := List.length_pos_iff.2 ha
              have hlen : l.length + 1 = a.length + b.length := by have := congrArg List.length es; simpa using this
              have rc := ih b (by omega) (out ++ [a]) (by omega) (by simp <;> omega)
              rw [hpl] at hp
              refine ev_step2 hp rc (fun k hk hk2 => ?_)
              simp only [lex_Fields.j1]
              rw [if_pos trivial, if_pos (by simp <;> omega), bt_mk0, blank_f]
              simp only [Option.bind_some]
              rw [if_neg hbl]
              unfold lex_part.f
              rw [show ((([] : List UInt8).length : Nat) : Int) = 0 from rfl] at hk
              rw [hk]
              simp only [Option.bind_some, pEnd, List.length_nil]
              rw [if_neg (by simp <;> omega), if_pos (by simp), if_pos (by simp <;> omega), if_pos (by simp <;> omega), mk_extract_to_end, mk_extract]
              have e1 : (c :: l).drop (((0 : Nat) : Int) + (a.length : Int)).toNat = b := by
                rw [es]; simp
              have e2 : ((c :: l).take (((0 : Nat) : Int) + (a.length : Int)).toNat).drop 0 = a := by
                rw [es]; simp
              rw [e1, e2]
              simp only [fieldsL, h35, hbl, if_false, hpl, Bool.false_eq_true]
              rw [← hk2]
              simp
        refine ev_step go (fun k hk => ?_)
        simp only [lex_Fields.l0]
        rw [if_neg (by simp), if_pos (by simp <;> omega), bt_mk0, show ((c.toNat : Int) != 35) = true by simpa using ne_lit 35 h35 rfl]
        exact hk

theorem Fields_f (l : List UInt8) (h : l.length ≤ 4000) : Ev (fun k => lex_Fields.f k (mk l)) ((fieldsL l.length [] l).1.map mk, (fieldsL l.length [] l).2) := by
  have := Fields_at l.length l (Nat.le_refl _) [] h (by simp <;> omega)
  exact this
theorem refseen_f (c : UInt8) : gatherumref07_seen.f (c.toNat : Int) = some (seenB c) := by
  unfold gatherumref07_seen.f
  by_cases h1 : 32 ≤ c.toNat
  · rw [if_pos (by omega)]
    congr 1
    simp [seenB, h1]
    omega
  · rw [if_neg (by omega)]
    simp [seenB, h1]


theorem alive : Ev (fun k => gatherumlaw10_alive.f k) true := Ev.of (fun k => gatherumlaw10_alive.mono k) (k := 100) (by kernel_rfl)

def ints (l : List UInt8) : List Int := l.map fun c => (c.toNat : Int)
theorem ints_app (a b : List UInt8) : ints (a ++ b) = ints a ++ ints b := by simp [ints]
theorem ints_len (a : List UInt8) : (ints a).length = a.length := by simp [ints]
theorem strOf_ints (l : List UInt8) : strOfNums (ints l) = mk l := by
  apply ext_
  rw [strOfNums_data]
  simp [ints, List.map_map, Function.comp_def]

def qRes : Option (List UInt8) → ByteArray × Bool
  | none => (mk [], false)
  | some q => (mk q, true)

theorem quote_at : ∀ (v u s acc : List UInt8), s = u ++ v → s.length ≤ 3000 → acc.length ≤ 2 * u.length + 1 →
    Ev (fun k => lex_Quote.l0 k (mk s) (ints acc) (s.length : Int) (u.length : Int)) (qRes (if v.all seenB then some (acc ++ escL v ++ [34]) else none)) := by
  intro v
  induction v with
  | nil =>
    intro u s acc hs hl ha
    refine ev_end (fun k => ?_)
    simp only [lex_Quote.l0]
    have hlen : s.length = u.length := by subst hs; simp
    rw [if_neg (by subst hs; simp), if_pos (by rw [ints_len]; omega), show ([34] : List Int) = ints [34] from rfl, ← ints_app, strOf_ints]
    simp [qRes, escL]
  | cons c v ih =>
    intro u s acc hs hl ha
    have hb : bt (mk s) (u.length : Int) = (c.toNat : Int) := by subst hs; exact bt_app u c _ _ rfl
    have hlen : s.length = u.length + 1 + v.length := by subst hs; simp; omega
    have nx : ∀ acc', acc'.length ≤ 2 * u.length + 3 → Ev (fun k => lex_Quote.l0 k (mk s) (ints acc') (s.length : Int) ((u.length : Int) + 1)) (qRes (if v.all seenB then some (acc' ++ escL v ++ [34]) else none)) := by
      intro acc' h
      have := ih (u ++ [c]) s acc' (by simp [hs]) hl (by simp <;> omega)
      simpa using this
    by_cases hsn : seenB c = true
    · have hall : (c :: v).all seenB = v.all seenB := by simp [hsn]
      rw [hall]
      by_cases he : c = 34 ∨ c = 92
      · have ee : escL (c :: v) = 92 :: c :: escL v := by simp only [escL]; rw [if_pos he]
        · have := nx (acc ++ [92, c]) (by simp <;> omega)
          refine ev_step this (fun k hk => ?_)
          simp only [lex_Quote.l0]
          rw [if_pos (by omega), if_pos (by omega), if_pos (by simp <;> omega), hb, seen_f]
          simp only [Option.bind_some]
          rw [if_pos hsn]
          have e2 : ([92, (c.toNat : Int)] : List Int) = ints [92, c] := rfl
          rw [e2, ← ints_app]
          have e3 : (ints acc).length + (ints [92, c]).length < 140737488355328 := by rw [ints_len, ints_len]; simp; omega
          rw [ee]
          rcases he with h | h
          · rw [if_pos (eq_lit 34 h rfl), if_pos e3, wr (by omega) (by omega), hk]
            simp
          · rw [if_neg (by rw [h]; decide), if_pos (eq_lit 92 h rfl), if_pos e3, wr (by omega) (by omega), hk]
            simp
      · have ee : escL (c :: v) = c :: escL v := by simp only [escL]; rw [if_neg he]
        have := nx (acc ++ [c]) (by simp <;> omega)
        refine ev_step this (fun k hk => ?_)
        simp only [lex_Quote.l0]
        rw [if_pos (by omega), if_pos (by omega), if_pos (by simp <;> omega), hb, seen_f]
        simp only [Option.bind_some]
        rw [if_pos hsn, if_neg (ne_lit 34 (fun h => he (.inl h)) rfl), if_neg (ne_lit 92 (fun h => he (.inr h)) rfl), if_pos (by rw [ints_len]; omega), show ([(c.toNat : Int)] : List Int) = ints [c] from rfl, ← ints_app, wr (by omega) (by omega), hk, ee]
        simp
    · refine ev_end (fun k => ?_)
      simp only [lex_Quote.l0]
      rw [if_pos (by omega), if_pos (by omega), if_pos (by simp <;> omega), hb, seen_f]
      simp only [Option.bind_some]
      rw [if_neg hsn, if_neg (by simp [hsn])]
      rfl

theorem quote_f (l : List UInt8) (h : l.length ≤ 3000) : Ev (fun k => lex_Quote.f k (mk l)) (qRes (quoteL l)) := by
  have := quote_at l [] l [34] rfl h (by simp)
  refine ev_map this (fun k hk => ?_)
  unfold lex_Quote.f quoteL
  rw [mk_size]
  exact hk

theorem refquote_at : ∀ (v u s acc : List UInt8), s = u ++ v → s.length ≤ 3000 → acc.length ≤ 2 * u.length →
    Ev (fun k => gatherumref07_Quote.l0 k (mk s) (mk acc) (u.length : Int)) (qRes (if v.all seenB then some (34 :: (acc ++ escL v) ++ [34]) else none)) := by
  intro v
  induction v with
  | nil =>
    intro u s acc hs hl ha
    refine ev_end (fun k => ?_)
    have hlen : s.length = u.length := by subst hs; simp
    simp only [gatherumref07_Quote.l0]
    rw [if_neg (by subst hs; simp), if_pos (by simp <;> omega), show (⟨#[34]⟩ : ByteArray) = mk [34] from rfl, mk_append, if_pos (by simp <;> omega), mk_append]
    simp [qRes, escL]
  | cons c v ih =>
    intro u s acc hs hl ha
    have hb : bt (mk s) (u.length : Int) = (c.toNat : Int) := by subst hs; exact bt_app u c _ _ rfl
    have hlen : s.length = u.length + 1 + v.length := by subst hs; simp; omega
    have hx : (mk s).extract ((u.length : Int)).toNat ((u.length : Int) + 1).toNat = mk [c] := by
      rw [mk_extract]
      congr 1
      subst hs
      rw [show ((u.length : Int) + 1).toNat = u.length + 1 by omega, show ((u.length : Int)).toNat = u.length by omega, List.drop_take]
      simp
    have nx : ∀ acc', acc'.length ≤ 2 * u.length + 2 → Ev (fun k => gatherumref07_Quote.l0 k (mk s) (mk acc') ((u.length : Int) + 1)) (qRes (if v.all seenB then some (34 :: (acc' ++ escL v) ++ [34]) else none)) := by
      intro acc' h
      have := ih (u ++ [c]) s acc' (by simp [hs]) hl (by simp <;> omega)
      simpa using this
    by_cases hsn : seenB c = true
    · have hall : (c :: v).all seenB = v.all seenB := by simp [hsn]
      rw [hall]
      by_cases he : c = 34 ∨ c = 92
      · have ee : escL (c :: v) = 92 :: c :: escL v := by simp only [escL]; rw [if_pos he]
        have := nx (acc ++ [92, c]) (by simp <;> omega)
        refine ev_step this (fun k hk => ?_)
        simp only [gatherumref07_Quote.l0]
        rw [if_pos (by simp <;> omega), if_pos (by omega), hb, refseen_f]
        simp only [Option.bind_some]
        have e4 : mk acc ++ mk [92] ++ mk [c] = mk (acc ++ [92, c]) := by rw [mk_append, mk_append]; simp
        rw [if_pos hsn, ee, show (⟨#[92]⟩ : ByteArray) = mk [92] from rfl]
        rcases he with h | h
        · rw [if_pos (eq_lit 34 h rfl), if_pos (by simp <;> omega), wr (by omega) (by omega), if_pos (by omega), if_pos (by simp <;> omega), hx, if_pos (by rw [mk_append]; simp; omega), e4, hk]
          simp
        · rw [if_neg (by rw [h]; decide), if_pos (eq_lit 92 h rfl), if_pos (by simp <;> omega), wr (by omega) (by omega), if_pos (by omega), if_pos (by simp <;> omega), hx, if_pos (by rw [mk_append]; simp; omega), e4, hk]
          simp
      · have ee : escL (c :: v) = c :: escL v := by simp only [escL]; rw [if_neg he]
        have := nx (acc ++ [c]) (by simp <;> omega)
        refine ev_step this (fun k hk => ?_)
        simp only [gatherumref07_Quote.l0]
        rw [if_pos (by simp <;> omega), if_pos (by omega), hb, refseen_f]
        simp only [Option.bind_some]
        rw [if_pos hsn, if_neg (ne_lit 34 (fun h => he (.inl h)) rfl), if_neg (ne_lit 92 (fun h => he (.inr h)) rfl), wr (by omega) (by omega), if_pos (by omega), if_pos (by simp <;> omega), hx, if_pos (by simp <;> omega), mk_append, hk, ee]
        simp
    · refine ev_end (fun k => ?_)
      simp only [gatherumref07_Quote.l0]
      rw [if_pos (by simp <;> omega), if_pos (by omega), hb, refseen_f]
      simp only [Option.bind_some]
      rw [if_neg hsn, if_neg (by simp [hsn])]
      rfl

theorem refquote_f (l : List UInt8) (h : l.length ≤ 3000) : Ev (fun k => gatherumref07_Quote.f k (mk l)) (qRes (quoteL l)) := by
  have := refquote_at l [] l [] rfl h (by simp)
  refine ev_map this (fun k hk => ?_)
  unfold gatherumref07_Quote.f quoteL
  simpa [mk] using hk

theorem lists_ne {a b : List UInt8} : (qRes (some a)).1.toList = (mk b).toList ↔ a = b := by simp [qRes]

def uRes (s x : List UInt8) : ByteArray × Bool := if quoteL x = some s then (mk x, true) else (mk [], false)

theorem unq_at : ∀ (n : Nat) (v : List UInt8), v.length ≤ n → ∀ (u s acc : List UInt8), s = u ++ v → s.length ≤ 1100 → acc.length ≤ u.length → v ≠ [] →
    Ev (fun k => lex_Unquote.l0 k (mk s) (ints acc) (u.length : Int)) (uRes s (acc ++ unqI v)) := by
  intro n
  have stop : ∀ (s acc : List UInt8) (i : Int), s.length ≤ 1100 → acc.length ≤ 1100 → (s.length : Int) - 1 ≤ i → Ev (fun k => lex_Unquote.l0 k (mk s) (ints acc) i) (uRes s acc) := by
    intro s acc i hl ha hi
    have q := quote_f acc (by omega)
    refine ev_step q (fun k hk => ?_)
    simp only [lex_Unquote.l0]
    rw [if_neg (by rw [mk_size, wr (by omega) (by omega)]; omega), strOf_ints, hk]
    simp only [Option.bind_some]
    unfold uRes
    cases hq : quoteL acc with
    | none => simp [qRes, mk]
    | some q =>
      rw [if_pos (by rfl)]
      by_cases e : q = s
      · rw [if_pos (lists_ne.2 e), if_pos (by rw [e])]
      · rw [if_neg (fun h => e (lists_ne.1 h)), if_neg (fun h => e (Option.some.inj h))]; rfl
  induction n with
  | zero => intro v hv u s acc hs hl ha hne; exact absurd (List.length_eq_zero_iff.1 (by omega)) hne
  | succ n ih =>
    intro v hv u s acc hs hl ha hne
    match v, hv, hs, hne with
    | [c], _, hs, _ =>
      have hlen : s.length = u.length + 1 := by subst hs; simp
      have := stop s acc (u.length : Int) hl (by omega) (by omega)
      simpa [unqI] using this
    | c :: d :: l, hv, hs, _ =>
      have hb : bt (mk s) (u.length : Int) = (c.toNat : Int) := by subst hs; exact bt_app u c _ _ rfl
      have hlen : s.length = u.length + 2 + l.length := by subst hs; simp; omega
      have hb2 : bt (mk s) ((u.length : Int) + 1) = (d.toNat : Int) := by
        subst hs
        have := bt_app (u ++ [c]) d l ((u.length : Int) + 1) (by simp)
        simpa using this
      by_cases h92 : c = 92
      · have nx : Ev (fun k => lex_Unquote.l0 k (mk s) (ints (acc ++ [d])) ((u.length : Int) + 1 + 1)) (uRes s (acc ++ d :: unqI l)) := by
          by_cases hl0 : l = []
          · subst hl0
            have := stop s (acc ++ [d]) ((u.length : Int) + 1 + 1) hl (by simp <;> omega) (by simp at hlen; omega)
            simpa [unqI] using this
          · have := ih l (by simp at hv; omega) (u ++ [c, d]) s (acc ++ [d]) (by simp [hs]) hl (by simp <;> omega) hl0
            have e : (((u ++ [c, d]).length : Nat) : Int) = (u.length : Int) + 1 + 1 := by simp; omega
            rw [e] at this
            simpa using this
        refine ev_step nx (fun k hk => ?_)
        simp only [lex_Unquote.l0]
        have eu : unqI (c :: d :: l) = d :: unqI l := by simp only [unqI]; rw [if_pos h92]
        rw [if_pos (by rw [mk_size, wr (by omega) (by omega)]; omega), if_pos (by omega), if_pos (by simp <;> omega), hb, if_pos (eq_lit 92 h92 rfl), wr (n := (u.length : Int) + 1) (by omega) (by omega), if_pos (by omega), if_pos (by simp <;> omega), if_pos (by rw [ints_len]; omega), hb2,
          show ([(d.toNat : Int)] : List Int) = ints [d] from rfl, ← ints_app, wr (by omega) (by omega), hk, eu]
      · have := ih (d :: l) (by simp at hv ⊢; omega) (u ++ [c]) s (acc ++ [c]) (by simp [hs]) hl (by simp <;> omega) (by simp)
        have e : (((u ++ [c]).length : Nat) : Int) = (u.length : Int) + 1 := by simp
        rw [e] at this
        refine ev_step this (fun k hk => ?_)
        simp only [lex_Unquote.l0]
        have eu : unqI (c :: d :: l) = c :: unqI (d :: l) := by simp only [unqI]; rw [if_neg h92]
        rw [if_pos (by rw [mk_size, wr (by omega) (by omega)]; omega), if_pos (by omega), if_pos (by simp <;> omega), hb, if_neg (ne_lit 92 h92 rfl), if_pos (by rw [ints_len]; omega),
          show ([(c.toNat : Int)] : List Int) = ints [c] from rfl, ← ints_app, wr (by omega) (by omega), hk, eu]
        simp

theorem unquote_f (s : List UInt8) (h : s.length ≤ 1100) : Ev (fun k => lex_Unquote.f k (mk s)) (mk (unquoteI s).1, (unquoteI s).2) := by
  have no : Ev (fun k => lex_Unquote.j0 k (mk s) true) (mk [], false) := ev_end fun k => by simp [lex_Unquote.j0, mk]
  match s, h with
  | [], h => refine ev_map no (fun k hk => ?_); unfold lex_Unquote.f; rw [if_pos (by simp)]; exact hk
  | [c], h =>
    have e : unquoteI [c] = ([], false) := by simp [unquoteI, endsQ, qL]
    rw [e]
    refine ev_map no (fun k hk => ?_); unfold lex_Unquote.f; rw [if_pos (by simp)]; exact hk
  | c :: d :: v, h =>
    by_cases h34 : c = 34
    · have hq := quoted_at (d :: v).length (d :: v) (Nat.le_refl _) [c] (c :: d :: v) rfl (by omega)
      have ends : (qEnd ([c] : List UInt8).length (qL (d :: v)) != (((mk (c :: d :: v)).size : Nat) : Int)) = !(endsQ (d :: v)) := by
        unfold endsQ
        cases hql : qL (d :: v) with
        | none => simp [qEnd]; omega
        | some q =>
          obtain ⟨a, b⟩ := q
          have es := (qL_split _ _ (Nat.le_refl _) _ _ hql).1
          have hl := congrArg List.length es
          simp at hl
          cases b with
          | nil => simp [qEnd] at hl ⊢; omega
          | cons x b => simp [qEnd] at hl ⊢; omega
      have go : Ev (fun k => lex_Unquote.j0 k (mk (c :: d :: v)) (!(endsQ (d :: v)))) (mk (unquoteI (c :: d :: v)).1, (unquoteI (c :: d :: v)).2) := by
        by_cases he : endsQ (d :: v) = true
        · have := unq_at (d :: v).length (d :: v) (Nat.le_refl _) [c] (c :: d :: v) [] rfl h (by simp) (by simp)
          refine ev_step this (fun k hk => ?_)
          simp only [lex_Unquote.j0]
          rw [he, if_neg (by decide)]
          have e : (mk (unquoteI (c :: d :: v)).1, (unquoteI (c :: d :: v)).2) = uRes (c :: d :: v) ([] ++ unqI (d :: v)) := by
            simp only [unquoteI, uRes, List.nil_append]
            by_cases hx : quoteL (unqI (d :: v)) = some (c :: d :: v)
            · rw [if_pos ⟨h34, he, hx⟩, if_pos hx]
            · rw [if_neg (fun e => hx e.2.2), if_neg hx]
          rw [e]
          exact hk
        · have he' : endsQ (d :: v) = false := by simpa using he
          have e : unquoteI (c :: d :: v) = ([], false) := by simp only [unquoteI]; rw [if_neg (fun e => he e.2.1)]
          rw [e, he']
          exact ev_end fun k => by simp [lex_Unquote.j0, mk]
      refine ev_map2 hq go (fun k k1 k2 => ?_)
      unfold lex_Unquote.f
      rw [if_neg (by simp <;> omega), if_pos (by simp <;> omega), bt_mk0, if_pos (eq_lit 34 h34 rfl)]
      unfold lex_quoted.f
      rw [show ((([c] : List UInt8).length : Nat) : Int) = 1 from rfl] at k1
      rw [k1]
      simp only [Option.bind_some]
      rw [ends]
      exact k2
    · have e : unquoteI (c :: d :: v) = ([], false) := by simp only [unquoteI]; rw [if_neg (fun e => h34 e.1)]
      rw [e]
      refine ev_map no (fun k hk => ?_)
      unfold lex_Unquote.f
      rw [if_neg (by simp <;> omega), if_pos (by simp <;> omega), bt_mk0, if_neg (ne_lit 34 h34 rfl)]
      exact hk

theorem refunq_at : ∀ (n : Nat) (v : List UInt8), v.length ≤ n → ∀ (u s acc : List UInt8), s = u ++ v → s.length ≤ 1100 → acc.length ≤ u.length → v ≠ [] →
    Ev (fun k => gatherumref07_Unquote.l0 k (mk s) (mk acc) (u.length : Int)) (uRes s (acc ++ unqR v)) := by
  intro n
  have stop : ∀ (s acc : List UInt8) (i : Int), s.length ≤ 1100 → acc.length ≤ 1100 → (s.length : Int) - 1 ≤ i → Ev (fun k => gatherumref07_Unquote.l0 k (mk s) (mk acc) i) (uRes s acc) := by
    intro s acc i hl ha hi
    have q := refquote_f acc (by omega)
    refine ev_step q (fun k hk => ?_)
    simp only [gatherumref07_Unquote.l0]
    rw [if_neg (by rw [mk_size, wr (by omega) (by omega)]; omega), hk]
    simp only [Option.bind_some]
    unfold uRes
    cases hq : quoteL acc with
    | none => simp [qRes, mk]
    | some q =>
      rw [if_pos (by rfl)]
      by_cases e : q = s
      · rw [if_pos (lists_ne.2 e), if_pos (by rw [e])]
      · rw [if_neg (fun h => e (lists_ne.1 h)), if_neg (fun h => e (Option.some.inj h))]; rfl
  induction n with
  | zero => intro v hv u s acc hs hl ha hne; exact absurd (List.length_eq_zero_iff.1 (by omega)) hne
  | succ n ih =>
    intro v hv u s acc hs hl ha hne
    match v, hv, hs, hne with
    | [c], _, hs, _ =>
      have hlen : s.length = u.length + 1 := by subst hs; simp
      have := stop s acc (u.length : Int) hl (by omega) (by omega)
      simpa [unqR] using this
    | c :: d :: l, hv, hs, _ =>
      have hb : bt (mk s) (u.length : Int) = (c.toNat : Int) := by subst hs; exact bt_app u c _ _ rfl
      have hlen : s.length = u.length + 2 + l.length := by subst hs; simp; omega
      have hx : (mk s).extract ((u.length : Int)).toNat ((u.length : Int) + 1).toNat = mk [c] := by
        rw [mk_extract]
        congr 1
        subst hs
        rw [show ((u.length : Int) + 1).toNat = u.length + 1 by omega, show ((u.length : Int)).toNat = u.length by omega, List.drop_take]
        simp
      have hx2 : (mk s).extract ((u.length : Int) + 1).toNat ((u.length : Int) + 1 + 1).toNat = mk [d] := by
        rw [mk_extract]
        congr 1
        subst hs
        rw [show ((u.length : Int) + 1).toNat = (u ++ [c]).length by simp <;> omega, show ((u.length : Int) + 1 + 1).toNat = (u ++ [c]).length + 1 by simp <;> omega, List.drop_take]
        rw [show u ++ c :: d :: l = (u ++ [c]) ++ d :: l by simp, List.drop_left]
        simp
      by_cases h92 : c = 92 ∧ l ≠ []
      · have := ih l (by simp at hv; omega) (u ++ [c, d]) s (acc ++ [d]) (by simp [hs]) hl (by simp <;> omega) h92.2
        have e : (((u ++ [c, d]).length : Nat) : Int) = (u.length : Int) + 1 + 1 := by simp; omega
        rw [e] at this
        have hlp : 0 < l.length := List.length_pos_iff.2 h92.2
        refine ev_step this (fun k hk => ?_)
        simp only [gatherumref07_Unquote.l0]
        have eu : unqR (c :: d :: l) = d :: unqR l := by simp only [unqR]; rw [if_pos h92]
        rw [if_pos (by rw [mk_size, wr (by omega) (by omega)]; omega), if_pos (by omega), if_pos (by simp <;> omega), hb, if_pos (eq_lit 92 h92.1 rfl), wr (n := (u.length : Int) + 1) (by omega) (by omega), if_pos (by rw [mk_size, wr (by omega) (by omega)]; omega),
          if_pos (by omega), wr (n := (u.length : Int) + 1 + 1) (by omega) (by omega), if_pos (by omega), if_pos (by simp <;> omega), hx2, if_pos (by simp <;> omega), mk_append, hk, eu]
        simp
      · have := ih (d :: l) (by simp at hv ⊢; omega) (u ++ [c]) s (acc ++ [c]) (by simp [hs]) hl (by simp <;> omega) (by simp)
        have e : (((u ++ [c]).length : Nat) : Int) = (u.length : Int) + 1 := by simp
        rw [e] at this
        refine ev_step this (fun k hk => ?_)
        simp only [gatherumref07_Unquote.l0]
        have eu : unqR (c :: d :: l) = c :: unqR (d :: l) := by simp only [unqR]; rw [if_neg h92]
        rw [if_pos (by rw [mk_size, wr (by omega) (by omega)]; omega), if_pos (by omega), if_pos (by simp <;> omega), hb, wr (n := (u.length : Int) + 1) (by omega) (by omega)]
        by_cases h9 : c = 92
        · have hl0 : l = [] := by
            rcases l with _ | ⟨x, l⟩
            · rfl
            · exact absurd ⟨h9, by simp⟩ h92
          rw [if_pos (eq_lit 92 h9 rfl), if_neg (by rw [mk_size, wr (by omega) (by omega), hlen, hl0]; simp; omega), if_pos (by omega), if_pos (by simp <;> omega), hx, if_pos (by simp <;> omega), mk_append, hk, eu]
          simp
        · rw [if_neg (ne_lit 92 h9 rfl), if_pos (by omega), if_pos (by simp <;> omega), hx, if_pos (by simp <;> omega), mk_append, hk, eu]
          simp

theorem refunquote_f (s : List UInt8) (h : s.length ≤ 1100) : Ev (fun k => gatherumref07_Unquote.f k (mk s)) (mk (unquoteI s).1, (unquoteI s).2) := by
  rw [unquote_same]
  match s, h with
  | [], h => exact ev_now fun k => by unfold gatherumref07_Unquote.f; rw [if_pos (by simp)]; rfl
  | [c], h => exact ev_now fun k => by unfold gatherumref07_Unquote.f; rw [if_pos (by simp)]; rfl
  | c :: d :: v, h =>
    have := refunq_at (d :: v).length (d :: v) (Nat.le_refl _) [c] (c :: d :: v) [] rfl h (by simp) (by simp)
    refine ev_map this (fun k hk => ?_)
    unfold gatherumref07_Unquote.f
    rw [if_neg (by simp <;> omega)]
    have e : (mk (unquoteR (c :: d :: v)).1, (unquoteR (c :: d :: v)).2) = uRes (c :: d :: v) ([] ++ unqR (d :: v)) := by
      simp only [unquoteR, uRes, List.nil_append]
      by_cases hx : quoteL (unqR (d :: v)) = some (c :: d :: v)
      · rw [if_pos ⟨by simp, hx⟩, if_pos hx]
      · rw [if_neg (fun e => hx e.2), if_neg hx]
    rw [e]
    exact hk

theorem fields_quote {x s : List UInt8} (h : quoteL x = some s) : fieldsL s.length [] s = ([s], true) := by
  obtain ⟨rfl, ha⟩ := quoteL_some h
  rw [List.length_cons, fieldsL, if_neg (by decide), if_neg (by decide), partL_quote rfl, qL_escL x ha]
  simp [partL, fieldsL]

theorem LexQuotes : gatherumlaw10_LexQuotes.Pure := by
  intro a0 hs
  obtain ⟨l, rfl⟩ := exists_mk a0
  apply ev_done
  simp only [gatherumlaw10_LexQuotes.f]
  refine Ev.bind alive ?_
  simp only [if_true]
  by_cases hl : (l.length : Int) > 500
  · exact ev_now fun k => by rw [if_pos (by simpa using hl)]
  · have h1 := quote_f l (by omega)
    have h2 := refquote_f l (by omega)
    have h3 := unquote_f l (by omega)
    have h4 := refunquote_f l (by omega)
    have go : Ev (fun k => gatherumlaw10_LexQuotes.j0 k (mk l) (qRes (quoteL l)).1 (qRes (quoteL l)).2 false) true := by
      cases hq : quoteL l with
      | none => exact ev_end fun k => by simp [gatherumlaw10_LexQuotes.j0, qRes]
      | some q =>
        have hql : q.length ≤ 2 * l.length + 2 := by
          have := quoteL_some hq
          rw [this.1]
          have := (escL_len l).2
          simp; omega
        have u := unquote_f q (by omega)
        rw [unquoteI_quote hq] at u
        have f := Fields_f q (by omega)
        rw [fields_quote hq] at f
        refine ev_step2 u f (fun k k1 k2 => ?_)
        simp only [gatherumlaw10_LexQuotes.j0, qRes]
        rw [if_neg (by decide), if_pos (by trivial), k1, k2]
        simp [rdOf]
    refine ev_map5 h1 h2 h3 h4 go (fun k k1 k2 k3 k4 k5 => ?_)
    rw [if_neg (by simpa using hl), k1]
    simp only [Option.bind_some]
    rw [k2]
    simp only [Option.bind_some]
    rw [k3]
    simp only [Option.bind_some]
    rw [k4]
    simp only [Option.bind_some]
    rw [if_pos (by trivial), if_neg (by simp), if_pos (by trivial), show ((unquoteI l).2 != (unquoteI l).2) = false by simp]
    exact k5
end Go.Proofs.YthkbomclongjgaaDoor.Pure
