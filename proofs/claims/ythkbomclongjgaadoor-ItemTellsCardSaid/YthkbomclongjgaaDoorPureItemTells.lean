/- The pure statement of ItemTells: which items may be, which are the same, which are marks. No condition beyond the statement's own. -/
import Derived.Test.YthkbomclongjgaaDoorPItemTellsx5
import Derived.Test.YthkbomclongjgaaDoorPkLex
namespace Go.Proofs.YthkbomclongjgaaDoor.Pure.ItemSimA
open Go.RowKit Go.Proofs.YthkbomclongjgaaDoor.PRightItem Go.Proofs.YthkbomclongjgaaDoorW.PrintWords Go.Proofs.YthkbomclongjgaaDoorW.PrintLast Go.Proofs.YthkbomclongjgaaDoor.Pk
set_option linter.unusedSimpArgs false
set_option linter.unusedVariables false

theorem seen_f (c : UInt8) : lex_seen.f (c.toNat : Int) = some (seenB c) := by
  have h := c.toNat_lt
  unfold lex_seen.f num_In.f
  rw [wr (by omega) (by omega)]
  by_cases h1 : 32 ≤ c.toNat
  · rw [if_pos (by omega)]
    simp only [Option.bind_some, seenB]
    congr 1
    simp [h1]
    omega
  · rw [if_neg (by omega)]
    simp [seenB, h1]

def ints (l : List UInt8) : List Int := l.map fun c => (c.toNat : Int)
theorem ints_app (a b : List UInt8) : ints (a ++ b) = ints a ++ ints b := by simp [ints]
theorem ints_len (a : List UInt8) : (ints a).length = a.length := by simp [ints]
theorem strOf_ints (l : List UInt8) : strOfNums (ints l) = mk l := by
  apply ext_
  rw [strOfNums_data]
  simp [ints, List.map_map, Function.comp_def]

def qRes : Option (List UInt8) → ByteArray × Bool
  | none => (mk [], false)
  | some q => (mk q, true)

theorem quote_at : ∀ (v u s acc : List UInt8), s = u ++ v → s.length ≤ 3000 → acc.length ≤ 2 * u.length + 1 →
    Ev (fun k => lex_Quote.l0 k (mk s) (ints acc) (s.length : Int) (u.length : Int)) (qRes (if v.all seenB then some (acc ++ escL v ++ [34]) else none)) := by
  intro v
  induction v with
  | nil =>
    intro u s acc hs hl ha
    refine ev_end (fun k => ?_)
    simp only [lex_Quote.l0]
    have hlen : s.length = u.length := by subst hs; simp
    rw [if_neg (by subst hs; simp), if_pos (by rw [ints_len]; omega), show ([34] : List Int) = ints [34] from rfl, ← ints_app, strOf_ints]
    simp [qRes, escL]
  | cons c v ih =>
    intro u s acc hs hl ha
    have hb : bt (mk s) (u.length : Int) = (c.toNat : Int) := by subst hs; exact bt_app u c _ _ rfl
    have hlen : s.length = u.length + 1 + v.length := by subst hs; simp; omega
    have nx : ∀ acc', acc'.length ≤ 2 * u.length + 3 → Ev (fun k => lex_Quote.l0 k (mk s) (ints acc') (s.length : Int) ((u.length : Int) + 1)) (qRes (if v.all seenB then some (acc' ++ escL v ++ [34]) else none)) := by
      intro acc' h
      have := ih (u ++ [c]) s acc' (by simp [hs]) hl (by simp <;> omega)
      simpa using this
    by_cases hsn : seenB c = true
    · have hall : (c :: v).all seenB = v.all seenB := by simp [hsn]
      rw [hall]
      by_cases he : c = 34 ∨ c = 92
      · have ee : escL (c :: v) = 92 :: c :: escL v := by simp only [escL]; rw [if_pos he]
        · have := nx (acc ++ [92, c]) (by simp <;> omega)
          refine ev_step this (fun k hk => ?_)
          simp only [lex_Quote.l0]
          rw [if_pos (by omega), if_pos (by omega), if_pos (by simp <;> omega), hb, seen_f]
          simp only [Option.bind_some]
          rw [if_pos hsn]
          have e2 : ([92, (c.toNat : Int)] : List Int) = ints [92, c] := rfl
          rw [e2, ← ints_app]
          have e3 : (ints acc).length + (ints [92, c]).length < 140737488355328 := by rw [ints_len, ints_len]; simp; omega
          rw [ee]
          rcases he with h | h
          · rw [if_pos (eq_lit 34 h rfl), if_pos e3, wr (by omega) (by omega), hk]
            simp
          · rw [if_neg (by rw [h]; decide), if_pos (eq_lit 92 h rfl), if_pos e3, wr (by omega) (by omega), hk]
            simp
      · have ee : escL (c :: v) = c :: escL v := by simp only [escL]; rw [if_neg he]
        have := nx (acc ++ [c]) (by simp <;> omega)
        refine ev_step this (fun k hk => ?_)
        simp only [lex_Quote.l0]
        rw [if_pos (by omega), if_pos (by omega), if_pos (by simp <;> omega), hb, seen_f]
        simp only [Option.bind_some]
        rw [if_pos hsn, if_neg (ne_lit 34 (fun h => he (.inl h)) rfl), if_neg (ne_lit 92 (fun h => he (.inr h)) rfl), if_pos (by rw [ints_len]; omega), show ([(c.toNat : Int)] : List Int) = ints [c] from rfl, ← ints_app, wr (by omega) (by omega), hk, ee]
        simp
    · refine ev_end (fun k => ?_)
      simp only [lex_Quote.l0]
      rw [if_pos (by omega), if_pos (by omega), if_pos (by simp <;> omega), hb, seen_f]
      simp only [Option.bind_some]
      rw [if_neg hsn, if_neg (by simp [hsn])]
      rfl

theorem quote_f (l : List UInt8) (h : l.length ≤ 3000) : Ev (fun k => lex_Quote.f k (mk l)) (qRes (quoteL l)) := by
  have := quote_at l [] l [34] rfl h (by simp)
  refine ev_map this (fun k hk => ?_)
  unfold lex_Quote.f quoteL
  rw [mk_size]
  exact hk


def zeros (n t x y : Int) : Bool := (n == 0 && ((t == 0 && (x == 0 && (y == 0)))))
/-- Which items may be. -/
def rightB (kd n t x y : Int) (l : List UInt8) : Bool :=
  if kd = 1 then (decide (l = []) && (decide (1 ≤ n ∧ n ≤ 100000) && decide (0 ≤ t ∧ t ≤ 7)))
  else if kd = 7 then (zeros n t x y && ((quoteL l).isSome && decide (l.length ≤ 200)))
  else (zeros n t x y && (decide (l = []) && decide (2 ≤ kd ∧ kd ≤ 6)))
theorem num_in (a b c : Int) : num_In.f a b c = some (decide (b ≤ a ∧ a ≤ c)) := by
  unfold num_In.f
  by_cases h : b ≤ a
  · rw [if_pos h]; simp [h]
  · rw [if_neg h]; simp [h]
theorem qRes_snd (o : Option (List UInt8)) : (qRes o).2 = o.isSome := by cases o <;> rfl
theorem right_f (kd n t x y a b c d : Int) (l : List UInt8) (h : l.length ≤ 3000) : Ev (fun k => item_Right.f k kd n t x y a b c d (mk l)) (rightB kd n t x y l) := by
  refine ev_map (quote_f l h) (fun k hk => ?_)
  unfold item_Right.f rightB
  rw [mk_toList]
  by_cases h1 : kd = 1
  · rw [if_pos h1, if_pos h1]
    by_cases h2 : l = []
    · rw [if_pos (by simp [h2]), num_in, num_in]
      simp only [Option.bind_some]
      by_cases h3 : 1 ≤ n ∧ n ≤ 100000
      · simp [h2, h3]
      · simp [h2, h3]
    · rw [if_neg (by simpa using h2)]
      simp [h2]
  · rw [if_neg h1, if_neg h1]
    by_cases h7 : kd = 7
    · rw [if_pos h7, if_pos h7, hk]
      simp only [Option.bind_some, qRes_snd]
      cases hz : zeros n t x y with
      | true =>
        have hz' := hz
        unfold zeros at hz'
        rw [hz', if_pos rfl]
        cases (quoteL l).isSome with
        | true => rw [if_pos rfl, mk_size]; simp <;> omega
        | false => rfl
      | false =>
        have hz' := hz
        unfold zeros at hz'
        rw [hz', if_neg (by decide)]; simp
    · rw [if_neg h7, if_neg h7]
      have e : (n == 0 && ((t == 0 && (x == 0 && (y == 0))) && (l == ([] : List UInt8)))) = (zeros n t x y && decide (l = [])) := by
        unfold zeros
        cases l <;> simp
      rw [e]
      cases hz : zeros n t x y with
      | true =>
        by_cases h2 : l = []
        · rw [if_pos (by simp [h2])]
          unfold item_Mark.f
          rw [num_in, show decide (2 ≤ kd ∧ kd ≤ 7) = decide (2 ≤ kd ∧ kd ≤ 6) from decide_eq_decide.2 (by omega)]
          simp [h2]
        · rw [if_neg (by simp [h2])]; simp [h2]
      | false => rw [if_neg (by simp)]; simp
end Go.Proofs.YthkbomclongjgaaDoor.Pure.ItemSimA
namespace Go.Proofs.YthkbomclongjgaaDoor.Pure.ItemSimB
open Go.RowKit Go.Proofs.YthkbomclongjgaaDoor.PItemTells Go.Proofs.YthkbomclongjgaaDoorW.PrintWords Go.Proofs.YthkbomclongjgaaDoorW.PrintLast Go.Proofs.YthkbomclongjgaaDoor.Pk
open ItemSimA (qRes zeros rightB qRes_snd)

theorem refseen_f (c : UInt8) : gatherumref07_seen.f (c.toNat : Int) = some (seenB c) := by
  unfold gatherumref07_seen.f
  by_cases h1 : 32 ≤ c.toNat
  · rw [if_pos (by omega)]
    congr 1
    simp [seenB, h1]
    omega
  · rw [if_neg (by omega)]
    simp [seenB, h1]


theorem refquote_at : ∀ (v u s acc : List UInt8), s = u ++ v → s.length ≤ 3000 → acc.length ≤ 2 * u.length →
    Ev (fun k => gatherumref07_Quote.l0 k (mk s) (mk acc) (u.length : Int)) (qRes (if v.all seenB then some (34 :: (acc ++ escL v) ++ [34]) else none)) := by
  intro v
  induction v with
  | nil =>
    intro u s acc hs hl ha
    refine ev_end (fun k => ?_)
    have hlen : s.length = u.length := by subst hs; simp
    simp only [gatherumref07_Quote.l0]
    rw [if_neg (by subst hs; simp), if_pos (by simp <;> omega), show (⟨#[34]⟩ : ByteArray) = mk [34] from rfl, mk_append, if_pos (by simp <;> omega), mk_append]
    simp [qRes, escL]
  | cons c v ih =>
    intro u s acc hs hl ha
    have hb : bt (mk s) (u.length : Int) = (c.toNat : Int) := by subst hs; exact bt_app u c _ _ rfl
    have hlen : s.length = u.length + 1 + v.length := by subst hs; simp; omega
    have hx : (mk s).extract ((u.length : Int)).toNat ((u.length : Int) + 1).toNat = mk [c] := by
      rw [mk_extract]
      congr 1
      subst hs
      rw [show ((u.length : Int) + 1).toNat = u.length + 1 by omega, show ((u.length : Int)).toNat = u.length by omega, List.drop_take]
      simp
    have nx : ∀ acc', acc'.length ≤ 2 * u.length + 2 → Ev (fun k => gatherumref07_Quote.l0 k (mk s) (mk acc') ((u.length : Int) + 1)) (qRes (if v.all seenB then some (34 :: (acc' ++ escL v) ++ [34]) else none)) := by
      intro acc' h
      have := ih (u ++ [c]) s acc' (by simp [hs]) hl (by simp <;> omega)
      simpa using this
    by_cases hsn : seenB c = true
    · have hall : (c :: v).all seenB = v.all seenB := by simp [hsn]
      rw [hall]
      by_cases he : c = 34 ∨ c = 92
      · have ee : escL (c :: v) = 92 :: c :: escL v := by simp only [escL]; rw [if_pos he]
        have := nx (acc ++ [92, c]) (by simp <;> omega)
        refine ev_step this (fun k hk => ?_)
        simp only [gatherumref07_Quote.l0]
        rw [if_pos (by simp <;> omega), if_pos (by omega), hb, refseen_f]
        simp only [Option.bind_some]
        have e4 : mk acc ++ mk [92] ++ mk [c] = mk (acc ++ [92, c]) := by rw [mk_append, mk_append]; simp
        rw [if_pos hsn, ee, show (⟨#[92]⟩ : ByteArray) = mk [92] from rfl]
        rcases he with h | h
        · rw [if_pos (eq_lit 34 h rfl), if_pos (by simp <;> omega), wr (by omega) (by omega), if_pos (by omega), if_pos (by simp <;> omega), hx, if_pos (by rw [mk_append]; simp; omega), e4, hk]
          simp
        · rw [if_neg (by rw [h]; decide), if_pos (eq_lit 92 h rfl), if_pos (by simp <;> omega), wr (by omega) (by omega), if_pos (by omega), if_pos (by simp <;> omega), hx, if_pos (by rw [mk_append]; simp; omega), e4, hk]
          simp
      · have ee : escL (c :: v) = c :: escL v := by simp only [escL]; rw [if_neg he]
        have := nx (acc ++ [c]) (by simp <;> omega)
        refine ev_step this (fun k hk => ?_)
        simp only [gatherumref07_Quote.l0]
        rw [if_pos (by simp <;> omega), if_pos (by omega), hb, refseen_f]
        simp only [Option.bind_some]
        rw [if_pos hsn, if_neg (ne_lit 34 (fun h => he (.inl h)) rfl), if_neg (ne_lit 92 (fun h => he (.inr h)) rfl), wr (by omega) (by omega), if_pos (by omega), if_pos (by simp <;> omega), hx, if_pos (by simp <;> omega), mk_append, hk, ee]
        simp
    · refine ev_end (fun k => ?_)
      simp only [gatherumref07_Quote.l0]
      rw [if_pos (by simp <;> omega), if_pos (by omega), hb, refseen_f]
      simp only [Option.bind_some]
      rw [if_neg hsn, if_neg (by simp [hsn])]
      rfl

theorem refquote_f (l : List UInt8) (h : l.length ≤ 3000) : Ev (fun k => gatherumref07_Quote.f k (mk l)) (qRes (quoteL l)) := by
  have := refquote_at l [] l [] rfl h (by simp)
  refine ev_map this (fun k hk => ?_)
  unfold gatherumref07_Quote.f quoteL
  simpa [mk] using hk


theorem in_ref (a b c : Int) : gatherumref01_In.f a b c = some (decide (b ≤ a ∧ a ≤ c)) := by
  unfold gatherumref01_In.f
  by_cases h : a ≥ b
  · rw [if_pos h]; simp [h]
  · rw [if_neg h]; simp; omega
theorem refright_f (kd n t x y a b c d : Int) (l : List UInt8) (h : l.length ≤ 3000) : Ev (fun k => gatherumref24_Right.f k kd n t x y a b c d (mk l)) (rightB kd n t x y l) := by
  refine ev_step (refquote_f l h) (fun k hk => ?_)
  unfold gatherumref24_Right.f rightB
  rw [mk_toList]
  by_cases h1 : kd = 1
  · rw [if_pos h1, if_pos h1, in_ref, in_ref]
    simp only [Option.bind_some]
    have el : (l == ([] : List UInt8)) = decide (l = []) := by cases l <;> simp
    by_cases h3 : 1 ≤ n ∧ n ≤ 100000
    · by_cases h4 : 0 ≤ t ∧ t ≤ 7
      · simp [h3, h4, el]
      · simp [h3, h4]
    · simp [h3]
  · rw [if_neg h1, if_neg h1]
    have hj : ∀ b0, gatherumref24_Right.j0 (k + 1) b0 kd n t x y a b c d (mk l) = some (!b0 && (if kd = 7 then ((quoteL l).isSome && decide (l.length ≤ 200)) else (decide (l = []) && decide (2 ≤ kd ∧ kd ≤ 6)))) := by
      intro b0
      simp only [gatherumref24_Right.j0]
      cases b0 with
      | true => rfl
      | false =>
        rw [if_neg (by decide)]
        by_cases h7 : kd = 7
        · rw [if_pos h7, if_pos h7, hk]
          simp only [Option.bind_some, qRes_snd]
          cases (quoteL l).isSome with
          | true => rw [if_pos rfl, mk_size]; simp <;> omega
          | false => rfl
        · rw [if_neg h7, if_neg h7, in_ref, mk_toList]
          simp only [Option.bind_some]
          have el : (l == ([] : List UInt8)) = decide (l = []) := by cases l <;> simp
          by_cases h2 : 2 ≤ kd ∧ kd ≤ 6
          · simp [h2, el]
          · simp [h2]
    rw [hj, hj]
    unfold zeros
    by_cases hn : n = 0
    · rw [if_pos hn]
      by_cases h7 : kd = 7
      · simp [h7, hn, Bool.and_assoc]
      · simp [h7, hn, Bool.and_assoc]
    · rw [if_neg hn]
      simp [hn]
end Go.Proofs.YthkbomclongjgaaDoor.Pure.ItemSimB
namespace Go.Proofs.YthkbomclongjgaaDoor.Pure
open Go.RowKit Go.Proofs.YthkbomclongjgaaDoor.PItemTells Go.Proofs.YthkbomclongjgaaDoorW.PrintWords Go.Proofs.YthkbomclongjgaaDoorW.PrintLast Go.Proofs.YthkbomclongjgaaDoor.Pk

theorem itemTells_alive : Ev (fun k => gatherumlaw24_alive.f k) true := Ev.of (fun k => gatherumlaw24_alive.mono k) (k := 100) (by kernel_rfl)
theorem itemTells_num (a b c : Int) : num_In.f a b c = some (decide (b ≤ a ∧ a ≤ c)) := by
  unfold num_In.f
  by_cases h : b ≤ a
  · rw [if_pos h]; simp [h]
  · rw [if_neg h]; simp [h]
theorem ItemTells : gatherumlaw24_ItemTells.Pure := by
  intro x0 x1 w0 w1
  obtain ⟨kd, n, ⟨t, x, y⟩, ⟨a, b, c, d⟩, s⟩ := x0
  obtain ⟨kd', n', ⟨t', x', y'⟩, ⟨a', b', c', d'⟩, s'⟩ := x1
  obtain ⟨l, rfl⟩ := exists_mk s
  obtain ⟨A, hA⟩ := itemTells_alive
  simp only []
  have hA' : ∀ k, A ≤ k → gatherumlaw24_alive.f k = some true := hA
  by_cases hl : ((mk l).size : Int) > 300
  · refine ⟨A + 1, ?_⟩
    unfold gatherumlaw24_ItemTells.f
    rw [hA' _ (by omega)]
    simp only [Option.bind_some, if_true]
    rw [if_pos hl]
    simp only [gatherumlaw24_ItemTells.j0, if_true]
  · obtain ⟨K, hK⟩ := ItemSimA.right_f kd n t x y a b c d l (by simp at hl; omega)
    obtain ⟨M, hM⟩ := ItemSimB.refright_f kd n t x y a b c d l (by simp at hl; omega)
    refine ⟨A + K + M + 1, ?_⟩
    have h1 : PRightItem.item_Right.f (A + K + M) kd n t x y a b c d (mk l) = some (ItemSimA.rightB kd n t x y l) := hK _ (by omega)
    have h2 : gatherumref24_Right.f (A + K + M) kd n t x y a b c d (mk l) = some (ItemSimA.rightB kd n t x y l) := hM _ (by omega)
    unfold gatherumlaw24_ItemTells.f
    rw [hA' _ (by omega)]
    simp only [Option.bind_some, if_true]
    rw [if_neg hl]
    cases decide ((s'.size : Int) > 300) with
    | true => simp only [gatherumlaw24_ItemTells.j0, if_true]
    | false =>
      simp only [gatherumlaw24_ItemTells.j0, Bool.false_eq_true, if_false]
      rw [h1, h2]
      simp only [Option.bind_some, beq_self_eq_true, if_true, item_Same.f, Bool.and_self, item_Mark.f]
      rw [itemTells_num]
      simp only [Option.bind_some]
      by_cases h3 : kd ≥ 2
      · rw [if_pos h3]
        simp [h3]
      · rw [if_neg h3]
        simp; omega
end Go.Proofs.YthkbomclongjgaaDoor.Pure
