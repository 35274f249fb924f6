/- The pure statement of DecWithin: a number is read, if it is from one to another one. No condition beyond the statement's own. -/
import Derived.Test.YthkbomclongjgaaDoorPDecWithinx2
import Derived.Test.YthkbomclongjgaaDoorPkDec
namespace Go.Proofs.YthkbomclongjgaaDoor.Pure
open Go.RowKit Go.Proofs.YthkbomclongjgaaDoor.PDecWithin Go.Proofs.YthkbomclongjgaaDoorW.PrintWords Go.Proofs.YthkbomclongjgaaDoorW.PrintLast Go.Proofs.YthkbomclongjgaaDoor.Pk
set_option linter.unusedSimpArgs false
set_option linter.unusedVariables false

theorem put_ext {v : Int} (h : In64 v) : ExtBase.dec_Put.f v = some (mk (Lib.itoa v)) := by
  unfold ExtBase.dec_Put.f
  rw [if_pos (show -9223372036854775808 ≤ v ∧ v ≤ 9223372036854775807 from h)]
  rfl
theorem get_ext (l : List UInt8) (h : l.length ≤ 281474976710656) : ExtBase.dec_Get.f (mk l) = some (ExtBase.getDec l) := by
  unfold ExtBase.dec_Get.f
  rw [if_pos (by simpa using h), mk_data]
theorem itoa_zero : Lib.itoa 0 = [48] := by unfold Lib.itoa; rw [if_neg (by omega)]; exact decDigits_zero
theorem getDec_itoa {v : Int} (h : In64 v) : ExtBase.getDec (Lib.itoa v) = (v, true) := by
  unfold ExtBase.getDec
  rw [atoi_itoa h]
  simp
theorem getDec_no {l : List UInt8} (h : ¬ ∃ v, In64 v ∧ Lib.itoa v = l) : ExtBase.getDec l = (0, false) := by
  unfold ExtBase.getDec
  cases ha : Lib.atoiAll l with
  | ok v =>
    simp only []
    rw [if_neg (fun e => h ⟨v, Lib.atoiAll_bounds ha, e⟩)]
  | _ => rfl

theorem tmod_nat (u : Nat) : Int.tmod (u : Int) 10 = ((u % 10 : Nat) : Int) := by
  rw [Int.tmod_eq_emod_of_nonneg (by omega)]; omega
theorem tdiv_nat (u : Nat) : Int.tdiv (u : Int) 10 = ((u / 10 : Nat) : Int) := by
  rw [Int.tdiv_eq_ediv_of_nonneg (by omega)]; omega

theorem digit_at (d : Nat) (h : d < 10) : (⟨#[48, 49, 50, 51, 52, 53, 54, 55, 56, 57]⟩ : ByteArray).extract (d : Int).toNat ((d : Int) + 1).toNat = mk [dgt d] := by
  rw [show (⟨#[48, 49, 50, 51, 52, 53, 54, 55, 56, 57]⟩ : ByteArray) = mk [48, 49, 50, 51, 52, 53, 54, 55, 56, 57] from rfl, mk_extract]
  congr 1
  rw [show ((d : Int) + 1).toNat = d + 1 by omega, show (d : Int).toNat = d by omega]
  match d, h with
  | 0, _ => rfl
  | 1, _ => rfl
  | 2, _ => rfl
  | 3, _ => rfl
  | 4, _ => rfl
  | 5, _ => rfl
  | 6, _ => rfl
  | 7, _ => rfl
  | 8, _ => rfl
  | 9, _ => rfl
  | n + 10, h => omega

theorem refput_at (n : Int) : ∀ (u : Nat), u ≤ 9223372036854775808 → ∀ (m : Int) (acc : List UInt8), (m = u ∨ m = -(u : Int)) → In64 m → acc.length + (digs u).length ≤ 1000 →
    Ev (fun k => gatherumref02_Put.l0 k n (mk acc) m) (mk ((if n < 0 then [45] else []) ++ (digs u ++ acc))) := by
  intro u
  induction u using Nat.strongRecOn with
  | _ u ih =>
    intro hu m acc hm hr ha
    unfold In64 at hr
    by_cases h0 : u = 0
    · subst h0
      refine ev_end (fun k => ?_)
      simp only [gatherumref02_Put.l0]
      rw [if_pos (by omega), digs_zero]
      by_cases hn : n < 0
      · rw [if_pos hn, if_pos hn, if_pos (by simp; omega), show (⟨#[45]⟩ : ByteArray) = mk [45] from rfl, mk_append]
        rfl
      · rw [if_neg hn, if_neg hn]; rfl
    · have nx := fun (m' : Int) (hm' : m' = ((u / 10 : Nat) : Int) ∨ m' = -(((u / 10 : Nat)) : Int)) => ih (u / 10) (by omega) (by omega) m' (dgt (u % 10) :: acc) hm' (by unfold In64; omega) (by rw [digs_pos h0] at ha; simp at ha ⊢; omega)
      have e : digs u ++ acc = digs (u / 10) ++ dgt (u % 10) :: acc := by rw [digs_pos h0]; simp
      rcases hm with rfl | rfl
      · refine ev_step (nx _ (.inl rfl)) (fun k hk => ?_)
        simp only [gatherumref02_Put.l0]
        rw [if_neg (by omega), tmod_nat, if_neg (by omega), if_pos (by omega), wr (by omega) (by omega), if_pos (by omega), if_pos (by omega), digit_at _ (by omega), if_pos (by simp; omega), mk_append, tdiv_nat, wr (by omega) (by omega), e]
        exact hk
      · refine ev_step (nx _ (.inr rfl)) (fun k hk => ?_)
        simp only [gatherumref02_Put.l0]
        rw [if_neg (by omega), Int.neg_tmod, tmod_nat, Int.neg_tdiv, tdiv_nat, e]
        by_cases hz : u % 10 = 0
        · rw [if_neg (by omega), if_pos (by omega), show (-((u % 10 : Nat) : Int)) = ((u % 10 : Nat) : Int) by omega, wr (by omega) (by omega), if_pos (by omega), if_pos (by omega), digit_at _ (by omega), if_pos (by simp; omega), mk_append, wr (by omega) (by omega)]
          exact hk
        · rw [if_pos (by omega), show (- -((u % 10 : Nat) : Int)) = ((u % 10 : Nat) : Int) by omega, wr (n := ((u % 10 : Nat) : Int)) (by omega) (by omega), if_pos (by omega), wr (by omega) (by omega), if_pos (by omega), if_pos (by omega), digit_at _ (by omega), if_pos (by simp; omega), mk_append, wr (by omega) (by omega)]
          exact hk

theorem refput_f {v : Int} (h : In64 v) : Ev (fun k => gatherumref02_Put.f k v) (mk (Lib.itoa v)) := by
  unfold In64 at h
  by_cases h0 : v = 0
  · subst h0
    exact ev_now fun k => by unfold gatherumref02_Put.f; rw [if_pos rfl, itoa_zero]; rfl
  · have := refput_at v v.natAbs (by omega) v [] (by omega) h (by have := digs_len 19 v.natAbs (by omega); simp; omega)
    refine ev_map this (fun k hk => ?_)
    unfold gatherumref02_Put.f
    rw [if_neg h0]
    have e : Lib.itoa v = (if v < 0 then [45] else []) ++ (digs v.natAbs ++ []) := by
      unfold Lib.itoa
      by_cases hn : v < 0
      · rw [if_pos hn, if_pos hn, decDigits_digs _ (by omega)]; simp
      · rw [if_neg hn, if_neg hn, decDigits_digs _ (by omega), show v.toNat = v.natAbs by omega]; simp
    rw [e]
    exact hk

/-- One digit more, as the machine reckons it. -/
def stepZ (neg : Bool) (n : Int) (c : UInt8) : Int := if neg then wrap64 (wrap64 (n * 10) - wrap64 (wrap64 (c.toNat : Int) - 48)) else wrap64 (wrap64 (n * 10) + wrap64 (wrap64 (c.toNat : Int) - 48))
theorem stepZ_in (neg : Bool) (n : Int) (c : UInt8) : In64 (stepZ neg n c) := by
  unfold stepZ In64
  cases neg <;> simp <;> unfold wrap64 <;> omega
theorem stepZ_pos {a : Nat} {c : UInt8} (hc : isDig c) (h : a * 10 + (c.toNat - 48) ≤ 9223372036854775807) : stepZ false (a : Int) c = ((a * 10 + (c.toNat - 48) : Nat) : Int) := by
  unfold isDig at hc
  unfold stepZ
  simp only [Bool.false_eq_true, if_false]
  rw [wr (n := (c.toNat : Int)) (by omega) (by omega), wr (n := (a : Int) * 10) (by omega) (by omega), wr (n := (c.toNat : Int) - 48) (by omega) (by omega), wr (by omega) (by omega)]
  omega
theorem stepZ_neg {a : Nat} {c : UInt8} (hc : isDig c) (h : a * 10 + (c.toNat - 48) ≤ 9223372036854775808) : stepZ true (-(a : Int)) c = -((a * 10 + (c.toNat - 48) : Nat) : Int) := by
  unfold isDig at hc
  unfold stepZ
  simp only [if_true]
  rw [wr (n := (c.toNat : Int)) (by omega) (by omega), wr (n := -(a : Int) * 10) (by omega) (by omega), wr (n := (c.toNat : Int) - 48) (by omega) (by omega), wr (by omega) (by omega)]
  omega
def foldZ (neg : Bool) (n : Int) (l : List UInt8) : Int := l.foldl (stepZ neg) n
theorem foldZ_cons (neg : Bool) (n : Int) (c : UInt8) (l : List UInt8) : foldZ neg n (c :: l) = foldZ neg (stepZ neg n c) l := rfl
theorem stepZ_no (n : Int) (c : UInt8) : stepZ false n c = wrap64 (wrap64 (n * 10) + wrap64 (wrap64 (c.toNat : Int) - 48)) := by unfold stepZ; rw [if_neg (by decide)]
theorem foldZ_pos : ∀ (l : List UInt8) (a : Nat), (∀ c ∈ l, isDig c) → valF a l ≤ 9223372036854775807 → foldZ false (a : Int) l = ((valF a l : Nat) : Int) := by
  intro l
  induction l with
  | nil => intro a _ _; rfl
  | cons c l ih =>
    intro a hd hv
    have hv' : valF (a * 10 + (c.toNat - 48)) l ≤ 9223372036854775807 := hv
    have := valF_ge l (a * 10 + (c.toNat - 48))
    show foldZ false (stepZ false (a : Int) c) l = _
    rw [stepZ_pos (hd c (by simp)) (by omega), ih _ (fun d h => hd d (by simp [h])) hv']
    rfl
theorem foldZ_neg : ∀ (l : List UInt8) (a : Nat), (∀ c ∈ l, isDig c) → valF a l ≤ 9223372036854775808 → foldZ true (-(a : Int)) l = -((valF a l : Nat) : Int) := by
  intro l
  induction l with
  | nil => intro a _ _; rfl
  | cons c l ih =>
    intro a hd hv
    have hv' : valF (a * 10 + (c.toNat - 48)) l ≤ 9223372036854775808 := hv
    have := valF_ge l (a * 10 + (c.toNat - 48))
    show foldZ true (stepZ true (-(a : Int)) c) l = _
    rw [stepZ_neg (hd c (by simp)) (by omega), ih _ (fun d h => hd d (by simp [h])) hv']
    rfl

/-- What is answered behind the last digit. -/
noncomputable def doneZ (s : List UInt8) (n : Int) : Int × Bool := if Lib.itoa n = s then (n, true) else (0, false)
def digB (c : UInt8) : Bool := decide (48 ≤ c.toNat) && decide (c.toNat ≤ 57)

theorem digB_low (c : UInt8) (h : c.toNat < 48) : digB c = false := by
  unfold digB
  rw [decide_eq_false (by omega)]
  rfl
theorem digB_not (c : UInt8) (h : ¬ c.toNat < 48) : (!(digB c)) = decide ((c.toNat : Int) > 57) := by
  unfold digB
  by_cases h57 : c.toNat ≤ 57
  · rw [decide_eq_true (by omega : 48 ≤ c.toNat), decide_eq_true h57, decide_eq_false (by omega)]; rfl
  · rw [decide_eq_true (by omega : 48 ≤ c.toNat), decide_eq_false h57, decide_eq_true (by omega)]; rfl
theorem pos1 (f : UInt8) (t : List UInt8) : (0 : Int) < (((mk (f :: t)).size : Nat) : Int) := by rw [mk_size, List.length_cons]; omega
theorem refget_at (f : UInt8) (t : List UInt8) (hl : (f :: t).length ≤ 20) : ∀ (v u : List UInt8), f :: t = u ++ v → u ≠ [] → ∀ n : Int, In64 n →
    Ev (fun k => gatherumref02_Get.l0 k (mk (f :: t)) n (u.length : Int)) (if v.all digB then doneZ (f :: t) (foldZ (f == 45) n v) else (0, false)) := by
  intro v
  induction v with
  | nil =>
    intro u hs hu n hn
    have hlen : (f :: t).length = u.length := by rw [hs]; simp
    refine ev_step (refput_f hn) (fun k hk => ?_)
    simp only [gatherumref02_Get.l0]
    rw [if_neg (by rw [mk_size]; omega), hk]
    simp only [Option.bind_some, mk_toList, List.all_nil, if_true]
    show _ = some (doneZ (f :: t) n)
    unfold doneZ
    by_cases e : Lib.itoa n = f :: t
    · rw [if_pos e, if_pos e]
    · rw [if_neg e, if_neg e]
  | cons c v ih =>
    intro u hs hu n hn
    have hb : bt (mk (f :: t)) (u.length : Int) = (c.toNat : Int) := by rw [hs]; exact bt_app u c _ _ rfl
    have hlen : (f :: t).length = u.length + 1 + v.length := by rw [hs]; simp; omega
    have hup : 0 < u.length := List.length_pos_iff.2 hu
    have hfl := f.toNat_lt
    have hcl := c.toNat_lt
    have nx := ih (u ++ [c]) (by rw [hs]; simp) (by simp) (stepZ (f == 45) n c) (stepZ_in _ _ _)
    have e1 : (((u ++ [c]).length : Nat) : Int) = (u.length : Int) + 1 := by simp
    rw [e1] at nx
    have hj3 : Ev (fun k => gatherumref02_Get.j3 k (mk (f :: t)) n (u.length : Int) (!(digB c))) (if (c :: v).all digB then doneZ (f :: t) (foldZ (f == 45) n (c :: v)) else (0, false)) := by
      by_cases hd : digB c = true
      · refine ev_step nx (fun k hk => ?_)
        simp only [gatherumref02_Get.j3]
        rw [if_neg (by rw [hd]; decide), if_pos (by omega), if_pos (by rw [mk_size]; omega), if_pos (by rw [mk_size]; omega), bt_mk0, hb, wr (n := (u.length : Int) + 1) (by omega) (by omega)]
        have ea : (c :: v).all digB = v.all digB := by simp [hd]
        rw [ea]
        by_cases hf : f = 45
        · rw [if_pos (eq_lit 45 hf rfl)]
          have : (f == 45) = true := by simpa using hf
          rw [this] at hk ⊢
          exact hk
        · rw [if_neg (ne_lit 45 hf rfl)]
          have : (f == 45) = false := by simpa using hf
          rw [this] at hk ⊢
          exact hk
      · refine ev_end (fun k => ?_)
        simp only [gatherumref02_Get.j3]
        rw [if_pos (by simp [hd]), if_neg (by simp [hd])]
    have hj2 : Ev (fun k => gatherumref02_Get.j2 k (mk (f :: t)) n (u.length : Int) false) (if (c :: v).all digB then doneZ (f :: t) (foldZ (f == 45) n (c :: v)) else (0, false)) := by
      refine ev_step hj3 (fun k hk => ?_)
      simp only [gatherumref02_Get.j2]
      rw [if_neg (by decide), if_pos (by omega), if_pos (by rw [mk_size]; omega), hb]
      by_cases h48 : c.toNat < 48
      · rw [if_pos (by omega)]
        have : digB c = false := digB_low c h48
        rw [this] at hk
        exact hk
      · rw [if_neg (by omega)]
        have : (!(digB c)) = decide ((c.toNat : Int) > 57) := digB_not c h48
        rw [this] at hk
        exact hk
    refine ev_step hj2 (fun k hk => ?_)
    simp only [gatherumref02_Get.l0]
    rw [if_pos (by rw [mk_size]; omega), if_neg (by omega)]
    exact hk

theorem refget_neg (f : UInt8) (t : List UInt8) (hl : (f :: t).length ≤ 20) (hf : f = 45) :
    Ev (fun k => gatherumref02_Get.l0 k (mk (f :: t)) 0 0) (if t.all digB then doneZ (f :: t) (foldZ true 0 t) else (0, false)) := by
  have nx := refget_at f t hl t [f] rfl (by simp) 0 (by unfold In64; omega)
  have : (f == 45) = true := by simpa using hf
  rw [this, show ((([f] : List UInt8).length : Nat) : Int) = 1 from rfl] at nx
  have hj2 : Ev (fun k => gatherumref02_Get.j2 k (mk (f :: t)) 0 0 true) (if t.all digB then doneZ (f :: t) (foldZ true 0 t) else (0, false)) := by
    refine ev_step nx (fun k hk => ?_)
    simp only [gatherumref02_Get.j2]
    rw [if_pos (by trivial), show wrap64 ((0 : Int) + 1) = 1 by unfold wrap64; omega]
    exact hk
  refine ev_step hj2 (fun k hk => ?_)
  simp only [gatherumref02_Get.l0]
  rw [if_pos (pos1 f t), if_pos (by trivial), if_pos (pos1 f t), bt_mk0, show ((f.toNat : Int) == 45) = true by simpa using eq_lit 45 hf rfl]
  exact hk
theorem refget_pos (f : UInt8) (t : List UInt8) (hl : (f :: t).length ≤ 20) (hf : f ≠ 45) :
    Ev (fun k => gatherumref02_Get.l0 k (mk (f :: t)) 0 0) (if (f :: t).all digB then doneZ (f :: t) (foldZ false 0 (f :: t)) else (0, false)) := by
  have hff : (f == 45) = false := by simpa using hf
  have hj3 : Ev (fun k => gatherumref02_Get.j3 k (mk (f :: t)) 0 0 (!(digB f))) (if (f :: t).all digB then doneZ (f :: t) (foldZ false 0 (f :: t)) else (0, false)) := by
    by_cases hd : digB f = true
    · have nx := refget_at f t hl t [f] rfl (by simp) (stepZ false 0 f) (stepZ_in _ _ _)
      rw [hff, show ((([f] : List UInt8).length : Nat) : Int) = 1 from rfl] at nx
      refine ev_step nx (fun k hk => ?_)
      simp only [gatherumref02_Get.j3]
      rw [if_neg (by rw [hd]; decide), if_pos (Int.le_refl 0), if_pos (pos1 f t), if_pos (pos1 f t), bt_mk0, if_neg (ne_lit 45 hf rfl), show wrap64 ((0 : Int) + 1) = 1 by unfold wrap64; omega]
      have ea : (f :: t).all digB = t.all digB := by simp [hd]
      rw [ea, foldZ_cons, ← stepZ_no]
      exact hk
    · refine ev_end (fun k => ?_)
      simp only [gatherumref02_Get.j3]
      rw [if_pos (by simp [hd]), if_neg (by simp [hd])]
  have hj2 : Ev (fun k => gatherumref02_Get.j2 k (mk (f :: t)) 0 0 false) (if (f :: t).all digB then doneZ (f :: t) (foldZ false 0 (f :: t)) else (0, false)) := by
    refine ev_step hj3 (fun k hk => ?_)
    simp only [gatherumref02_Get.j2]
    rw [if_neg (by decide), if_pos (Int.le_refl 0), if_pos (pos1 f t), bt_mk0]
    by_cases h48 : f.toNat < 48
    · rw [if_pos (by omega)]
      have : digB f = false := digB_low f h48
      rw [this] at hk
      exact hk
    · rw [if_neg (by omega)]
      have : (!(digB f)) = decide ((f.toNat : Int) > 57) := digB_not f h48
      rw [this] at hk
      exact hk
  refine ev_step hj2 (fun k hk => ?_)
  simp only [gatherumref02_Get.l0]
  rw [if_pos (pos1 f t), if_pos (by trivial), if_pos (pos1 f t), bt_mk0, show ((f.toNat : Int) == 45) = false by simpa using ne_lit 45 hf rfl]
  exact hk
theorem refget_first (f : UInt8) (t : List UInt8) (hl : (f :: t).length ≤ 20) :
    Ev (fun k => gatherumref02_Get.l0 k (mk (f :: t)) 0 0) (if f = 45 then (if t.all digB then doneZ (f :: t) (foldZ true 0 t) else (0, false)) else (if (f :: t).all digB then doneZ (f :: t) (foldZ false 0 (f :: t)) else (0, false))) := by
  by_cases hf : f = 45
  · rw [if_pos hf]; exact refget_neg f t hl hf
  · rw [if_neg hf]; exact refget_pos f t hl hf

theorem digB_of {l : List UInt8} (h : ∀ c ∈ l, isDig c) : l.all digB = true := by
  rw [List.all_eq_true]
  intro c hc
  have := h c hc
  unfold isDig at this
  unfold digB
  simp [this]
theorem foldZ_in (neg : Bool) : ∀ (l : List UInt8) (n : Int), In64 n → In64 (foldZ neg n l) := by
  intro l
  induction l with
  | nil => intro n h; exact h
  | cons c l ih => intro n h; exact ih _ (stepZ_in _ _ _)

theorem refget_f (l : List UInt8) (h : l.length ≤ 1000) : Ev (fun k => gatherumref02_Get.f k (mk l)) (ExtBase.getDec l) := by
  have no : Ev (fun k => gatherumref02_Get.j0 k (mk l) true) (0, false) := ev_end fun k => by simp [gatherumref02_Get.j0]
  by_cases h0 : l = []
  · subst h0
    rw [getDec_no (by rintro ⟨v, _, e⟩; exact itoa_ne v e)]
    refine ev_map no (fun k hk => ?_)
    unfold gatherumref02_Get.f
    rw [if_pos (by simp)]
    exact hk
  · have hp : 0 < l.length := List.length_pos_iff.2 h0
    by_cases h20 : 20 < l.length
    · rw [getDec_no (by rintro ⟨v, hv, e⟩; have := itoa_len hv; rw [e] at this; omega)]
      refine ev_map no (fun k hk => ?_)
      unfold gatherumref02_Get.f
      rw [if_neg (by rw [mk_size]; omega), show decide (((mk l).size : Int) > 20) = true by rw [mk_size]; simp; omega]
      exact hk
    · obtain ⟨f, t, rfl⟩ : ∃ f t, l = f :: t := by
        cases l with
        | nil => exact absurd rfl h0
        | cons f t => exact ⟨f, t, rfl⟩
      have main := refget_first f t (by omega)
      have hval : (if f = 45 then (if t.all digB then doneZ (f :: t) (foldZ true 0 t) else (0, false)) else (if (f :: t).all digB then doneZ (f :: t) (foldZ false 0 (f :: t)) else (0, false))) = ExtBase.getDec (f :: t) := by
        by_cases hx : ∃ v, In64 v ∧ Lib.itoa v = f :: t
        · obtain ⟨v, hv, e⟩ := hx
          rw [← e, getDec_itoa hv, e]
          unfold In64 at hv
          unfold Lib.itoa at e
          by_cases hn : v < 0
          · rw [if_pos hn] at e
            injection e with e1 e2
            have hd := decDigits_dig v.natAbs
            rw [if_pos e1.symm, if_pos (digB_of (by rw [← e2]; exact hd))]
            have hf := foldZ_neg t 0 (by rw [← e2]; exact hd) (by rw [← e2, valF_decDigits]; omega)
            rw [← e2, valF_decDigits] at hf
            rw [← e2]
            rw [show foldZ true 0 (Lib.decDigits v.natAbs) = v by rw [show (0 : Int) = -((0 : Nat) : Int) from rfl, hf]; omega]
            unfold doneZ
            rw [if_pos (by unfold Lib.itoa; rw [if_pos hn, e1])]
          · rw [if_neg hn] at e
            have hd := decDigits_dig v.toNat
            rw [e] at hd
            have hf1 := hd f (by simp)
            unfold isDig at hf1
            rw [if_neg (by rintro rfl; revert hf1; decide), if_pos (digB_of hd)]
            have hf := foldZ_pos (f :: t) 0 hd (by rw [← e, valF_decDigits]; omega)
            rw [← e, valF_decDigits] at hf
            rw [← e, show foldZ false 0 (Lib.decDigits v.toNat) = v by rw [show (0 : Int) = ((0 : Nat) : Int) from rfl, hf]; omega]
            unfold doneZ
            rw [if_pos (by unfold Lib.itoa; rw [if_neg hn])]
        · rw [getDec_no hx]
          have hno : ∀ n, In64 n → doneZ (f :: t) n = (0, false) := fun n hn => by unfold doneZ; rw [if_neg (fun e => hx ⟨n, hn, e⟩)]
          have z : In64 0 := by unfold In64; omega
          rw [hno _ (foldZ_in _ _ _ z), hno _ (foldZ_in _ _ _ z)]
          simp
      rw [hval] at main
      have go : Ev (fun k => gatherumref02_Get.j0 k (mk (f :: t)) false) (ExtBase.getDec (f :: t)) := by
        refine ev_step main (fun k hk => ?_)
        simp only [gatherumref02_Get.j0]
        rw [if_neg (by decide)]
        exact hk
      refine ev_map go (fun k hk => ?_)
      unfold gatherumref02_Get.f
      rw [if_neg (by rw [mk_size]; omega), show decide (((mk (f :: t)).size : Int) > 20) = false by rw [mk_size]; simp at h20 ⊢; omega]
      exact hk

theorem alive : gatherumlaw02_alive.f = some true := by
  have e1 : ExtBase.dec_Get.f (⟨#[45, 52, 50]⟩ : ByteArray) = some (-42, true) := by
    have : Lib.itoa (-42) = [45, 52, 50] := by kernel_rfl
    rw [show (⟨#[45, 52, 50]⟩ : ByteArray) = mk [45, 52, 50] from rfl, get_ext _ (by decide), ← this, getDec_itoa (by unfold In64; omega)]
  have e2 : ExtBase.dec_Get.f (⟨#[48, 48, 55]⟩ : ByteArray) = some (0, false) := by
    rw [show (⟨#[48, 48, 55]⟩ : ByteArray) = mk [48, 48, 55] from rfl, get_ext _ (by decide)]
    have : Lib.atoiAll [48, 48, 55] = .ok 7 := by kernel_rfl
    unfold ExtBase.getDec
    rw [this]
    simp only []
    rw [if_neg (by have : Lib.itoa 7 = [55] := by kernel_rfl
                   rw [this]; decide)]
  have e3 : ExtBase.dec_Put.f 0 = some (mk [48]) := by
    rw [put_ext (by unfold In64; omega)]
    rw [itoa_zero]
  unfold gatherumlaw02_alive.f
  rw [e1, e2, e3]
  simp

/-- What is read from lo to hi. -/
def withinL (d : Int × Bool) (lo hi : Int) : Int × Bool := if d.2 = true ∧ lo ≤ d.1 ∧ d.1 ≤ hi then (d.1, true) else (0, false)
theorem within_f (l : List UInt8) (h : l.length ≤ 281474976710656) (lo hi : Int) : dec_Within.f (mk l) lo hi = some (withinL (ExtBase.getDec l) lo hi) := by
  unfold dec_Within.f num_In.f withinL
  rw [get_ext l h]
  simp only [Option.bind_some]
  by_cases h2 : (ExtBase.getDec l).2 = true
  · by_cases h3 : lo ≤ (ExtBase.getDec l).1
    · by_cases h4 : (ExtBase.getDec l).1 ≤ hi
      · simp [h2, h3, h4]
      · simp [h2, h3, h4]
    · simp [h2, h3]
  · simp [h2]

theorem DecWithin : gatherumlaw02_DecWithin.Pure := by
  intro n lo hi a3 hn hlo hhi hs
  obtain ⟨l, rfl⟩ := exists_mk a3
  have hr : In64 n := wf_i64 hn
  apply ev_done
  simp only [gatherumlaw02_DecWithin.f]
  rw [alive]
  simp only [Option.bind_some, if_true]
  by_cases hl : (l.length : Int) > 200
  · exact ev_now fun k => by rw [if_pos (by simpa using hl)]
  · have hw : withinL (ExtBase.getDec (Lib.itoa n)) lo hi = if lo ≤ n ∧ n ≤ hi then (n, true) else (0, false) := by
      rw [getDec_itoa hr]
      unfold withinL
      simp
    have end2 : Ev (fun k => gatherumlaw02_DecWithin.j2 k n lo hi (withinL (ExtBase.getDec (Lib.itoa n)) lo hi).1 (withinL (ExtBase.getDec (Lib.itoa n)) lo hi).2 false) true := by
      refine ev_end (fun k => ?_)
      simp only [gatherumlaw02_DecWithin.j2]
      rw [if_neg (by decide)]
      by_cases h1 : n < lo
      · have e : withinL (ExtBase.getDec (Lib.itoa n)) lo hi = (0, false) := by rw [hw, if_neg (by omega)]
        rw [if_pos h1, e, if_pos (by trivial)]; rfl
      · rw [if_neg h1]
        by_cases h2 : n > hi
        · have e : withinL (ExtBase.getDec (Lib.itoa n)) lo hi = (0, false) := by rw [hw, if_neg (by omega)]
          rw [if_pos h2, e, if_pos (by trivial)]; rfl
        · have e : withinL (ExtBase.getDec (Lib.itoa n)) lo hi = (n, true) := by rw [hw, if_pos (by omega)]
          rw [if_neg h2, e, if_pos (by trivial)]
    have end1 : Ev (fun k => gatherumlaw02_DecWithin.j1 k n lo hi (withinL (ExtBase.getDec (Lib.itoa n)) lo hi).1 (withinL (ExtBase.getDec (Lib.itoa n)) lo hi).2 (withinL (ExtBase.getDec l) lo hi).1 (withinL (ExtBase.getDec l) lo hi).2 (withinL (ExtBase.getDec l) lo hi).1 (withinL (ExtBase.getDec l) lo hi).2) true := by
      refine ev_step end2 (fun k hk => ?_)
      simp only [gatherumlaw02_DecWithin.j1]
      rw [if_pos (by trivial), show ((withinL (ExtBase.getDec l) lo hi).2 != (withinL (ExtBase.getDec l) lo hi).2) = false by simp]
      exact hk
    have end0 : ∀ b : Bool, (b = true ↔ ¬ ((ExtBase.getDec l).2 = true ∧ lo ≤ (ExtBase.getDec l).1 ∧ (ExtBase.getDec l).1 ≤ hi)) → Ev (fun k => gatherumlaw02_DecWithin.j0 k n lo hi (withinL (ExtBase.getDec (Lib.itoa n)) lo hi).1 (withinL (ExtBase.getDec (Lib.itoa n)) lo hi).2 (withinL (ExtBase.getDec l) lo hi).1 (withinL (ExtBase.getDec l) lo hi).2 (ExtBase.getDec l).1 (ExtBase.getDec l).2 b) true := by
      intro b hb
      refine ev_step end1 (fun k hk => ?_)
      simp only [gatherumlaw02_DecWithin.j0]
      cases b with
      | true =>
        have e : withinL (ExtBase.getDec l) lo hi = (0, false) := by unfold withinL; rw [if_neg (hb.1 rfl)]
        rw [if_pos (by trivial)]
        rw [e] at hk ⊢
        exact hk
      | false =>
        have hc : (ExtBase.getDec l).2 = true ∧ lo ≤ (ExtBase.getDec l).1 ∧ (ExtBase.getDec l).1 ≤ hi := by
          by_cases c : (ExtBase.getDec l).2 = true ∧ lo ≤ (ExtBase.getDec l).1 ∧ (ExtBase.getDec l).1 ≤ hi
          · exact c
          · exact absurd (hb.2 c) (by decide)
        have e : withinL (ExtBase.getDec l) lo hi = ExtBase.getDec l := by
          unfold withinL
          rw [if_pos hc]
          exact Prod.ext rfl hc.1.symm
        rw [if_neg (by decide)]
        rw [e] at hk ⊢
        exact hk
    have g := refget_f l (by omega)
    have p := refput_f hr
    have z1 := end0 true
    have z2 := end0 (decide ((ExtBase.getDec l).1 > hi))
    have hlen := itoa_len hr
    by_cases h2 : (ExtBase.getDec l).2 = true
    · by_cases h3 : (ExtBase.getDec l).1 < lo
      · refine ev_map3 g p (z1 ⟨fun _ => by omega, fun _ => rfl⟩) (fun k k1 k2 k3 => ?_)
        rw [if_neg (by simpa using hl), k2]
        simp only [Option.bind_some]
        rw [within_f _ (by omega), within_f _ (by omega), k1]
        simp only [Option.bind_some]
        rw [if_pos h2, if_pos h3]
        exact k3
      · refine ev_map3 g p (z2 ⟨fun h => by have := of_decide_eq_true h; omega, fun h => decide_eq_true (by
            by_cases hh : (ExtBase.getDec l).1 ≤ hi
            · exact absurd ⟨h2, by omega, hh⟩ h
            · omega)⟩) (fun k k1 k2 k3 => ?_)
        rw [if_neg (by simpa using hl), k2]
        simp only [Option.bind_some]
        rw [within_f _ (by omega), within_f _ (by omega), k1]
        simp only [Option.bind_some]
        rw [if_pos h2, if_neg h3]
        exact k3
    · refine ev_map3 g p (z1 ⟨fun _ h => h2 h.1, fun _ => rfl⟩) (fun k k1 k2 k3 => ?_)
      rw [if_neg (by simpa using hl), k2]
      simp only [Option.bind_some]
      rw [within_f _ (by omega), within_f _ (by omega), k1]
      simp only [Option.bind_some]
      rw [if_neg h2]
      exact k3
end Go.Proofs.YthkbomclongjgaaDoor.Pure
