/- The pure statement of StepBack: a right step comes back from its text; no other text is one's. No condition beyond the statement's own. -/
import Derived.Test.YthkbomclongjgaaDoorPStepBackx5
import Derived.Test.YthkbomclongjgaaDoorPkStep
namespace Go.Proofs.YthkbomclongjgaaDoor.Pure.StepBackSim
open Go.RowKit Go.Proofs.YthkbomclongjgaaDoor.PStepBack Go.Proofs.YthkbomclongjgaaDoorW.PrintWords Go.Proofs.YthkbomclongjgaaDoorW.PrintLast Go.Proofs.YthkbomclongjgaaDoor.Pk
set_option linter.unusedSimpArgs false
set_option linter.unusedVariables false

theorem put_ext {v : Int} (h : In64 v) : ExtBase.dec_Put.f v = some (mk (Lib.itoa v)) := by
  unfold ExtBase.dec_Put.f
  rw [if_pos (show -9223372036854775808 ≤ v ∧ v ≤ 9223372036854775807 from h)]
  rfl
theorem get_ext (l : List UInt8) (h : l.length ≤ 281474976710656) : ExtBase.dec_Get.f (mk l) = some (ExtBase.getDec l) := by
  unfold ExtBase.dec_Get.f
  rw [if_pos (by simpa using h), mk_data]
theorem itoa_zero : Lib.itoa 0 = [48] := by unfold Lib.itoa; rw [if_neg (by omega)]; exact decDigits_zero
theorem getDec_itoa {v : Int} (h : In64 v) : ExtBase.getDec (Lib.itoa v) = (v, true) := by
  unfold ExtBase.getDec
  rw [atoi_itoa h]
  simp
theorem getDec_no {l : List UInt8} (h : ¬ ∃ v, In64 v ∧ Lib.itoa v = l) : ExtBase.getDec l = (0, false) := by
  unfold ExtBase.getDec
  cases ha : Lib.atoiAll l with
  | ok v =>
    simp only []
    rw [if_neg (fun e => h ⟨v, Lib.atoiAll_bounds ha, e⟩)]
  | _ => rfl

theorem tmod_nat (u : Nat) : Int.tmod (u : Int) 10 = ((u % 10 : Nat) : Int) := by
  rw [Int.tmod_eq_emod_of_nonneg (by omega)]; omega
theorem tdiv_nat (u : Nat) : Int.tdiv (u : Int) 10 = ((u / 10 : Nat) : Int) := by
  rw [Int.tdiv_eq_ediv_of_nonneg (by omega)]; omega

theorem digit_at (d : Nat) (h : d < 10) : (⟨#[48, 49, 50, 51, 52, 53, 54, 55, 56, 57]⟩ : ByteArray).extract (d : Int).toNat ((d : Int) + 1).toNat = mk [dgt d] := by
  rw [show (⟨#[48, 49, 50, 51, 52, 53, 54, 55, 56, 57]⟩ : ByteArray) = mk [48, 49, 50, 51, 52, 53, 54, 55, 56, 57] from rfl, mk_extract]
  congr 1
  rw [show ((d : Int) + 1).toNat = d + 1 by omega, show (d : Int).toNat = d by omega]
  match d, h with
  | 0, _ => rfl
  | 1, _ => rfl
  | 2, _ => rfl
  | 3, _ => rfl
  | 4, _ => rfl
  | 5, _ => rfl
  | 6, _ => rfl
  | 7, _ => rfl
  | 8, _ => rfl
  | 9, _ => rfl
  | n + 10, h => omega

theorem refput_at (n : Int) : ∀ (u : Nat), u ≤ 9223372036854775808 → ∀ (m : Int) (acc : List UInt8), (m = u ∨ m = -(u : Int)) → In64 m → acc.length + (digs u).length ≤ 1000 →
    Ev (fun k => gatherumref02_Put.l0 k n (mk acc) m) (mk ((if n < 0 then [45] else []) ++ (digs u ++ acc))) := by
  intro u
  induction u using Nat.strongRecOn with
  | _ u ih =>
    intro hu m acc hm hr ha
    unfold In64 at hr
    by_cases h0 : u = 0
    · subst h0
      refine ev_end (fun k => ?_)
      simp only [gatherumref02_Put.l0]
      rw [if_pos (by omega), digs_zero]
      by_cases hn : n < 0
      · rw [if_pos hn, if_pos hn, if_pos (by simp; omega), show (⟨#[45]⟩ : ByteArray) = mk [45] from rfl, mk_append]
        rfl
      · rw [if_neg hn, if_neg hn]; rfl
    · have nx := fun (m' : Int) (hm' : m' = ((u / 10 : Nat) : Int) ∨ m' = -(((u / 10 : Nat)) : Int)) => ih (u / 10) (by omega) (by omega) m' (dgt (u % 10) :: acc) hm' (by unfold In64; omega) (by rw [digs_pos h0] at ha; simp at ha ⊢; omega)
      have e : digs u ++ acc = digs (u / 10) ++ dgt (u % 10) :: acc := by rw [digs_pos h0]; simp
      rcases hm with rfl | rfl
      · refine ev_step (nx _ (.inl rfl)) (fun k hk => ?_)
        simp only [gatherumref02_Put.l0]
        rw [if_neg (by omega), tmod_nat, if_neg (by omega), if_pos (by omega), wr (by omega) (by omega), if_pos (by omega), if_pos (by omega), digit_at _ (by omega), if_pos (by simp; omega), mk_append, tdiv_nat, wr (by omega) (by omega), e]
        exact hk
      · refine ev_step (nx _ (.inr rfl)) (fun k hk => ?_)
        simp only [gatherumref02_Put.l0]
        rw [if_neg (by omega), Int.neg_tmod, tmod_nat, Int.neg_tdiv, tdiv_nat, e]
        by_cases hz : u % 10 = 0
        · rw [if_neg (by omega), if_pos (by omega), show (-((u % 10 : Nat) : Int)) = ((u % 10 : Nat) : Int) by omega, wr (by omega) (by omega), if_pos (by omega), if_pos (by omega), digit_at _ (by omega), if_pos (by simp; omega), mk_append, wr (by omega) (by omega)]
          exact hk
        · rw [if_pos (by omega), show (- -((u % 10 : Nat) : Int)) = ((u % 10 : Nat) : Int) by omega, wr (n := ((u % 10 : Nat) : Int)) (by omega) (by omega), if_pos (by omega), wr (by omega) (by omega), if_pos (by omega), if_pos (by omega), digit_at _ (by omega), if_pos (by simp; omega), mk_append, wr (by omega) (by omega)]
          exact hk

theorem refput_f {v : Int} (h : In64 v) : Ev (fun k => gatherumref02_Put.f k v) (mk (Lib.itoa v)) := by
  unfold In64 at h
  by_cases h0 : v = 0
  · subst h0
    exact ev_now fun k => by unfold gatherumref02_Put.f; rw [if_pos rfl, itoa_zero]; rfl
  · have := refput_at v v.natAbs (by omega) v [] (by omega) h (by have := digs_len 19 v.natAbs (by omega); simp; omega)
    refine ev_map this (fun k hk => ?_)
    unfold gatherumref02_Put.f
    rw [if_neg h0]
    have e : Lib.itoa v = (if v < 0 then [45] else []) ++ (digs v.natAbs ++ []) := by
      unfold Lib.itoa
      by_cases hn : v < 0
      · rw [if_pos hn, if_pos hn, decDigits_digs _ (by omega)]; simp
      · rw [if_neg hn, if_neg hn, decDigits_digs _ (by omega), show v.toNat = v.natAbs by omega]; simp
    rw [e]
    exact hk

/-- One digit more, as the machine reckons it. -/
def stepZ (neg : Bool) (n : Int) (c : UInt8) : Int := if neg then wrap64 (wrap64 (n * 10) - wrap64 (wrap64 (c.toNat : Int) - 48)) else wrap64 (wrap64 (n * 10) + wrap64 (wrap64 (c.toNat : Int) - 48))
theorem stepZ_in (neg : Bool) (n : Int) (c : UInt8) : In64 (stepZ neg n c) := by
  unfold stepZ In64
  cases neg <;> simp <;> unfold wrap64 <;> omega
theorem stepZ_pos {a : Nat} {c : UInt8} (hc : isDig c) (h : a * 10 + (c.toNat - 48) ≤ 9223372036854775807) : stepZ false (a : Int) c = ((a * 10 + (c.toNat - 48) : Nat) : Int) := by
  unfold isDig at hc
  unfold stepZ
  simp only [Bool.false_eq_true, if_false]
  rw [wr (n := (c.toNat : Int)) (by omega) (by omega), wr (n := (a : Int) * 10) (by omega) (by omega), wr (n := (c.toNat : Int) - 48) (by omega) (by omega), wr (by omega) (by omega)]
  omega
theorem stepZ_neg {a : Nat} {c : UInt8} (hc : isDig c) (h : a * 10 + (c.toNat - 48) ≤ 9223372036854775808) : stepZ true (-(a : Int)) c = -((a * 10 + (c.toNat - 48) : Nat) : Int) := by
  unfold isDig at hc
  unfold stepZ
  simp only [if_true]
  rw [wr (n := (c.toNat : Int)) (by omega) (by omega), wr (n := -(a : Int) * 10) (by omega) (by omega), wr (n := (c.toNat : Int) - 48) (by omega) (by omega), wr (by omega) (by omega)]
  omega
def foldZ (neg : Bool) (n : Int) (l : List UInt8) : Int := l.foldl (stepZ neg) n
theorem foldZ_cons (neg : Bool) (n : Int) (c : UInt8) (l : List UInt8) : foldZ neg n (c :: l) = foldZ neg (stepZ neg n c) l := rfl
theorem stepZ_no (n : Int) (c : UInt8) : stepZ false n c = wrap64 (wrap64 (n * 10) + wrap64 (wrap64 (c.toNat : Int) - 48)) := by unfold stepZ; rw [if_neg (by decide)]
theorem foldZ_pos : ∀ (l : List UInt8) (a : Nat), (∀ c ∈ l, isDig c) → valF a l ≤ 9223372036854775807 → foldZ false (a : Int) l = ((valF a l : Nat) : Int) := by
  intro l
  induction l with
  | nil => intro a _ _; rfl
  | cons c l ih =>
    intro a hd hv
    have hv' : valF (a * 10 + (c.toNat - 48)) l ≤ 9223372036854775807 := hv
    have := valF_ge l (a * 10 + (c.toNat - 48))
    show foldZ false (stepZ false (a : Int) c) l = _
    rw [stepZ_pos (hd c (by simp)) (by omega), ih _ (fun d h => hd d (by simp [h])) hv']
    rfl
theorem foldZ_neg : ∀ (l : List UInt8) (a : Nat), (∀ c ∈ l, isDig c) → valF a l ≤ 9223372036854775808 → foldZ true (-(a : Int)) l = -((valF a l : Nat) : Int) := by
  intro l
  induction l with
  | nil => intro a _ _; rfl
  | cons c l ih =>
    intro a hd hv
    have hv' : valF (a * 10 + (c.toNat - 48)) l ≤ 9223372036854775808 := hv
    have := valF_ge l (a * 10 + (c.toNat - 48))
    show foldZ true (stepZ true (-(a : Int)) c) l = _
    rw [stepZ_neg (hd c (by simp)) (by omega), ih _ (fun d h => hd d (by simp [h])) hv']
    rfl

/-- What is answered behind the last digit. -/
noncomputable def doneZ (s : List UInt8) (n : Int) : Int × Bool := if Lib.itoa n = s then (n, true) else (0, false)
def digB (c : UInt8) : Bool := decide (48 ≤ c.toNat) && decide (c.toNat ≤ 57)

theorem digB_low (c : UInt8) (h : c.toNat < 48) : digB c = false := by
  unfold digB
  rw [decide_eq_false (by omega)]
  rfl
theorem digB_not (c : UInt8) (h : ¬ c.toNat < 48) : (!(digB c)) = decide ((c.toNat : Int) > 57) := by
  unfold digB
  by_cases h57 : c.toNat ≤ 57
  · rw [decide_eq_true (by omega : 48 ≤ c.toNat), decide_eq_true h57, decide_eq_false (by omega)]; rfl
  · rw [decide_eq_true (by omega : 48 ≤ c.toNat), decide_eq_false h57, decide_eq_true (by omega)]; rfl
theorem pos1 (f : UInt8) (t : List UInt8) : (0 : Int) < (((mk (f :: t)).size : Nat) : Int) := by rw [mk_size, List.length_cons]; omega
theorem refget_at (f : UInt8) (t : List UInt8) (hl : (f :: t).length ≤ 20) : ∀ (v u : List UInt8), f :: t = u ++ v → u ≠ [] → ∀ n : Int, In64 n →
    Ev (fun k => gatherumref02_Get.l0 k (mk (f :: t)) n (u.length : Int)) (if v.all digB then doneZ (f :: t) (foldZ (f == 45) n v) else (0, false)) := by
  intro v
  induction v with
  | nil =>
    intro u hs hu n hn
    have hlen : (f :: t).length = u.length := by rw [hs]; simp
    refine ev_step (refput_f hn) (fun k hk => ?_)
    simp only [gatherumref02_Get.l0]
    rw [if_neg (by rw [mk_size]; omega), hk]
    simp only [Option.bind_some, mk_toList, List.all_nil, if_true]
    show _ = some (doneZ (f :: t) n)
    unfold doneZ
    by_cases e : Lib.itoa n = f :: t
    · rw [if_pos e, if_pos e]
    · rw [if_neg e, if_neg e]
  | cons c v ih =>
    intro u hs hu n hn
    have hb : bt (mk (f :: t)) (u.length : Int) = (c.toNat : Int) := by rw [hs]; exact bt_app u c _ _ rfl
    have hlen : (f :: t).length = u.length + 1 + v.length := by rw [hs]; simp; omega
    have hup : 0 < u.length := List.length_pos_iff.2 hu
    have hfl := f.toNat_lt
    have hcl := c.toNat_lt
    have nx := ih (u ++ [c]) (by rw [hs]; simp) (by simp) (stepZ (f == 45) n c) (stepZ_in _ _ _)
    have e1 : (((u ++ [c]).length : Nat) : Int) = (u.length : Int) + 1 := by simp
    rw [e1] at nx
    have hj3 : Ev (fun k => gatherumref02_Get.j3 k (mk (f :: t)) n (u.length : Int) (!(digB c))) (if (c :: v).all digB then doneZ (f :: t) (foldZ (f == 45) n (c :: v)) else (0, false)) := by
      by_cases hd : digB c = true
      · refine ev_step nx (fun k hk => ?_)
        simp only [gatherumref02_Get.j3]
        rw [if_neg (by rw [hd]; decide), if_pos (by omega), if_pos (by rw [mk_size]; omega), if_pos (by rw [mk_size]; omega), bt_mk0, hb, wr (n := (u.length : Int) + 1) (by omega) (by omega)]
        have ea : (c :: v).all digB = v.all digB := by simp [hd]
        rw [ea]
        by_cases hf : f = 45
        · rw [if_pos (eq_lit 45 hf rfl)]
          have : (f == 45) = true := by simpa using hf
          rw [this] at hk ⊢
          exact hk
        · rw [if_neg (ne_lit 45 hf rfl)]
          have : (f == 45) = false := by simpa using hf
          rw [this] at hk ⊢
          exact hk
      · refine ev_end (fun k => ?_)
        simp only [gatherumref02_Get.j3]
        rw [if_pos (by simp [hd]), if_neg (by simp [hd])]
    have hj2 : Ev (fun k => gatherumref02_Get.j2 k (mk (f :: t)) n (u.length : Int) false) (if (c :: v).all digB then doneZ (f :: t) (foldZ (f == 45) n (c :: v)) else (0, false)) := by
      refine ev_step hj3 (fun k hk => ?_)
      simp only [gatherumref02_Get.j2]
      rw [if_neg (by decide), if_pos (by omega), if_pos (by rw [mk_size]; omega), hb]
      by_cases h48 : c.toNat < 48
      · rw [if_pos (by omega)]
        have : digB c = false := digB_low c h48
        rw [this] at hk
        exact hk
      · rw [if_neg (by omega)]
        have : (!(digB c)) = decide ((c.toNat : Int) > 57) := digB_not c h48
        rw [this] at hk
        exact hk
    refine ev_step hj2 (fun k hk => ?_)
    simp only [gatherumref02_Get.l0]
    rw [if_pos (by rw [mk_size]; omega), if_neg (by omega)]
    exact hk

theorem refget_neg (f : UInt8) (t : List UInt8) (hl : (f :: t).length ≤ 20) (hf : f = 45) :
    Ev (fun k => gatherumref02_Get.l0 k (mk (f :: t)) 0 0) (if t.all digB then doneZ (f :: t) (foldZ true 0 t) else (0, false)) := by
  have nx := refget_at f t hl t [f] rfl (by simp) 0 (by unfold In64; omega)
  have : (f == 45) = true := by simpa using hf
  rw [this, show ((([f] : List UInt8).length : Nat) : Int) = 1 from rfl] at nx
  have hj2 : Ev (fun k => gatherumref02_Get.j2 k (mk (f :: t)) 0 0 true) (if t.all digB then doneZ (f :: t) (foldZ true 0 t) else (0, false)) := by
    refine ev_step nx (fun k hk => ?_)
    simp only [gatherumref02_Get.j2]
    rw [if_pos (by trivial), show wrap64 ((0 : Int) + 1) = 1 by unfold wrap64; omega]
    exact hk
  refine ev_step hj2 (fun k hk => ?_)
  simp only [gatherumref02_Get.l0]
  rw [if_pos (pos1 f t), if_pos (by trivial), if_pos (pos1 f t), bt_mk0, show ((f.toNat : Int) == 45) = true by simpa using eq_lit 45 hf rfl]
  exact hk
theorem refget_pos (f : UInt8) (t : List UInt8) (hl : (f :: t).length ≤ 20) (hf : f ≠ 45) :
    Ev (fun k => gatherumref02_Get.l0 k (mk (f :: t)) 0 0) (if (f :: t).all digB then doneZ (f :: t) (foldZ false 0 (f :: t)) else (0, false)) := by
  have hff : (f == 45) = false := by simpa using hf
  have hj3 : Ev (fun k => gatherumref02_Get.j3 k (mk (f :: t)) 0 0 (!(digB f))) (if (f :: t).all digB then doneZ (f :: t) (foldZ false 0 (f :: t)) else (0, false)) := by
    by_cases hd : digB f = true
    · have nx := refget_at f t hl t [f] rfl (by simp) (stepZ false 0 f) (stepZ_in _ _ _)
      rw [hff, show ((([f] : List UInt8).length : Nat) : Int) = 1 from rfl] at nx
      refine ev_step nx (fun k hk => ?_)
      simp only [gatherumref02_Get.j3]
      rw [if_neg (by rw [hd]; decide), if_pos (Int.le_refl 0), if_pos (pos1 f t), if_pos (pos1 f t), bt_mk0, if_neg (ne_lit 45 hf rfl), show wrap64 ((0 : Int) + 1) = 1 by unfold wrap64; omega]
      have ea : (f :: t).all digB = t.all digB := by simp [hd]
      rw [ea, foldZ_cons, ← stepZ_no]
      exact hk
    · refine ev_end (fun k => ?_)
      simp only [gatherumref02_Get.j3]
      rw [if_pos (by simp [hd]), if_neg (by simp [hd])]
  have hj2 : Ev (fun k => gatherumref02_Get.j2 k (mk (f :: t)) 0 0 false) (if (f :: t).all digB then doneZ (f :: t) (foldZ false 0 (f :: t)) else (0, false)) := by
    refine ev_step hj3 (fun k hk => ?_)
    simp only [gatherumref02_Get.j2]
    rw [if_neg (by decide), if_pos (Int.le_refl 0), if_pos (pos1 f t), bt_mk0]
    by_cases h48 : f.toNat < 48
    · rw [if_pos (by omega)]
      have : digB f = false := digB_low f h48
      rw [this] at hk
      exact hk
    · rw [if_neg (by omega)]
      have : (!(digB f)) = decide ((f.toNat : Int) > 57) := digB_not f h48
      rw [this] at hk
      exact hk
  refine ev_step hj2 (fun k hk => ?_)
  simp only [gatherumref02_Get.l0]
  rw [if_pos (pos1 f t), if_pos (by trivial), if_pos (pos1 f t), bt_mk0, show ((f.toNat : Int) == 45) = false by simpa using ne_lit 45 hf rfl]
  exact hk
theorem refget_first (f : UInt8) (t : List UInt8) (hl : (f :: t).length ≤ 20) :
    Ev (fun k => gatherumref02_Get.l0 k (mk (f :: t)) 0 0) (if f = 45 then (if t.all digB then doneZ (f :: t) (foldZ true 0 t) else (0, false)) else (if (f :: t).all digB then doneZ (f :: t) (foldZ false 0 (f :: t)) else (0, false))) := by
  by_cases hf : f = 45
  · rw [if_pos hf]; exact refget_neg f t hl hf
  · rw [if_neg hf]; exact refget_pos f t hl hf

theorem digB_of {l : List UInt8} (h : ∀ c ∈ l, isDig c) : l.all digB = true := by
  rw [List.all_eq_true]
  intro c hc
  have := h c hc
  unfold isDig at this
  unfold digB
  simp [this]
theorem foldZ_in (neg : Bool) : ∀ (l : List UInt8) (n : Int), In64 n → In64 (foldZ neg n l) := by
  intro l
  induction l with
  | nil => intro n h; exact h
  | cons c l ih => intro n h; exact ih _ (stepZ_in _ _ _)

theorem refget_f (l : List UInt8) (h : l.length ≤ 1000) : Ev (fun k => gatherumref02_Get.f k (mk l)) (ExtBase.getDec l) := by
  have no : Ev (fun k => gatherumref02_Get.j0 k (mk l) true) (0, false) := ev_end fun k => by simp [gatherumref02_Get.j0]
  by_cases h0 : l = []
  · subst h0
    rw [getDec_no (by rintro ⟨v, _, e⟩; exact itoa_ne v e)]
    refine ev_map no (fun k hk => ?_)
    unfold gatherumref02_Get.f
    rw [if_pos (by simp)]
    exact hk
  · have hp : 0 < l.length := List.length_pos_iff.2 h0
    by_cases h20 : 20 < l.length
    · rw [getDec_no (by rintro ⟨v, hv, e⟩; have := itoa_len hv; rw [e] at this; omega)]
      refine ev_map no (fun k hk => ?_)
      unfold gatherumref02_Get.f
      rw [if_neg (by rw [mk_size]; omega), show decide (((mk l).size : Int) > 20) = true by rw [mk_size]; simp; omega]
      exact hk
    · obtain ⟨f, t, rfl⟩ : ∃ f t, l = f :: t := by
        cases l with
        | nil => exact absurd rfl h0
        | cons f t => exact ⟨f, t, rfl⟩
      have main := refget_first f t (by omega)
      have hval : (if f = 45 then (if t.all digB then doneZ (f :: t) (foldZ true 0 t) else (0, false)) else (if (f :: t).all digB then doneZ (f :: t) (foldZ false 0 (f :: t)) else (0, false))) = ExtBase.getDec (f :: t) := by
        by_cases hx : ∃ v, In64 v ∧ Lib.itoa v = f :: t
        · obtain ⟨v, hv, e⟩ := hx
          rw [← e, getDec_itoa hv, e]
          unfold In64 at hv
          unfold Lib.itoa at e
          by_cases hn : v < 0
          · rw [if_pos hn] at e
            injection e with e1 e2
            have hd := decDigits_dig v.natAbs
            rw [if_pos e1.symm, if_pos (digB_of (by rw [← e2]; exact hd))]
            have hf := foldZ_neg t 0 (by rw [← e2]; exact hd) (by rw [← e2, valF_decDigits]; omega)
            rw [← e2, valF_decDigits] at hf
            rw [← e2]
            rw [show foldZ true 0 (Lib.decDigits v.natAbs) = v by rw [show (0 : Int) = -((0 : Nat) : Int) from rfl, hf]; omega]
            unfold doneZ
            rw [if_pos (by unfold Lib.itoa; rw [if_pos hn, e1])]
          · rw [if_neg hn] at e
            have hd := decDigits_dig v.toNat
            rw [e] at hd
            have hf1 := hd f (by simp)
            unfold isDig at hf1
            rw [if_neg (by rintro rfl; revert hf1; decide), if_pos (digB_of hd)]
            have hf := foldZ_pos (f :: t) 0 hd (by rw [← e, valF_decDigits]; omega)
            rw [← e, valF_decDigits] at hf
            rw [← e, show foldZ false 0 (Lib.decDigits v.toNat) = v by rw [show (0 : Int) = ((0 : Nat) : Int) from rfl, hf]; omega]
            unfold doneZ
            rw [if_pos (by unfold Lib.itoa; rw [if_neg hn])]
        · rw [getDec_no hx]
          have hno : ∀ n, In64 n → doneZ (f :: t) n = (0, false) := fun n hn => by unfold doneZ; rw [if_neg (fun e => hx ⟨n, hn, e⟩)]
          have z : In64 0 := by unfold In64; omega
          rw [hno _ (foldZ_in _ _ _ z), hno _ (foldZ_in _ _ _ z)]
          simp
      rw [hval] at main
      have go : Ev (fun k => gatherumref02_Get.j0 k (mk (f :: t)) false) (ExtBase.getDec (f :: t)) := by
        refine ev_step main (fun k hk => ?_)
        simp only [gatherumref02_Get.j0]
        rw [if_neg (by decide)]
        exact hk
      refine ev_map go (fun k hk => ?_)
      unfold gatherumref02_Get.f
      rw [if_neg (by rw [mk_size]; omega), show decide (((mk (f :: t)).size : Int) > 20) = false by rw [mk_size]; simp at h20 ⊢; omega]
      exact hk

/-- What is read from lo to hi. -/
def withinL (d : Int × Bool) (lo hi : Int) : Int × Bool := if d.2 = true ∧ lo ≤ d.1 ∧ d.1 ≤ hi then (d.1, true) else (0, false)
theorem within_f (l : List UInt8) (h : l.length ≤ 281474976710656) (lo hi : Int) : dec_Within.f (mk l) lo hi = some (withinL (ExtBase.getDec l) lo hi) := by
  unfold dec_Within.f num_In.f withinL
  rw [get_ext l h]
  simp only [Option.bind_some]
  by_cases h2 : (ExtBase.getDec l).2 = true
  · by_cases h3 : lo ≤ (ExtBase.getDec l).1
    · by_cases h4 : (ExtBase.getDec l).1 ≤ hi
      · simp [h2, h3, h4]
      · simp [h2, h3, h4]
    · simp [h2, h3]
  · simp [h2]
def sideN (c : UInt8) : Int := if c = 76 then 1 else if c = 82 then 2 else if c = 66 then 3 else if c = 84 then 4 else 0
theorem side_get (c : UInt8) : ExtGet.words_Get.f 3 (mk [c]) = some (sideN c, decide (0 < sideN c)) := by
  have e : Lib.idxOfS ((ExtWords.wordsL 3).map fun l => (⟨l.toArray⟩ : ByteArray)) (mk [c]) + 1 = sideN c := by
    have hm : ∀ d : UInt8, ((⟨#[d]⟩ : ByteArray) = mk [c]) ↔ c = d := by
      intro d
      rw [show (⟨#[d]⟩ : ByteArray) = mk [d] from rfl, mk_inj]
      constructor
      · intro h; injection h with h1 h2; exact h1.symm
      · intro h; rw [h]
    rw [PkStep.sides]
    unfold sideN Lib.idxOfS
    simp only [List.map_cons, List.map_nil, Lib.idxFromS, hm]
    split
    · rfl
    · split
      · rfl
      · split
        · rfl
        · split <;> rfl
  unfold ExtGet.words_Get.f
  rw [e]
def none4 : Int × Int × Bool × Bool := (0, 0, false, false)
def fin_ (c : UInt8) (w : List UInt8) (u : Bool) : Int × Int × Bool × Bool :=
  if 0 < sideN c ∧ (withinL (ExtBase.getDec w) 1 64).2 = true then (sideN c, (ExtBase.getDec w).1, u, true) else none4
def splitU (l : List UInt8) : List UInt8 × Bool := if l.getLast? = some 117 then (l.dropLast, true) else (l, false)
theorem splitU_app (p : List UInt8) (z : UInt8) : splitU (p ++ [z]) = if z = 117 then (p, true) else (p ++ [z], false) := by
  unfold splitU
  simp
def rest_ (v : List UInt8) (u : Bool) : Int × Int × Bool × Bool := match v with
  | [] => none4
  | c :: w => fin_ c w u
def getL (l : List UInt8) : Int × Int × Bool × Bool := rest_ (splitU l).1 (splitU l).2
theorem within_fst (d : Int × Bool) (lo hi : Int) (h : (withinL d lo hi).2 = true) : (withinL d lo hi).1 = d.1 := by
  unfold withinL at h ⊢
  split
  · rfl
  · rename_i q; rw [if_neg q] at h; simp at h
theorem get_j0 (k : Nat) (v : List UInt8) (hv : v.length ≤ 140737488351232) (u : Bool) : step_Get.j0 (k + 1) (mk v) 0 0 u = some (rest_ v u) := by
  simp only [step_Get.j0, mk_toList]
  cases v with
  | nil => rw [if_pos rfl]; rfl
  | cons c w =>
    rw [if_neg (by simp), if_pos (by simp <;> omega), mk_extract_to_end, mk_extract]
    rw [show List.drop 0 (List.take 1 (c :: w)) = [c] from rfl, show List.drop 1 (c :: w) = w from rfl, side_get, within_f w (by simp at hv; omega)]
    simp only [Option.bind_some, rest_, fin_]
    by_cases h1 : 0 < sideN c
    · rw [decide_eq_true h1]
      by_cases h2 : (withinL (ExtBase.getDec w) 1 64).2 = true
      · simp only [h1, h2, if_true, and_self]
        rw [within_fst _ _ _ h2]
      · rw [if_pos rfl, if_neg h2, if_neg (fun q => h2 q.2)]; rfl
    · rw [decide_eq_false h1, if_neg (by decide), if_neg (fun q => h1 q.1)]; rfl
theorem get_f (k : Nat) (l : List UInt8) (hl : l.length ≤ 140737488351232) : step_Get.f (k + 1) (mk l) = some (getL l) := by
  unfold step_Get.f
  rw [mk_toList]
  rcases List.eq_nil_or_concat l with rfl | ⟨p, z, e⟩
  · rw [if_pos rfl]; rfl
  · rw [List.concat_eq_append] at e
    subst e
    have hp : p.length + 1 ≤ 140737488351232 := by simpa using hl
    rw [if_neg (by simp)]
    have hw : wrap64 (((mk (p ++ [z])).size : Int) - 1) = (p.length : Int) := by rw [wr (by simp <;> omega) (by simp <;> omega)]; simp
    rw [hw, if_pos (by omega), if_pos (by simp <;> omega), Int.toNat_natCast, mk_extract_to_end, mk_toList, mk_extract]
    rw [show List.drop p.length (p ++ [z]) = [z] by simp, show List.drop 0 (List.take p.length (p ++ [z])) = p by simp]
    unfold getL
    rw [splitU_app]
    by_cases hz : z = 117
    · subst hz
      rw [if_pos rfl, if_pos rfl]
      exact get_j0 k p (by omega) true
    · rw [if_neg (by simpa using hz), if_neg hz]
      exact get_j0 k (p ++ [z]) hl false
theorem right_f (s n : Int) (u : Bool) : gatherumref11_Right.f s n u = some (PkStep.okStep s n) := by
  unfold gatherumref11_Right.f gatherumref01_In.f PkStep.okStep
  by_cases q : s ≥ 1
  · rw [if_pos q]
    by_cases q2 : s ≤ 4
    · by_cases q3 : n ≥ 1
      · simp [q, q2, q3] <;> omega
      · simp [q, q2, q3] <;> omega
    · simp [q, q2] <;> omega
  · simp [q] <;> omega
theorem sideN_range (c : UInt8) : 0 ≤ sideN c ∧ sideN c ≤ 4 := by
  unfold sideN
  repeat' split
  all_goals omega
theorem ref_j1 (c : UInt8) (w : List UInt8) (hw : w.length ≤ 1000) (u : Bool) : Ev (fun k => gatherumref11_Step.j1 k (mk w) (sideN c) 0 u) (fin_ c w u) := by
  refine ev_step (refget_f w hw) (fun k hk => ?_)
  simp only [gatherumref11_Step.j1]
  rw [hk]
  simp only [Option.bind_some, right_f]
  unfold fin_ withinL PkStep.okStep
  have hs := sideN_range c
  by_cases h1 : (ExtBase.getDec w).2 = true
  · rw [if_pos h1]
    by_cases h2 : 1 ≤ (ExtBase.getDec w).1 ∧ (ExtBase.getDec w).1 ≤ 64
    · by_cases h3 : 0 < sideN c
      · rw [decide_eq_true (by omega), if_pos rfl, if_pos ⟨h3, by rw [if_pos ⟨h1, h2⟩]⟩]
      · rw [decide_eq_false (by omega), if_neg (by decide), if_neg (fun q => h3 q.1)]; rfl
    · rw [decide_eq_false (by omega), if_neg (by decide), if_neg (fun q => by have := q.2; rw [if_neg (fun z => h2 z.2)] at this; simp at this)]; rfl
  · rw [if_neg h1, if_neg (fun q => by have := q.2; rw [if_neg (fun z => h1 z.1)] at this; simp at this)]; rfl
theorem LRBT (i : Nat) (h : i < 4) : bt (⟨#[76, 82, 66, 84]⟩ : ByteArray) (i : Int) = [76, 82, 66, 84].getD i 0 := by
  match i, h with
  | 0, _ => rfl
  | 1, _ => rfl
  | 2, _ => rfl
  | 3, _ => rfl
  | n + 4, h => omega
theorem l0_step (k : Nat) (c : UInt8) (v : List UInt8) (i : Nat) (h : i < 4) (s : Int) :
    gatherumref11_Step.l0 (k + 1) (mk (c :: v)) (i : Int) s 0 false = gatherumref11_Step.l0 k (mk (c :: v)) ((i + 1 : Nat) : Int) (if (c.toNat : Int) = [76, 82, 66, 84].getD i 0 then ((i + 1 : Nat) : Int) else s) 0 false := by
  have hw : wrap64 ((i : Int) + 1) = ((i + 1 : Nat) : Int) := by rw [wr (by omega) (by omega)]; omega
  rw [gatherumref11_Step.l0]
  rw [if_pos (by omega), if_pos (by simp <;> omega), if_pos (by omega), bt_mk0, LRBT i h, hw]
  split <;> rfl
theorem ref_end (c : UInt8) (v : List UInt8) (hv : v.length ≤ 999) (h0 : v ≠ []) : Ev (fun k => gatherumref11_Step.l0 k (mk (c :: v)) 4 (sideN c) 0 false) (getL (c :: v)) := by
  rcases List.eq_nil_or_concat v with rfl | ⟨p, z, e⟩
  · exact absurd rfl h0
  · rw [List.concat_eq_append] at e
    subst e
    have hx : (mk (c :: (p ++ [z]))).extract 1 (mk (c :: (p ++ [z]))).size = mk (p ++ [z]) := mk_extract_to_end _ 1
    have hp : p.length + 1 ≤ 999 := by simpa using hv
    have hw : wrap64 (((mk (p ++ [z])).size : Int) - 1) = (p.length : Int) := by rw [wr (by simp <;> omega) (by simp <;> omega)]; simp
    have hb : bt (mk (p ++ [z])) (p.length : Int) = (z.toNat : Int) := bt_app p z [] _ rfl
    have hg : getL (c :: (p ++ [z])) = if z = 117 then fin_ c p true else fin_ c (p ++ [z]) false := by
      unfold getL
      rw [show c :: (p ++ [z]) = (c :: p) ++ [z] from rfl, splitU_app]
      split <;> rfl
    rw [hg]
    have he : (mk (p ++ [z])).extract 0 p.length = mk p := by rw [mk_extract]; simp
    by_cases hz : z = 117
    · rw [if_pos hz]
      refine ev_step (ref_j1 c p (by omega) true) (fun k hk => ?_)
      simp only [gatherumref11_Step.l0]
      rw [if_neg (by omega), if_pos (by simp <;> omega), hx, hw, if_pos (by omega), if_pos (by simp <;> omega), hb, if_pos (by rw [hz]; rfl), if_pos (by simp <;> omega), Int.toNat_natCast, he]
      exact hk
    · rw [if_neg hz]
      refine ev_step (ref_j1 c (p ++ [z]) (by simp <;> omega) false) (fun k hk => ?_)
      simp only [gatherumref11_Step.l0]
      rw [if_neg (by omega), if_pos (by simp <;> omega), hx, hw, if_pos (by omega), if_pos (by simp <;> omega), hb, if_neg (fun q => hz (UInt8.toNat_inj.1 (by simp; omega)))]
      exact hk
theorem ref_side (c : UInt8) : (if (c.toNat : Int) = 84 then (4 : Int) else if (c.toNat : Int) = 66 then 3 else if (c.toNat : Int) = 82 then 2 else if (c.toNat : Int) = 76 then 1 else 0) = sideN c := by
  have hc : ∀ d : UInt8, ((c.toNat : Int) = (d.toNat : Int)) ↔ c = d := by
    intro d
    rw [← UInt8.toNat_inj]; omega
  have e1 := hc 84; have e2 := hc 66; have e3 := hc 82; have e4 := hc 76
  simp only [show ((84 : UInt8).toNat : Int) = 84 from rfl, show ((66 : UInt8).toNat : Int) = 66 from rfl, show ((82 : UInt8).toNat : Int) = 82 from rfl, show ((76 : UInt8).toNat : Int) = 76 from rfl] at e1 e2 e3 e4
  unfold sideN
  simp only [e1, e2, e3, e4]
  by_cases h1 : c = 76
  · subst h1; rfl
  · by_cases h2 : c = 82
    · subst h2; rfl
    · by_cases h3 : c = 66
      · subst h3; rfl
      · by_cases h4 : c = 84
        · subst h4; rfl
        · rw [if_neg h4, if_neg h3, if_neg h2, if_neg h1, if_neg h1, if_neg h2, if_neg h3, if_neg h4]
theorem getDec_nil : ExtBase.getDec [] = (0, false) := by kernel_rfl
theorem ref_f (l : List UInt8) (hl : l.length ≤ 1000) : Ev (fun k => gatherumref11_Step.f k (mk l)) (getL l) := by
  match l, hl with
  | [], _ => exact ev_now (fun k => by unfold gatherumref11_Step.f; rw [if_pos (by decide)]; rfl)
  | [c], _ =>
    have e : getL [c] = none4 := by
      unfold getL
      rw [show [c] = [] ++ [c] from rfl, splitU_app]
      split
      · rfl
      · show fin_ c [] false = none4
        unfold fin_ withinL
        rw [getDec_nil]
        simp
    rw [e]
    exact ev_now (fun k => by unfold gatherumref11_Step.f; rw [if_pos (by simp)]; rfl)
  | c :: d :: t, hl =>
    obtain ⟨K, h⟩ := ref_end c (d :: t) (by simpa using hl) (by simp)
    refine ⟨K + 4, fun n hn => ?_⟩
    obtain ⟨m, rfl⟩ : ∃ m, n = m + 4 := ⟨n - 4, by omega⟩
    show gatherumref11_Step.f (m + 4) (mk (c :: d :: t)) = _
    unfold gatherumref11_Step.f
    rw [if_neg (by simp <;> omega)]
    have s0 := l0_step (m + 3) c (d :: t) 0 (by omega) 0
    have s1 := l0_step (m + 2) c (d :: t) 1 (by omega) (if (c.toNat : Int) = 76 then 1 else 0)
    have s2 := l0_step (m + 1) c (d :: t) 2 (by omega) (if (c.toNat : Int) = 82 then 2 else if (c.toNat : Int) = 76 then 1 else 0)
    have s3 := l0_step m c (d :: t) 3 (by omega) (if (c.toNat : Int) = 66 then 3 else if (c.toNat : Int) = 82 then 2 else if (c.toNat : Int) = 76 then 1 else 0)
    refine s0.trans (s1.trans (s2.trans (s3.trans ?_)))
    have := h m (by omega)
    rw [← ref_side c] at this
    exact this
theorem ref_put {v : Int} (h : In64 v) : Ev (fun k => gatherumref02_Put.f k v) (mk (Lib.itoa v)) := refput_f h
theorem side_text (s : Int) (h : 1 ≤ s ∧ s ≤ 4) : (⟨#[76, 82, 66, 84]⟩ : ByteArray).extract (s - 1).toNat s.toNat = mk (PkStep.side s) := by
  by_cases e1 : s = 1
  · subst e1; rfl
  · by_cases e2 : s = 2
    · subst e2; rfl
    · by_cases e3 : s = 3
      · subst e3; rfl
      · have e4 : s = 4 := by omega
        subst e4; rfl
theorem text_f (s n : Int) (u : Bool) (ho : PkStep.okStep s n = true) : Ev (fun k => gatherumref11_Text.f k s n u) (mk (PkStep.txt s n u)) := by
  have ho' := ho
  unfold PkStep.okStep at ho'
  simp only [decide_eq_true_eq] at ho'
  have hn : In64 n := by unfold In64; omega
  refine ev_map (ref_put hn) (fun k hk => ?_)
  have hlen := itoa_len hn
  have hsl := PkStep.side_len s
  unfold gatherumref11_Text.f PkStep.txt
  rw [wr (by omega) (by omega), if_pos (by omega), if_pos (by omega), if_pos (by omega), hk, side_text s ⟨ho'.1, ho'.2.1⟩, if_pos ho]
  simp only [Option.bind_some]
  rw [if_pos (by simp only [mk_size]; omega), mk_append]
  cases u with
  | true => rw [if_pos rfl, if_pos (by rw [mk_size]; simp; omega), mk_lit, mk_append]; rfl
  | false => rw [if_neg (by decide)]; simp
theorem sideN_side (s : Int) (h : 1 ≤ s ∧ s ≤ 4) : ∃ c, PkStep.side s = [c] ∧ sideN c = s := by
  by_cases e1 : s = 1
  · subst e1; exact ⟨76, rfl, rfl⟩
  · by_cases e2 : s = 2
    · subst e2; exact ⟨82, rfl, rfl⟩
    · by_cases e3 : s = 3
      · subst e3; exact ⟨66, rfl, rfl⟩
      · have e4 : s = 4 := by omega
        subst e4; exact ⟨84, rfl, rfl⟩
theorem itoa_last (n : Int) (hn : 1 ≤ n) : ∃ p z, Lib.itoa n = p ++ [z] ∧ z ≠ 117 := by
  have hne := itoa_ne n
  rcases List.eq_nil_or_concat (Lib.itoa n) with e | ⟨p, z, e⟩
  · exact absurd e hne
  · rw [List.concat_eq_append] at e
    refine ⟨p, z, e, fun hz => ?_⟩
    have hd : isDig z := by
      have : z ∈ Lib.itoa n := by rw [e]; simp
      unfold Lib.itoa at this
      rw [if_neg (by omega)] at this
      exact decDigits_dig _ z this
    unfold isDig at hd
    rw [hz] at hd
    exact absurd hd.2 (by decide)
theorem back (s n : Int) (u : Bool) (ho : PkStep.okStep s n = true) : getL (PkStep.txt s n u) = (s, n, u, true) := by
  have ho' := ho
  unfold PkStep.okStep at ho'
  simp only [decide_eq_true_eq] at ho'
  have hn : In64 n := by unfold In64; omega
  obtain ⟨c, hc, hs⟩ := sideN_side s ⟨ho'.1, ho'.2.1⟩
  have hf : ∀ b, fin_ c (Lib.itoa n) b = (s, n, b, true) := by
    intro b
    unfold fin_ withinL
    rw [getDec_itoa hn, hs, if_pos ⟨by omega, by rw [if_pos ⟨rfl, by show 1 ≤ n; omega, by show n ≤ 64; omega⟩]⟩]
  unfold PkStep.txt getL
  rw [if_pos ho, hc]
  cases u with
  | true =>
    rw [if_pos rfl, splitU_app, if_pos rfl]
    exact hf true
  | false =>
    obtain ⟨p, z, e, hz⟩ := itoa_last n (by omega)
    rw [if_neg (by decide), List.append_nil, e, ← List.append_assoc, splitU_app, if_neg hz, List.append_assoc, ← e]
    exact hf false
theorem alive_ (k : Nat) : gatherumlaw11_alive.f (k + 1) = some true := by
  unfold gatherumlaw11_alive.f
  rw [PkStep.after k 4 1 1 2 false (by unfold In64; omega) (by unfold In64; omega), PkStep.put_step k 2 1 true (by unfold In64; omega) (by unfold In64; omega)]
  rw [PkStep.aft_ok 4 1 1 2 (by unfold In64; omega) (by unfold In64; omega)]
  simp only [Option.bind_some, mk_toList]
  kernel_rfl
theorem txt_len (s n : Int) (u : Bool) (hn : In64 n) : (PkStep.txt s n u).length ≤ 100 := by
  have hlen := itoa_len hn
  have hsl := PkStep.side_len s
  unfold PkStep.txt
  split
  · cases u <;> (simp <;> omega)
  · simp
end Go.Proofs.YthkbomclongjgaaDoor.Pure.StepBackSim
namespace Go.Proofs.YthkbomclongjgaaDoor.Pure
open Go.RowKit Go.Proofs.YthkbomclongjgaaDoor.PStepBack Go.Proofs.YthkbomclongjgaaDoorW.PrintWords Go.Proofs.YthkbomclongjgaaDoorW.PrintLast Go.Proofs.YthkbomclongjgaaDoor.Pk StepBackSim

theorem StepBack : gatherumlaw11_StepBack.Pure := by
  intro x t w0 _
  obtain ⟨s, n, u⟩ := x
  obtain ⟨w2, w3, _⟩ := w0
  have hs := wf_i64 w2
  have hn := wf_i64 w3
  obtain ⟨l, rfl⟩ := exists_mk t
  simp only [] at hs hn ⊢
  by_cases hl : ((mk l).size : Int) > 100
  · refine ⟨1, ?_⟩
    unfold gatherumlaw11_StepBack.f
    rw [alive_]
    simp only [Option.bind_some, if_true, if_pos hl]
  · have hl2 : l.length ≤ 100 := by simp at hl; omega
    have hlast : Ev (fun k => gatherumlaw11_StepBack.j0 k false s n u) true := by
      cases ho : PkStep.okStep s n with
      | false =>
        refine ⟨2, fun k hk => ?_⟩
        obtain ⟨m, rfl⟩ : ∃ m, k = m + 2 := ⟨k - 2, by omega⟩
        simp only [gatherumlaw11_StepBack.j0, Bool.false_eq_true, if_false]
        rw [PkStep.put_step m s n u hs hn, right_f, ho]
        simp only [Option.bind_some, Bool.false_eq_true, if_false]
        have : PkStep.txt s n u = [] := by unfold PkStep.txt; rw [ho, if_neg (by decide)]
        rw [this, if_pos (mk_toList [])]
        rfl
      | true =>
        obtain ⟨K, h⟩ := text_f s n u ho
        refine ⟨K + 2, fun k hk => ?_⟩
        obtain ⟨m, rfl⟩ : ∃ m, k = m + 2 := ⟨k - 2, by omega⟩
        simp only [gatherumlaw11_StepBack.j0, Bool.false_eq_true, if_false]
        have hT : gatherumref11_Text.f (m + 1) s n u = some (mk (PkStep.txt s n u)) := h (m + 1) (by omega)
        have hlen := txt_len s n u hn
        rw [PkStep.put_step m s n u hs hn, right_f, ho]
        simp only [Option.bind_some, if_true]
        rw [get_f m _ (by omega), hT, back s n u ho]
        simp
    have e1 := hlast
    obtain ⟨K, hj⟩ := hlast
    obtain ⟨M, hr⟩ := ref_f l (by omega)
    refine ⟨K + M + 1, ?_⟩
    have hR : gatherumref11_Step.f (K + M + 1) (mk l) = some (getL l) := hr _ (by omega)
    unfold gatherumlaw11_StepBack.f
    rw [alive_]
    simp only [Option.bind_some, if_true, if_neg hl]
    rw [get_f _ _ (by omega), hR]
    simp only [Option.bind_some, beq_self_eq_true, Bool.not_true, Bool.or_self, Bool.false_eq_true, if_false, bne_self_eq_false]
    exact hj _ (by omega)
end Go.Proofs.YthkbomclongjgaaDoor.Pure
