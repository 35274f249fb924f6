/- Regions that draw their order: a plan tells in which order the abstract machine walks; the model may take any. -/
import Derived.Test.YtdijdlkljeibjaaDoorAm12
import Derived.OrdersHeld
namespace Go.Proofs.YtdijdlkljeibjaaDoor.AM
open Go Go.RowKit
set_option linter.unusedVariables false
set_option linter.unusedSimpArgs false

section
variable {P : Program} {ops : Array Oper} {Q : Exit → Act → World → Prop} {S0 S : World → Prop} {ds : List Nat} {md : Md} {fu : Nat}

/-- Operation d waits for i, by a chain. -/
def waitsFor (ops : Array Oper) (i : Nat) : Nat → Nat → Bool
  | 0, _ => false
  | n + 1, d => match ops[d]? with
    | some o => o.after.any fun e => Region.binds .any e && (e.on == i || waitsFor ops i n e.on)
    | none => false

/-- What is listed is closed. -/
def shutB (ops : Array Oper) (l : Array Bool) : Bool :=
  (List.range ops.size).all fun j => !l.getD j false || match ops[j]? with
    | some o => o.after.all fun e => !Region.binds .any e || l.getD e.on false
    | none => true

def allWait (ops : Array Oper) (l : Array Bool) (ds : List Nat) (i : Nat) : Bool := ds.all fun d => l.getD d true || waitsFor ops i ops.size d

def Shut' (ops : Array Oper) (l : Array Bool) : Prop := ∀ j oj, ops[j]? = some oj → l.getD j false = true → ∀ e ∈ oj.after, Region.binds .any e = true → l.getD e.on false = true

theorem shut_of {l : Array Bool} (h : shutB ops l = true) : Shut' ops l := by
  intro j oj hj hl e he hb
  have h1 := List.all_eq_true.1 h j (List.mem_range.2 (Array.getElem?_eq_some_iff.1 hj).1)
  simp only [hl, hj, Bool.not_true, Bool.false_or] at h1
  simpa [hb] using Array.all_eq_true_iff_forall_mem.1 h1 e he

theorem Shut'.set {l : Array Bool} {i : Nat} (h : Shut' ops l) (hi : i ∈ Region.ready .any ops l) : Shut' ops (l.setIfInBounds i true) := by
  obtain ⟨_, oi, hoi, hall⟩ := mem_ready.1 hi
  intro j oj hj hl e he hb
  by_cases hij : i = j
  · subst hij
    obtain rfl : oj = oi := Option.some.inj (hj.symm.trans hoi)
    exact getD_set_true (hall e he hb)
  · rw [getD_set_ne false hij] at hl
    exact getD_set_true (h j oj hj hl e he hb)

theorem waits_listed {l : Array Bool} {i : Nat} (hc : Shut' ops l) : ∀ (n d : Nat), waitsFor ops i n d = true → l.getD d false = true → l.getD i false = true
  | 0, _, h, _ => by simp [waitsFor] at h
  | n + 1, d, h, hl => by
    unfold waitsFor at h
    cases ho : ops[d]? with
    | none => rw [ho] at h; simp at h
    | some o =>
      rw [ho] at h
      obtain ⟨e, he, h1⟩ := Array.any_eq_true'.1 h
      simp only [Bool.and_eq_true, Bool.or_eq_true, beq_iff_eq] at h1
      have hle := hc d o ho hl e he h1.1
      rcases h1.2 with h2 | h2
      · rw [← h2]; exact hle
      · exact waits_listed hc n e.on h2 hle

theorem getD_two {l : Array Bool} {i : Nat} (h1 : l.getD i true = false) (h2 : l.getD i false = true) : False := by
  rcases Nat.lt_or_ge i l.size with h' | h'
  · simp [h'] at h1 h2
    rw [h1] at h2
    cases h2
  · simp [Array.getElem?_eq_none h'] at h1

theorem waits_not_ready {l : Array Bool} {i d n : Nat} (hc : Shut' ops l) (hr : waitsFor ops i n d = true) (hun : l.getD i true = false) : d ∉ Region.ready .any ops l := by
  intro hd
  obtain ⟨_, o, ho, hall⟩ := mem_ready.1 hd
  refine getD_two hun ?_
  cases n with
  | zero => simp [waitsFor] at hr
  | succ n =>
    unfold waitsFor at hr
    rw [ho] at hr
    obtain ⟨e, he, h1⟩ := Array.any_eq_true'.1 hr
    simp only [Bool.and_eq_true, Bool.or_eq_true, beq_iff_eq] at h1
    have hle := hall e he h1.1
    rcases h1.2 with h2 | h2
    · rw [← h2]; exact hle
    · exact waits_listed hc n e.on h2 hle

theorem yieldsIf_in {i : Nat} {o : Oper} {v : Value} {a : Act} {w : World} {K : Act → World → Prop} (hi : ops[i]? = some o) (hnd : ∀ c, o.op ≠ .defer c) (hy : YieldsIf P ops S o v a) (hs : S w) (h : K (a.put o.dst v) w) : wpOpIn md.fence fu P ops Q i K a w := by
  have hfn : ∀ f, o.about P w a.eval = some f → md.fence.fn f := fun _ _ => by cases md <;> trivial
  unfold wpOpIn
  rw [hi]
  simp only
  rcases hy with ⟨hw, hv⟩ | ⟨hw, rfl⟩
  · rw [if_pos hw]
    unfold Oper.wpIn
    rw [Oper.semAt_eq _ _ _ hnd, hv w hs]
    exact ⟨hfn, h⟩
  · rw [if_neg (by rw [hw]; simp)]
    exact ⟨hfn, h⟩

theorem wpOpIn_putIf {j : Nat} {oi oj : Oper} {v : Value} (hj : ops[j]? = some oj) (hnd : ∀ c, oj.op ≠ .defer c) (hap : oi.apart ops oj = true)
    (hsi : ∀ cs b, oi.op ≠ .select cs b) (hsj : ∀ cs b, oj.op ≠ .select cs b)
    (hQ : ∀ c a w, Q (.panic c) (a.put oi.dst v) w → Q (.panic c) a w) {K : Act → World → Prop} {a : Act} {w : World}
    (hy : YieldsIf P ops S oi v a) (h : wpOpIn md.fence fu P ops Q j K (a.put oi.dst v) w) :
    wpOpIn md.fence fu P ops Q j (fun a' w' => YieldsIf P ops S oi v a' ∧ K (a'.put oi.dst v) w') a w := by
  obtain ⟨h1, h2, h3⟩ := Oper.apart_spec hap
  have keep : ∀ (a : Act), YieldsIf P ops S oi v a → ∀ u, YieldsIf P ops S oi v (a.put oj.dst u) := fun a hy u =>
    hy.of_same (execOp_put oi hsi a oj.dst u h3) (wanted_put oi a oj.dst u h3)
  have keepD : ∀ d, YieldsIf P ops S oi v { a with defers := d :: a.defers } := fun d => hy.of_same rfl rfl
  have hfn : ∀ f, oj.about P w a.eval = some f → md.fence.fn f := fun _ _ => by cases md <;> trivial
  unfold wpOpIn at *
  simp only [hj] at *
  rw [wanted_put oj a oi.dst v h1] at h
  split
  · rename_i hw
    simp only [hw, if_true] at h
    unfold Oper.wpIn at *
    refine ⟨hfn, ?_⟩
    have h := h.2
    rw [Oper.semAt_eq _ _ _ hnd, execOp_put oj hsj a oi.dst v h1] at h
    rw [Oper.semAt_eq _ _ _ hnd]
    generalize (execOp a.eval oj).run P w = r at *
    cases r with
    | ok x w' =>
      cases x <;> simp only [Oper.uponIn] at h ⊢
      case value u => exact ⟨keep a hy u, by rw [← Act.put_comm a v u h2]; exact h⟩
      case skip => exact ⟨keep a hy _, by rw [← Act.put_comm a v undef h2]; exact h⟩
      case defer d =>
        refine ⟨keep _ (keepD d) _, ?_⟩
        rw [← Act.put_comm _ v undef h2, ← Act.put_defers]
        exact h
      case enter f args =>
        refine ⟨h.1, CallsIn.mono h.2 fun e w'' he => ?_⟩
        cases e with
        | returned u => exact ⟨keep a hy u, by rw [← Act.put_comm a v u h2]; exact he⟩
        | panicked c => exact hQ _ _ _ he
        | outgrown => exact he
      case row row args => exact ⟨h.1, RowsIn.mono h.2 fun u w'' he => ⟨keep a hy u, by rw [← Act.put_comm a v u h2]; exact he⟩⟩
      case round l f tmps assign body =>
        refine ⟨h.1, RoundIn.mono h.2 fun e w'' he => ?_⟩
        cases e with
        | returned u => exact ⟨keep a hy u, by rw [← Act.put_comm a v u h2]; exact he⟩
        | panicked c => exact hQ _ _ _ he
        | outgrown => exact he
    | halt x w' =>
      cases x <;> simp only [Oper.uponIn] at h ⊢
      case panic u => exact hQ _ _ _ h
  · rename_i hw
    simp only [hw] at h
    exact ⟨hfn, keep a hy _, by rw [← Act.put_comm a v undef h2]; exact h.2⟩

/-- Whatever order is drawn; S0 holds behind each operation, S behind each but those of ds. -/
def anyS (md : Md) (fu : Nat) (P : Program) (ops : Array Oper) (Q : Exit → Act → World → Prop) (S0 S : World → Prop) (ds : List Nat) : Nat → Array Bool → Act → World → Prop
  | 0, l, a, w => Region.ready .any ops l = [] ∧ Q .normal a w
  | n + 1, l, a, w => (Region.ready .any ops l = [] → Q .normal a w) ∧
    ∀ i ∈ Region.ready .any ops l, wpOpIn md.fence fu P ops Q i (fun a' w' => (S0 w' ∧ (i ∉ ds → S w → S w')) ∧ anyS md fu P ops Q S0 S ds n (l.setIfInBounds i true) a' w') a w

theorem anyS_any : ∀ (n : Nat) (l : Array Bool) (a : Act) (w : World), anyS md fu P ops Q S0 S ds n l a w → wpAnyIn md.fence fu P .any ops Q n l a w
  | 0, _, _, _, h => h
  | n + 1, _, _, _, h => ⟨h.1, fun i hi => wpOpIn_mono (fun a' w' h' => anyS_any n _ a' w' h'.2) (h.2 i hi)⟩

/-- An operation may be taken first: if B, it yields where S holds, and what breaks S waits for it; else it yields wherever. -/
theorem anyS_first {i : Nat} {oi : Oper} {v : Value} (B : Bool) (hi : ops[i]? = some oi) (hnd : ∀ (j : Nat) (o : Oper), ops[j]? = some o → ∀ c, o.op ≠ .defer c) (hsel : ∀ (j : Nat) (o : Oper) cs b, ops[j]? = some o → o.op ≠ .select cs b)
    (hQ : ∀ c a w, Q (.panic c) (a.put oi.dst v) w → Q (.panic c) a w) :
    ∀ (n : Nat) (l : Array Bool) (a : Act) (w : World),
      (∀ j oj, ops[j]? = some oj → j ≠ i → l.getD j true = false → (∀ e ∈ oj.after, Region.binds .any e = true → e.on ≠ i) → oi.apart ops oj = true) →
      (B = true → Shut' ops l ∧ ∀ d ∈ ds, l.getD d true = false → waitsFor ops i ops.size d = true) →
      i ∈ Region.ready .any ops l → YieldsIf P ops (fun w => S0 w ∧ (B = true → S w)) oi v a → S0 w → (B = true → S w) →
      anyS md fu P ops Q S0 S ds n (l.setIfInBounds i true) (a.put oi.dst v) w → anyS md fu P ops Q S0 S ds (n + 1) l a w := by
  intro n
  induction n with
  | zero =>
    intro l a w _ _ hr hy hS0 hS H
    refine ⟨fun h => (by rw [h] at hr; cases hr), fun j hj => ?_⟩
    by_cases hji : j = i
    · subst hji; exact yieldsIf_in hi (hnd _ _ hi) hy ⟨hS0, hS⟩ ⟨⟨hS0, fun _ h => h⟩, H⟩
    · have := ready_mono hj hji
      rw [H.1] at this
      cases this
  | succ n ih =>
    intro l a w hfree hB hr hy hS0 hS H
    refine ⟨fun h => (by rw [h] at hr; cases hr), fun j hj => ?_⟩
    by_cases hji : j = i
    · subst hji; exact yieldsIf_in hi (hnd _ _ hi) hy ⟨hS0, hS⟩ ⟨⟨hS0, fun _ h => h⟩, H⟩
    · have h1 := H.2 j (ready_mono hj hji)
      obtain ⟨hjun, oj, hoj, hall⟩ := mem_ready.1 hj
      have hiun := (mem_ready.1 hr).1
      have hnot : ∀ e ∈ oj.after, Region.binds .any e = true → e.on ≠ i := fun e he hb heq => by
        have h1 := hall e he hb
        rw [heq] at h1
        exact getD_two hiun h1
      have h2 := wpOpIn_putIf hoj (hnd _ _ hoj) (hfree j oj hoj hji hjun hnot) (fun cs b => hsel i oi cs b hi) (fun cs b => hsel j oj cs b hoj) hQ hy h1
      have hfree' : ∀ k ok, ops[k]? = some ok → k ≠ i → (l.setIfInBounds j true).getD k true = false →
          (∀ e ∈ ok.after, Region.binds .any e = true → e.on ≠ i) → oi.apart ops ok = true := fun k ok hk hki hun hno => by
        refine hfree k ok hk hki ?_ hno
        by_cases hjk : j = k
        · subst hjk; exact hjun
        · rw [getD_set_ne true hjk] at hun; exact hun
      have hB' : B = true → Shut' ops (l.setIfInBounds j true) ∧ ∀ d ∈ ds, (l.setIfInBounds j true).getD d true = false → waitsFor ops i ops.size d = true := fun hb => by
        obtain ⟨g1, g2⟩ := hB hb
        refine ⟨g1.set hj, fun d hm hun => g2 d hm ?_⟩
        by_cases hjk : j = d
        · subst hjk; exact hjun
        · rw [getD_set_ne true hjk] at hun; exact hun
      have hjd : B = true → j ∉ ds := fun hb hm => by
        obtain ⟨g1, g2⟩ := hB hb
        exact waits_not_ready g1 (g2 j hm hjun) hiun hj
      refine wpOpIn_mono (fun a' w' h3 => ⟨h3.2.1, ih (l.setIfInBounds j true) a' w' hfree' hB' (ready_mono hr (Ne.symm hji)) h3.1 h3.2.1.1 (fun hb => h3.2.1.2 (hjd hb) (hS hb)) ?_⟩) h2
      rw [Array.setIfInBounds_comm _ _ hji]
      exact h3.2.2
end

/-- A plan: operations, and how they are walked: 0: it yields wherever; 1: it yields where its block is as it was; 2: it alone may come up; 3: the same, and nothing is asked behind it; 4: as 2, and it may turn blocks that came since the start. two: either of two may come up. -/
abbrev Plan := List (Nat × Nat)
inductive PT where
  | fin
  | one (i m : Nat) (p : PT)
  | two (i m : Nat) (p : PT) (i' m' : Nat) (p' : PT)
  | three (i m : Nat) (p : PT) (i' m' : Nat) (p' : PT) (i'' m'' : Nat) (p'' : PT)
def PT.of : Plan → PT
  | [] => .fin
  | (i, m) :: p => .one i m (PT.of p)
/-- A plan behind a list. -/
def PT.pre : Plan → PT → PT
  | [], q => q
  | (i, m) :: p, q => .one i m (PT.pre p q)
def PT.len : PT → Nat
  | .fin => 0
  | .one _ _ p => p.len + 1
  | .two _ _ p _ _ _ => p.len + 1
  | .three _ _ p _ _ _ _ _ _ => p.len + 1

def comeB (ds : List Nat) (i m : Nat) : Bool := ((m == 2 || m == 4) && !ds.contains i) || (m == 3 && ds.contains i)
/-- What a plan asks of the operations' edges. -/
def planB (ops : Array Oper) (ds : List Nat) : PT → Array Bool → Bool
  | .fin, l => Region.ready .any ops l == []
  | .one i m p, l => (match ops[i]? with | some o => (comeB ds i m && Region.ready .any ops l == [i]) || (m < 2 && takeB o && Region.free .any ops l i && (Region.ready .any ops l).contains i && (m == 0 || (shutB ops l && allWait ops l ds i && ds.all fun d => !l.getD d false))) | none => false) &&
      planB ops ds p (l.setIfInBounds i true)
  | .two i m p i' m' p', l => comeB ds i m && comeB ds i' m' && Region.ready .any ops l == [i, i'] && p.len == p'.len && planB ops ds p (l.setIfInBounds i true) && planB ops ds p' (l.setIfInBounds i' true)
  | .three i m p i' m' p' i'' m'' p'', l => comeB ds i m && comeB ds i' m' && comeB ds i'' m'' && Region.ready .any ops l == [i, i', i''] && p.len == p'.len && p.len == p''.len && planB ops ds p (l.setIfInBounds i true) && planB ops ds p' (l.setIfInBounds i' true) && planB ops ds p'' (l.setIfInBounds i'' true)

def noDefer (ops : Array Oper) : Bool := ops.all fun o => match o.op with
  | .defer _ => false
  | _ => true
theorem noDefer_spec {ops : Array Oper} (h0 : noDefer ops = true) (i : Nat) (o : Oper) (ho : ops[i]? = some o) (c : Call) : o.op ≠ .defer c := by
  intro hc
  have := Array.all_eq_true.1 h0 i (Array.getElem?_eq_some_iff.1 ho).1
  rw [(Array.getElem?_eq_some_iff.1 ho).2, hc] at this
  cases this
def planOk (ops : Array Oper) (ds : List Nat) (p : PT) : Bool := noDefer ops && Region.noSelect ops && p.len == ops.size && planB ops ds p (Array.replicate ops.size false)

/-- The blocks that calls of a region may turn are kept, the others are out of sight. -/
def maskH (Z : List Nat) : Nat → Heap → Heap
  | _, [] => []
  | n, b :: bs => (match Z.contains n with | true => b | false => none) :: maskH Z (n + 1) bs
def unmaskH (Z : List Nat) : Nat → Heap → Heap → Heap
  | _, [], H' => H'
  | n, b :: bs, b' :: H' => (match Z.contains n with | true => b' | false => b) :: unmaskH Z (n + 1) bs H'
  | _, bs, [] => bs

/-- The abstract machine's walk by a plan. n0: the blocks that stood at the start; Z: those of them that calls may turn. -/
def acome (X : Ext) (tab : TypeId → Option TI) (ops : List Oper) (Z : List Nat) (n0 : Nat) (i m : Nat) (T : List V) (H : Heap) (K : List V → Heap → Prop) : Prop := match ops[i]? with
  | none => False
  | some o => match m with
    | 4 => match (H.take n0).all Option.isSome with
      | true => astep X tab ops o T (maskH (Z ++ List.range' n0 (H.length - n0)) 0 H) (fun T' H' => K T' (unmaskH (Z ++ List.range' n0 (H.length - n0)) 0 H H'))
      | false => False
    | 2 => astep X tab ops o T (maskH Z 0 H) (fun T' H' => K T' (unmaskH Z 0 H H'))
    | _ => astep X tab ops o T H K
def adr (X : Ext) (tab : TypeId → Option TI) (ops : List Oper) (Z : List Nat) (n0 : Nat) : PT → List V → Heap → (List V → Heap → Prop) → Prop
  | .fin, T, H, k => k T H
  | .two i m p i' m' p', T, H, k => acome X tab ops Z n0 i m T H (fun T' H' => adr X tab ops Z n0 p T' H' k) ∧ acome X tab ops Z n0 i' m' T H (fun T' H' => adr X tab ops Z n0 p' T' H' k)
  | .three i m p i' m' p' i'' m'' p'', T, H, k => acome X tab ops Z n0 i m T H (fun T' H' => adr X tab ops Z n0 p T' H' k) ∧ acome X tab ops Z n0 i' m' T H (fun T' H' => adr X tab ops Z n0 p' T' H' k) ∧ acome X tab ops Z n0 i'' m'' T H (fun T' H' => adr X tab ops Z n0 p'' T' H' k)
  | .one i m p, T, H, k => match m with
    | 0 => match ops[i]? with
      | none => False
      | some o => match loadId T o with
        | none => astep X tab ops o T H (fun T' H' => adr X tab ops Z n0 p T' H' k)
        | some _ => False
    | 1 => match ops[i]? with
      | none => False
      | some o => match loadId T o with
        | none => astep X tab ops o T H (fun T' H' => adr X tab ops Z n0 p T' H' k)
        | some id => match Z.contains id, Nat.blt id n0, H.getD id none with
          | false, true, some _ => astep X tab ops o T H (fun T' H' => adr X tab ops Z n0 p T' H' k)
          | _, _, _ => False
    | m + 2 => acome X tab ops Z n0 i (m + 2) T H (fun T' H' => adr X tab ops Z n0 p T' H' k)

theorem mask_get (Z : List Nat) : ∀ (n : Nat) (H : Heap) (i : Nat), (maskH Z n H)[i]? = (H[i]?).map fun b => if Z.contains (n + i) then b else none
  | n, [], i => by simp [maskH]
  | n, b :: bs, 0 => by simp only [maskH]; cases h : Z.contains n <;> simp [h]
  | n, b :: bs, i + 1 => by
    have := mask_get Z (n + 1) bs i
    simp only [maskH, List.getElem?_cons_succ, this, show n + 1 + i = n + (i + 1) by omega]
theorem mask_length (Z : List Nat) : ∀ (n : Nat) (H : Heap), (maskH Z n H).length = H.length
  | n, [] => rfl
  | n, b :: bs => by simp [maskH, mask_length Z (n + 1) bs]
theorem unmask_get (Z : List Nat) : ∀ (n : Nat) (H H' : Heap) (i : Nat), H.length ≤ H'.length → (unmaskH Z n H H')[i]? = match H[i]? with | some b => if Z.contains (n + i) then H'[i]? else some b | none => H'[i]?
  | n, [], H', i, _ => by simp [unmaskH]
  | n, b :: bs, [], i, h => by simp at h
  | n, b :: bs, b' :: H', 0, h => by simp only [unmaskH]; cases h : Z.contains n <;> simp [h]
  | n, b :: bs, b' :: H', i + 1, h => by
    have := unmask_get Z (n + 1) bs H' i (by simpa using h)
    simp only [unmaskH, List.getElem?_cons_succ, this, show n + 1 + i = n + (i + 1) by omega]
theorem unmask_length (Z : List Nat) : ∀ (n : Nat) (H H' : Heap), H.length ≤ H'.length → (unmaskH Z n H H').length = H'.length
  | n, [], H', _ => by simp [unmaskH]
  | n, b :: bs, [], h => by simp at h
  | n, b :: bs, b' :: H', h => by simp [unmaskH, unmask_length Z (n + 1) bs H' (by simpa using h)]

theorem WR.mask {W0 : World} {r : Pl} {fz : Fz} {H : Heap} {w : World} (h : WR W0 r fz H w) (Z : List Nat) : WR W0 r fz (maskH Z 0 H) w := by
  have hg : ∀ id x, (maskH Z 0 H)[id]? = some (some x) → H[id]? = some (some x) := fun id x hx => by
    rw [mask_get] at hx
    obtain ⟨b, hb, he⟩ := Option.map_eq_some_iff.1 hx
    split at he
    · rw [hb, he]
    · cases he
  exact ⟨h.below, h.froz, h.old, fun id hid => h.dom id (by rwa [mask_length] at hid), fun id x hx => h.live id x (hg id x hx), fun id id' x x' b o s e o' s' e' hx hx' => h.inj id id' x x' b o s e o' s' e' (hg _ _ hx) (hg _ _ hx')⟩

/-- What was walked with some blocks out of sight. -/
theorem unmask {W0 : World} {r r' : Pl} {fz fz' : Fz} {H H' : Heap} {w w' : World} {Z : List Nat} (hw : WR W0 r fz H w) (hw' : WR W0 r' fz' H' w') (hst : Stp r fz (maskH Z 0 H) w r' fz' H' w') :
    WR W0 r' fz' (unmaskH Z 0 H H') w' ∧ Stp r fz H w r' fz' (unmaskH Z 0 H H') w' ∧ ∀ b, b < w.heap.size → (∀ id ∈ Z, ∀ x o s e, H[id]? = some (some x) → r id ≠ some (.at_ true b o s e)) → w'.heap[b]? = w.heap[b]? := by
  have hle : H.length ≤ H'.length := by have := hst.len; rwa [mask_length] at this
  have hsub : Sub r r' := fun id x hx => by
    rcases Nat.lt_or_ge id H.length with hl | hl
    · rw [hst.ext id (by rw [mask_length]; exact hl)]; exact hx
    · rw [hw.dom id hl] at hx; cases hx
  have hown : ∀ b, Own r (maskH Z 0 H) b → ∃ id x o s e, id ∈ Z ∧ H[id]? = some (some x) ∧ r id = some (.at_ true b o s e) := by
    rintro b ⟨id, x, o, s, e, h1, h2⟩
    rw [mask_get] at h1
    obtain ⟨q, hq, he⟩ := Option.map_eq_some_iff.1 h1
    split at he
    · rename_i hz
      exact ⟨id, x, o, s, e, by simpa using hz, by rw [hq, he], h2⟩
    · cases he
  have hOwn : ∀ b, Own r (maskH Z 0 H) b → Own r H b := fun b hb => by
    obtain ⟨id, x, o, s, e, _, h1, h2⟩ := hown b hb
    exact ⟨id, x, o, s, e, h1, h2⟩
  have hno : ∀ id x b o s e, H[id]? = some (some x) → id ∉ Z → r id = some (.at_ true b o s e) → ¬ Own r (maskH Z 0 H) b := by
    intro id x b o s e hx hz hr ho
    obtain ⟨id', x', o', s', e', h1, h2, h3⟩ := hown b ho
    have := hw.inj _ _ _ _ _ _ _ _ _ _ _ hx h2 hr h3
    subst this
    exact hz h1
  have hcase : ∀ id x, (unmaskH Z 0 H H')[id]? = some (some x) → (id < H.length ∧ id ∉ Z ∧ H[id]? = some (some x)) ∨ (H'[id]? = some (some x) ∧ (id ∈ Z ∨ H.length ≤ id)) := by
    intro id x hx
    rw [unmask_get Z 0 H H' id hle] at hx
    cases hh : H[id]? with
    | none => rw [hh] at hx; exact .inr ⟨hx, .inr (List.getElem?_eq_none_iff.1 hh)⟩
    | some b =>
      rw [hh] at hx
      simp only at hx
      split at hx
      · rename_i hz; exact .inr ⟨hx, .inl (by simpa using hz)⟩
      · rename_i hz; exact .inl ⟨(List.getElem?_eq_some_iff.1 hh).1, by simpa using hz, hx⟩
  have hfar : ∀ id x b o s e, H'[id]? = some (some x) → r' id = some (.at_ true b o s e) → w.heap.size ≤ b ∨ Own r (maskH Z 0 H) b := fun id x b o s e hx hr => hst.own ⟨id, x, o, s, e, hx, hr⟩
  refine ⟨⟨hw'.below, hw'.froz, hw'.old, fun id hid => hw'.dom id (by rwa [unmask_length Z 0 H H' hle] at hid), fun id x hx => ?_, fun id id' x x' b o s e o' s' e' hx hx' hr hr' => ?_⟩,
    ⟨by rw [unmask_length Z 0 H H' hle]; exact hle, fun id hid => hst.ext id (by rw [mask_length]; exact hid), hst.phi, hst.size, fun id b o s e hid hr => ?_, fun id x hid hx => ?_, fun b hb hnb => hst.frame b hb (fun ho => hnb (hOwn b ho)), fun b o hb => ?_⟩, fun b hb hz => ?_⟩
  · rcases hcase id x hx with ⟨h1, h2, h3⟩ | ⟨h1, _⟩
    · rcases hw.live id x h3 with ⟨b, o, e, e1, e2, e4, e3⟩ | ⟨e1, e2⟩
      · cases hxr : x.rw with
        | true =>
          rw [hxr] at e1
          have hn := hno id x _ _ _ _ h3 h2 e1
          refine .inl ⟨b, o, e, by rw [hxr]; exact hsub _ _ e1, fun _ => ?_, fun h => (by rw [hxr] at h; cases h), (e3.of_block (hst.frame b e3.lt hn)).mono hsub⟩
          cases hfb : fz' b with
          | none => rfl
          | some ob =>
            rcases hst.newf b ob hfb with h5 | h5 | h5
            · rw [e2 hxr] at h5; cases h5
            · have := e3.lt; omega
            · exact absurd h5 hn
        | false =>
          obtain ⟨ob, hob⟩ := e4 hxr
          have hb : w'.heap[b]? = w.heap[b]? := by rw [hw'.froz b ob (hst.phi b ob hob), hw.froz b ob hob]
          exact .inl ⟨b, o, e, hsub _ _ e1, fun h => (by rw [hxr] at h; cases h), fun _ => ⟨ob, hst.phi b ob hob⟩, (e3.of_block hb).mono hsub⟩
      · exact .inr ⟨hsub _ _ e1, e2⟩
    · exact hw'.live id x h1
  · have hold : ∀ id, id < H.length → r' id = r id := fun id hid => hst.ext id (by rw [mask_length]; exact hid)
    rcases hcase id x hx with ⟨h1, h2, h3⟩ | ⟨h1, _⟩
    · rw [hold id h1] at hr
      have hn := hno id x _ _ _ _ h3 h2 hr
      have hblt := ((hw.live id x h3).at_ hr).2.2.2.2.lt
      rcases hcase id' x' hx' with ⟨h1', h2', h3'⟩ | ⟨h1', _⟩
      · rw [hold id' h1'] at hr'
        exact hw.inj _ _ _ _ _ _ _ _ _ _ _ h3 h3' hr hr'
      · rcases hfar id' x' _ _ _ _ h1' hr' with h5 | h5
        · omega
        · exact absurd h5 hn
    · rcases hcase id' x' hx' with ⟨h1', h2', h3'⟩ | ⟨h1', _⟩
      · rw [hold id' h1'] at hr'
        have hn := hno id' x' _ _ _ _ h3' h2' hr'
        have hblt := ((hw.live id' x' h3').at_ hr').2.2.2.2.lt
        rcases hfar id x _ _ _ _ h1 hr with h5 | h5
        · omega
        · exact absurd h5 hn
      · exact hw'.inj _ _ _ _ _ _ _ _ _ _ _ h1 h1' hr hr'
  · rcases hst.fresh _ _ _ _ _ (by rw [mask_length]; exact hid) hr with h5 | h5
    · exact .inl h5
    · exact .inr (hOwn b h5)
  · rcases hcase id x hx with ⟨h1, h2, h3⟩ | ⟨h1, h2⟩
    · exact ⟨x, h3⟩
    · obtain ⟨y, hy⟩ := hst.dead id x (by rw [mask_length]; exact hid) h1
      rw [mask_get] at hy
      obtain ⟨q, hq, he⟩ := Option.map_eq_some_iff.1 hy
      split at he
      · exact ⟨y, by rw [hq, he]⟩
      · cases he
  · rcases hst.newf b o hb with h5 | h5 | h5
    · exact .inl h5
    · exact .inr (.inl h5)
    · exact .inr (.inr (hOwn b h5))
  · refine hst.frame b hb fun ho => ?_
    obtain ⟨id, x, o, s, e, h1, h2, h3⟩ := hown b ho
    exact hz id h1 x o s e h2 h3

section
variable {P : Program} {W0 : World} {tab : TypeId → Option TI}

/-- One step that may be taken first. -/
theorem astep_take (ht : Tab P tab) {md : Md} {ops : Array Oper} {o : Oper} (hb : takeB o = true) {T : List V} {H : Heap} {k : List V → Heap → Prop} (h : astep (std P W0 md) tab ops.toList o T H k)
    {r : Pl} {fz : Fz} {a : Act} {w : World} (hw : WR W0 r fz H w) (hT : TR r T a.tmps) {S : World → Prop} (hS0 : ∀ w', S w' → ∀ b, b < W0.heap.size → w'.heap[b]? = W0.heap[b]?)
    (hS : ∀ w', S w' → ∀ id rw_ b q s e, loadId T o = some id → r id = some (.at_ rw_ b q s e) → w'.heap[b]? = w.heap[b]?) :
    ∃ v u, k (AM.put T o.dst v) H ∧ VR r v u ∧ YieldsIf P ops S o u a := by
  have hyes : aop (std P W0 md) tab o T H (fun v H' => k (AM.put T o.dst v) H') → Region.wanted o (yielded ops a.tmps) = true → ∃ v u, k (AM.put T o.dst v) H ∧ VR r v u ∧ YieldsIf P ops S o u a := fun hh hwt => by
    obtain ⟨v, h1, h2⟩ := aop_take ht hb hh
    obtain ⟨u, h3, h4⟩ := h2 r fz a w hw hT
    exact ⟨v, u, h1, h3, .inl ⟨hwt, fun w' hs => h4 w' (hS0 w' hs) (hS w' hs)⟩⟩
  have hno : k (AM.put T o.dst (.one .undef)) H → Region.wanted o (yielded ops a.tmps) = false → ∃ v u, k (AM.put T o.dst v) H ∧ VR r v u ∧ YieldsIf P ops S o u a := fun hh hwt =>
    ⟨_, undef, hh, by unfold VR CR; trivial, .inr ⟨hwt, rfl⟩⟩
  unfold astep at h
  cases hg : guardOf ops.toList T o with
  | none =>
    rw [hg] at h
    have : o.guard = none := by
      unfold guardOf at hg
      split at hg
      · assumption
      · split at hg
        · split at hg <;> cases hg
        · cases hg
    exact hyes h (by simp [Region.wanted, this])
  | some q =>
    obtain ⟨ob, want⟩ := q
    rw [hg] at h
    unfold guardOf at hg
    split at hg
    · cases hg
    · rename_i j want' hgd
      split at hg
      · rename_i d hd
        split at hg
        · rename_i b hb
          cases hg
          have hy := yielded_of hT hd hb
          have hwant : Region.wanted o (yielded ops a.tmps) = (b == want) := by simp [Region.wanted, hgd, hy]
          cases want <;> cases b
          · exact hyes (h.2 rfl) (by rw [hwant]; rfl)
          · exact hno (h.1 rfl) (by rw [hwant]; rfl)
          · exact hno (h.2 rfl) (by rw [hwant]; rfl)
          · exact hyes (h.1 rfl) (by rw [hwant]; rfl)
        · cases hg; exact h.elim
      · cases hg; exact h.elim

theorem ready_size {ops : Array Oper} {l : Array Bool} {i : Nat} {o : Oper} (hi : ops[i]? = some o) (h : (Region.ready .any ops l).contains i = true) : i ∈ Region.ready .any ops l := by simpa using h

theorem An.mask {md : Md} {r : Pl} {H : Heap} {Z : List Nat} (h : An md r H) : An md r (maskH Z 0 H) := by
  cases md with
  | it N r0 => exact ⟨by rw [mask_length]; exact h.1, h.2⟩
  | _ => trivial

theorem come_sound (ht : Tab P tab) {md : Md} {fu : Nat} {ops : Array Oper} {Z ds : List Nat} {n0 : Nat} {Q : Exit → Act → World → Prop}
    {r0 : Pl} {fz0 : Fz} {H0 : Heap} {w0 : World} (hw0 : WR W0 r0 fz0 H0 w0) (hA0 : An md r0 H0) (hn0 : H0.length = n0) (hZ : ∀ id ∈ Z, id < n0)
    (S : World → Prop) (hS : S = fun w' => ∀ b, b < w0.heap.size → (∀ id ∈ Z, ∀ x o s e, H0[id]? = some (some x) → r0 id ≠ some (.at_ true b o s e)) → w'.heap[b]? = w0.heap[b]?)
    {i m : Nat} {l : Array Bool} {T : List V} {H : Heap} {K : List V → Heap → Prop} (hc : comeB ds i m = true) (hrd : i ∈ Region.ready .any ops l) (h : acome (std P W0 md) tab ops.toList Z n0 i m T H K)
    {r : Pl} {fz : Fz} {a : Act} {w : World} (hw : WR W0 r fz H w) (hT : TR r T a.tmps) (hst : Stp r0 fz0 H0 w0 r fz H w) (hSw : (∀ d ∈ ds, l.getD d false = false) → S w) {A : Act → World → Prop}
    (hK : ∀ T' a' H' r' fz' w', K T' H' → TR r' T' a'.tmps → a'.defers = a.defers → WR W0 r' fz' H' w' → Stp r0 fz0 H0 w0 r' fz' H' w' → ((∀ d ∈ ds, (l.setIfInBounds i true).getD d false = false) → S w') → A a' w') :
    wpOpIn md.fence fu P ops Q i (fun a' w' => ((∀ b, b < W0.heap.size → w'.heap[b]? = W0.heap[b]?) ∧ (i ∉ ds → S w → S w')) ∧ A a' w') a w := by
  unfold acome at h
  unfold wpOpIn
  cases ho : ops[i]? with
  | none =>
    have : ops.toList[i]? = none := by simpa using ho
    rw [this] at h
    exact h.elim
  | some o =>
    have ho' : ops.toList[i]? = some o := by simpa using ho
    rw [ho'] at h
    simp only at h ⊢
    have hsub : (∀ d ∈ ds, (l.setIfInBounds i true).getD d false = false) → ∀ d ∈ ds, l.getD d false = false := fun hd d hm => by
      have := hd d hm
      by_cases hid : i = d
      · subst hid
        rcases Nat.lt_or_ge i l.size with hl | hl
        · simp [hl] at this
        · simp [Array.getElem?_eq_none hl]
      · rw [getD_set_ne false hid] at this; exact this
    simp only [comeB, Bool.or_eq_true, Bool.and_eq_true, beq_iff_eq, Bool.not_eq_true', List.contains_eq_mem, decide_eq_false_iff_not, decide_eq_true_eq] at hc
    rcases hc with ⟨rfl | rfl, hni⟩ | ⟨rfl, hi⟩
    · refine astepM_sound ht h (hw.mask Z) hT (An.mask (hA0.mono hst)) fun T' a' H' r' fz' w' hk hT' hdf hw' hst' => ?_
      obtain ⟨u1, u2, u3⟩ := unmask hw hw' hst'
      have hSS : S w → S w' := fun hs => by
        rw [hS] at hs ⊢
        intro b hb hz
        have hb' : b < w.heap.size := Nat.lt_of_lt_of_le hb hst.size
        rw [u3 b hb' (fun id hid x o s e hx hr => by
          have hlt := hZ id hid
          obtain ⟨y, hy⟩ := hst.dead id x (by omega) hx
          exact hz id hid y o s e hy (by rw [← hst.ext id (by omega)]; exact hr)), hs b hb hz]
      exact ⟨⟨u1.below.block, fun _ => hSS⟩, hK _ _ _ _ _ _ hk hT' hdf u1 (hst.trans u2) (fun hd' => hSS (hSw (hsub hd')))⟩
    · simp only at h
      split at h
      · rename_i hall
        have hall := List.all_eq_true.1 hall
        refine astepM_sound ht h (hw.mask _) hT (An.mask (hA0.mono hst)) fun T' a' H' r' fz' w' hk hT' hdf hw' hst' => ?_
        obtain ⟨u1, u2, u3⟩ := unmask hw hw' hst'
        have hSS : S w → S w' := fun hs => by
          rw [hS] at hs ⊢
          intro b hb hz
          have hb' : b < w.heap.size := Nat.lt_of_lt_of_le hb hst.size
          rw [u3 b hb' (fun id hid x o s e hx hr => by
            rcases List.mem_append.1 hid with hid | hid
            · have hlt := hZ id hid
              obtain ⟨y, hy⟩ := hst.dead id x (by omega) hx
              exact hz id hid y o s e hy (by rw [← hst.ext id (by omega)]; exact hr)
            · have hge : n0 ≤ id := by
                obtain ⟨q, _, hq⟩ := List.mem_range'.1 hid
                omega
              rcases hst.fresh id b o s e (by omega) hr with h5 | ⟨id0, x0, o0, s0, e0, k1, k2⟩
              · omega
              · have hlt0 : id0 < n0 := by
                  have := (List.getElem?_eq_some_iff.1 k1).1
                  omega
                have hlen := hst.len
                have hlt1 : id0 < H.length := by omega
                have hmem : H[id0] ∈ H.take n0 := by
                  rw [List.mem_take_iff_getElem]
                  exact ⟨id0, by omega, rfl⟩
                have hs1 := hall _ hmem
                obtain ⟨y, hy⟩ := Option.isSome_iff_exists.1 hs1
                have hy' : H[id0]? = some (some y) := by rw [List.getElem?_eq_getElem hlt1, hy]
                have := hw.inj _ _ _ _ _ _ _ _ _ _ _ hx hy' hr (by rw [hst.ext id0 (by omega)]; exact k2)
                omega), hs b hb hz]
        exact ⟨⟨u1.below.block, fun _ => hSS⟩, hK _ _ _ _ _ _ hk hT' hdf u1 (hst.trans u2) (fun hd' => hSS (hSw (hsub hd')))⟩
      · exact h.elim
    · refine astepM_sound ht h hw hT (hA0.mono hst) fun T' a' H' r' fz' w' hk hT' hdf hw' hst' => ?_
      refine ⟨⟨hw'.below.block, fun hn => absurd hi hn⟩, hK _ _ _ _ _ _ hk hT' hdf hw' (hst.trans hst') fun hd' => ?_⟩
      exfalso
      have := hd' i hi
      have hun := (mem_ready.1 hrd).1
      rcases Nat.lt_or_ge i l.size with hl | hl
      · simp [hl] at this
      · simp [Array.getElem?_eq_none hl] at hun

theorem adr_sound (ht : Tab P tab) {md : Md} {fu : Nat} {ops : Array Oper} {Z ds : List Nat} {n0 : Nat} {Q : Exit → Act → World → Prop} (hnd : noDefer ops = true) (hsel : Region.noSelect ops = true) (hQ : ∀ c a w, ¬ Q (.panic c) a w)
    {r0 : Pl} {fz0 : Fz} {H0 : Heap} {w0 : World} (hw0 : WR W0 r0 fz0 H0 w0) (hA0 : An md r0 H0) (hn0 : H0.length = n0) (hZ : ∀ id ∈ Z, id < n0) (k : List V → Heap → Prop)
    (S : World → Prop) (hS : S = fun w' => ∀ b, b < w0.heap.size → (∀ id ∈ Z, ∀ x o s e, H0[id]? = some (some x) → r0 id ≠ some (.at_ true b o s e)) → w'.heap[b]? = w0.heap[b]?) :
    ∀ (p : PT) {l : Array Bool} {T : List V} {H : Heap}, planB ops ds p l = true → adr (std P W0 md) tab ops.toList Z n0 p T H k → ∀ {r : Pl} {fz : Fz} {a : Act} {w : World}, WR W0 r fz H w → TR r T a.tmps → Stp r0 fz0 H0 w0 r fz H w → ((∀ d ∈ ds, l.getD d false = false) → S w) →
    (∀ T' a' H' r' fz' w', k T' H' → TR r' T' a'.tmps → a'.defers = a.defers → WR W0 r' fz' H' w' → Stp r0 fz0 H0 w0 r' fz' H' w' → Q .normal a' w') →
    anyS md fu P ops Q (fun w' => ∀ b, b < W0.heap.size → w'.heap[b]? = W0.heap[b]?) S ds p.len l a w
  | .fin, l, T, H, hp, h, r, fz, a, w, hw, hT, hst, hSw, hq => by
    unfold adr at h
    unfold planB at hp
    exact ⟨by simpa using hp, hq _ _ _ _ _ _ h hT rfl hw hst⟩
  | .one i m p, l, T, H, hp, h, r, fz, a, w, hw, hT, hst, hSw, hq => by
    unfold adr at h
    unfold planB at hp
    simp only [Bool.and_eq_true] at hp
    obtain ⟨hp0, hp5⟩ := hp
    cases ho : ops[i]? with
    | none => rw [ho] at hp0; cases hp0
    | some o =>
      have ho' : ops.toList[i]? = some o := by simpa using ho
      rw [ho'] at h
      rw [ho] at hp0
      simp only [Bool.or_eq_true, Bool.and_eq_true] at hp0
      have hput : ∀ (u : Value), (a.put o.dst u).defers = a.defers := fun u => by cases hd : o.dst <;> simp [Act.put]
      -- an operation that is taken first
      have htake : ∀ (B : Bool), m < 2 → (B = true → shutB ops l = true ∧ allWait ops l ds i = true ∧ ∀ d ∈ ds, l.getD d false = false) → takeB o = true → Region.free .any ops l i = true → (Region.ready .any ops l).contains i = true →
          (∀ id, loadId T o = some id → B = true ∧ id ∉ Z ∧ id < n0 ∧ ∃ x, H[id]? = some (some x)) → astep (std P W0 md) tab ops.toList o T H (fun T' H' => adr (std P W0 md) tab ops.toList Z n0 p T' H' k) →
          anyS md fu P ops Q (fun w' => ∀ b, b < W0.heap.size → w'.heap[b]? = W0.heap[b]?) S ds (PT.one i m p).len l a w := by
        intro B hm hB htk hfree hready hload hstep
        obtain ⟨v, u, h1, h2, h3⟩ := astep_take ht htk hstep hw hT (S := fun w' => (∀ b, b < W0.heap.size → w'.heap[b]? = W0.heap[b]?) ∧ (B = true → S w')) (fun w' hs => hs.1) (fun w' hs id rw_ b q s e hid hr => by
          obtain ⟨hb, hz, hlt, x, hx⟩ := hload id hid
          have hSw' := hs.2 hb
          have hSw0 := hSw (hB hb).2.2
          rw [hS] at hSw' hSw0
          have hr0 : r0 id = some (.at_ rw_ b q s e) := by rw [← hst.ext id (by omega)]; exact hr
          obtain ⟨y, hy⟩ := hst.dead id x (by omega) hx
          obtain ⟨_, _, hfn, hff, hbr⟩ := (hw0.live id y hy).at_ hr0
          have hblt := hbr.lt
          have hfar : ∀ id' ∈ Z, ∀ x o s e, H0[id']? = some (some x) → r0 id' ≠ some (.at_ true b o s e) := fun id' hz' x' o' s' e' hx' hr' => by
            cases rw_ with
            | true =>
              have := hw0.inj _ _ _ _ _ _ _ _ _ _ _ hy hx' hr0 hr'
              subst this
              exact hz hz'
            | false =>
              obtain ⟨ob, hob⟩ := hff rfl
              rw [((hw0.live id' x' hx').at_ hr').2.2.1 rfl] at hob
              cases hob
          rw [hSw' b hblt hfar, hSw0 b hblt hfar])
        refine anyS_first B ho (noDefer_spec hnd) (Region.noSelect_spec hsel) (fun c a w hq => absurd hq (hQ _ _ _)) _ l a w (Region.free_spec ho hfree) (fun hb => ⟨shut_of (hB hb).1, fun d hm hun => by
          have := List.all_eq_true.1 (hB hb).2.1 d hm
          rw [hun] at this
          simpa using this⟩) (ready_size ho hready) h3 hw.below.block (fun hb => hSw (hB hb).2.2) ?_
        refine adr_sound ht hnd hsel hQ hw0 hA0 hn0 hZ k S hS p hp5 h1 hw (hT.put _ h2) hst (fun hd => hSw fun d hm => ?_) fun T' a' H' r' fz' w' g1 g2 g3 => hq _ _ _ _ _ _ g1 g2 (g3.trans (hput u))
        have := hd d hm
        by_cases hid : i = d
        · subst hid
          rcases Nat.lt_or_ge i l.size with hl | hl
          · simp [hl] at this
          · simp [Array.getElem?_eq_none hl]
        · rw [getD_set_ne false hid] at this; exact this
      match m, hp0, h, htake with
      | 0, hp0, h, htake =>
        simp only at h
        have hp1 := hp0.resolve_left (by simp [comeB])
        simp at hp1
        split at h
        · rename_i hl
          exact htake false (by omega) (fun hb => by cases hb) hp1.1.1 hp1.1.2 (by simpa using hp1.2) (fun id hid => by rw [hl] at hid; cases hid) h
        · exact h.elim
      | 1, hp0, h, htake =>
        simp only at h
        have hp1 := hp0.resolve_left (by simp [comeB])
        simp at hp1
        obtain ⟨⟨⟨h1, h2⟩, h3⟩, ⟨h4, h5⟩, h6⟩ := hp1
        have hB : true = true → shutB ops l = true ∧ allWait ops l ds i = true ∧ ∀ d ∈ ds, l.getD d false = false := fun _ => ⟨h4, h5, fun d hd => by simpa using h6 d hd⟩
        split at h
        · rename_i hl
          exact htake true (by omega) hB h1 h2 (by simpa using h3) (fun id hid => by rw [hl] at hid; cases hid) h
        · rename_i id hl
          split at h
          · rename_i x hz hlt hx
            refine htake true (by omega) hB h1 h2 (by simpa using h3) (fun id' hid => ?_) h
            rw [hl] at hid
            cases hid
            refine ⟨rfl, by simpa using hz, Nat.le_of_ble_eq_true hlt, x, ?_⟩
            rw [List.getD_eq_getElem?_getD] at hx
            cases hh : H[id]? with
            | none => rw [hh] at hx; cases hx
            | some q => rw [hh] at hx; simp at hx; rw [hx]
          · exact h.elim
      | m + 2, hp0, h, htake =>
        simp only at h
        have hp1 := hp0.resolve_right (fun hh => absurd (of_decide_eq_true hh.1.1.1.1) (by omega))
        obtain ⟨hc, hr⟩ := hp1
        have hr : Region.ready .any ops l = [i] := by simpa using hr
        refine ⟨fun h0 => (by rw [hr] at h0; cases h0), fun j hj => ?_⟩
        have hj' := hj
        rw [hr] at hj
        simp only [List.mem_singleton] at hj
        subst hj
        exact come_sound ht hw0 hA0 hn0 hZ S hS hc hj' h hw hT hst hSw fun T' a' H' r' fz' w' hk hT' hdf hw' hst' hSw' =>
          adr_sound ht hnd hsel hQ hw0 hA0 hn0 hZ k S hS p hp5 hk hw' hT' hst' hSw' fun T2 a2 H2 r2 fz2 w2 g1 g2 g3 => hq _ _ _ _ _ _ g1 g2 (g3.trans hdf)
  | .two i m p i' m' p', l, T, H, hp, h, r, fz, a, w, hw, hT, hst, hSw, hq => by
    unfold adr at h
    unfold planB at hp
    simp only [Bool.and_eq_true] at hp
    obtain ⟨⟨⟨⟨⟨c1, c2⟩, hr⟩, hlen⟩, q1⟩, q2⟩ := hp
    have hr : Region.ready .any ops l = [i, i'] := by simpa using hr
    have hlen : p.len = p'.len := by simpa using hlen
    refine ⟨fun h0 => (by rw [hr] at h0; cases h0), fun j hj => ?_⟩
    have hj' := hj
    rw [hr] at hj
    simp only [List.mem_cons, List.not_mem_nil, or_false] at hj
    rcases hj with rfl | rfl
    · exact come_sound ht hw0 hA0 hn0 hZ S hS c1 hj' h.1 hw hT hst hSw fun T' a' H' r' fz' w' hk hT' hdf hw' hst' hSw' =>
        adr_sound ht hnd hsel hQ hw0 hA0 hn0 hZ k S hS p q1 hk hw' hT' hst' hSw' fun T2 a2 H2 r2 fz2 w2 g1 g2 g3 => hq _ _ _ _ _ _ g1 g2 (g3.trans hdf)
    · exact come_sound ht hw0 hA0 hn0 hZ S hS c2 hj' h.2 hw hT hst hSw fun T' a' H' r' fz' w' hk hT' hdf hw' hst' hSw' => by
        rw [hlen]
        exact adr_sound ht hnd hsel hQ hw0 hA0 hn0 hZ k S hS p' q2 hk hw' hT' hst' hSw' fun T2 a2 H2 r2 fz2 w2 g1 g2 g3 => hq _ _ _ _ _ _ g1 g2 (g3.trans hdf)
  | .three i m p i' m' p' i'' m'' p'', l, T, H, hp, h, r, fz, a, w, hw, hT, hst, hSw, hq => by
    unfold adr at h
    unfold planB at hp
    simp only [Bool.and_eq_true] at hp
    obtain ⟨⟨⟨⟨⟨⟨⟨⟨c1, c2⟩, c3⟩, hr⟩, hlen⟩, hlen2⟩, q1⟩, q2⟩, q3⟩ := hp
    have hr : Region.ready .any ops l = [i, i', i''] := by simpa using hr
    have hlen : p.len = p'.len := by simpa using hlen
    have hlen2 : p.len = p''.len := by simpa using hlen2
    refine ⟨fun h0 => (by rw [hr] at h0; cases h0), fun j hj => ?_⟩
    have hj' := hj
    rw [hr] at hj
    simp only [List.mem_cons, List.not_mem_nil, or_false] at hj
    rcases hj with rfl | rfl | rfl
    · exact come_sound ht hw0 hA0 hn0 hZ S hS c1 hj' h.1 hw hT hst hSw fun T' a' H' r' fz' w' hk hT' hdf hw' hst' hSw' =>
        adr_sound ht hnd hsel hQ hw0 hA0 hn0 hZ k S hS p q1 hk hw' hT' hst' hSw' fun T2 a2 H2 r2 fz2 w2 g1 g2 g3 => hq _ _ _ _ _ _ g1 g2 (g3.trans hdf)
    · exact come_sound ht hw0 hA0 hn0 hZ S hS c2 hj' h.2.1 hw hT hst hSw fun T' a' H' r' fz' w' hk hT' hdf hw' hst' hSw' => by
        rw [hlen]
        exact adr_sound ht hnd hsel hQ hw0 hA0 hn0 hZ k S hS p' q2 hk hw' hT' hst' hSw' fun T2 a2 H2 r2 fz2 w2 g1 g2 g3 => hq _ _ _ _ _ _ g1 g2 (g3.trans hdf)
    · exact come_sound ht hw0 hA0 hn0 hZ S hS c3 hj' h.2.2 hw hT hst hSw fun T' a' H' r' fz' w' hk hT' hdf hw' hst' hSw' => by
        rw [hlen2]
        exact adr_sound ht hnd hsel hQ hw0 hA0 hn0 hZ k S hS p'' q3 hk hw' hT' hst' hSw' fun T2 a2 H2 r2 fz2 w2 g1 g2 g3 => hq _ _ _ _ _ _ g1 g2 (g3.trans hdf)

theorem m_drawT (ht : Tab P tab) {X : Ext} {md : Md} (hX : X = std P W0 md) (Z ds : List Nat) (p : PT) {ops : List Oper} {T : List V} {H : Heap} {k : List V → Heap → Prop} (hp : planOk ops.toArray ds p = true) (hZ : ∀ id ∈ Z, id < H.length)
    (h : adr X tab ops Z H.length p T H k) : X.draw ops T H k := by
  subst hX
  intro id n0 lo r fz a w hw hT hd hA
  unfold planOk at hp
  simp only [Bool.and_eq_true, beq_iff_eq] at hp
  obtain ⟨⟨⟨h0, h1⟩, h2⟩, h3⟩ := hp
  refine wpIn_region_any ht.mixed (anyS_any (S0 := fun w' => ∀ b, b < W0.heap.size → w'.heap[b]? = W0.heap[b]?) (S := fun w' => ∀ b, b < w.heap.size → (∀ id ∈ Z, ∀ x o s e, H[id]? = some (some x) → r id ≠ some (.at_ true b o s e)) → w'.heap[b]? = w.heap[b]?) (ds := ds) _ _ _ _ ?_)
  obtain ⟨hwd, hstd⟩ := hw.drew (w' := { w with drawn := w.drawn + 1 }) rfl rfl rfl rfl
  rw [← h2] at h3 ⊢
  refine adr_sound ht h0 h1 (fun c a w hq => ?_) hwd hA rfl hZ k _ rfl p h3 h hwd hT (Stp.refl hwd) (fun _ b _ _ => rfl) fun T' a' H' r' fz' w' hk hT' hdf hw' hst => ?_
  · obtain ⟨e, n, T', H', r', fz', h1, _⟩ := hq
    exact h1
  · exact ⟨0, 0, T', H', r', fz', rfl, ⟨rfl, rfl, hk⟩, hw', hT', hdf ▸ hd.mono (hstd.trans hst), hstd.trans hst⟩
theorem m_draw (ht : Tab P tab) {X : Ext} {md : Md} (hX : X = std P W0 md) (Z ds : List Nat) (p : Plan) {ops : List Oper} {T : List V} {H : Heap} {k : List V → Heap → Prop} (hp : planOk ops.toArray ds (PT.of p) = true) (hZ : ∀ id ∈ Z, id < H.length)
    (h : adr X tab ops Z H.length (PT.of p) T H k) : X.draw ops T H k := m_drawT ht hX Z ds _ hp hZ h
/-- A draw, what it comes to told alike for all orders. -/
theorem m_drawAs {X : Ext} {md : Md} (hX : X = std P W0 md) (T1 : List V) (H1 : Heap) {ops : List Oper} {T : List V} {H : Heap} {k : List V → Heap → Prop} (hd : X.draw ops T H fun T' H' => As H.length T' H' T1 H1) (hk : k T1 H1) : X.draw ops T H k := by
  subst hX
  intro id n0 lo r fz a w hw hT hds hA
  refine wpIn_mono (hd id n0 lo r fz a w hw hT hds hA) fun ex a' w' hq => ?_
  obtain ⟨e, n, T', H', r', fz', h1, ⟨h2, h3, σ, k1, k2, k3, k4⟩, h4, h5, h6, h7⟩ := hq
  exact ⟨e, n, T1, H1, reN σ r', fz', h1, ⟨h2, h3, hk⟩, h4.weaken k1 k2, h5.weaken k4, h6, h7.weaken h4 k1 k2 k3⟩
end
end Go.Proofs.YtdijdlkljeibjaaDoor.AM
