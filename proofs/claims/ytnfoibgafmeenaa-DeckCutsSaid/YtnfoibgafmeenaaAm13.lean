/- Regions that draw their order: a plan tells in which order the abstract machine walks; the model may take any. -/
import Derived.Test.YtnfoibgafmeenaaAm12
import Derived.OrdersHeld
namespace Go.Proofs.Ytnfoibgafmeenaa.AM
open Go Go.RowKit
set_option linter.unusedVariables false
set_option linter.unusedSimpArgs false

section
variable {P : Program} {ops : Array Oper} {Q : Exit → Act → World → Prop} {S0 S : World → Prop} {ds : List Nat}

/-- Operation d waits for i, by a chain. -/
def waitsFor (ops : Array Oper) (i : Nat) : Nat → Nat → Bool
  | 0, _ => false
  | n + 1, d => match ops[d]? with
    | some o => o.after.any fun e => Region.binds .any e && (e.on == i || waitsFor ops i n e.on)
    | none => false

/-- What is listed is closed. -/
def shutB (ops : Array Oper) (l : Array Bool) : Bool :=
  (List.range ops.size).all fun j => !l.getD j false || match ops[j]? with
    | some o => o.after.all fun e => !Region.binds .any e || l.getD e.on false
    | none => true

def allWait (ops : Array Oper) (l : Array Bool) (ds : List Nat) (i : Nat) : Bool := ds.all fun d => l.getD d true || waitsFor ops i ops.size d

def Shut' (ops : Array Oper) (l : Array Bool) : Prop := ∀ j oj, ops[j]? = some oj → l.getD j false = true → ∀ e ∈ oj.after, Region.binds .any e = true → l.getD e.on false = true

theorem shut_of {l : Array Bool} (h : shutB ops l = true) : Shut' ops l := by
  intro j oj hj hl e he hb
  have h1 := List.all_eq_true.1 h j (List.mem_range.2 (Array.getElem?_eq_some_iff.1 hj).1)
  simp only [hl, hj, Bool.not_true, Bool.false_or] at h1
  simpa [hb] using Array.all_eq_true_iff_forall_mem.1 h1 e he

theorem Shut'.set {l : Array Bool} {i : Nat} (h : Shut' ops l) (hi : i ∈ Region.ready .any ops l) : Shut' ops (l.setIfInBounds i true) := by
  obtain ⟨_, oi, hoi, hall⟩ := mem_ready.1 hi
  intro j oj hj hl e he hb
  by_cases hij : i = j
  · subst hij
    obtain rfl : oj = oi := Option.some.inj (hj.symm.trans hoi)
    exact getD_set_true (hall e he hb)
  · rw [getD_set_ne false hij] at hl
    exact getD_set_true (h j oj hj hl e he hb)

theorem waits_listed {l : Array Bool} {i : Nat} (hc : Shut' ops l) : ∀ (n d : Nat), waitsFor ops i n d = true → l.getD d false = true → l.getD i false = true
  | 0, _, h, _ => by simp [waitsFor] at h
  | n + 1, d, h, hl => by
    unfold waitsFor at h
    cases ho : ops[d]? with
    | none => rw [ho] at h; simp at h
    | some o =>
      rw [ho] at h
      obtain ⟨e, he, h1⟩ := Array.any_eq_true'.1 h
      simp only [Bool.and_eq_true, Bool.or_eq_true, beq_iff_eq] at h1
      have hle := hc d o ho hl e he h1.1
      rcases h1.2 with h2 | h2
      · rw [← h2]; exact hle
      · exact waits_listed hc n e.on h2 hle

theorem getD_two {l : Array Bool} {i : Nat} (h1 : l.getD i true = false) (h2 : l.getD i false = true) : False := by
  rcases Nat.lt_or_ge i l.size with h' | h'
  · simp [h'] at h1 h2
    rw [h1] at h2
    cases h2
  · simp [Array.getElem?_eq_none h'] at h1

theorem waits_not_ready {l : Array Bool} {i d n : Nat} (hc : Shut' ops l) (hr : waitsFor ops i n d = true) (hun : l.getD i true = false) : d ∉ Region.ready .any ops l := by
  intro hd
  obtain ⟨_, o, ho, hall⟩ := mem_ready.1 hd
  refine getD_two hun ?_
  cases n with
  | zero => simp [waitsFor] at hr
  | succ n =>
    unfold waitsFor at hr
    rw [ho] at hr
    obtain ⟨e, he, h1⟩ := Array.any_eq_true'.1 hr
    simp only [Bool.and_eq_true, Bool.or_eq_true, beq_iff_eq] at h1
    have hle := hall e he h1.1
    rcases h1.2 with h2 | h2
    · rw [← h2]; exact hle
    · exact waits_listed hc n e.on h2 hle

/-- Whatever order is drawn; S0 holds behind each operation, S behind each but those of ds. -/
def anyS (P : Program) (ops : Array Oper) (Q : Exit → Act → World → Prop) (S0 S : World → Prop) (ds : List Nat) : Nat → Array Bool → Act → World → Prop
  | 0, l, a, w => Region.ready .any ops l = [] ∧ Q .normal a w
  | n + 1, l, a, w => (Region.ready .any ops l = [] → Q .normal a w) ∧
    ∀ i ∈ Region.ready .any ops l, wpOp P ops Q i (fun a' w' => (S0 w' ∧ (i ∉ ds → S w → S w')) ∧ anyS P ops Q S0 S ds n (l.setIfInBounds i true) a' w') a w

theorem anyS_any : ∀ (n : Nat) (l : Array Bool) (a : Act) (w : World), anyS P ops Q S0 S ds n l a w → wpAny P .any ops Q n l a w
  | 0, _, _, _, h => h
  | n + 1, _, _, _, h => ⟨h.1, fun i hi => wpOp_mono (fun a' w' h' => anyS_any n _ a' w' h'.2) (h.2 i hi)⟩

/-- An operation may be taken first: if B, it yields where S holds, and what breaks S waits for it; else it yields wherever. -/
theorem anyS_first {i : Nat} {oi : Oper} {v : Value} (B : Bool) (hi : ops[i]? = some oi) (hsel : ∀ (j : Nat) (o : Oper) cs b, ops[j]? = some o → o.op ≠ .select cs b)
    (hQ : ∀ c a w, Q (.panic c) (a.put oi.dst v) w → Q (.panic c) a w) :
    ∀ (n : Nat) (l : Array Bool) (a : Act) (w : World),
      (∀ j oj, ops[j]? = some oj → j ≠ i → l.getD j true = false → (∀ e ∈ oj.after, Region.binds .any e = true → e.on ≠ i) → oi.apart ops oj = true) →
      (B = true → Shut' ops l ∧ ∀ d ∈ ds, l.getD d true = false → waitsFor ops i ops.size d = true) →
      i ∈ Region.ready .any ops l → YieldsIf P ops (fun w => S0 w ∧ (B = true → S w)) oi v a → S0 w → (B = true → S w) →
      anyS P ops Q S0 S ds n (l.setIfInBounds i true) (a.put oi.dst v) w → anyS P ops Q S0 S ds (n + 1) l a w := by
  intro n
  induction n with
  | zero =>
    intro l a w _ _ hr hy hS0 hS H
    refine ⟨fun h => (by rw [h] at hr; cases hr), fun j hj => ?_⟩
    by_cases hji : j = i
    · subst hji; exact hy.wpOp hi ⟨hS0, hS⟩ ⟨⟨hS0, fun _ h => h⟩, H⟩
    · have := ready_mono hj hji
      rw [H.1] at this
      cases this
  | succ n ih =>
    intro l a w hfree hB hr hy hS0 hS H
    refine ⟨fun h => (by rw [h] at hr; cases hr), fun j hj => ?_⟩
    by_cases hji : j = i
    · subst hji; exact hy.wpOp hi ⟨hS0, hS⟩ ⟨⟨hS0, fun _ h => h⟩, H⟩
    · have h1 := H.2 j (ready_mono hj hji)
      obtain ⟨hjun, oj, hoj, hall⟩ := mem_ready.1 hj
      have hiun := (mem_ready.1 hr).1
      have hnot : ∀ e ∈ oj.after, Region.binds .any e = true → e.on ≠ i := fun e he hb heq => by
        have h1 := hall e he hb
        rw [heq] at h1
        exact getD_two hiun h1
      have h2 := wpOp_putIf hoj (hfree j oj hoj hji hjun hnot) (fun cs b => hsel i oi cs b hi) (fun cs b => hsel j oj cs b hoj) hQ hy h1
      have hfree' : ∀ k ok, ops[k]? = some ok → k ≠ i → (l.setIfInBounds j true).getD k true = false →
          (∀ e ∈ ok.after, Region.binds .any e = true → e.on ≠ i) → oi.apart ops ok = true := fun k ok hk hki hun hno => by
        refine hfree k ok hk hki ?_ hno
        by_cases hjk : j = k
        · subst hjk; exact hjun
        · rw [getD_set_ne true hjk] at hun; exact hun
      have hB' : B = true → Shut' ops (l.setIfInBounds j true) ∧ ∀ d ∈ ds, (l.setIfInBounds j true).getD d true = false → waitsFor ops i ops.size d = true := fun hb => by
        obtain ⟨g1, g2⟩ := hB hb
        refine ⟨g1.set hj, fun d hm hun => g2 d hm ?_⟩
        by_cases hjk : j = d
        · subst hjk; exact hjun
        · rw [getD_set_ne true hjk] at hun; exact hun
      have hjd : B = true → j ∉ ds := fun hb hm => by
        obtain ⟨g1, g2⟩ := hB hb
        exact waits_not_ready g1 (g2 j hm hjun) hiun hj
      refine wpOp_mono (fun a' w' h3 => ⟨h3.2.1, ih (l.setIfInBounds j true) a' w' hfree' hB' (ready_mono hr (Ne.symm hji)) h3.1 h3.2.1.1 (fun hb => h3.2.1.2 (hjd hb) (hS hb)) ?_⟩) h2
      rw [Array.setIfInBounds_comm _ _ hji]
      exact h3.2.2
end

/-- A step of a plan: an operation, and how it is walked: 0: it yields wherever; 1: it yields where its block is as it was; 2: it alone may come up; 3: the same, and nothing is asked behind it. -/
abbrev Plan := List (Nat × Nat)

/-- What a plan asks of the operations' edges. -/
def planB (ops : Array Oper) (ds : List Nat) : Plan → Array Bool → Bool
  | [], l => Region.ready .any ops l == []
  | (i, m) :: p, l => (match ops[i]? with | some o => (m == 2 || m == 3 || (m < 2 && takeB o && Region.free .any ops l i && (Region.ready .any ops l).contains i && (m == 0 || (shutB ops l && allWait ops l ds i && ds.all fun d => !l.getD d false)))) | none => false) &&
      (m < 2 || Region.ready .any ops l == [i]) && (m != 2 || !ds.contains i) && (m != 3 || ds.contains i) && planB ops ds p (l.setIfInBounds i true)

def planOk (ops : Array Oper) (ds : List Nat) (p : Plan) : Bool := Region.noSelect ops && p.length == ops.size && planB ops ds p (Array.replicate ops.size false)

/-- The blocks that calls of a region may turn are kept, the others are out of sight. -/
def maskH (Z : List Nat) : Nat → Heap → Heap
  | _, [] => []
  | n, b :: bs => (match Z.contains n with | true => b | false => none) :: maskH Z (n + 1) bs
def unmaskH (Z : List Nat) : Nat → Heap → Heap → Heap
  | _, [], H' => H'
  | n, b :: bs, b' :: H' => (match Z.contains n with | true => b' | false => b) :: unmaskH Z (n + 1) bs H'
  | _, bs, [] => bs

/-- The abstract machine's walk by a plan. n0: the blocks that stood at the start; Z: those of them that calls may turn. -/
def adr (X : Ext) (tab : TypeId → Option TI) (ops : List Oper) (Z : List Nat) (n0 : Nat) : Plan → List V → Heap → (List V → Heap → Prop) → Prop
  | [], T, H, k => k T H
  | (i, m) :: p, T, H, k => match ops[i]? with
    | none => False
    | some o => match m with
      | 0 => match loadId T o with
        | none => astep X tab ops o T H (fun T' H' => adr X tab ops Z n0 p T' H' k)
        | some _ => False
      | 1 => match loadId T o with
        | none => astep X tab ops o T H (fun T' H' => adr X tab ops Z n0 p T' H' k)
        | some id => match Z.contains id, Nat.blt id n0, H.getD id none with
          | false, true, some _ => astep X tab ops o T H (fun T' H' => adr X tab ops Z n0 p T' H' k)
          | _, _, _ => False
      | 2 => astep X tab ops o T (maskH Z 0 H) (fun T' H' => adr X tab ops Z n0 p T' (unmaskH Z 0 H H') k)
      | _ => astep X tab ops o T H (fun T' H' => adr X tab ops Z n0 p T' H' k)

theorem mask_get (Z : List Nat) : ∀ (n : Nat) (H : Heap) (i : Nat), (maskH Z n H)[i]? = (H[i]?).map fun b => if Z.contains (n + i) then b else none
  | n, [], i => by simp [maskH]
  | n, b :: bs, 0 => by simp only [maskH]; cases h : Z.contains n <;> simp [h]
  | n, b :: bs, i + 1 => by
    have := mask_get Z (n + 1) bs i
    simp only [maskH, List.getElem?_cons_succ, this, show n + 1 + i = n + (i + 1) by omega]
theorem mask_length (Z : List Nat) : ∀ (n : Nat) (H : Heap), (maskH Z n H).length = H.length
  | n, [] => rfl
  | n, b :: bs => by simp [maskH, mask_length Z (n + 1) bs]
theorem unmask_get (Z : List Nat) : ∀ (n : Nat) (H H' : Heap) (i : Nat), H.length ≤ H'.length → (unmaskH Z n H H')[i]? = match H[i]? with | some b => if Z.contains (n + i) then H'[i]? else some b | none => H'[i]?
  | n, [], H', i, _ => by simp [unmaskH]
  | n, b :: bs, [], i, h => by simp at h
  | n, b :: bs, b' :: H', 0, h => by simp only [unmaskH]; cases h : Z.contains n <;> simp [h]
  | n, b :: bs, b' :: H', i + 1, h => by
    have := unmask_get Z (n + 1) bs H' i (by simpa using h)
    simp only [unmaskH, List.getElem?_cons_succ, this, show n + 1 + i = n + (i + 1) by omega]
theorem unmask_length (Z : List Nat) : ∀ (n : Nat) (H H' : Heap), H.length ≤ H'.length → (unmaskH Z n H H').length = H'.length
  | n, [], H', _ => by simp [unmaskH]
  | n, b :: bs, [], h => by simp at h
  | n, b :: bs, b' :: H', h => by simp [unmaskH, unmask_length Z (n + 1) bs H' (by simpa using h)]

theorem WR.mask {W0 : World} {r : Pl} {fz : Fz} {H : Heap} {w : World} (h : WR W0 r fz H w) (Z : List Nat) : WR W0 r fz (maskH Z 0 H) w := by
  have hg : ∀ id x, (maskH Z 0 H)[id]? = some (some x) → H[id]? = some (some x) := fun id x hx => by
    rw [mask_get] at hx
    obtain ⟨b, hb, he⟩ := Option.map_eq_some_iff.1 hx
    split at he
    · rw [hb, he]
    · cases he
  exact ⟨h.below, h.froz, h.old, fun id hid => h.dom id (by rwa [mask_length] at hid), fun id x hx => h.live id x (hg id x hx), fun id id' x x' b o s e o' s' e' hx hx' => h.inj id id' x x' b o s e o' s' e' (hg _ _ hx) (hg _ _ hx')⟩

/-- What was walked with some blocks out of sight. -/
theorem unmask {W0 : World} {r r' : Pl} {fz fz' : Fz} {H H' : Heap} {w w' : World} {Z : List Nat} (hw : WR W0 r fz H w) (hw' : WR W0 r' fz' H' w') (hst : Stp r fz (maskH Z 0 H) w r' fz' H' w') :
    WR W0 r' fz' (unmaskH Z 0 H H') w' ∧ Stp r fz H w r' fz' (unmaskH Z 0 H H') w' ∧ ∀ b, b < w.heap.size → (∀ id ∈ Z, ∀ x o s e, H[id]? = some (some x) → r id ≠ some (.at_ true b o s e)) → w'.heap[b]? = w.heap[b]? := by
  have hle : H.length ≤ H'.length := by have := hst.len; rwa [mask_length] at this
  have hsub : Sub r r' := fun id x hx => by
    rcases Nat.lt_or_ge id H.length with hl | hl
    · rw [hst.ext id (by rw [mask_length]; exact hl)]; exact hx
    · rw [hw.dom id hl] at hx; cases hx
  have hown : ∀ b, Own r (maskH Z 0 H) b → ∃ id x o s e, id ∈ Z ∧ H[id]? = some (some x) ∧ r id = some (.at_ true b o s e) := by
    rintro b ⟨id, x, o, s, e, h1, h2⟩
    rw [mask_get] at h1
    obtain ⟨q, hq, he⟩ := Option.map_eq_some_iff.1 h1
    split at he
    · rename_i hz
      exact ⟨id, x, o, s, e, by simpa using hz, by rw [hq, he], h2⟩
    · cases he
  have hOwn : ∀ b, Own r (maskH Z 0 H) b → Own r H b := fun b hb => by
    obtain ⟨id, x, o, s, e, _, h1, h2⟩ := hown b hb
    exact ⟨id, x, o, s, e, h1, h2⟩
  have hno : ∀ id x b o s e, H[id]? = some (some x) → id ∉ Z → r id = some (.at_ true b o s e) → ¬ Own r (maskH Z 0 H) b := by
    intro id x b o s e hx hz hr ho
    obtain ⟨id', x', o', s', e', h1, h2, h3⟩ := hown b ho
    have := hw.inj _ _ _ _ _ _ _ _ _ _ _ hx h2 hr h3
    subst this
    exact hz h1
  have hcase : ∀ id x, (unmaskH Z 0 H H')[id]? = some (some x) → (id < H.length ∧ id ∉ Z ∧ H[id]? = some (some x)) ∨ (H'[id]? = some (some x) ∧ (id ∈ Z ∨ H.length ≤ id)) := by
    intro id x hx
    rw [unmask_get Z 0 H H' id hle] at hx
    cases hh : H[id]? with
    | none => rw [hh] at hx; exact .inr ⟨hx, .inr (List.getElem?_eq_none_iff.1 hh)⟩
    | some b =>
      rw [hh] at hx
      simp only at hx
      split at hx
      · rename_i hz; exact .inr ⟨hx, .inl (by simpa using hz)⟩
      · rename_i hz; exact .inl ⟨(List.getElem?_eq_some_iff.1 hh).1, by simpa using hz, hx⟩
  have hfar : ∀ id x b o s e, H'[id]? = some (some x) → r' id = some (.at_ true b o s e) → w.heap.size ≤ b ∨ Own r (maskH Z 0 H) b := fun id x b o s e hx hr => hst.own ⟨id, x, o, s, e, hx, hr⟩
  refine ⟨⟨hw'.below, hw'.froz, hw'.old, fun id hid => hw'.dom id (by rwa [unmask_length Z 0 H H' hle] at hid), fun id x hx => ?_, fun id id' x x' b o s e o' s' e' hx hx' hr hr' => ?_⟩,
    ⟨by rw [unmask_length Z 0 H H' hle]; exact hle, fun id hid => hst.ext id (by rw [mask_length]; exact hid), hst.phi, hst.size, fun id b o s e hid hr => ?_, fun id x hid hx => ?_, fun b hb hnb => hst.frame b hb (fun ho => hnb (hOwn b ho)), fun b o hb => ?_⟩, fun b hb hz => ?_⟩
  · rcases hcase id x hx with ⟨h1, h2, h3⟩ | ⟨h1, _⟩
    · rcases hw.live id x h3 with ⟨b, o, e, e1, e2, e4, e3⟩ | ⟨e1, e2⟩
      · cases hxr : x.rw with
        | true =>
          rw [hxr] at e1
          have hn := hno id x _ _ _ _ h3 h2 e1
          refine .inl ⟨b, o, e, by rw [hxr]; exact hsub _ _ e1, fun _ => ?_, fun h => (by rw [hxr] at h; cases h), (e3.of_block (hst.frame b e3.lt hn)).mono hsub⟩
          cases hfb : fz' b with
          | none => rfl
          | some ob =>
            rcases hst.newf b ob hfb with h5 | h5 | h5
            · rw [e2 hxr] at h5; cases h5
            · have := e3.lt; omega
            · exact absurd h5 hn
        | false =>
          obtain ⟨ob, hob⟩ := e4 hxr
          have hb : w'.heap[b]? = w.heap[b]? := by rw [hw'.froz b ob (hst.phi b ob hob), hw.froz b ob hob]
          exact .inl ⟨b, o, e, hsub _ _ e1, fun h => (by rw [hxr] at h; cases h), fun _ => ⟨ob, hst.phi b ob hob⟩, (e3.of_block hb).mono hsub⟩
      · exact .inr ⟨hsub _ _ e1, e2⟩
    · exact hw'.live id x h1
  · have hold : ∀ id, id < H.length → r' id = r id := fun id hid => hst.ext id (by rw [mask_length]; exact hid)
    rcases hcase id x hx with ⟨h1, h2, h3⟩ | ⟨h1, _⟩
    · rw [hold id h1] at hr
      have hn := hno id x _ _ _ _ h3 h2 hr
      have hblt := ((hw.live id x h3).at_ hr).2.2.2.2.lt
      rcases hcase id' x' hx' with ⟨h1', h2', h3'⟩ | ⟨h1', _⟩
      · rw [hold id' h1'] at hr'
        exact hw.inj _ _ _ _ _ _ _ _ _ _ _ h3 h3' hr hr'
      · rcases hfar id' x' _ _ _ _ h1' hr' with h5 | h5
        · omega
        · exact absurd h5 hn
    · rcases hcase id' x' hx' with ⟨h1', h2', h3'⟩ | ⟨h1', _⟩
      · rw [hold id' h1'] at hr'
        have hn := hno id' x' _ _ _ _ h3' h2' hr'
        have hblt := ((hw.live id' x' h3').at_ hr').2.2.2.2.lt
        rcases hfar id x _ _ _ _ h1 hr with h5 | h5
        · omega
        · exact absurd h5 hn
      · exact hw'.inj _ _ _ _ _ _ _ _ _ _ _ h1 h1' hr hr'
  · rcases hst.fresh _ _ _ _ _ (by rw [mask_length]; exact hid) hr with h5 | h5
    · exact .inl h5
    · exact .inr (hOwn b h5)
  · rcases hcase id x hx with ⟨h1, h2, h3⟩ | ⟨h1, h2⟩
    · exact ⟨x, h3⟩
    · obtain ⟨y, hy⟩ := hst.dead id x (by rw [mask_length]; exact hid) h1
      rw [mask_get] at hy
      obtain ⟨q, hq, he⟩ := Option.map_eq_some_iff.1 hy
      split at he
      · exact ⟨y, by rw [hq, he]⟩
      · cases he
  · rcases hst.newf b o hb with h5 | h5 | h5
    · exact .inl h5
    · exact .inr (.inl h5)
    · exact .inr (.inr (hOwn b h5))
  · refine hst.frame b hb fun ho => ?_
    obtain ⟨id, x, o, s, e, h1, h2, h3⟩ := hown b ho
    exact hz id h1 x o s e h2 h3

section
variable {P : Program} {W0 : World} {tab : TypeId → Option TI}

/-- One step that may be taken first. -/
theorem astep_take (ht : Tab P tab) {ops : Array Oper} {o : Oper} (hb : takeB o = true) {T : List V} {H : Heap} {k : List V → Heap → Prop} (h : astep (std P W0) tab ops.toList o T H k)
    {r : Pl} {fz : Fz} {a : Act} {w : World} (hw : WR W0 r fz H w) (hT : TR r T a.tmps) {S : World → Prop} (hS0 : ∀ w', S w' → ∀ b, b < W0.heap.size → w'.heap[b]? = W0.heap[b]?)
    (hS : ∀ w', S w' → ∀ id rw_ b q s e, loadId T o = some id → r id = some (.at_ rw_ b q s e) → w'.heap[b]? = w.heap[b]?) :
    ∃ v u, k (AM.put T o.dst v) H ∧ VR r v u ∧ YieldsIf P ops S o u a := by
  have hyes : aop (std P W0) tab o T H (fun v H' => k (AM.put T o.dst v) H') → Region.wanted o (yielded ops a.tmps) = true → ∃ v u, k (AM.put T o.dst v) H ∧ VR r v u ∧ YieldsIf P ops S o u a := fun hh hwt => by
    obtain ⟨v, h1, h2⟩ := aop_take ht hb hh
    obtain ⟨u, h3, h4⟩ := h2 r fz a w hw hT
    exact ⟨v, u, h1, h3, .inl ⟨hwt, fun w' hs => h4 w' (hS0 w' hs) (hS w' hs)⟩⟩
  have hno : k (AM.put T o.dst (.one .undef)) H → Region.wanted o (yielded ops a.tmps) = false → ∃ v u, k (AM.put T o.dst v) H ∧ VR r v u ∧ YieldsIf P ops S o u a := fun hh hwt =>
    ⟨_, undef, hh, by unfold VR CR; trivial, .inr ⟨hwt, rfl⟩⟩
  unfold astep at h
  cases hg : guardOf ops.toList T o with
  | none =>
    rw [hg] at h
    have : o.guard = none := by
      unfold guardOf at hg
      split at hg
      · assumption
      · split at hg
        · split at hg <;> cases hg
        · cases hg
    exact hyes h (by simp [Region.wanted, this])
  | some q =>
    obtain ⟨ob, want⟩ := q
    rw [hg] at h
    unfold guardOf at hg
    split at hg
    · cases hg
    · rename_i j want' hgd
      split at hg
      · rename_i d hd
        split at hg
        · rename_i b hb
          cases hg
          have hy := yielded_of hT hd hb
          have hwant : Region.wanted o (yielded ops a.tmps) = (b == want) := by simp [Region.wanted, hgd, hy]
          cases want <;> cases b
          · exact hyes (h.2 rfl) (by rw [hwant]; rfl)
          · exact hno (h.1 rfl) (by rw [hwant]; rfl)
          · exact hno (h.2 rfl) (by rw [hwant]; rfl)
          · exact hyes (h.1 rfl) (by rw [hwant]; rfl)
        · cases hg; exact h.elim
      · cases hg; exact h.elim

theorem ready_size {ops : Array Oper} {l : Array Bool} {i : Nat} {o : Oper} (hi : ops[i]? = some o) (h : (Region.ready .any ops l).contains i = true) : i ∈ Region.ready .any ops l := by simpa using h

theorem adr_sound (ht : Tab P tab) {ops : Array Oper} {Z ds : List Nat} {n0 : Nat} {Q : Exit → Act → World → Prop} (hsel : Region.noSelect ops = true) (hQ : ∀ c a w, ¬ Q (.panic c) a w)
    {r0 : Pl} {fz0 : Fz} {H0 : Heap} {w0 : World} (hw0 : WR W0 r0 fz0 H0 w0) (hn0 : H0.length = n0) (hZ : ∀ id ∈ Z, id < n0) (k : List V → Heap → Prop)
    (S : World → Prop) (hS : S = fun w' => ∀ b, b < w0.heap.size → (∀ id ∈ Z, ∀ x o s e, H0[id]? = some (some x) → r0 id ≠ some (.at_ true b o s e)) → w'.heap[b]? = w0.heap[b]?) :
    ∀ (p : Plan) {l : Array Bool} {T : List V} {H : Heap}, planB ops ds p l = true → adr (std P W0) tab ops.toList Z n0 p T H k → ∀ {r : Pl} {fz : Fz} {a : Act} {w : World}, WR W0 r fz H w → TR r T a.tmps → Stp r0 fz0 H0 w0 r fz H w → ((∀ d ∈ ds, l.getD d false = false) → S w) →
    (∀ T' a' H' r' fz' w', k T' H' → TR r' T' a'.tmps → a'.defers = a.defers → WR W0 r' fz' H' w' → Stp r0 fz0 H0 w0 r' fz' H' w' → Q .normal a' w') →
    anyS P ops Q (fun w' => ∀ b, b < W0.heap.size → w'.heap[b]? = W0.heap[b]?) S ds p.length l a w
  | [], l, T, H, hp, h, r, fz, a, w, hw, hT, hst, hSw, hq => by
    unfold adr at h
    unfold planB at hp
    exact ⟨by simpa using hp, hq _ _ _ _ _ _ h hT rfl hw hst⟩
  | (i, m) :: p, l, T, H, hp, h, r, fz, a, w, hw, hT, hst, hSw, hq => by
    unfold adr at h
    unfold planB at hp
    cases ho : ops[i]? with
    | none =>
      have : ops.toList[i]? = none := by simpa using ho
      rw [this] at h
      exact h.elim
    | some o =>
      have ho' : ops.toList[i]? = some o := by simpa using ho
      rw [ho'] at h
      rw [ho] at hp
      simp only [Bool.and_eq_true] at hp
      obtain ⟨⟨⟨⟨hp1, hp2⟩, hp3⟩, hp4⟩, hp5⟩ := hp
      have hput : ∀ (u : Value), (a.put o.dst u).defers = a.defers := fun u => by cases hd : o.dst <;> simp [Act.put]
      -- an operation that is taken first
      have htake : ∀ (B : Bool), m < 2 → (B = true → shutB ops l = true ∧ allWait ops l ds i = true ∧ ∀ d ∈ ds, l.getD d false = false) → takeB o = true → Region.free .any ops l i = true → (Region.ready .any ops l).contains i = true →
          (∀ id, loadId T o = some id → B = true ∧ id ∉ Z ∧ id < n0 ∧ ∃ x, H[id]? = some (some x)) → astep (std P W0) tab ops.toList o T H (fun T' H' => adr (std P W0) tab ops.toList Z n0 p T' H' k) →
          anyS P ops Q (fun w' => ∀ b, b < W0.heap.size → w'.heap[b]? = W0.heap[b]?) S ds ((i, m) :: p).length l a w := by
        intro B hm hB htk hfree hready hload hstep
        obtain ⟨v, u, h1, h2, h3⟩ := astep_take ht htk hstep hw hT (S := fun w' => (∀ b, b < W0.heap.size → w'.heap[b]? = W0.heap[b]?) ∧ (B = true → S w')) (fun w' hs => hs.1) (fun w' hs id rw_ b q s e hid hr => by
          obtain ⟨hb, hz, hlt, x, hx⟩ := hload id hid
          have hSw' := hs.2 hb
          have hSw0 := hSw (hB hb).2.2
          rw [hS] at hSw' hSw0
          have hr0 : r0 id = some (.at_ rw_ b q s e) := by rw [← hst.ext id (by omega)]; exact hr
          obtain ⟨y, hy⟩ := hst.dead id x (by omega) hx
          obtain ⟨_, _, hfn, hff, hbr⟩ := (hw0.live id y hy).at_ hr0
          have hblt := hbr.lt
          have hfar : ∀ id' ∈ Z, ∀ x o s e, H0[id']? = some (some x) → r0 id' ≠ some (.at_ true b o s e) := fun id' hz' x' o' s' e' hx' hr' => by
            cases rw_ with
            | true =>
              have := hw0.inj _ _ _ _ _ _ _ _ _ _ _ hy hx' hr0 hr'
              subst this
              exact hz hz'
            | false =>
              obtain ⟨ob, hob⟩ := hff rfl
              rw [((hw0.live id' x' hx').at_ hr').2.2.1 rfl] at hob
              cases hob
          rw [hSw' b hblt hfar, hSw0 b hblt hfar])
        refine anyS_first B ho (Region.noSelect_spec hsel) (fun c a w hq => absurd hq (hQ _ _ _)) _ l a w (Region.free_spec ho hfree) (fun hb => ⟨shut_of (hB hb).1, fun d hm hun => by
          have := List.all_eq_true.1 (hB hb).2.1 d hm
          rw [hun] at this
          simpa using this⟩) (ready_size ho hready) h3 hw.below.block (fun hb => hSw (hB hb).2.2) ?_
        refine adr_sound ht hsel hQ hw0 hn0 hZ k S hS p hp5 h1 hw (hT.put _ h2) hst (fun hd => hSw fun d hm => ?_) fun T' a' H' r' fz' w' g1 g2 g3 => hq _ _ _ _ _ _ g1 g2 (g3.trans (hput u))
        have := hd d hm
        by_cases hid : i = d
        · subst hid
          rcases Nat.lt_or_ge i l.size with hl | hl
          · simp [hl] at this
          · simp [Array.getElem?_eq_none hl]
        · rw [getD_set_ne false hid] at this; exact this
      have hlw : ∀ {P' : Prop}, ((∀ d ∈ ds, (l.setIfInBounds i true).getD d false = false) → P') → (∀ d ∈ ds, (l.setIfInBounds i true).getD d false = false) → P' := fun h => h
      have hsub : (∀ d ∈ ds, (l.setIfInBounds i true).getD d false = false) → ∀ d ∈ ds, l.getD d false = false := fun hd d hm => by
        have := hd d hm
        by_cases hid : i = d
        · subst hid
          rcases Nat.lt_or_ge i l.size with hl | hl
          · simp [hl] at this
          · simp [Array.getElem?_eq_none hl]
        · rw [getD_set_ne false hid] at this; exact this
      -- an operation that comes up alone
      have hone : m = 2 ∨ (m ≠ 2 ∧ i ∈ ds) → Region.ready .any ops l = [i] → (m = 2 → i ∉ ds) →
          (m = 2 → astep (std P W0) tab ops.toList o T (maskH Z 0 H) (fun T' H' => adr (std P W0) tab ops.toList Z n0 p T' (unmaskH Z 0 H H') k)) → (m ≠ 2 → astep (std P W0) tab ops.toList o T H (fun T' H' => adr (std P W0) tab ops.toList Z n0 p T' H' k)) →
          anyS P ops Q (fun w' => ∀ b, b < W0.heap.size → w'.heap[b]? = W0.heap[b]?) S ds ((i, m) :: p).length l a w := by
        intro hm hr hd h2 h3
        refine ⟨fun h0 => (by rw [hr] at h0; cases h0), fun j hj => ?_⟩
        rw [hr] at hj
        simp only [List.mem_singleton] at hj
        subst hj
        unfold wpOp
        rw [ho]
        simp only
        by_cases hm2 : m = 2
        · refine astep_sound ht (h2 hm2) (hw.mask Z) hT fun T' a' H' r' fz' w' hk hT' hdf hw' hst' => ?_
          obtain ⟨u1, u2, u3⟩ := unmask hw hw' hst'
          have hSS : S w → S w' := fun hs => by
            rw [hS] at hs ⊢
            intro b hb hz
            have hb' : b < w.heap.size := Nat.lt_of_lt_of_le hb hst.size
            rw [u3 b hb' (fun id hid x o s e hx hr => by
              have hlt := hZ id hid
              obtain ⟨y, hy⟩ := hst.dead id x (by omega) hx
              exact hz id hid y o s e hy (by rw [← hst.ext id (by omega)]; exact hr)), hs b hb hz]
          refine ⟨⟨u1.below.block, fun _ => hSS⟩, ?_⟩
          exact adr_sound ht hsel hQ hw0 hn0 hZ k S hS p hp5 hk u1 hT' (hst.trans u2) (fun hd' => hSS (hSw (hsub hd'))) fun T2 a2 H2 r2 fz2 w2 g1 g2 g3 => hq _ _ _ _ _ _ g1 g2 (g3.trans hdf)
        · have hi : j ∈ ds := by rcases hm with h | h; exact absurd h hm2; exact h.2
          refine astep_sound ht (h3 hm2) hw hT fun T' a' H' r' fz' w' hk hT' hdf hw' hst' => ?_
          refine ⟨⟨hw'.below.block, fun hn => absurd hi hn⟩, ?_⟩
          refine adr_sound ht hsel hQ hw0 hn0 hZ k S hS p hp5 hk hw' hT' (hst.trans hst') (fun hd' => ?_) fun T2 a2 H2 r2 fz2 w2 g1 g2 g3 => hq _ _ _ _ _ _ g1 g2 (g3.trans hdf)
          exfalso
          have := hd' j hi
          have hjr : j ∈ Region.ready .any ops l := by rw [hr]; simp
          have hun := (mem_ready.1 hjr).1
          rcases Nat.lt_or_ge j l.size with hl | hl
          · simp [hl] at this
          · simp [Array.getElem?_eq_none hl] at hun
      match m, hp1, hp2, hp3, hp4, h, htake, hone with
      | 0, hp1, hp2, hp3, hp4, h, htake, hone =>
        simp only at h
        simp at hp1
        split at h
        · rename_i hl
          exact htake false (by omega) (fun hb => by cases hb) hp1.1.1 hp1.1.2 (by simpa using hp1.2) (fun id hid => by rw [hl] at hid; cases hid) h
        · exact h.elim
      | 1, hp1, hp2, hp3, hp4, h, htake, hone =>
        simp only at h
        simp at hp1
        obtain ⟨⟨⟨h1, h2⟩, h3⟩, ⟨h4, h5⟩, h6⟩ := hp1
        have hB : true = true → shutB ops l = true ∧ allWait ops l ds i = true ∧ ∀ d ∈ ds, l.getD d false = false := fun _ => ⟨h4, h5, fun d hd => by simpa using h6 d hd⟩
        split at h
        · rename_i hl
          exact htake true (by omega) hB h1 h2 (by simpa using h3) (fun id hid => by rw [hl] at hid; cases hid) h
        · rename_i id hl
          split at h
          · rename_i x hz hlt hx
            refine htake true (by omega) hB h1 h2 (by simpa using h3) (fun id' hid => ?_) h
            rw [hl] at hid
            cases hid
            refine ⟨rfl, by simpa using hz, Nat.le_of_ble_eq_true hlt, x, ?_⟩
            rw [List.getD_eq_getElem?_getD] at hx
            cases hh : H[id]? with
            | none => rw [hh] at hx; cases hx
            | some q => rw [hh] at hx; simp at hx; rw [hx]
          · exact h.elim
      | 2, hp1, hp2, hp3, hp4, h, htake, hone =>
        simp at hp2 hp3
        exact hone (.inl rfl) hp2 (fun _ => hp3) (fun _ => h) (fun h => absurd rfl h)
      | 3, hp1, hp2, hp3, hp4, h, htake, hone =>
        simp at hp2 hp4
        exact hone (.inr ⟨by omega, hp4⟩) hp2 (fun h => by omega) (fun h => by omega) (fun _ => h)
      | m + 4, hp1, hp2, hp3, hp4, h, htake, hone =>
        exfalso
        simp only [Bool.or_eq_true, beq_iff_eq, Bool.and_eq_true, decide_eq_true_eq] at hp1
        omega

theorem m_draw (ht : Tab P tab) {X : Ext} (hX : X = std P W0) (Z ds : List Nat) (p : Plan) {ops : List Oper} {T : List V} {H : Heap} {k : List V → Heap → Prop} (hp : planOk ops.toArray ds p = true) (hZ : ∀ id ∈ Z, id < H.length)
    (h : adr X tab ops Z H.length p T H k) : X.draw ops T H k := by
  subst hX
  intro id r fz a w hw hT hd
  unfold planOk at hp
  simp only [Bool.and_eq_true, beq_iff_eq] at hp
  obtain ⟨⟨h1, h2⟩, h3⟩ := hp
  refine wp_region_any ht.mixed (anyS_any (S0 := fun w' => ∀ b, b < W0.heap.size → w'.heap[b]? = W0.heap[b]?) (S := fun w' => ∀ b, b < w.heap.size → (∀ id ∈ Z, ∀ x o s e, H[id]? = some (some x) → r id ≠ some (.at_ true b o s e)) → w'.heap[b]? = w.heap[b]?) (ds := ds) _ _ _ _ ?_)
  obtain ⟨hwd, hstd⟩ := hw.drew (w' := { w with drawn := w.drawn + 1 }) rfl rfl rfl rfl
  rw [← h2] at h3 ⊢
  refine adr_sound ht h1 (fun c a w hq => ?_) hwd rfl hZ k _ rfl p h3 h hwd hT (Stp.refl hwd) (fun _ b _ _ => rfl) fun T' a' H' r' fz' w' hk hT' hdf hw' hst => ?_
  · obtain ⟨e, n, T', H', r', fz', h1, _⟩ := hq
    exact h1
  · exact ⟨0, 0, T', H', r', fz', rfl, ⟨rfl, rfl, hk⟩, hw', hT', hdf.trans hd, hstd.trans hst⟩
end
end Go.Proofs.Ytnfoibgafmeenaa.AM
