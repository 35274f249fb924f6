/- A call is told by its own blocks alone; what is told of it holds where there are more. Loops. -/
import Derived.Test.YtdijdlkljeibjaaDoorAm10
namespace Go.Proofs.YtdijdlkljeibjaaDoor.AM
open Go Go.RowKit
set_option linter.unusedVariables false
set_option linter.unusedSimpArgs false

def renC (g : Nat → Nat) : C → C
  | .ptr id i j => .ptr (g id) i j
  | .sl id i len cap => .sl (g id) i len cap
  | .fn f caps => .fn f (renCs g caps)
  | .int k n => .int k n
  | .bool b => .bool b
  | .str s => .str s
  | .nilp => .nilp
  | .nils => .nils
  | .nilf => .nilf
  | .raw v => .raw v
  | .undef => .undef
where renCs (g : Nat → Nat) : List C → List C
  | [] => []
  | c :: cs => renC g c :: renCs g cs

def renV (g : Nat → Nat) : V → V
  | .one c => .one (renC g c)
  | .agg cs => .agg (renC.renCs g cs)
  | .tup vs => .tup (renVs g vs)
where renVs (g : Nat → Nat) : List V → List V
  | [] => []
  | c :: cs => renV g c :: renVs g cs

def renB (g : Nat → Nat) : B → B
  | .box t cs => .box t (renC.renCs g cs)
  | .row rw t sz n f => .row rw t sz n (fun i => renC.renCs g (f i))
  | .obj o => .obj o

def up (σ : List Nat) (n id : Nat) : Nat := match σ[id]? with
  | some q => q
  | none => n + (id - σ.length)

/-- A call's own blocks, back among all. -/
def wb (g : Nat → Nat) : Heap → List Nat → Heap → Heap
  | H, s :: ss, b :: bs => wb g (H.set s (b.map (renB g))) ss bs
  | H, _, _ => H

def news (g : Nat → Nat) : Heap → Heap
  | [] => []
  | b :: bs => b.map (renB g) :: news g bs

def joinH (σ : List Nat) (H H' : Heap) : Heap := wb (up σ H.length) H σ H' ++ news (up σ H.length) (H'.drop σ.length)

def RenR (g : Nat → Nat) (r r' : Pl) : Prop := ∀ id x, r id = some x → r' (g id) = some x

mutual
theorem CR.ren {g : Nat → Nat} {r r' : Pl} (h : RenR g r r') : ∀ {c : C} {v : Value}, CR r c v → CR r' (renC g c) v
  | .ptr id i j, v, H => by
    unfold renC
    unfold CR at H ⊢
    obtain ⟨rw_, b, o, s, e, h1, h2⟩ := H
    exact ⟨rw_, b, o, s, e, h _ _ h1, h2⟩
  | .sl id i len cap, v, H => by
    unfold renC
    unfold CR at H ⊢
    rcases H with ⟨rw_, b, o, s, e, ad, c, h1, h2⟩ | ⟨h1, h2⟩
    · exact .inl ⟨rw_, b, o, s, e, ad, c, h _ _ h1, h2⟩
    · exact .inr ⟨h _ _ h1, h2⟩
  | .fn f caps, v, H => by
    unfold renC
    unfold CR at H ⊢
    obtain ⟨vs, h1, h2⟩ := H
    exact ⟨vs, h1, CRs.ren h h2⟩
  | .int k n, v, H => by unfold renC; exact H
  | .bool b, v, H => by unfold renC; exact H
  | .str s, v, H => by unfold renC; exact H
  | .nilp, v, H => by unfold renC; exact H
  | .nils, v, H => by unfold renC; exact H
  | .nilf, v, H => by unfold renC; exact H
  | .raw u, v, H => by unfold renC; exact H
  | .undef, v, H => by unfold renC; exact H
theorem CRs.ren {g : Nat → Nat} {r r' : Pl} (h : RenR g r r') : ∀ {c : List C} {v : List Value}, CRs r c v → CRs r' (renC.renCs g c) v
  | [], [], H => by unfold renC.renCs; exact H
  | c :: cs, v :: vs, H => by
    unfold renC.renCs
    unfold CRs at H ⊢
    exact ⟨CR.ren h H.1, CRs.ren h H.2⟩
  | [], _ :: _, H => by simp [CRs] at H
  | _ :: _, [], H => by simp [CRs] at H
end

mutual
theorem VR.ren {g : Nat → Nat} {r r' : Pl} (h : RenR g r r') : ∀ {c : V} {v : Value}, VR r c v → VR r' (renV g c) v
  | .one c, v, H => by unfold renV; unfold VR at H ⊢; exact CR.ren h H
  | .agg cs, v, H => by
    unfold renV
    unfold VR at H ⊢
    obtain ⟨vs, h1, h2⟩ := H
    exact ⟨vs, h1, CRs.ren h h2⟩
  | .tup vs, v, H => by
    unfold renV
    unfold VR at H ⊢
    obtain ⟨us, h1, h2⟩ := H
    exact ⟨us, h1, VRs.ren h h2⟩
theorem VRs.ren {g : Nat → Nat} {r r' : Pl} (h : RenR g r r') : ∀ {c : List V} {v : List Value}, VRs r c v → VRs r' (renV.renVs g c) v
  | [], [], H => by unfold renV.renVs; exact H
  | c :: cs, v :: vs, H => by
    unfold renV.renVs
    unfold VRs at H ⊢
    exact ⟨VR.ren h H.1, VRs.ren h H.2⟩
  | [], _ :: _, H => by simp [VRs] at H
  | _ :: _, [], H => by simp [VRs] at H
end

theorem renCs_length (g : Nat → Nat) : ∀ l : List C, (renC.renCs g l).length = l.length
  | [] => rfl
  | c :: l => by simp [renC.renCs, renCs_length g l]
theorem renCs_get (g : Nat → Nat) : ∀ (l : List C) (i : Nat), (renC.renCs g l)[i]? = (l[i]?).map (renC g)
  | [], i => by simp [renC.renCs]
  | c :: l, 0 => by simp [renC.renCs]
  | c :: l, i + 1 => by simpa [renC.renCs] using renCs_get g l i

theorem BR.ren {g : Nat → Nat} {r r' : Pl} (h : RenR g r r') {w : World} {b o e : Nat} {x : B} (H : BR r w b o e x) : BR r' w b o e (renB g x) := by
  cases x with
  | box t cs =>
    obtain ⟨us, h1, h0, h2⟩ := H
    refine ⟨us, h1, h0, fun j c hc => ?_⟩
    rw [renCs_get] at hc
    obtain ⟨d, hd, rfl⟩ := Option.map_eq_some_iff.1 hc
    obtain ⟨v, e1, e2⟩ := h2 j d hd
    exact ⟨v, e1, e2.ren h⟩
  | row rw_ t sz n f =>
    obtain ⟨us, t2, fr, h1, h0, h3, h2⟩ := H
    refine ⟨us, t2, fr, h1, h0, h3, fun i hi => ⟨by rw [renCs_length]; exact (h2 i hi).1, fun j c hc => ?_⟩⟩
    rw [renCs_get] at hc
    obtain ⟨d, hd, rfl⟩ := Option.map_eq_some_iff.1 hc
    obtain ⟨v, e1, e2⟩ := (h2 i hi).2 j d hd
    exact ⟨v, e1, e2.ren h⟩
  | obj ob => exact H

theorem renB_sz (g : Nat → Nat) (x : B) : (renB g x).sz = x.sz := by cases x <;> rfl
theorem renB_rw (g : Nat → Nat) (x : B) : (renB g x).rw = x.rw := by cases x <;> rfl

theorem LR.ren {g : Nat → Nat} {r r' : Pl} (h : RenR g r r') {fz : Fz} {w : World} {id : Nat} {x : B} (H : LR r fz w id x) : LR r' fz w (g id) (renB g x) := by
  rcases H with ⟨b, o, e, e1, e2, e4, e3⟩ | ⟨e1, rw_, t, sz, f, rfl⟩
  · exact .inl ⟨b, o, e, by rw [renB_sz, renB_rw]; exact h _ _ e1, by rw [renB_rw]; exact e2, by rw [renB_rw]; exact e4, e3.ren h⟩
  · exact .inr ⟨h _ _ e1, _, _, _, _, rfl⟩

theorem wb_length (g : Nat → Nat) : ∀ (H : Heap) (s : List Nat) (bs : Heap), (wb g H s bs).length = H.length
  | H, [], _ => by simp [wb]
  | H, _ :: _, [] => by simp [wb]
  | H, s :: ss, b :: bs => by rw [wb, wb_length g]; simp
theorem wb_ne (g : Nat → Nat) : ∀ (H : Heap) (s : List Nat) (bs : Heap) (q : Nat), q ∉ s → (wb g H s bs)[q]? = H[q]?
  | H, [], _, q, _ => by simp [wb]
  | H, _ :: _, [], q, _ => by simp [wb]
  | H, s :: ss, b :: bs, q, h => by
    simp only [List.mem_cons, not_or] at h
    rw [wb, wb_ne g _ ss bs q h.2, List.getElem?_set_ne (fun e => h.1 e.symm)]
theorem wb_at (g : Nat → Nat) : ∀ (H : Heap) (s : List Nat) (bs : Heap) (j q : Nat) (x : Option B), (∀ i i' q : Nat, s[i]? = some q → s[i']? = some q → i = i') → s[j]? = some q → bs[j]? = some x → q < H.length → (wb g H s bs)[q]? = some (x.map (renB g))
  | H, [], _, j, q, x, _, h, _, _ => by simp at h
  | H, _ :: _, [], j, q, x, _, _, h, _ => by simp at h
  | H, s :: ss, b :: bs, 0, q, x, hn, h1, h2, hq => by
    simp at h1 h2
    subst h1 h2
    have : s ∉ ss := fun hm => by
      obtain ⟨i, hi, he⟩ := List.getElem_of_mem hm
      have := hn 0 (i + 1) s (by simp) (by simp [List.getElem?_eq_getElem hi, he])
      omega
    rw [wb, wb_ne g _ ss bs s this, List.getElem?_set_self hq]
  | H, s :: ss, b :: bs, j + 1, q, x, hn, h1, h2, hq => by
    rw [wb]
    exact wb_at g _ ss bs j q x (fun i i' q hi hi' => by have := hn (i + 1) (i' + 1) q (by simpa using hi) (by simpa using hi'); omega) (by simpa using h1) (by simpa using h2) (by simpa using hq)
theorem news_length (g : Nat → Nat) : ∀ H : Heap, (news g H).length = H.length
  | [] => rfl
  | b :: bs => by simp [news, news_length g bs]
theorem news_get (g : Nat → Nat) : ∀ (H : Heap) (i : Nat), (news g H)[i]? = (H[i]?).map (Option.map (renB g))
  | [], i => by simp [news]
  | b :: bs, 0 => by simp [news]
  | b :: bs, i + 1 => by simpa [news] using news_get g bs i

theorem noDup_some : ∀ {s : List Nat}, noDup (s.map some) = true → ∀ (i i' q : Nat), s[i]? = some q → s[i']? = some q → i = i' := fun h i i' q hi hi' =>
  noDup_inj h i i' q (by simp [hi]) (by simp [hi'])

theorem ACall.frame {P : Program} {W0 : World} {f : FuncId} {args args2 : List V} {H H2 : Heap} {k k2 : V → Heap → Prop} (σ : List Nat) (h : ACall P W0 f args2 H2 k2) (hm : MH (σ.map some) H H2 (σ.map some)) (hn : noDup (σ.map some) = true)
    (hlt : ∀ q ∈ σ, q < H.length) (ha : MV.MVs (σ.map some) args2 args) (hk : ∀ v H', k2 v H' → k (renV (up σ H.length) v) (joinH σ H H')) : ACall P W0 f args H k := by
  intro r fz w vs hw hvs
  have hw2 := hw.weaken (n := 0) hm (okS_of hn)
  refine (h (reN (σ.map some) r) fz w vs hw2 (MVs.rel ha hvs)).mono fun e w' ⟨v, u, H', r', fz', he, hk2, hw', hv, hst⟩ => ?_
  obtain ⟨hl, hm⟩ := hm.get
  simp only [List.length_map] at hl
  have hlen := hst.len
  have hdup := noDup_some hn
  let g := up σ H.length
  let rg : Pl := fun id => if id < H.length then r id else r' (σ.length + (id - H.length))
  have hr2 : ∀ j q, σ[j]? = some q → r' j = r q := fun j q hj => by
    have hj' : j < σ.length := (List.getElem?_eq_some_iff.1 hj).1
    rw [hst.ext j (by omega)]
    unfold reN
    simp [hj]
  have hren : RenR g r' rg := by
    intro id x hx
    show (if g id < H.length then r (g id) else r' (σ.length + (g id - H.length))) = some x
    cases hs : σ[id]? with
    | some q =>
      have hg : g id = q := by show up σ H.length id = q; unfold up; rw [hs]
      rw [hg, if_pos (hlt q (List.mem_of_getElem? hs)), ← hr2 id q hs]
      exact hx
    | none =>
      have hge : σ.length ≤ id := List.getElem?_eq_none_iff.1 hs
      have hg : g id = H.length + (id - σ.length) := by show up σ H.length id = _; unfold up; rw [hs]
      rw [hg, if_neg (by omega), show σ.length + (H.length + (id - σ.length) - H.length) = id by omega]
      exact hx
  have hsub : Sub r rg := fun id x hx => by
    show (if id < H.length then _ else _) = _
    rcases Nat.lt_or_ge id H.length with hl | hl
    · rw [if_pos hl]; exact hx
    · rw [hw.dom id hl] at hx; cases hx
  have hrg_old : ∀ id, id < H.length → rg id = r id := fun id hid => if_pos hid
  have hrg_new : ∀ j, rg (H.length + j) = r' (σ.length + j) := fun j => by
    show (if _ then _ else _) = _
    rw [if_neg (by omega), Nat.add_sub_cancel_left]
  -- the new state's blocks
  have hjl : (joinH σ H H').length = H.length + (H'.length - σ.length) := by simp [joinH, wb_length, news_length]
  have hget_old : ∀ q, q < H.length → q ∉ σ → (joinH σ H H')[q]? = H[q]? := fun q hq hqs => by
    unfold joinH
    rw [List.getElem?_append_left (by rw [wb_length]; exact hq), wb_ne _ _ _ _ _ hqs]
  have hget_own : ∀ j q, σ[j]? = some q → (joinH σ H H')[q]? = (H'[j]?).map (Option.map (renB g)) := fun j q hj => by
    have hj' : j < σ.length := (List.getElem?_eq_some_iff.1 hj).1
    unfold joinH
    rw [List.getElem?_append_left (by rw [wb_length]; exact hlt q (List.mem_of_getElem? hj)), wb_at _ _ _ _ j q H'[j] hdup hj (List.getElem?_eq_getElem (by omega)) (hlt q (List.mem_of_getElem? hj))]
    rw [List.getElem?_eq_getElem (by omega)]
    rfl
  have hget_new : ∀ j, (joinH σ H H')[H.length + j]? = (H'[σ.length + j]?).map (Option.map (renB g)) := fun j => by
    unfold joinH
    rw [List.getElem?_append_right (by rw [wb_length]; omega), wb_length, Nat.add_sub_cancel_left, news_get, List.getElem?_drop]
  have hown2 : ∀ b, Own (reN (σ.map some) r) H2 b → ∃ (j q : Nat) (x : B) (o s e : Nat), σ[j]? = some q ∧ H[q]? = some (some x) ∧ r q = some (.at_ true b o s e) := by
    intro b ⟨j, x, o, s, e, h1, h2⟩
    rcases hm j x h1 with ⟨q, y, h3, h4, h5⟩ | ⟨h3, _⟩
    · unfold reN at h2
      rw [h3] at h2
      refine ⟨j, q, y, o, s, e, ?_, h4, h2⟩
      simpa using h3
    · simp at h3
  have hOwn : ∀ b, Own (reN (σ.map some) r) H2 b → Own r H b := fun b hb => by
    obtain ⟨j, q, x, o, s, e, h1, h2, h3⟩ := hown2 b hb
    exact ⟨q, x, o, s, e, h2, h3⟩
  have hnotown : ∀ q x b o s e, H[q]? = some (some x) → q ∉ σ → r q = some (.at_ true b o s e) → ¬ Own (reN (σ.map some) r) H2 b := by
    intro q x b o s e hq hqs hr ho
    obtain ⟨j, q', x', o', s', e', h1, h2, h3⟩ := hown2 b ho
    have := hw.inj q q' x x' _ _ _ _ _ _ _ hq h2 hr h3
    subst this
    exact hqs (List.mem_of_getElem? h1)
  -- each block of the new state: an old one, one of the call's own, or a new one
  have hcase : ∀ id x, (joinH σ H H')[id]? = some (some x) → (id < H.length ∧ id ∉ σ ∧ H[id]? = some (some x)) ∨ (∃ j y, H'[j]? = some (some y) ∧ x = renB g y ∧ id = g j ∧ ((∃ q, σ[j]? = some q) ∨ σ.length ≤ j)) := by
    intro id x hx
    rcases Nat.lt_or_ge id H.length with hl2 | hl2
    · by_cases hs : id ∈ σ
      · obtain ⟨j, hj, he⟩ := List.getElem_of_mem hs
        have hjs : σ[j]? = some id := by rw [List.getElem?_eq_getElem hj, he]
        rw [hget_own j id hjs] at hx
        obtain ⟨y, hy, hxy⟩ := Option.map_eq_some_iff.1 hx
        obtain ⟨z, hz, hzx⟩ := Option.map_eq_some_iff.1 hxy
        subst hz
        refine .inr ⟨j, z, hy, hzx.symm, ?_, .inl ⟨_, hjs⟩⟩
        show id = up σ H.length j
        unfold up
        rw [hjs]
      · rw [hget_old id hl2 hs] at hx
        exact .inl ⟨hl2, hs, hx⟩
    · obtain ⟨j, rfl⟩ : ∃ j, id = H.length + j := ⟨id - H.length, by omega⟩
      rw [hget_new] at hx
      obtain ⟨y, hy, hxy⟩ := Option.map_eq_some_iff.1 hx
      obtain ⟨z, hz, hzx⟩ := Option.map_eq_some_iff.1 hxy
      subst hz
      refine .inr ⟨σ.length + j, z, hy, hzx.symm, ?_, .inr (by omega)⟩
      show _ = up σ H.length _
      unfold up
      rw [List.getElem?_eq_none (by omega)]
      simp only
      omega
  -- where they are
  have hginj : ∀ j j', ((∃ q, σ[j]? = some q) ∨ σ.length ≤ j) → ((∃ q, σ[j']? = some q) ∨ σ.length ≤ j') → g j = g j' → j = j' := by
    intro j j' h1 h2 he
    have : up σ H.length j = up σ H.length j' := he
    unfold up at this
    rcases h1 with ⟨q, hq⟩ | hge
    · rw [hq] at this
      have hql := hlt q (List.mem_of_getElem? hq)
      rcases h2 with ⟨q', hq'⟩ | hge'
      · rw [hq'] at this
        simp only at this
        subst this
        exact hdup _ _ _ hq hq'
      · rw [List.getElem?_eq_none hge'] at this
        simp only at this
        omega
    · rw [List.getElem?_eq_none hge] at this
      rcases h2 with ⟨q', hq'⟩ | hge'
      · rw [hq'] at this
        have hql := hlt q' (List.mem_of_getElem? hq')
        simp only at this
        omega
      · rw [List.getElem?_eq_none hge'] at this
        simp only at this
        omega
  have hrg : ∀ j, ((∃ q, σ[j]? = some q) ∨ σ.length ≤ j) → rg (g j) = r' j := by
    intro j hj
    rcases hj with ⟨q, hq⟩ | hge
    · have : g j = q := by show up σ H.length j = q; unfold up; rw [hq]
      rw [this, hrg_old q (hlt q (List.mem_of_getElem? hq)), hr2 j q hq]
    · have : g j = H.length + (j - σ.length) := by show up σ H.length j = _; unfold up; rw [List.getElem?_eq_none hge]
      rw [this, hrg_new, show σ.length + (j - σ.length) = j by omega]
  have hfar : ∀ j y b o s e, H'[j]? = some (some y) → r' j = some (.at_ true b o s e) → w.heap.size ≤ b ∨ Own (reN (σ.map some) r) H2 b := fun j y b o s e hy hr => hst.own ⟨j, y, o, s, e, hy, hr⟩
  refine ⟨_, u, _, rg, fz', he, hk _ _ hk2, ⟨hw'.below, hw'.froz, hw'.old, fun id hid => ?_, fun id x hx => ?_, fun id id' x x' b o s e o' s' e' hx hx' hr hr' => ?_⟩, hv.ren hren,
    ⟨by rw [hjl]; omega, hrg_old, hst.phi, hst.size, fun id b o s e hid hr => ?_, fun id x hid hx => ?_, fun b hb hnb => hst.frame b hb (fun ho => hnb (hOwn b ho)), fun b o hb => ?_⟩⟩
  · rw [hjl] at hid
    obtain ⟨j, rfl⟩ : ∃ j, id = H.length + j := ⟨id - H.length, by omega⟩
    rw [hrg_new]
    exact hw'.dom _ (by omega)
  · rcases hcase id x hx with ⟨h1, h2, h3⟩ | ⟨j, y, h1, rfl, rfl, h4⟩
    · rcases hw.live id x h3 with ⟨b, o, e, e1, e2, e4, e3⟩ | ⟨e1, e2⟩
      · cases hxr : x.rw with
        | true =>
          rw [hxr] at e1
          have hno := hnotown id x _ _ _ _ h3 h2 e1
          refine .inl ⟨b, o, e, by rw [hrg_old id h1, hxr]; exact e1, fun _ => ?_, fun h => (by rw [hxr] at h; cases h), (e3.of_block (hst.frame b e3.lt hno)).mono hsub⟩
          cases hfb : fz' b with
          | none => rfl
          | some ob =>
            rcases hst.newf b ob hfb with h5 | h5 | h5
            · rw [e2 hxr] at h5; cases h5
            · have := e3.lt; omega
            · exact absurd h5 hno
        | false =>
          obtain ⟨ob, hob⟩ := e4 hxr
          have hb : w'.heap[b]? = w.heap[b]? := by rw [hw'.froz b ob (hst.phi b ob hob), hw.froz b ob hob]
          exact .inl ⟨b, o, e, by rw [hrg_old id h1]; exact e1, fun h => (by rw [hxr] at h; cases h), fun _ => ⟨ob, hst.phi b ob hob⟩, (e3.of_block hb).mono hsub⟩
      · exact .inr ⟨by rw [hrg_old id h1]; exact e1, e2⟩
    · exact (hw'.live j y h1).ren hren
  · rcases hcase id x hx with ⟨h1, h2, h3⟩ | ⟨j, y, h1, rfl, rfl, h4⟩
    · rw [hrg_old id h1] at hr
      have hno := hnotown id x _ _ _ _ h3 h2 hr
      have hblt : b < w.heap.size := ((hw.live id x h3).at_ hr).2.2.2.2.lt
      rcases hcase id' x' hx' with ⟨h1', h2', h3'⟩ | ⟨j', y', h1', rfl, rfl, h4'⟩
      · rw [hrg_old id' h1'] at hr'
        exact hw.inj _ _ _ _ _ _ _ _ _ _ _ h3 h3' hr hr'
      · rw [hrg j' h4'] at hr'
        rcases hfar j' y' _ _ _ _ h1' hr' with h5 | h5
        · omega
        · exact absurd h5 hno
    · rw [hrg j h4] at hr
      rcases hcase id' x' hx' with ⟨h1', h2', h3'⟩ | ⟨j', y', h1', rfl, rfl, h4'⟩
      · rw [hrg_old id' h1'] at hr'
        have hno := hnotown id' x' _ _ _ _ h3' h2' hr'
        have hblt : b < w.heap.size := ((hw.live id' x' h3').at_ hr').2.2.2.2.lt
        rcases hfar j y _ _ _ _ h1 hr with h5 | h5
        · omega
        · exact absurd h5 hno
      · rw [hrg j' h4'] at hr'
        rw [hw'.inj _ _ _ _ _ _ _ _ _ _ _ h1 h1' hr hr']
  · obtain ⟨j, rfl⟩ : ∃ j, id = H.length + j := ⟨id - H.length, by omega⟩
    rw [hrg_new] at hr
    rcases hst.fresh _ _ _ _ _ (by omega) hr with h5 | h5
    · exact .inl h5
    · exact .inr (hOwn b h5)
  · rcases hcase id x hx with ⟨h1, h2, h3⟩ | ⟨j, y, h1, rfl, h3, h4⟩
    · exact ⟨x, h3⟩
    · rcases h4 with ⟨q, hq⟩ | hge
      · have hj' : j < σ.length := (List.getElem?_eq_some_iff.1 hq).1
        obtain ⟨z, hz⟩ := hst.dead j y (by omega) h1
        rcases hm j z hz with ⟨q', y', h5, h6, h7⟩ | ⟨h5, _⟩
        · have : g j = q := by show up σ H.length j = q; unfold up; rw [hq]
          rw [h3, this]
          have : q' = q := by simp [hq] at h5; exact h5.symm
          subst this
          exact ⟨_, h6⟩
        · simp [hq] at h5
      · have : g j = H.length + (j - σ.length) := by show up σ H.length j = _; unfold up; rw [List.getElem?_eq_none hge]
        omega
  · rcases hst.newf b o hb with h5 | h5 | h5
    · exact .inl h5
    · exact .inr (.inl h5)
    · exact .inr (.inr (hOwn b h5))
end Go.Proofs.YtdijdlkljeibjaaDoor.AM
