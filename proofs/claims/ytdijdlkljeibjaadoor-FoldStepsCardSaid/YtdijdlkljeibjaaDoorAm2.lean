/- How the abstract machine's states stand for states of the model: the relation, and what it keeps. Plain lemmas; no condition. -/
import Derived.Test.YtdijdlkljeibjaaDoorAm1
import Derived.Laws.World
namespace Go.Proofs.YtdijdlkljeibjaaDoor.AM
open Go Go.RowKit
set_option linter.unusedVariables false

/-- Where a block is: from an offset of a block of the model's on, of elements of so many cells, the model's block having e cells; or nowhere: it is an empty slice's. -/
inductive Ps where
  | at_ (rw : Bool) (b o s e : Nat)
  | nil
abbrev Pl := Nat → Option Ps

mutual
def CR (r : Pl) : C → Value → Prop
  | .int k n, v => v = .int k n
  | .bool b, v => v = .bool b
  | .str s, v => v = .string s
  | .ptr id i j, v => ∃ rw b o s e, r id = some (.at_ rw b o s e) ∧ v = .pointer (some ⟨b, o + (i * s + j), none⟩)
  | .nilp, v => v = .pointer none
  | .sl id i len cap, v => (∃ rw b o s e ad c, r id = some (.at_ rw b o s e) ∧ v = .slice (some ad) len c ∧ (ad = ⟨b, o + i * s, none⟩ ∧ o + i * s + c * s ≤ e ∨ c = 0) ∧ len ≤ c ∧ ∀ n, cap = some n → c = n) ∨ (r id = some .nil ∧ (∃ ad, v = .slice ad 0 0 ∧ (cap = none ∨ cap = some 0 ∧ ad.isSome = true)) ∧ len = 0)
  | .nils, v => v = .slice none 0 0
  | .fn f caps, v => ∃ vs, v = .func (.func f) #[] ⟨vs⟩ ∧ CRs r caps vs
  | .nilf, v => v = .nilFunc
  | .raw u, v => v = u
  | .undef, _ => True
def CRs (r : Pl) : List C → List Value → Prop
  | [], [] => True
  | c :: cs, v :: vs => CR r c v ∧ CRs r cs vs
  | _, _ => False
end

mutual
def VR (r : Pl) : V → Value → Prop
  | .one c, v => CR r c v
  | .agg cs, v => ∃ vs, v = .agg ⟨vs⟩ ∧ CRs r cs vs
  | .tup vs, v => ∃ us, v = .tuple ⟨us⟩ ∧ VRs r vs us
def VRs (r : Pl) : List V → List Value → Prop
  | [], [] => True
  | c :: cs, v :: vs => VR r c v ∧ VRs r cs vs
  | _, _ => False
end

/-- r' says of each block what r says. -/
def Sub (r r' : Pl) : Prop := ∀ id x, r id = some x → r' id = some x

theorem Sub.refl (r : Pl) : Sub r r := fun _ _ h => h
theorem Sub.trans {a b c : Pl} (h : Sub a b) (k : Sub b c) : Sub a c := fun id x hx => k id x (h id x hx)

mutual
theorem CR.mono {r r' : Pl} (h : Sub r r') : ∀ {c : C} {v : Value}, CR r c v → CR r' c v
  | .int k n, v, H => H
  | .bool b, v, H => H
  | .str s, v, H => H
  | .ptr id i j, v, H => by
    unfold CR at H ⊢
    obtain ⟨rw_, b, o, s, e, h1, h2⟩ := H
    exact ⟨rw_, b, o, s, e, h _ _ h1, h2⟩
  | .nilp, v, H => H
  | .sl id i len cap, v, H => by
    unfold CR at H ⊢
    rcases H with ⟨rw_, b, o, s, e, ad, c, h1, h2⟩ | ⟨h1, h2⟩
    · exact .inl ⟨rw_, b, o, s, e, ad, c, h _ _ h1, h2⟩
    · exact .inr ⟨h _ _ h1, h2⟩
  | .nils, v, H => H
  | .fn f caps, v, H => by
    unfold CR at H ⊢
    obtain ⟨vs, h1, h2⟩ := H
    exact ⟨vs, h1, CRs.mono h h2⟩
  | .nilf, v, H => H
  | .raw u, v, H => H
  | .undef, v, H => H
theorem CRs.mono {r r' : Pl} (h : Sub r r') : ∀ {c : List C} {v : List Value}, CRs r c v → CRs r' c v
  | [], [], H => H
  | c :: cs, v :: vs, H => by
    unfold CRs at H ⊢
    exact ⟨CR.mono h H.1, CRs.mono h H.2⟩
  | [], _ :: _, H => H
  | _ :: _, [], H => H
end

mutual
theorem VR.mono {r r' : Pl} (h : Sub r r') : ∀ {c : V} {v : Value}, VR r c v → VR r' c v
  | .one c, v, H => by unfold VR at H ⊢; exact CR.mono h H
  | .agg cs, v, H => by
    unfold VR at H ⊢
    obtain ⟨vs, h1, h2⟩ := H
    exact ⟨vs, h1, CRs.mono h h2⟩
  | .tup vs, v, H => by
    unfold VR at H ⊢
    obtain ⟨us, h1, h2⟩ := H
    exact ⟨us, h1, VRs.mono h h2⟩
theorem VRs.mono {r r' : Pl} (h : Sub r r') : ∀ {c : List V} {v : List Value}, VRs r c v → VRs r' c v
  | [], [], H => H
  | c :: cs, v :: vs, H => by
    unfold VRs at H ⊢
    exact ⟨VR.mono h H.1, VRs.mono h H.2⟩
  | [], _ :: _, H => H
  | _ :: _, [], H => H
end

theorem CRs.length {r : Pl} : ∀ {c : List C} {v : List Value}, CRs r c v → c.length = v.length
  | [], [], _ => rfl
  | c :: cs, v :: vs, H => by
    unfold CRs at H
    simp [CRs.length H.2]
  | [], _ :: _, H => by simp [CRs] at H
  | _ :: _, [], H => by simp [CRs] at H

theorem CRs.get {r : Pl} : ∀ {c : List C} {v : List Value}, CRs r c v → ∀ (i : Nat) (x : C), c[i]? = some x → ∃ y, v[i]? = some y ∧ CR r x y
  | [], [], _, i, x, h => by simp at h
  | c :: cs, v :: vs, H, i, x, h => by
    unfold CRs at H
    cases i with
    | zero => simp at h; subst h; exact ⟨v, by simp, H.1⟩
    | succ i => simpa using CRs.get H.2 i x (by simpa using h)
  | [], _ :: _, H, _, _, _ => by simp [CRs] at H
  | _ :: _, [], H, _, _, _ => by simp [CRs] at H

theorem CRs.of_get {r : Pl} : ∀ {c : List C} {v : List Value}, c.length = v.length → (∀ (i : Nat) (x : C), c[i]? = some x → ∃ y, v[i]? = some y ∧ CR r x y) → CRs r c v
  | [], [], _, _ => by simp [CRs]
  | c :: cs, v :: vs, hl, H => by
    unfold CRs
    refine ⟨?_, CRs.of_get (by simpa using hl) fun i x h => ?_⟩
    · obtain ⟨y, h1, h2⟩ := H 0 c (by simp)
      simp at h1; subst h1; exact h2
    · simpa using H (i + 1) x (by simpa using h)
  | [], _ :: _, hl, _ => by simp at hl
  | _ :: _, [], hl, _ => by simp at hl

theorem VRs.length {r : Pl} : ∀ {c : List V} {v : List Value}, VRs r c v → c.length = v.length
  | [], [], _ => rfl
  | c :: cs, v :: vs, H => by
    unfold VRs at H
    simp [VRs.length H.2]
  | [], _ :: _, H => by simp [VRs] at H
  | _ :: _, [], H => by simp [VRs] at H

theorem VRs.append {r : Pl} : ∀ {c d : List V} {v u : List Value}, VRs r c v → VRs r d u → VRs r (c ++ d) (v ++ u)
  | [], d, [], u, _, K => K
  | c :: cs, d, v :: vs, u, H, K => by
    unfold VRs at H
    simp only [List.cons_append]
    unfold VRs
    exact ⟨H.1, VRs.append H.2 K⟩
  | [], _, _ :: _, _, H, _ => by simp [VRs] at H
  | _ :: _, _, [], _, H, _ => by simp [VRs] at H

theorem VRs.get {r : Pl} : ∀ {c : List V} {v : List Value}, VRs r c v → ∀ (i : Nat) (x : V), c[i]? = some x → ∃ y, v[i]? = some y ∧ VR r x y
  | [], [], _, i, x, h => by simp at h
  | c :: cs, v :: vs, H, i, x, h => by
    unfold VRs at H
    cases i with
    | zero => simp at h; subst h; exact ⟨v, by simp, H.1⟩
    | succ i => simpa using VRs.get H.2 i x (by simpa using h)
  | [], _ :: _, H, _, _, _ => by simp [VRs] at H
  | _ :: _, [], H, _, _, _ => by simp [VRs] at H

/-- What a block is in the model's memory: from offset o of block b on. -/
def BR (r : Pl) (w : World) (b o e : Nat) : B → Prop
  | .box t cs => ∃ us, w.heap[b]? = some (.cells us t (0, 0)) ∧ us.size = e ∧ ∀ j c, cs[j]? = some c → ∃ v, us[o + j]? = some v ∧ CR r c v
  | .row rw t sz n f => ∃ us t' fr, w.heap[b]? = some (.cells us t' fr) ∧ us.size = e ∧ (rw = true → t' = t ∧ fr = (0, 0)) ∧ ∀ i, i < n → (f i).length = sz ∧ ∀ j c, (f i)[j]? = some c → ∃ v, us[o + (i * sz + j)]? = some v ∧ CR r c v
  | .obj ob => w.heap[b]? = some ob ∧ o = 0 ∧ e = 0

def B.sz : B → Nat
  | .box _ _ => 0
  | .row _ _ sz _ _ => sz
  | .obj _ => 0
def B.rw : B → Bool
  | .box _ _ => true
  | .row rw _ _ _ _ => rw
  | .obj _ => true
def B.ty : B → TypeId
  | .box t _ => t
  | .row _ t _ _ _ => t
  | .obj _ => 0
def B.isObj : B → Bool
  | .obj _ => true
  | _ => false

theorem BR.mono {r r' : Pl} (h : Sub r r') {w : World} {b o e : Nat} {x : B} (H : BR r w b o e x) : BR r' w b o e x := by
  cases x with
  | box t cs =>
    obtain ⟨us, h1, h0, h2⟩ := H
    exact ⟨us, h1, h0, fun j c hc => let ⟨v, e, k⟩ := h2 j c hc; ⟨v, e, k.mono h⟩⟩
  | row rw_ t sz n f =>
    obtain ⟨us, t', fr, h1, h0, h3, h2⟩ := H
    exact ⟨us, t', fr, h1, h0, h3, fun i hi => ⟨(h2 i hi).1, fun j c hc => let ⟨v, e, k⟩ := (h2 i hi).2 j c hc; ⟨v, e, k.mono h⟩⟩⟩
  | obj ob => exact H

theorem BR.of_block {r : Pl} {w w' : World} {b o e : Nat} {x : B} (H : BR r w b o e x) (h : w'.heap[b]? = w.heap[b]?) : BR r w' b o e x := by
  cases x <;> (unfold BR at H ⊢; rw [h]; exact H)

theorem BR.cells {r : Pl} {w : World} {b o e : Nat} {x : B} (H : BR r w b o e x) (hx : x.isObj = false) : ∃ (us : Array Value) (t : TypeId) (fr : Nat × Nat), w.heap[b]? = some (.cells us t fr) ∧ us.size = e ∧ (x.rw = true → t = x.ty ∧ fr = (0, 0)) := by
  cases x with
  | box t cs => obtain ⟨us, h1, h2, _⟩ := H; exact ⟨us, _, _, h1, h2, fun _ => ⟨rfl, rfl⟩⟩
  | row rw_ t sz n f => obtain ⟨us, t', fr, h1, h2, h3, _⟩ := H; exact ⟨us, _, _, h1, h2, h3⟩
  | obj ob => cases hx

theorem BR.lt {r : Pl} {w : World} {b o e : Nat} {x : B} (H : BR r w b o e x) : b < w.heap.size := by
  cases hx : x.isObj with
  | false =>
    obtain ⟨us, t, fr, h1, _⟩ := H.cells hx
    exact (Array.getElem?_eq_some_iff.1 h1).1
  | true =>
    cases x with
    | obj ob => exact (Array.getElem?_eq_some_iff.1 H.1).1
    | _ => cases hx

abbrev Fz := Nat → Option Obj

/-- What holds of a block that is there: it is the state's own, or it is frozen, or it is an empty slice's. -/
def LR (r : Pl) (fz : Fz) (w : World) (id : Nat) (x : B) : Prop :=
  (∃ b o e, r id = some (.at_ x.rw b o x.sz e) ∧ (x.rw = true → fz b = none) ∧ (x.rw = false → ∃ ob, fz b = some ob) ∧ BR r w b o e x) ∨ (r id = some .nil ∧ ∃ rw t sz f, x = .row rw t sz 0 f)

theorem LR.at_ {r : Pl} {fz : Fz} {w : World} {id : Nat} {x : B} (h : LR r fz w id x) {rw_ : Bool} {b o s e : Nat} (hr : r id = some (.at_ rw_ b o s e)) : s = x.sz ∧ rw_ = x.rw ∧ (rw_ = true → fz b = none) ∧ (rw_ = false → ∃ ob, fz b = some ob) ∧ BR r w b o e x := by
  rcases h with ⟨b', o', e', h1, h2, h4, h3⟩ | ⟨h1, _⟩
  · rw [hr] at h1; cases h1; exact ⟨rfl, rfl, h2, h4, h3⟩
  · rw [hr] at h1; cases h1

/-- The state of memory. -/
structure WR (W0 : World) (r : Pl) (fz : Fz) (H : Heap) (w : World) : Prop where
  below : Below W0.heap.size W0 w
  froz : ∀ b o, fz b = some o → w.heap[b]? = some o
  old : ∀ b, b < W0.heap.size → fz b = W0.heap[b]?
  dom : ∀ id, H.length ≤ id → r id = none
  live : ∀ id x, H[id]? = some (some x) → LR r fz w id x
  inj : ∀ id id' x x' b o s e o' s' e', H[id]? = some (some x) → H[id']? = some (some x') → r id = some (.at_ true b o s e) → r id' = some (.at_ true b o' s' e') → id = id'

/-- Block b is one of the state's own. -/
def Own (r : Pl) (H : Heap) (b : Nat) : Prop := ∃ id x o s e, H[id]? = some (some x) ∧ r id = some (.at_ true b o s e)

structure Stp (r : Pl) (fz : Fz) (H : Heap) (w : World) (r' : Pl) (fz' : Fz) (H' : Heap) (w' : World) : Prop where
  len : H.length ≤ H'.length
  ext : ∀ id, id < H.length → r' id = r id
  phi : ∀ b o, fz b = some o → fz' b = some o
  size : w.heap.size ≤ w'.heap.size
  fresh : ∀ id b o s e, H.length ≤ id → r' id = some (.at_ true b o s e) → w.heap.size ≤ b ∨ Own r H b
  dead : ∀ id x, id < H.length → H'[id]? = some (some x) → ∃ y, H[id]? = some (some y)
  frame : ∀ b, b < w.heap.size → ¬ Own r H b → w'.heap[b]? = w.heap[b]?
  newf : ∀ b o, fz' b = some o → fz b = some o ∨ w.heap.size ≤ b ∨ Own r H b

theorem Stp.refl {W0 : World} {r : Pl} {fz : Fz} {H : Heap} {w : World} (h : WR W0 r fz H w) : Stp r fz H w r fz H w :=
  ⟨Nat.le_refl _, fun _ _ => rfl, fun _ _ h => h, Nat.le_refl _, fun id b o s e hid he => (by rw [h.dom id hid] at he; cases he), fun _ x _ hx => ⟨x, hx⟩, fun _ _ _ => rfl, fun _ _ h => .inl h⟩

theorem Stp.own {r r' : Pl} {fz fz' : Fz} {H H' : Heap} {w w' : World} (h : Stp r fz H w r' fz' H' w') {b : Nat} (ho : Own r' H' b) : w.heap.size ≤ b ∨ Own r H b := by
  obtain ⟨id, x, o, s, e, h1, h2⟩ := ho
  rcases Nat.lt_or_ge id H.length with hl | hl
  · obtain ⟨y, hy⟩ := h.dead id x hl h1
    exact .inr ⟨id, y, o, s, e, hy, by rw [← h.ext id hl]; exact h2⟩
  · exact h.fresh id b o s e hl h2

theorem Stp.trans {r1 r2 r3 : Pl} {f1 f2 f3 : Fz} {H1 H2 H3 : Heap} {w1 w2 w3 : World} (h : Stp r1 f1 H1 w1 r2 f2 H2 w2) (k : Stp r2 f2 H2 w2 r3 f3 H3 w3) : Stp r1 f1 H1 w1 r3 f3 H3 w3 where
  len := Nat.le_trans h.len k.len
  ext id hid := (k.ext id (Nat.lt_of_lt_of_le hid h.len)).trans (h.ext id hid)
  phi b o ho := k.phi b o (h.phi b o ho)
  size := Nat.le_trans h.size k.size
  fresh id b o s e hid he := by
    rcases Nat.lt_or_ge id H2.length with hl | hl
    · exact h.fresh id b o s e hid (by rw [← k.ext id hl]; exact he)
    · rcases k.fresh id b o s e hl he with h1 | h1
      · exact .inl (Nat.le_trans h.size h1)
      · exact h.own h1
  dead id x hid he := by
    obtain ⟨y, hy⟩ := k.dead id x (Nat.lt_of_lt_of_le hid h.len) he
    exact h.dead id y hid hy
  frame b hb hn := by
    have h1 : ¬ Own r2 H2 b := fun ho => by
      rcases h.own ho with h2 | h2
      · omega
      · exact hn h2
    exact (k.frame b (Nat.lt_of_lt_of_le hb h.size) h1).trans (h.frame b hb hn)
  newf b o he := by
    rcases k.newf b o he with h1 | h1 | h1
    · exact h.newf b o h1
    · exact .inr (.inl (Nat.le_trans h.size h1))
    · exact .inr (h.own h1)

theorem Stp.sub {W0 : World} {r r' : Pl} {fz fz' : Fz} {H H' : Heap} {w w' : World} (h : Stp r fz H w r' fz' H' w') (hw : WR W0 r fz H w) : Sub r r' := fun id x hx => by
  rcases Nat.lt_or_ge id H.length with hl | hl
  · rw [h.ext id hl]; exact hx
  · rw [hw.dom id hl] at hx; cases hx

/-- The temporaries. -/
structure TR (r : Pl) (T : List V) (tmps : Array Value) : Prop where
  len : T.length = tmps.size
  get : ∀ t, VR r (T.getD t (.one .undef)) (tmps.getD t undef)

theorem TR.mono {r r' : Pl} (h : Sub r r') {T : List V} {tmps : Array Value} (H : TR r T tmps) : TR r' T tmps := ⟨H.len, fun t => (H.get t).mono h⟩

theorem TR.put {r : Pl} {T : List V} {a : Act} (H : TR r T a.tmps) (d : Option Tmp) {v : V} {u : Value} (h : VR r v u) : TR r (put T d v) (a.put d u).tmps := by
  cases d with
  | none => exact H
  | some d =>
    refine ⟨by simp [AM.put, Act.put, H.len], fun t => ?_⟩
    simp only [AM.put, Act.put, List.getD_eq_getElem?_getD, Array.getD_eq_getD_getElem?, List.getElem?_set, Array.getElem?_setIfInBounds]
    by_cases hd : d = t
    · subst hd
      simp only [if_true]
      by_cases hl : d < T.length
      · have : d < a.tmps.size := by rw [← H.len]; exact hl
        simp [hl, this, h]
      · have : ¬ d < a.tmps.size := by rw [← H.len]; exact hl
        simp [hl, this, VR, CR]
    · rw [if_neg hd, if_neg hd]
      have := H.get t
      simpa only [List.getD_eq_getElem?_getD, Array.getD_eq_getD_getElem?] using this

theorem ofCell_rel (r : Pl) (v : Value) : CR r (ofCell v) v := by
  unfold ofCell
  split <;> simp [CR]

theorem ofCells_rel (r : Pl) : ∀ (l : List Value), CRs r (l.map ofCell) l
  | [] => by simp [CRs]
  | v :: l => by
    simp only [List.map_cons]
    unfold CRs
    exact ⟨ofCell_rel r v, ofCells_rel r l⟩

theorem ofVal_rel (r : Pl) (v : Value) : VR r (ofVal v) v := by
  unfold ofVal
  split
  · rename_i cs
    unfold VR
    exact ⟨cs.toList, rfl, ofCells_rel r _⟩
  · unfold VR
    exact ofCell_rel r v

theorem ev_rel {r : Pl} {T : List V} {a : Act} (H : TR r T a.tmps) (x : Operand) : VR r (ev T x) (a.eval x) := by
  cases x with
  | tmp t => exact H.get t
  | const v => exact ofVal_rel r v
  | global g => simp [ev, Act.eval, VR, CR]
  | func f => simp only [ev, Act.eval, VR, CR]; exact ⟨[], rfl, by simp [CRs]⟩

theorem evs_rel {r : Pl} {T : List V} {a : Act} (H : TR r T a.tmps) : ∀ l : List Operand, VRs r (evs T l) (l.map a.eval)
  | [] => by simp [evs, VRs]
  | x :: l => by
    have := evs_rel H l
    unfold evs at this ⊢
    simp only [List.map_cons]
    unfold VRs
    exact ⟨ev_rel H x, this⟩

/-- A new block. -/
theorem WR.allocO {W0 : World} {r : Pl} {fz : Fz} {H : Heap} {w : World} (h : WR W0 r fz H w) (ob : Obj) (sz0 : Nat) (x : B) (hrw : x.rw = true) (hx : ∀ r' w', Sub r r' → w'.heap[w.heap.size]? = some ob → BR r' w' w.heap.size 0 sz0 x) :
    ∃ r', WR W0 r' fz (H ++ [some x]) (w.alloc ob) ∧ Stp r fz H w r' fz (H ++ [some x]) (w.alloc ob) ∧ r' H.length = some (.at_ true w.heap.size 0 x.sz sz0) := by
  have hfz : fz w.heap.size = none := by
    cases hb : fz w.heap.size with
    | none => rfl
    | some o => have := (Array.getElem?_eq_some_iff.1 (h.froz _ _ hb)).1; omega
  have hnew : (w.alloc ob).heap[w.heap.size]? = some ob := by
    show (w.heap.push _)[w.heap.size]? = _
    simp
  have hold : ∀ b, b < w.heap.size → (w.alloc ob).heap[b]? = w.heap[b]? := fun b hb => Below.heap_alloc w _ b hb
  let r' : Pl := fun id => if id = H.length then some (.at_ true w.heap.size 0 x.sz sz0) else r id
  have hsub : Sub r r' := fun id y hy => by
    show (if id = H.length then _ else r id) = some y
    rw [if_neg (fun e => by rw [e, h.dom _ (Nat.le_refl _)] at hy; cases hy)]
    exact hy
  have hr : r' H.length = some (.at_ true w.heap.size 0 x.sz sz0) := if_pos rfl
  have hlt : ∀ id y, H[id]? = some (some y) → id < H.length := fun id y hy => (List.getElem?_eq_some_iff.1 hy).1
  refine ⟨r', ⟨h.below.alloc h.below.size _, fun b o hb => ?_, h.old, fun id hid => ?_, fun id y hy => ?_, fun id id' y y' b o s e o' s' e' hy hy' he he' => ?_⟩, ⟨by simp, fun id hid => if_neg (by omega), fun _ _ h => h, (by show w.heap.size ≤ (w.heap.push _).size; simp), fun id b o s e hid he => ?_, fun id y hid hy => ?_, fun b hb _ => hold b hb, fun _ _ h => .inl h⟩, hr⟩
  · rw [hold b (Array.getElem?_eq_some_iff.1 (h.froz _ _ hb)).1]
    exact h.froz _ _ hb
  · simp only [List.length_append, List.length_singleton] at hid
    show (if id = H.length then _ else r id) = none
    rw [if_neg (by omega)]
    exact h.dom id (by omega)
  · rcases Nat.lt_or_ge id H.length with hl | hl
    · rw [List.getElem?_append_left hl] at hy
      rcases h.live id y hy with ⟨b, o, e, e1, e2, e4, e3⟩ | ⟨e1, e2⟩
      · exact .inl ⟨b, o, e, hsub _ _ e1, e2, e4, (e3.of_block (hold b e3.lt)).mono hsub⟩
      · exact .inr ⟨hsub _ _ e1, e2⟩
    · rw [List.getElem?_append_right hl] at hy
      have : id - H.length = 0 := by
        have := (List.getElem?_eq_some_iff.1 hy).1
        simpa using this
      rw [this] at hy
      simp at hy
      subst hy
      obtain rfl : id = H.length := by omega
      exact .inl ⟨_, _, _, by rw [hrw]; exact hr, fun _ => hfz, fun h => (by rw [hrw] at h; cases h), hx _ _ hsub hnew⟩
  · have key : ∀ id y b o s e, (H ++ [some x])[id]? = some (some y) → r' id = some (.at_ true b o s e) → (id = H.length ∧ b = w.heap.size) ∨ (id < H.length ∧ H[id]? = some (some y) ∧ r id = some (.at_ true b o s e) ∧ b < w.heap.size) := by
      intro id y b o s e hy he
      rcases Nat.lt_or_ge id H.length with hl | hl
      · rw [List.getElem?_append_left hl] at hy
        have he : r id = some (.at_ true b o s e) := by
          have : r' id = r id := if_neg (by omega)
          rw [← this]; exact he
        exact .inr ⟨hl, hy, he, ((h.live id y hy).at_ he).2.2.2.2.lt⟩
      · rw [List.getElem?_append_right hl] at hy
        have : id - H.length = 0 := by
          have := (List.getElem?_eq_some_iff.1 hy).1
          simpa using this
        obtain rfl : id = H.length := by omega
        rw [hr] at he
        cases he
        exact .inl ⟨rfl, rfl⟩
    rcases key _ _ _ _ _ _ hy he with ⟨a1, a2⟩ | ⟨a1, a2, a3, a4⟩ <;> rcases key _ _ _ _ _ _ hy' he' with ⟨b1, b2⟩ | ⟨b1, b2, b3, b4⟩
    · omega
    · omega
    · omega
    · exact h.inj _ _ _ _ _ _ _ _ _ _ _ a2 b2 a3 b3
  · have : r' id = if id = H.length then some (.at_ true w.heap.size 0 x.sz sz0) else r id := rfl
    rw [this] at he
    split at he
    · cases he; exact .inl (Nat.le_refl _)
    · rw [h.dom id hid] at he; cases he
  · rw [List.getElem?_append_left hid] at hy
    exact ⟨y, hy⟩

/-- A new block of cells. -/
theorem WR.alloc {W0 : World} {r : Pl} {fz : Fz} {H : Heap} {w : World} (h : WR W0 r fz H w) (us : Array Value) (t : TypeId) (x : B) (hrw : x.rw = true) (hx : ∀ r' w', Sub r r' → w'.heap[w.heap.size]? = some (.cells us t (0, 0)) → BR r' w' w.heap.size 0 us.size x) :
    ∃ r', WR W0 r' fz (H ++ [some x]) (w.alloc (.cells us t)) ∧ Stp r fz H w r' fz (H ++ [some x]) (w.alloc (.cells us t)) ∧ r' H.length = some (.at_ true w.heap.size 0 x.sz us.size) := h.allocO _ _ x hrw hx

/-- A live block is written. -/
theorem WR.writeO {W0 : World} {r : Pl} {fz : Fz} {H : Heap} {w : World} (h : WR W0 r fz H w) {id b o e : Nat} {x y : B} (hid : H[id]? = some (some x)) (hr : r id = some (.at_ true b o x.sz e)) (hsz : y.sz = x.sz) (hrw : y.rw = true) (ob : Obj)
    {w' : World} (hb : w'.heap[b]? = some ob) (hsame : ∀ b', b' ≠ b → w'.heap[b']? = w.heap[b']?) (hsize : w'.heap.size = w.heap.size) (hos : w'.os = w.os) (htape : w'.tape = w.tape) (hout : w'.output = w.output)
    (hy : BR r w' b o e y) : WR W0 r fz (H.set id (some y)) w' ∧ Stp r fz H w r fz (H.set id (some y)) w' := by
  have hlt : id < H.length := (List.getElem?_eq_some_iff.1 hid).1
  have hfz : fz b = none := ((h.live id x hid).at_ hr).2.2.1 rfl
  have hbW : W0.heap.size ≤ b := by
    rcases Nat.lt_or_ge b W0.heap.size with hl | hl
    · rw [h.old b hl] at hfz
      simp [Array.getElem?_eq_getElem hl] at hfz
    · exact hl
  have hown : Own r H b := ⟨id, x, o, _, _, hid, hr⟩
  have hpar : ∀ (id' : Nat) (z : B), (H.set id (some y))[id']? = some (some z) → ∃ z' : B, H[id']? = some (some z') := by
    intro id' z hz
    by_cases he : id = id'
    · subst he; exact ⟨x, hid⟩
    · rw [List.getElem?_set_ne he] at hz; exact ⟨z, hz⟩
  refine ⟨⟨⟨hos.trans h.below.os, htape.trans h.below.tape, hout.trans h.below.output, by rw [hsize]; exact h.below.size, fun k hk => ?_⟩, fun b' o' hb' => ?_, h.old, fun id' hid' => h.dom id' (by simpa using hid'), fun id' z hz => ?_, fun i1 i2 z1 z2 b' o1 s1 q1 o2 s2 q2 h1 h2 e1 e2 => ?_⟩,
    ⟨by simp, fun _ _ => rfl, fun _ _ h => h, by omega, fun id' b' o' s' q' hl he => (by rw [h.dom id' hl] at he; cases he), fun id' z _ hz => hpar id' z hz, fun b' _ hn => hsame b' (fun e => hn (e ▸ hown)), fun _ _ h => .inl h⟩⟩
  · rw [hsame k (by omega)]; exact h.below.block k hk
  · rw [hsame b' (fun e => by rw [e, hfz] at hb'; cases hb')]; exact h.froz _ _ hb'
  · by_cases he : id = id'
    · subst he
      rw [List.getElem?_set_self hlt] at hz
      simp only [Option.some.injEq] at hz
      subst hz
      exact .inl ⟨b, o, e, by rw [hsz, hrw]; exact hr, fun _ => hfz, fun h => (by rw [hrw] at h; cases h), hy⟩
    · rw [List.getElem?_set_ne he] at hz
      rcases h.live id' z hz with ⟨b', o', q', e1, e2, e4, e3⟩ | e
      · refine .inl ⟨b', o', q', e1, e2, e4, e3.of_block (hsame b' (fun e => ?_))⟩
        cases hzr : z.rw with
        | true => rw [hzr] at e1; exact he (h.inj _ _ _ _ _ _ _ _ _ _ _ hid hz hr (e ▸ e1))
        | false => obtain ⟨ob, hob⟩ := e4 hzr; rw [e, hfz] at hob; cases hob
      · exact .inr e
  · obtain ⟨z1', h1'⟩ := hpar _ _ h1
    obtain ⟨z2', h2'⟩ := hpar _ _ h2
    exact h.inj _ _ _ _ _ _ _ _ _ _ _ h1' h2' e1 e2

/-- A live block of cells is written. -/
theorem WR.write {W0 : World} {r : Pl} {fz : Fz} {H : Heap} {w : World} (h : WR W0 r fz H w) {id b o e : Nat} {x y : B} (hid : H[id]? = some (some x)) (hr : r id = some (.at_ true b o x.sz e)) (hsz : y.sz = x.sz) (hrw : y.rw = true) (us : Array Value) (t : TypeId)
    {w' : World} (hb : w'.heap[b]? = some (.cells us t (0, 0))) (hsame : ∀ b', b' ≠ b → w'.heap[b']? = w.heap[b']?) (hsize : w'.heap.size = w.heap.size) (hos : w'.os = w.os) (htape : w'.tape = w.tape) (hout : w'.output = w.output)
    (hy : BR r w' b o e y) : WR W0 r fz (H.set id (some y)) w' ∧ Stp r fz H w r fz (H.set id (some y)) w' :=
  h.writeO hid hr hsz hrw _ hb hsame hsize hos htape hout hy

/-- A draw turns nothing. -/
theorem WR.drew {W0 : World} {r : Pl} {fz : Fz} {H : Heap} {w : World} (h : WR W0 r fz H w) {w' : World} (hh : w'.heap = w.heap) (hos : w'.os = w.os) (htape : w'.tape = w.tape) (hout : w'.output = w.output) : WR W0 r fz H w' ∧ Stp r fz H w r fz H w' := by
  refine ⟨⟨⟨hos.trans h.below.os, htape.trans h.below.tape, hout.trans h.below.output, by rw [hh]; exact h.below.size, fun k hk => by rw [hh]; exact h.below.block k hk⟩, fun b o hb => by rw [hh]; exact h.froz b o hb, h.old, h.dom, fun id x hx => ?_, h.inj⟩, ?_⟩
  · rcases h.live id x hx with ⟨b, o, q, e1, e2, e4, e3⟩ | e
    · exact .inl ⟨b, o, q, e1, e2, e4, e3.of_block (by rw [hh])⟩
    · exact .inr e
  · have := Stp.refl h
    exact ⟨this.len, this.ext, this.phi, by rw [hh]; exact Nat.le_refl _, this.fresh, this.dead, fun b _ _ => by rw [hh], this.newf⟩
end Go.Proofs.YtdijdlkljeibjaaDoor.AM
