/- More moves of a walk on the abstract machine: a loop's next round, append, an argument that may be nil, a call on blocks of its own. -/
import Derived.Test.YtdijdlkljeibjaaDoorAm14
namespace Go.Proofs.YtdijdlkljeibjaaDoor.AM
open Go Go.RowKit
set_option linter.unusedVariables false
set_option linter.unusedSimpArgs false

section
variable {P : Program} {W0 : World} {tab : TypeId → Option TI} {X : Ext} {md : Md}

/-- A loop of no more than n rounds. -/
def aloop (X : Ext) (tab : TypeId → Option TI) (c : Code) : List Unit → List V → Heap → (Nat → Nat → List V → Heap → Prop) → Prop
  | [], _, _, _ => False
  | _ :: n, T, H, k => awp X tab c T H fun e m T' H' => match e with
      | 0 => aloop X tab c n T' H' k
      | e + 1 => k (e + 1) m T' H'

theorem aloop_step {c : Code} {u : Unit} {n : List Unit} {T : List V} {H : Heap} {k : Nat → Nat → List V → Heap → Prop} (h : ∀ L : List V → Heap → Prop, (∀ T H, aloop X tab c n T H k → L T H) → ∀ K : Nat → Nat → List V → Heap → Prop, (∀ e m T H, k e m T H → K e m T H) → awp X tab c T H fun e m T' H' => match e with
      | 0 => L T' H'
      | e + 1 => K (e + 1) m T' H') : aloop X tab c (u :: n) T H k := h _ (fun _ _ h => h) _ fun _ _ _ _ h => h
/-- A loop, round by round. -/
theorem m_rounds (n : List Unit) (ht : Tab P tab) (hX : X = std P W0 md) {c : Code} {T : List V} {H : Heap} {k : Nat → Nat → List V → Heap → Prop} (h : aloop X tab c n T H k) : X.loop c T H k := by
  subst hX
  intro q lo r fz a w hw hT hd hA
  refine wpIn_loop_ex (fun (b : List Unit) a' w' => ∃ T' H' r' fz', aloop (std P W0 md) tab c b T' H' k ∧ WR W0 r' fz' H' w' ∧ TR r' T' a'.tmps ∧ DZ lo fz' w' a'.defers ∧ Stp r fz H w r' fz' H' w') List.length (b0 := n)
    ⟨T, H, r, fz, h, hw, hT, hd, Stp.refl hw⟩ ?_
  rintro b a' w' ⟨T', H', r', fz', hb, hw', hT', hd', hst'⟩
  cases b with
  | nil => exact hb.elim
  | cons _ b =>
    refine wpIn_mono (awp_sound ht c hb q lo r' fz' a' w' hw' hT' hd' (hA.mono hst')) fun ex a2 w2 hq => ?_
    obtain ⟨e, n, T2, H2, r2, fz2, g1, g2, g3, g4, g5, g6⟩ := hq
    cases ex with
    | normal =>
      simp only [ExM] at g1
      subst g1
      exact ⟨b, ⟨T2, H2, r2, fz2, g2, g3, g4, g5, hst'.trans g6⟩, by simp⟩
    | ret => simp only [ExM] at g1; subst g1; exact ⟨1, n, T2, H2, r2, fz2, rfl, g2, g3, g4, g5, hst'.trans g6⟩
    | exit id => obtain ⟨rfl, rfl⟩ := g1; exact ⟨2, _, T2, H2, r2, fz2, ⟨rfl, rfl⟩, g2, g3, g4, g5, hst'.trans g6⟩
    | _ => exact g1.elim

/-- What is appended: the row's number of elements, where the part begins, how many, the row. -/
def srcO (H : Heap) (sz : Nat) (x : V) : Option (Nat × Nat × Nat × (Nat → List C)) :=
  match x with
  | .one .nils => some (0, 0, 0, fun _ => [])
  | .one (.sl id i m cap) => match H.getD id none with
    | some (.row rw t sz' n f) => match Nat.beq sz' sz with
      | true => some (n, i, m, f)
      | false => none
    | _ => none
  | _ => none
theorem heap_get {H : Heap} {id : Nat} {y : B} (hH : H.getD id none = some y) : H[id]? = some (some y) := by
  rw [List.getD_eq_getElem?_getD] at hH
  cases hh : H[id]? with
  | none => rw [hh] at hH; cases hH
  | some y => rw [hh] at hH; simpa using hH
theorem src_of {H : Heap} {sz : Nat} {x : V} {n i m : Nat} {f g : Nat → List C} (h : srcO H sz x = some (n, i, m, f)) (hn : i + m ≤ n) (hg : ∀ q, q < m → g q = f (i + q)) : Src H sz x m g := by
  unfold srcO at h
  split at h
  · cases h; exact .inl ⟨rfl, rfl⟩
  · rename_i id i' m' cap
    split at h
    · rename_i rw_ t sz' n' f' hH
      split at h
      · rename_i hb
        cases h
        obtain rfl : sz' = sz := Nat.eq_of_beq_eq_true hb
        exact .inr ⟨id, _, cap, rw_, t, _, _, rfl, heap_get hH, hn, hg⟩
      · cases h
    · cases h
  · cases h

/-- What is appended to, and what is left of the heap. -/
def baseO (H : Heap) (sz : Nat) (e : TypeId) (x : V) : Option (Nat × Nat × Nat × (Nat → List C) × Heap) :=
  match x with
  | .one .nils => some (0, 0, 0, fun _ => [], H)
  | .one (.sl id i len cap) => match H.getD id none with
    | some (.row true t sz' n f) => match Nat.beq e t, Nat.beq sz' sz with
      | true, true => some (n, i, len, f, H.set id none)
      | _, _ => none
    | some (.row false t sz' n f) => match Nat.beq sz' sz, cap, len with
      | true, some 0, 0 => some (n, i, 0, f, H)
      | _, _, _ => none
    | _ => none
  | _ => none
theorem base_of {H : Heap} {sz : Nat} {e : TypeId} {x : V} {n i len : Nat} {f : Nat → List C} {H' : Heap} {g : Nat → List C} (h : baseO H sz e x = some (n, i, len, f, H')) (hn : i + len = n) (hg : ∀ q, q < len → g q = f (i + q)) : Base H sz e x len g H' := by
  unfold baseO at h
  split at h
  · cases h; exact .inl ⟨rfl, rfl, rfl⟩
  · rename_i id i' len' cap
    split at h
    · rename_i t sz' n' f' hH
      split at h
      · rename_i h0 h1
        cases h
        obtain rfl : e = t := Nat.eq_of_beq_eq_true h0
        obtain rfl : sz' = sz := Nat.eq_of_beq_eq_true h1
        exact .inr (.inl ⟨id, _, cap, _, _, rfl, heap_get hH, hn, hg, rfl⟩)
      · cases h
    · rename_i t sz' n' f' hH
      split at h
      · rename_i h1
        cases h
        obtain rfl : sz' = sz := Nat.eq_of_beq_eq_true h1
        exact .inr (.inr ⟨id, _, _, t, _, _, rfl, heap_get hH, by omega, rfl, rfl⟩)
      · cases h
    · cases h
  · cases h

/-- An append: the new row is told by the prover. -/
theorem m_append (ht : Tab P tab) (hX : X = std P W0 md) (N : Nat) (g' : Nat → List C) {o : Oper} {T : List V} {H : Heap} {k : V → Heap → Prop} {c : Call} {t e : TypeId} {ti te : TI} {s x : V} {n i m n0 i0 len : Nat} {f g0 : Nat → List C} {H' : Heap}
    (ho : o.op = .call c) (hc : c.callee = .builtin .append) (hat : c.argTypes = #[t, t]) (hti : tab t = some ti) (hk : ti.kind = .slice e) (hte : tab e = some te) (hz : (0 < te.sz) ∧ te.zero.length = te.sz) (hev : evs T c.args.toList = [s, x])
    (hx : srcO H te.sz x = some (n, i, m, f)) (hb : baseO H te.sz e s = some (n0, i0, len, g0, H'))
    (h1 : i + m ≤ n ∧ i0 + len = n0 ∧ len + m = N ∧ N * te.bytes ≤ 140737488355328 ∧ N ≤ 140737488355328 ∧ (∀ q, q < m → allOk (f (i + q)) = true) ∧ (∀ q, q < len → g' q = g0 (i0 + q)) ∧ (∀ q, q < m → g' (len + q) = f (i + q)))
    (h : k (.one (.sl H.length 0 N none)) (H' ++ [some (.row true e te.sz N g')])) : X.other o T H k := by
  subst hX
  obtain ⟨a1, a2, a3, a4, a5, a6, a7, a8⟩ := h1
  subst a3
  refine s_append ho hc hat (ht.tab _ _ hti) hk (ht.tab _ _ hte) hz.1 hz.2 hev (src_of (g := fun q => g' (len + q)) hx a1 a8) (fun q hq => by rw [a8 q hq]; exact a6 q hq) (base_of (g := g') hb a2 a7) a4 a5 ?_
  have he : (fun q => if q < len then g' q else g' (len + (q - len))) = g' := by
    funext q
    by_cases hl : q < len
    · rw [if_pos hl]
    · rw [if_neg hl]
      congr 1
      omega
  rw [he]
  exact h

/-- A slice is nil, or its room is some number. -/
theorem CR.split {r : Pl} {id i m : Nat} {cap : Option Nat} {v : Value} (h : CR r (.sl id i m cap) v) : (∃ c, m ≤ c ∧ CR r (.sl id i m (some c)) v) ∨ (m = 0 ∧ CR r .nils v) := by
  unfold CR at h
  rcases h with ⟨rw_, b, o, s, e, ad, c, h1, h2, h3, h4, h5⟩ | ⟨h1, ⟨ad, h2, h3⟩, h4⟩
  · exact .inl ⟨c, h4, by unfold CR; exact .inl ⟨rw_, b, o, s, e, ad, c, h1, h2, h3, h4, fun n hn => by cases hn; rfl⟩⟩
  · cases ad with
    | none => exact .inr ⟨h4, by unfold CR; exact h2⟩
    | some ad => exact .inl ⟨0, by omega, by unfold CR; exact .inr ⟨h1, ⟨some ad, h2, .inr ⟨rfl, rfl⟩⟩, h4⟩⟩

theorem VRs.split {r : Pl} : ∀ {pre : List V} {x : V} {post : List V} {vs : List Value}, VRs r (pre ++ x :: post) vs → ∃ us u ws, vs = us ++ u :: ws ∧ VR r x u ∧ ∀ y, VR r y u → VRs r (pre ++ y :: post) vs
  | [], x, post, [], h => by simp [VRs] at h
  | [], x, post, u :: ws, h => by
    simp only [List.nil_append] at h
    unfold VRs at h
    refine ⟨[], u, ws, rfl, h.1, fun y hy => ?_⟩
    simp only [List.nil_append]
    unfold VRs
    exact ⟨hy, h.2⟩
  | p :: pre, x, post, [], h => by simp [VRs] at h
  | p :: pre, x, post, u :: vs, h => by
    simp only [List.cons_append] at h
    unfold VRs at h
    obtain ⟨us, u', ws, rfl, h1, h2⟩ := VRs.split h.2
    refine ⟨u :: us, u', ws, rfl, h1, fun y hy => ?_⟩
    simp only [List.cons_append]
    unfold VRs
    exact ⟨h.1, h2 y hy⟩

/-- A call with a slice that may be nil. -/
theorem ACall.split (pre post : List V) {f : FuncId} {id i m : Nat} {cap : Option Nat} {H : Heap} {k : V → Heap → Prop} (h1 : ∀ c, m ≤ c → ACall P W0 f (pre ++ .one (.sl id i m (some c)) :: post) H k)
    (h2 : m = 0 → ACall P W0 f (pre ++ .one .nils :: post) H k) : ACall P W0 f (pre ++ .one (.sl id i m cap) :: post) H k := by
  intro r fz w vs hw hvs
  obtain ⟨us, u, ws, rfl, hu, hy⟩ := VRs.split hvs
  unfold VR at hu
  rcases hu.split with ⟨c, hc, h⟩ | ⟨hm, h⟩
  · exact h1 c hc r fz w _ hw (hy _ (by unfold VR; exact h))
  · exact h2 hm r fz w _ hw (hy _ (by unfold VR; exact h))

/-- A call on blocks of its own, whose answer is known. -/
theorem m_callf (hX : X = std P W0 md) {f : FuncId} {args args2 : List V} {H H2 : Heap} {k : V → Heap → Prop} (σ : List Nat) {v0 : V} {H0 : Heap} (hb : Bodied P f) (h : ∀ k2 : V → Heap → Prop, k2 v0 H0 → ACall P W0 f args2 H2 k2)
    (hm : MH (σ.map some) H H2 (σ.map some)) (hn : noDup (σ.map some) = true) (hlt : (σ.all fun q => Nat.blt q H.length) = true) (ha : MV.MVs (σ.map some) args2 args) (hk : k (renV (up σ H.length) v0) (joinH σ H H0)) : X.call f args H k := by
  refine m_call hX hb (ACall.frame σ (h (fun v H' => v = v0 ∧ H' = H0) ⟨rfl, rfl⟩) hm hn (fun q hq => ?_) ha ?_)
  · have := List.all_eq_true.1 hlt q hq
    simpa [Nat.blt_eq] using this
  · rintro v H' ⟨rfl, rfl⟩
    exact hk
/-- A call on blocks of its own, whose answer is known by what holds of it. -/
theorem m_callq (hX : X = std P W0 md) {β : Type} {f : FuncId} {args args2 : List V} {H H2 : Heap} {k : V → Heap → Prop} (σ : List Nat) {φ : β → Prop} {v0 : β → V} {H0 : β → Heap} (hb : Bodied P f) (h : ∀ k2 : V → Heap → Prop, (∀ b, φ b → k2 (v0 b) (H0 b)) → ACall P W0 f args2 H2 k2)
    (hm : MH (σ.map some) H H2 (σ.map some)) (hn : noDup (σ.map some) = true) (hlt : (σ.all fun q => Nat.blt q H.length) = true) (ha : MV.MVs (σ.map some) args2 args) (hk : ∀ b, φ b → k (renV (up σ H.length) (v0 b)) (joinH σ H (H0 b))) : X.call f args H k := by
  refine m_call hX hb (ACall.frame σ (h (fun v H' => ∃ b, φ b ∧ v = v0 b ∧ H' = H0 b) fun b hb => ⟨b, hb, rfl, rfl⟩) hm hn (fun q hq => ?_) ha ?_)
  · have := List.all_eq_true.1 hlt q hq
    simpa [Nat.blt_eq] using this
  · rintro v H' ⟨b, hb, rfl, rfl⟩
    exact hk b hb
end
end Go.Proofs.YtdijdlkljeibjaaDoor.AM
