/- How a row's arguments are opened: a slice of flat elements is a row that is not written. No condition but that the argument can be read as data. -/
import Derived.Test.YtdijdlkljeibjaaDoorAm16
import Derived.ProofKit
import Derived.OpenShut
import Derived.SizedLaws
import Derived.Lib.SmallJoins
namespace Go.Proofs.YtdijdlkljeibjaaDoor.AM
open Go Go.RowKit Go.ChangeShapes Go.WideShapes Go.ChangeAt
set_option linter.unusedVariables false
set_option linter.unusedSimpArgs false

/-- Where a slice's cells are. -/
def Opened (W : World) (p : Ps) (sz n : Nat) (cs : Nat → List Value) : Prop :=
  match p with
  | .at_ rw b o s e => rw = false ∧ s = sz ∧ ∃ us t fr, W.heap[b]? = some (.cells us t fr) ∧ us.size = e ∧ ∀ i, i < n → (cs i).length = sz ∧ ∀ (j : Nat) (u : Value), (cs i)[j]? = some u → us[o + (i * sz + j)]? = some u
  | .nil => n = 0

theorem cells_read {w : World} {base : Nat} {a : Addr} {n : Nat} {cs : List Value} (h : w.cells? base a n = some cs) : cs.length = n ∧ ∀ i u, cs[i]? = some u → w.cell? (a.add i) = some u := by
  unfold World.cells? at h
  split at h
  · have hl := Lib.mapM_length h
    rw [List.length_range] at hl
    refine ⟨hl, fun i u hu => ?_⟩
    have hi : i < n := by
      rw [← hl]
      exact (List.getElem?_eq_some_iff.1 hu).1
    obtain ⟨b, hb, hb2⟩ := Lib.mapM_at h i i (by simp [hi])
    rw [hu] at hb
    rw [hb2, Option.some.inj hb]
  · cases h

theorem cell_at {w : World} {u : Value} {a : Addr} (h : w.cell? a = some u) : a.spot = none ∧ ∃ us t fr, w.heap[a.block]? = some (.cells us t fr) ∧ us[a.off]? = some u := by
  unfold World.cell? at h
  split at h
  · rename_i c t fr hh
    split at h
    · cases h
    · rename_i hs
      exact ⟨by simpa using hs, c, t, fr, hh, h⟩
  · cases h

theorem open_slice {H : Type} {enc : TypeId × Value → H} {P : Program} {W : World} {t e : TypeId} {r0 : Reach} {b0 : Nat} {held : Bool} {v : Value} {x : DataW H} {ps : List MemPlace} {sz : Nat} (ht : P.underlying t = some (.slice e)) (hsz : P.cellsOf e = sz) (hpos : 0 < sz)
    (hv : Value.okWide P W r0 b0 t v) (h : DataW.Trod enc P W 0 (fun _ => true) held t v x ps) : ∃ (p : Ps) (n : Nat) (cs : Nat → List Value), Opened W p sz n cs ∧ (∀ (r : Pl) (id : Nat), r id = some p → CR r (.sl id 0 n none) v) ∧
      (∀ i, i < n → ∃ fuel y qs, DataW.trod enc P W 0 (fun _ => true) held fuel e (cs i) = some (y, qs)) := by
  obtain ⟨a, len, cap, rfl⟩ := okWide_slice ht hv
  obtain ⟨fuel, hf⟩ := h
  rcases DataW.trod_slice ht hf with ⟨hc, hx⟩ | ⟨a', len', cap', elems, rest, n, _, hc, hx, _, hl, hcap, hlen, hel, hsp, _⟩
  · simp [Value.cells] at hc
    obtain ⟨rfl, rfl, rfl⟩ := hc
    refine ⟨.nil, 0, fun _ => [], rfl, fun r id hr => ?_, fun i hi => by omega⟩
    unfold CR
    exact .inr ⟨hr, ⟨none, rfl, .inl rfl⟩, rfl⟩
  · simp [Value.cells] at hc
    obtain ⟨rfl, rfl, rfl⟩ := hc
    obtain ⟨hrl, hrest⟩ := hsp rfl
    rw [hsz] at hel hrest
    -- every element up to the room's end is there
    have hall : ∀ i, i < cap → ∃ (c : List Value) (y : DataW H × List MemPlace), W.cells? 0 (a'.add (i * sz)) sz = some c ∧ DataW.trod enc P W 0 (fun _ => true) held n e c = some y := by
      intro i hi
      by_cases hil : i < len
      · have h1 := hel i hil
        rw [List.getElem?_eq_getElem (by omega)] at h1
        obtain ⟨c, hc1, hc2⟩ := Option.bind_eq_some_iff.1 h1
        exact ⟨c, _, hc1, hc2⟩
      · have h1 := hrest (i - len) (by omega)
        rw [List.getElem?_eq_getElem (by omega), show len + (i - len) = i by omega] at h1
        obtain ⟨c, hc1, hc2⟩ := Option.bind_eq_some_iff.1 h1
        exact ⟨c, _, hc1, hc2⟩
    rcases Nat.eq_zero_or_pos cap with h0 | h0
    · subst h0
      obtain rfl : len = 0 := by omega
      refine ⟨.nil, 0, fun _ => [], rfl, fun r id hr => ?_, fun i hi => by omega⟩
      unfold CR
      exact .inr ⟨hr, ⟨some a', rfl, .inl rfl⟩, rfl⟩
    · have hcell : ∀ i, i < cap → ∀ j, j < sz → ∃ u, W.cell? ((a'.add (i * sz)).add j) = some u := by
        intro i hi j hj
        obtain ⟨c, y, hc1, _⟩ := hall i hi
        obtain ⟨h1, h2⟩ := cells_read hc1
        exact ⟨_, h2 j _ (List.getElem?_eq_getElem (by omega))⟩
      obtain ⟨u0, hu0⟩ := hcell 0 h0 0 hpos
      have hz0 : (a'.add (0 * sz)).add 0 = a' := by simp [Addr.add]
      rw [hz0] at hu0
      obtain ⟨hs0, us, t', fr, hh, _⟩ := cell_at hu0
      obtain ⟨b, o, sp⟩ := a'
      simp only at hs0
      subst hs0
      have hread : ∀ i j u, W.cell? (((⟨b, o, none⟩ : Addr).add (i * sz)).add j) = some u → us[o + (i * sz + j)]? = some u := by
        intro i j u hu
        rw [addr_add, addr_add] at hu
        obtain ⟨_, us', t2, fr2, hh2, hu2⟩ := cell_at hu
        rw [hh] at hh2
        simp only [Option.some.injEq, Obj.cells.injEq] at hh2
        obtain ⟨rfl, _, _⟩ := hh2
        rw [← Nat.add_assoc]
        exact hu2
      have hend : o + cap * sz ≤ us.size := by
        obtain ⟨u, hu⟩ := hcell (cap - 1) (by omega) (sz - 1) (by omega)
        have := hread _ _ _ hu
        have hlt := (Array.getElem?_eq_some_iff.1 this).1
        have : (cap - 1) * sz + sz = cap * sz := by
          rw [← Nat.succ_mul]
          congr 1
          omega
        omega
      have hch : ∃ cs : Nat → List Value, ∀ i, i < cap → ∃ y : DataW H × List MemPlace, W.cells? 0 ((⟨b, o, none⟩ : Addr).add (i * sz)) sz = some (cs i) ∧ DataW.trod enc P W 0 (fun _ => true) held n e (cs i) = some y := by
        refine ⟨fun i => if hi : i < cap then Classical.choose (hall i hi) else [], fun i hi => ?_⟩
        simp only [dif_pos hi]
        exact Classical.choose_spec (hall i hi)
      obtain ⟨cs, hcs⟩ := hch
      refine ⟨.at_ false b o sz us.size, len, cs, ⟨rfl, rfl, us, t', fr, hh, rfl, fun i hi => ?_⟩, fun r id hr => ?_, fun i hi => ?_⟩
      · obtain ⟨y, h1, h2⟩ := hcs i (by omega)
        obtain ⟨h3, h4⟩ := cells_read h1
        exact ⟨h3, fun j u hj => hread _ _ _ (h4 j u hj)⟩
      · unfold CR
        refine .inl ⟨_, _, _, _, _, _, cap, hr, rfl, .inl ⟨?_, by omega⟩, hl, fun n hn => by cases hn⟩
        rw [Nat.zero_mul, Nat.add_zero]
      · obtain ⟨⟨y1, y2⟩, h1, h2⟩ := hcs i (by omega)
        exact ⟨n, y1, y2, h2⟩

/-- The first state of a row's walk: rows that are not written. -/
theorem WR.start {W : World} (ps : List Ps) (H : Heap) (h : ∀ (id : Nat) (x : B), H[id]? = some (some x) → ∃ p, ps[id]? = some p ∧ ∃ t sz n f cs, x = .row false t sz n f ∧ Opened W p sz n cs ∧ ∀ i, i < n → f i = (cs i).map ofCell) (hl : ps.length ≤ H.length) :
    WR W (fun id => ps[id]?) (fun b => W.heap[b]?) H W := by
  refine ⟨Below.refl _ _, fun _ _ h => h, fun _ _ => rfl, fun id hid => List.getElem?_eq_none (by omega), fun id x hx => ?_, fun id id' x x' b o s e o' s' e' hx hx' he he' => ?_⟩
  · obtain ⟨p, hp, t, sz, n, f, cs, rfl, ho, hf⟩ := h id x hx
    cases p with
    | nil =>
      obtain rfl : n = 0 := ho
      exact .inr ⟨hp, _, _, _, _, rfl⟩
    | at_ rw_ b o s e =>
      obtain ⟨rfl, rfl, us, t', fr, h1, h2, h3⟩ := ho
      refine .inl ⟨b, o, e, hp, fun h => (by cases h), fun _ => ⟨_, h1⟩, us, t', fr, h1, h2, fun h => (by cases h), fun i hi => ?_⟩
      rw [hf i hi]
      refine ⟨by simpa using (h3 i hi).1, fun j c hj => ?_⟩
      rw [List.getElem?_map] at hj
      cases hcj : (cs i)[j]? with
      | none => rw [hcj] at hj; cases hj
      | some u =>
        rw [hcj] at hj
        simp only [Option.map_some, Option.some.injEq] at hj
        subst hj
        exact ⟨u, (h3 i hi).2 j u hcj, ofCell_rel _ _⟩
  · obtain ⟨p, hp, t, sz, n, f, cs, rfl, ho, hf⟩ := h id x hx
    simp only [hp, Option.some.injEq] at he
    subst he
    obtain ⟨h1, _⟩ := ho
    cases h1

/-- A list of numbers. -/
theorem open_ints {H : Type} {enc : TypeId × Value → H} {P : Program} {W : World} {t e : TypeId} {r0 : Reach} {b0 : Nat} {held : Bool} {v : Value} {x : DataW H} {ps : List MemPlace} {kd : IntKind} (ht : P.underlying t = some (.slice e)) (he : P.underlying e = some (.int kd)) (hsz : P.cellsOf e = 1)
    (hv : Value.okWide P W r0 b0 t v) (h : DataW.Trod enc P W 0 (fun _ => true) held t v x ps) : ∃ (p : Ps) (n : Nat) (cs : Nat → List Value) (g : Nat → Int), Opened W p 1 n cs ∧ (∀ (r : Pl) (id : Nat), r id = some p → CR r (.sl id 0 n none) v) ∧
      (∀ i, i < n → [C.int kd (g i)] = (cs i).map ofCell) ∧ ∀ i, i < n → (Lit.int kd (g i)).wf = true := by
  obtain ⟨p, n, cs, h1, h2, h3⟩ := open_slice ht hsz (by decide) hv h
  have hall : ∀ i, ∃ m : Int, i < n → [C.int kd m] = (cs i).map ofCell ∧ (Lit.int kd m).wf = true := by
    intro i
    by_cases hi : i < n
    · obtain ⟨fuel, y, qs, hf⟩ := h3 i hi
      obtain ⟨m, hm, _, hw⟩ := DataW.trod_int he hf
      exact ⟨m, fun _ => ⟨by rw [hm]; rfl, hw⟩⟩
    · exact ⟨0, fun h => absurd h hi⟩
  exact ⟨p, n, cs, fun i => Classical.choose (hall i), h1, h2, fun i hi => (Classical.choose_spec (hall i) hi).1, fun i hi => (Classical.choose_spec (hall i) hi).2⟩

/-- The walk's end, in the row's words. -/
theorem law_calls {P : Program} {W : World} {r : Pl} {fz : Fz} {H : Heap} {f : FuncId} {args : List V} {vs : List Value} (h : ACall P W f args H fun v _ => v = .one (.bool true)) (hw : WR W r fz H W) (hv : VRs r args vs) :
    Calls P f ⟨vs⟩ W fun e W' => e = .returned (.bool true) ∧ Below W.heap.size W W' := by
  refine (h r fz W vs hw hv).mono fun e W' ⟨v, u, H', r', fz', he, hk, hw', hvr, _⟩ => ?_
  subst hk
  unfold VR CR at hvr
  subst hvr
  exact ⟨he, hw'.below⟩
end Go.Proofs.YtdijdlkljeibjaaDoor.AM
