/- How a row's arguments are opened, whose cells are numbers, bools and strings, however nested in structs and arrays. No condition but that the argument can be read as data. -/
import Derived.Test.YtdijdlkljeibjaaDoorAm21
namespace Go.Proofs.YtdijdlkljeibjaaDoor.AM
open Go Go.RowKit Go.ChangeShapes Go.WideShapes Go.ChangeAt
set_option linter.unusedVariables false
set_option linter.unusedSimpArgs false

/-- A cell's kind. -/
inductive K where
  | int (k : IntKind)
  | bool
  | str
def K.ok : K → Value → Prop
  | .int k, v => ∃ z, v = .int k z ∧ (Lit.int k z).wf = true
  | .bool, v => ∃ b, v = .bool b
  | .str, v => ∃ s : ByteArray, v = .string s ∧ s.size ≤ maxLen
def vI : Value → Int
  | .int _ z => z
  | _ => 0
def vB : Value → Bool
  | .bool b => b
  | _ => false
def vS : Value → ByteArray
  | .string s => s
  | _ => ByteArray.empty
def cellOf : K → Value → C
  | .int k, v => .int k (vI v)
  | .bool, v => .bool (vB v)
  | .str, v => .str (vS v)
theorem K.ok.cell {k : K} {v : Value} (h : k.ok v) : ofCell v = cellOf k v := by
  cases k with
  | int k => obtain ⟨z, rfl, _⟩ := h; rfl
  | bool => obtain ⟨b, rfl⟩ := h; rfl
  | str => obtain ⟨s, rfl, _⟩ := h; rfl
theorem K.ok.cr {k : K} {v : Value} (h : k.ok v) (r : Pl) : CR r (cellOf k v) v := by
  cases k with
  | int k => obtain ⟨z, rfl, _⟩ := h; simp only [cellOf, vI]; unfold CR; rfl
  | bool => obtain ⟨b, rfl⟩ := h; simp only [cellOf, vB]; unfold CR; rfl
  | str => obtain ⟨s, rfl, _⟩ := h; simp only [cellOf, vS]; unfold CR; rfl
/-- A type's cells are of these kinds. -/
inductive Flat (P : Program) : TypeId → List K → Prop
  | int {t : TypeId} {k : IntKind} (h : P.underlying t = some (.int k)) (hc : P.cellsOf t = 1) : Flat P t [.int k]
  | bool {t : TypeId} (h : P.underlying t = some .bool) (hc : P.cellsOf t = 1) : Flat P t [.bool]
  | str {t : TypeId} (h : P.underlying t = some .string) (hc : P.cellsOf t = 1) : Flat P t [.str]
  | struct {t : TypeId} {fs : Array Field} {ks : List K} (kf : Nat → List K) (h : P.underlying t = some (.struct fs)) (hc : P.cellsOf t = ks.length) (hf : ∀ (j : Nat) (f : Field), fs[j]? = some f → Flat P f.type (kf j))
      (hk : ∀ (i : Nat) (k : K), ks[i]? = some k → ∃ (j : Nat) (f : Field) (q : Nat), fs[j]? = some f ∧ f.offset + q = i ∧ (kf j)[q]? = some k) : Flat P t ks
  | array {t e : TypeId} {n : Nat} {ke ks : List K} (h : P.underlying t = some (.array n e)) (he : Flat P e ke) (hc : P.cellsOf t = ks.length)
      (hk : ∀ (i : Nat) (k : K), ks[i]? = some k → ∃ (j q : Nat), j < n ∧ j * ke.length + q = i ∧ ke[q]? = some k) : Flat P t ks
theorem Flat.cells {P : Program} {t : TypeId} {ks : List K} (h : Flat P t ks) : P.cellsOf t = ks.length := by
  cases h with
  | int _ hc => exact hc
  | bool _ hc => exact hc
  | str _ hc => exact hc
  | struct _ _ hc => exact hc
  | array _ _ hc => exact hc
theorem K.ok.one {k : K} {v : Value} {cs : List Value} (hc : cs = [v]) (hk : k.ok v) : cs.length = ([k] : List K).length ∧ ∀ (i : Nat) (k' : K), ([k] : List K)[i]? = some k' → ∃ v, cs[i]? = some v ∧ k'.ok v := by
  subst hc
  refine ⟨rfl, fun i k' hi => ?_⟩
  cases i with
  | zero => simp at hi; subst hi; exact ⟨v, rfl, hk⟩
  | succ i => simp at hi
theorem Flat.trod {H : Type} {enc : TypeId × Value → H} {P : Program} {W : World} {base : Nat} {spare : Nat → Bool} {held : Bool} {t : TypeId} {ks : List K} (h : Flat P t ks) :
    ∀ {fuel : Nat} {cs : List Value} {x : DataW H × List MemPlace}, DataW.trod enc P W base spare held fuel t cs = some x → cs.length = ks.length ∧ ∀ (i : Nat) (k : K), ks[i]? = some k → ∃ v, cs[i]? = some v ∧ k.ok v := by
  induction h with
  | int h hc =>
    intro fuel cs x hx
    obtain ⟨y, qs⟩ := x
    obtain ⟨z, hz, _, hw⟩ := DataW.trod_int h hx
    exact K.ok.one hz ⟨z, rfl, hw⟩
  | bool h hc =>
    intro fuel cs x hx
    cases fuel with
    | zero => simp [DataW.trod] at hx
    | succ n =>
      rw [DataW.trod_step] at hx
      unfold DataW.trodStep at hx
      simp only [h] at hx
      split at hx <;> simp_all
      rename_i b _
      exact (K.ok.one (k := .bool) rfl ⟨_, rfl⟩).2
  | str h hc =>
    intro fuel cs x hx
    cases fuel with
    | zero => simp [DataW.trod] at hx
    | succ n =>
      rw [DataW.trod_step] at hx
      unfold DataW.trodStep at hx
      simp only [h] at hx
      split at hx <;> simp_all
      rename_i s _
      exact (K.ok.one (k := .str) rfl ⟨_, rfl, hx.1⟩).2
  | @struct t fs ks kf h hc hf hk ih =>
    intro fuel cs x hx
    obtain ⟨xs, q, _, _, hl, hxl, hx⟩ := DataW.trod_struct h hx
    refine ⟨hl.trans hc, fun i k hi => ?_⟩
    obtain ⟨j, f, q, hj, rfl, hq⟩ := hk i k hi
    have h4 := hx j f hj
    have hjl : j < xs.length := by
      rw [hxl]
      simpa using (Array.getElem?_eq_some_iff.1 hj).1
    rw [List.getElem?_eq_getElem hjl] at h4
    obtain ⟨v, hv, hk⟩ := (ih j f hj h4).2 q k hq
    refine ⟨v, ?_, hk⟩
    have hv' := hv
    rw [List.getElem?_take] at hv'
    split at hv'
    · simpa using hv'
    · cases hv'
  | @array t e n ke ks h he hc hk ih =>
    intro fuel cs x hx
    cases fuel with
    | zero => simp [DataW.trod] at hx
    | succ m =>
      rw [DataW.trod_step] at hx
      unfold DataW.trodStep at hx
      simp only [h] at hx
      split at hx
      · rename_i hl
        refine ⟨hl.trans hc, fun i k hi => ?_⟩
        simp only [Option.map_eq_some_iff] at hx
        obtain ⟨ys, hy, _⟩ := hx
        obtain ⟨j, q, hj, rfl, hq⟩ := hk i k hi
        obtain ⟨b, _, hb2⟩ := Lib.mapM_at hy j j (by simp [hj])
        obtain ⟨v, hv, hok⟩ := (ih hb2).2 q k hq
        refine ⟨v, ?_, hok⟩
        rw [he.cells] at hv
        have hv' := hv
        rw [List.getElem?_take] at hv'
        split at hv'
        · simpa using hv'
        · cases hv'
      · cases hx
/-- Its cells, told. -/
theorem Flat.told {H : Type} {enc : TypeId × Value → H} {P : Program} {W : World} {base : Nat} {spare : Nat → Bool} {held : Bool} {t : TypeId} {ks : List K} (h : Flat P t ks) {fuel : Nat} {cs : List Value} {x : DataW H × List MemPlace} (hx : DataW.trod enc P W base spare held fuel t cs = some x) :
    ∃ g : Nat → Value, (∀ (j : Nat) (k : K), ks[j]? = some k → k.ok (g j)) ∧ cs = (List.range ks.length).map g ∧ cs.map ofCell = (List.range ks.length).map fun j => cellOf (ks.getD j .bool) (g j) := by
  obtain ⟨h1, h2⟩ := h.trod hx
  have hg : ∀ (j : Nat) (k : K), ks[j]? = some k → cs[j]? = some (cs.getD j undef) ∧ k.ok (cs.getD j undef) := fun j k hj => by
    obtain ⟨v, hv, hk⟩ := h2 j k hj
    rw [List.getD_eq_getElem?_getD, hv]
    exact ⟨rfl, hk⟩
  have e : cs = (List.range ks.length).map fun j => cs.getD j undef := by
    apply List.ext_getElem?
    intro j
    rw [List.getElem?_map]
    by_cases hj : j < ks.length
    · rw [List.getElem?_range hj]
      exact (hg j ks[j] (List.getElem?_eq_getElem hj)).1
    · rw [List.getElem?_eq_none (by omega), List.getElem?_eq_none (by simp; omega)]
      rfl
  refine ⟨fun j => cs.getD j undef, fun j k hj => (hg j k hj).2, e, ?_⟩
  apply List.ext_getElem?
  intro j
  rw [List.getElem?_map, List.getElem?_map]
  by_cases hj : j < ks.length
  · rw [List.getElem?_range hj, (hg j ks[j] (List.getElem?_eq_getElem hj)).1]
    simp only [Option.map_some]
    have e3 : ks.getD j .bool = ks[j] := by rw [List.getD_eq_getElem?_getD, List.getElem?_eq_getElem hj]; rfl
    rw [(hg j ks[j] (List.getElem?_eq_getElem hj)).2.cell, e3]
  · rw [List.getElem?_eq_none (by omega), List.getElem?_eq_none (by simp; omega)]
    rfl
/-- A slice of such. -/
theorem open_flats {H : Type} {enc : TypeId × Value → H} {P : Program} {W : World} {t e : TypeId} {r0 : Reach} {b0 : Nat} {held : Bool} {v : Value} {x : DataW H} {ps : List MemPlace} {ks : List K} (ht : P.underlying t = some (.slice e)) (he : Flat P e ks) (hpos : 0 < ks.length)
    (hv : Value.okWide P W r0 b0 t v) (h : DataW.Trod enc P W 0 (fun _ => true) held t v x ps) : ∃ (p : Ps) (n : Nat) (cs : Nat → List Value) (g : Nat → Nat → Value), Opened W p ks.length n cs ∧ (∀ (r : Pl) (id : Nat), r id = some p → CR r (.sl id 0 n none) v) ∧
      (∀ i, i < n → ((List.range ks.length).map fun j => cellOf (ks.getD j .bool) (g i j)) = (cs i).map ofCell) ∧ (∀ i, i < n → ∀ (j : Nat) (k : K), ks[j]? = some k → k.ok (g i j)) ∧ n ≤ maxLen := by
  have hn : ∀ n : Nat, (∃ (r : Pl) (id : Nat) , CR r (.sl id 0 n none) v) → n ≤ maxLen := by
    rintro n ⟨r, id, hc⟩
    obtain ⟨a, len, cap, rfl⟩ := okWide_slice ht hv
    obtain ⟨fuel, hf⟩ := h
    have hlen : n = len := by
      unfold CR at hc
      rcases hc with ⟨rw_, b, o, s, e, ad, c, h1, h2, h3, h4, h5⟩ | ⟨h1, ⟨ad, h2, h3⟩, h4⟩
      · cases h2; rfl
      · cases h2; exact h4
    rcases DataW.trod_slice ht hf with ⟨hc, hx⟩ | ⟨a', len', cap', elems, rest, n', _, hc, hx, _, hl, hcap, hlen', hel, hsp, _⟩
    · simp [Value.cells] at hc
      omega
    · simp [Value.cells] at hc
      omega
  obtain ⟨p, n, cs, h1, h2, h3⟩ := open_slice ht he.cells hpos hv h
  have hall : ∀ i, ∃ g : Nat → Value, i < n → ((List.range ks.length).map fun j => cellOf (ks.getD j .bool) (g j)) = (cs i).map ofCell ∧ ∀ (j : Nat) (k : K), ks[j]? = some k → k.ok (g j) := by
    intro i
    by_cases hi : i < n
    · obtain ⟨fuel, y, qs, hf⟩ := h3 i hi
      obtain ⟨g, g1, g2, g3⟩ := he.told hf
      exact ⟨g, fun _ => ⟨g3.symm, g1⟩⟩
    · exact ⟨fun _ => undef, fun h => absurd h hi⟩
  exact ⟨p, n, cs, fun i => Classical.choose (hall i), h1, h2, fun i hi => (Classical.choose_spec (hall i) hi).1, fun i hi => (Classical.choose_spec (hall i) hi).2, hn n ⟨fun _ => some p, 0, h2 _ 0 rfl⟩⟩
/-- A struct or an array of such, itself. -/
theorem open_flat {H : Type} {enc : TypeId × Value → H} {P : Program} {W : World} {t : TypeId} {held : Bool} {v : Value} {x : DataW H} {ps : List MemPlace} {ks : List K} (ha : ∃ c : Array Value, v = .agg c) (ht : Flat P t ks)
    (h : DataW.Trod enc P W 0 (fun _ => true) held t v x ps) : ∃ g : Nat → Value, (∀ (j : Nat) (k : K), ks[j]? = some k → k.ok (g j)) ∧ ∀ r, VR r (.agg ((List.range ks.length).map fun j => cellOf (ks.getD j .bool) (g j))) v := by
  obtain ⟨c, rfl⟩ := ha
  obtain ⟨fuel, hf⟩ := h
  obtain ⟨g, g1, g2, g3⟩ := ht.told hf
  refine ⟨g, g1, fun r => ?_⟩
  unfold VR
  refine ⟨c.toList, rfl, CRs.of_get ?_ fun i q hq => ?_⟩
  · have := congrArg List.length g2
    simpa [Value.cells] using this.symm
  · rw [List.getElem?_map] at hq
    by_cases hi : i < ks.length
    · rw [List.getElem?_range hi] at hq
      cases hq
      refine ⟨g i, ?_, ?_⟩
      · have := congrArg (fun l => l[i]?) g2
        simp only [Value.cells] at this
        rw [this, List.getElem?_map, List.getElem?_range hi]
        rfl
      · have hk := g1 i ks[i] (List.getElem?_eq_getElem hi)
        have e3 : ks.getD i .bool = ks[i] := by rw [List.getD_eq_getElem?_getD, List.getElem?_eq_getElem hi]; rfl
        show CR r (cellOf (ks.getD i .bool) (g i)) (g i)
        rw [e3]
        exact hk.cr r
    · rw [List.getElem?_eq_none (by simp; omega)] at hq
      cases hq
theorem agg_of_struct {P : Program} {W : World} {t : TypeId} {r0 : Reach} {b0 : Nat} {v : Value} {fs : Array Field} (ht : P.underlying t = some (.struct fs)) (hv : Value.okWide P W r0 b0 t v) : ∃ c : Array Value, v = .agg c := by
  simp only [Value.okWide, ht] at hv
  obtain ⟨cs, rfl, _⟩ := hv
  exact ⟨cs, rfl⟩
theorem agg_of_array {P : Program} {W : World} {t e : TypeId} {m : Nat} {r0 : Reach} {b0 : Nat} {v : Value} (ht : P.underlying t = some (.array m e)) (hv : Value.okWide P W r0 b0 t v) : ∃ c : Array Value, v = .agg c := by
  simp only [Value.okWide, ht] at hv
  obtain ⟨cs, rfl, _⟩ := hv
  exact ⟨cs, rfl⟩
end Go.Proofs.YtdijdlkljeibjaaDoor.AM
