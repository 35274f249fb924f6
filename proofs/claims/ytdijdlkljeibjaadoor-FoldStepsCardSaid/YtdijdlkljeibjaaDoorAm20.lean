/- How a row's slice of structs is opened, whose fields are numbers. No condition but that the argument can be read as data. -/
import Derived.Test.YtdijdlkljeibjaaDoorAm19
namespace Go.Proofs.YtdijdlkljeibjaaDoor.AM
open Go Go.RowKit Go.ChangeShapes Go.WideShapes Go.ChangeAt
set_option linter.unusedVariables false
set_option linter.unusedSimpArgs false

theorem open_recs {H : Type} {enc : TypeId × Value → H} {P : Program} {W : World} {t e : TypeId} {r0 : Reach} {b0 : Nat} {held : Bool} {v : Value} {x : DataW H} {ps : List MemPlace} {kd : IntKind} {fs : Array Field} {m : Nat} (ht : P.underlying t = some (.slice e)) (he : P.underlying e = some (.struct fs)) (hm : fs.size = m) (hpos : 0 < m)
    (hfs : ∀ (j : Nat) (f : Field), fs[j]? = some f → f.offset = j ∧ P.underlying f.type = some (.int kd) ∧ P.cellsOf f.type = 1) (hsz : P.cellsOf e = m)
    (hv : Value.okWide P W r0 b0 t v) (h : DataW.Trod enc P W 0 (fun _ => true) held t v x ps) : ∃ (p : Ps) (n : Nat) (cs : Nat → List Value) (g : Nat → Nat → Int), Opened W p m n cs ∧ (∀ (r : Pl) (id : Nat), r id = some p → CR r (.sl id 0 n none) v) ∧
      (∀ i, i < n → ((List.range m).map fun j => C.int kd (g i j)) = (cs i).map ofCell) := by
  obtain ⟨p, n, cs, h1, h2, h3⟩ := open_slice ht hsz hpos hv h
  have hall : ∀ i, ∃ g : Nat → Int, i < n → ((List.range m).map fun j => C.int kd (g j)) = (cs i).map ofCell := by
    intro i
    by_cases hi : i < n
    · obtain ⟨fuel, y, qs, hf⟩ := h3 i hi
      obtain ⟨xs, q, _, _, hl, hxl, hx⟩ := DataW.trod_struct he hf
      rw [hsz] at hl
      have hj : ∀ j, ∃ z : Int, j < m → (cs i)[j]? = some (.int kd z) := by
        intro j
        by_cases hjm : j < m
        · obtain ⟨f, hff⟩ : ∃ f, fs[j]? = some f := ⟨_, Array.getElem?_eq_getElem (by omega)⟩
          obtain ⟨f1, f2, f3⟩ := hfs j f hff
          have h4 := hx j f hff
          rw [List.getElem?_eq_getElem (by omega)] at h4
          obtain ⟨z, hz, _⟩ := DataW.trod_int f2 h4
          rw [f1, f3] at hz
          refine ⟨z, fun _ => ?_⟩
          have : ((List.drop j (cs i)).take 1)[0]? = some (.int kd z) := by rw [hz]; rfl
          simpa using this
        · exact ⟨0, fun h => absurd h hjm⟩
      refine ⟨fun j => Classical.choose (hj j), fun _ => ?_⟩
      apply List.ext_getElem?
      intro j
      rw [List.getElem?_map, List.getElem?_map]
      by_cases hjm : j < m
      · rw [List.getElem?_range hjm, Classical.choose_spec (hj j) hjm]
        rfl
      · rw [List.getElem?_eq_none (by simp; omega), List.getElem?_eq_none (by omega)]
        rfl
    · exact ⟨fun _ => 0, fun h => absurd h hi⟩
  exact ⟨p, n, cs, fun i => Classical.choose (hall i), h1, h2, fun i hi => Classical.choose_spec (hall i) hi⟩
end Go.Proofs.YtdijdlkljeibjaaDoor.AM
