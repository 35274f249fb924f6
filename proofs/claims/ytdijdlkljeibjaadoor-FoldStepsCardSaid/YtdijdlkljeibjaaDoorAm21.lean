/- How a row's array of numbers is opened. No condition but that the argument can be read as data. -/
import Derived.Test.YtdijdlkljeibjaaDoorAm20
namespace Go.Proofs.YtdijdlkljeibjaaDoor.AM
open Go Go.RowKit Go.ChangeShapes Go.WideShapes Go.ChangeAt
set_option linter.unusedVariables false
set_option linter.unusedSimpArgs false

theorem open_array {H : Type} {enc : TypeId × Value → H} {P : Program} {W : World} {t e : TypeId} {r0 : Reach} {b0 : Nat} {held : Bool} {v : Value} {x : DataW H} {ps : List MemPlace} {kd : IntKind} {m : Nat} (ht : P.underlying t = some (.array m e)) (he : P.underlying e = some (.int kd)) (h1 : P.cellsOf e = 1) (h2 : P.cellsOf t = m)
    (hv : Value.okWide P W r0 b0 t v) (h : DataW.Trod enc P W 0 (fun _ => true) held t v x ps) : ∃ g : Nat → Int, ∀ r, VR r (.agg ((List.range m).map fun j => C.int kd (g j))) v := by
  have hv' := hv
  simp only [Value.okWide, ht] at hv'
  obtain ⟨cs, rfl, hsz, _⟩ := hv'
  rw [h2] at hsz
  obtain ⟨fuel, hf⟩ := h
  cases fuel with
  | zero => simp [DataW.trod] at hf
  | succ q =>
    rw [DataW.trod_step] at hf
    unfold DataW.trodStep at hf
    simp only [ht, Value.cells] at hf
    rw [if_pos (by rw [h2]; simpa using hsz)] at hf
    simp only [Option.map_eq_some_iff] at hf
    obtain ⟨ys, hy, _⟩ := hf
    rw [h1] at hy
    have hj : ∀ j, ∃ z : Int, j < m → cs.toList[j]? = some (.int kd z) := by
      intro j
      by_cases hjm : j < m
      · obtain ⟨b, _, hb2⟩ := Lib.mapM_at hy j j (by simp [hjm])
        obtain ⟨z, hz, _⟩ := DataW.trod_int he hb2
        refine ⟨z, fun _ => ?_⟩
        have : ((List.drop (j * 1) cs.toList).take 1)[0]? = some (.int kd z) := by rw [hz]; rfl
        simpa using this
      · exact ⟨0, fun h => absurd h hjm⟩
    refine ⟨fun j => Classical.choose (hj j), fun r => ?_⟩
    unfold VR
    refine ⟨cs.toList, rfl, CRs.of_get (by simp [hsz]) fun i c hc => ?_⟩
    rw [List.getElem?_map] at hc
    have him : i < m := by
      cases hh : (List.range m)[i]? with
      | none => rw [hh] at hc; cases hc
      | some q => have := (List.getElem?_eq_some_iff.1 hh).1; simpa using this
    rw [List.getElem?_range him] at hc
    cases hc
    exact ⟨_, Classical.choose_spec (hj i) him, by unfold CR; rfl⟩
end Go.Proofs.YtdijdlkljeibjaaDoor.AM
