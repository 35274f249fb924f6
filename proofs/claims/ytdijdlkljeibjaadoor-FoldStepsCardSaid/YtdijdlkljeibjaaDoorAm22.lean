/- Structs of numbers that are compared. The conditions: the type's keys read so (shown for each type). -/
import Derived.Test.YtdijdlkljeibjaaDoorAm19
import Derived.DeepKeys
namespace Go.Proofs.YtdijdlkljeibjaaDoor.AM
open Go Go.RowKit
set_option linter.unusedVariables false
set_option linter.unusedSimpArgs false

theorem CRs_ints {r : Pl} : ∀ {zs : List Int} {vs : List Value}, CRs r (zs.map (C.int .i64)) vs → vs = zs.map (Value.int .i64)
  | [], [], _ => rfl
  | z :: zs, v :: vs, h => by
    simp only [List.map_cons] at h ⊢
    unfold CRs at h
    have h1 := h.1
    unfold CR at h1
    rw [h1, CRs_ints h.2]
  | [], _ :: _, h => by simp [CRs] at h
  | _ :: _, [], h => by simp [CRs] at h

/-- How a type of structs of n numbers is compared. -/
structure EqInts (P : Program) (t : TypeId) (n : Nat) : Prop where
  key : ∃ m, m ≤ 10000 ∧ P.keyTypeAt m t = true
  guard : P.eqGuardType P.depth t = false
  formed : ∀ zs : List Int, zs.length = n → (Value.agg (zs.map (Value.int .i64)).toArray).formed P t = true
  lits : ∃ D, ∀ zs : List Int, zs.length = n → (∀ z ∈ zs, (Lit.int .i64 z).wf = true) → P.keyLits D t (zs.map (Value.int .i64)) = some (zs.map (Lit.int .i64))

theorem m_eqInts {P : Program} {W0 : World} {md : Md} {X : Ext} (hX : X = std P W0 md) {op : BinOp} (hop : op = .eql ∨ op = .neq) {t : TypeId} {n : Nat} (hE : EqInts P t n) (zs us : List Int) {x y : V} (hx : x = .agg (zs.map (C.int .i64))) (hy : y = .agg (us.map (C.int .i64))) (hzn : zs.length = n) (hun : us.length = n)
    (hz : ∀ z ∈ zs, (Lit.int .i64 z).wf = true) (hu : ∀ z ∈ us, (Lit.int .i64 z).wf = true) {k : V → Prop} (h : ∀ b : Bool, (b = true ↔ zs = us) → k (.one (.bool (if op = .eql then b else !b)))) : X.eqs op t x y k := by
  subst hX hx hy
  obtain ⟨m, hm, hkt⟩ := hE.key
  obtain ⟨D, hD⟩ := hE.lits
  have heq : ∀ w, ∃ r : Bool, (Op.equal t (.agg (zs.map (Value.int .i64)).toArray) (.agg (us.map (Value.int .i64)).toArray)).run P w = .ok r w ∧ (r = true ↔ zs = us) := by
    intro w
    obtain ⟨r, h1, h2⟩ := run_equalIn_deep (P := P) (10000 - m) m t hkt w D D _ _ (zs.map (Lit.int .i64)) (us.map (Lit.int .i64)) (hE.formed zs hzn) (hE.formed us hun) (by simpa [Value.cells] using hD zs hzn hz) (by simpa [Value.cells] using hD us hun hu)
    refine ⟨r, ?_, ?_⟩
    · rw [show 10000 - m + m = 10000 by omega] at h1
      exact h1
    · rw [h2]
      constructor
      · intro he
        have := congrArg (List.map fun l : Lit => match l with | .int _ z => z | _ => 0) he
        simpa [List.map_map, Function.comp_def] using this
      · intro he; rw [he]
  obtain ⟨b, hb0, hb⟩ := heq default
  refine ⟨_, h b hb, fun r x' y' ox oy hx hy => ?_⟩
  unfold VR at hx hy
  obtain ⟨vs, rfl, hvs⟩ := hx
  obtain ⟨ws, rfl, hws⟩ := hy
  have e1 := CRs_ints hvs
  have e2 := CRs_ints hws
  subst e1 e2
  refine ⟨.bool (if op = .eql then b else !b), fun w => ?_, by unfold VR CR; rfl⟩
  have hg : (eqGuard op t ox oy (.agg ⟨zs.map (Value.int .i64)⟩) (.agg ⟨us.map (Value.int .i64)⟩)).run P w = .ok () w := by
    unfold eqGuard
    rcases hop with rfl | rfl <;> simp [Sem.run_bind, hE.guard, go_sem]
  have hr : (Op.equal t (.agg ⟨zs.map (Value.int .i64)⟩) (.agg ⟨us.map (Value.int .i64)⟩)).run P w = .ok b w := by
    obtain ⟨b', h1, h2⟩ := heq w
    have : b' = b := by
      cases b <;> cases b' <;> simp_all
    rw [← this]
    simpa using h1
  rw [Sem.run_bind, hg]
  rcases hop with rfl | rfl
  · show (do pure (.bool (← Op.equal t (.agg ⟨zs.map (Value.int .i64)⟩) (.agg ⟨us.map (Value.int .i64)⟩))) : Sem Value).run P w = _
    simp [Sem.run_bind, hr, Result.andThen]
  · show (do pure (.bool (!(← Op.equal t (.agg ⟨zs.map (Value.int .i64)⟩) (.agg ⟨us.map (Value.int .i64)⟩)))) : Sem Value).run P w = _
    simp [Sem.run_bind, hr, Result.andThen]
end Go.Proofs.YtdijdlkljeibjaaDoor.AM
