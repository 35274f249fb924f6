/- GridParts is proved: whatever data it is called with, it returns true and leaves its arguments as they were. -/
import Derived.Test.YtnfoibgafmeenaaRows
import Derived.Test.YtnfoibgafmeenaaGd11
import Derived.WalkKit
import Derived.ProofKit
import Derived.OpenShut
import Derived.ShutString
import Derived.ChangeOld
import Derived.Below
import Derived.SizedLaws
import Derived.Carry
namespace Go.Proofs.Ytnfoibgafmeenaa.gridParts
open Go Go.ChangeShapes Go.WideShapes Go.ChangeAt Go.RowKit Go.Proofs.Ytnfoibgafmeenaa Go.Proofs.Ytnfoibgafmeenaa.AM
open Go.ChangeMaps (open_string shut_string)
set_option linter.unusedVariables false
theorem own : ownKnob Try.prog.godebug = none := by kernel_rfl
theorem laidOut : laidOutB Try.prog = true := by kernel_rfl
set_option maxRecDepth 100000 in
theorem lifted (os : Os) (started : os.Started) (H : Type) (enc : TypeId × Value → H) :
    ReturnsInHanded {} Try.checked os 7 .any (Rows.gridPartsSpec.pre6 enc Try.prog Try.f7 Rows.gridPartsRow.domain false) (Rows.gridPartsSpec.post enc Try.prog Try.f7 false true false false) := by
  refine returnsInHanded_of_change_sized (C := Try.checked) own started (by kernel_rfl) Try.func7
    (ChangeSpec.witness6 (enc := enc) (C := Try.checked) false ⟨#[], #[.int .i64 0, .int .i64 0, .slice none 0 0, .agg #[.int .i64 0, .int .i64 0, .int .i64 0, .int .i64 0]], []⟩ 8 (by kernel_rfl) (by kernel_rfl) (by kernel_rfl) (by kernel_rfl)) ?_
  intro W base args ds gs before hval0 hW hcnd hsz0 _
  have hsz : (DataW.weightsEach Try.prog (Try.f7.params.toList ++ Rows.gridPartsSpec.plain.varTypes Try.prog) (ds ++ gs)).all (· ≤ reachBytes) = true := hsz0
  have hval : ∀ (j : Nat) t v, Try.f7.params[j]? = some t → args[j]? = some v → Value.okWide Try.prog W .any base t v := hval0
  have hW' := hW
  obtain ⟨p, q, hA0, hV, rfl, hfz, hnd⟩ := hW
  have hA : DataW.TrodAll enc Try.prog W 0 (fun _ => true) true Try.f7.params.toList args.toList ds p := hA0
  rw [Try.params7] at hA hval hsz
  obtain ⟨v0, vs0, d0, ds0, p0, q0, hargs, rfl, rfl, h0, r0⟩ := trodAll_cons hA
  obtain ⟨v1, vs1, d1, ds1, p1, q1, rfl, rfl, rfl, h1, r1⟩ := trodAll_cons r0
  obtain ⟨v2, vs2, d2, ds2, p2, q2, rfl, rfl, rfl, h2, r2⟩ := trodAll_cons r1
  obtain ⟨v3, vs3, d3, ds3, p3, q3, rfl, rfl, rfl, h3, r3⟩ := trodAll_cons r2
  obtain ⟨rfl, rfl, rfl⟩ := trodAll_nil r3
  obtain rfl : args = #[v0, v1, v2, v3] := by cases args; simp_all
  obtain ⟨rfl, rfl⟩ := trodVars_none hV
  obtain ⟨a0, rfl, rfl, rfl, w0⟩ := open_int Try.underlying3 (hval 0 3 v0 rfl rfl) h0
  obtain ⟨a1, rfl, rfl, rfl, w1⟩ := open_int Try.underlying3 (hval 1 3 v1 rfl rfl) h1
  have k2 := h2
  have lt2 : ∀ x ∈ p2, x.block < W.heap.size := by obtain ⟨m, hm⟩ := k2; exact DataW.trod_lt m _ _ _ hm
  obtain ⟨P2, n2, cs2, g2, o2, c2, f2⟩ := AM.open_recs (m := 3) Try.underlying34 Try.underlying80 rfl (by decide) (fun j f hf => by match j, hf with | 0, hf => (cases hf; exact ⟨rfl, Try.underlying3, by kernel_rfl⟩) | 1, hf => (cases hf; exact ⟨rfl, Try.underlying3, by kernel_rfl⟩) | 2, hf => (cases hf; exact ⟨rfl, Try.underlying3, by kernel_rfl⟩) | j + 3, hf => (simp at hf)) (by kernel_rfl) (hval 2 34 v2 rfl rfl) h2
  have k3 := h3
  have lt3 : ∀ x ∈ p3, x.block < W.heap.size := by obtain ⟨m, hm⟩ := k3; exact DataW.trod_lt m _ _ _ hm
  obtain ⟨g3, c3⟩ := AM.open_array (m := 4) Try.underlying49 Try.underlying3 (by kernel_rfl) (by kernel_rfl) (hval 3 49 v3 rfl rfl) h3
  clear hA0 hval0 hsz0 hsz
  have hw : AM.WR W (fun id => ([P2] : List Ps)[id]?) (fun b => W.heap[b]?) [some (.row false 80 3 n2 fun i => [.int .i64 (g2 i 0), .int .i64 (g2 i 1), .int .i64 (g2 i 2)])] W := by
    refine AM.WR.start _ _ (fun id x hx => ?_) (Nat.le_refl _)
    rcases id with _ | id
    · obtain rfl := Option.some.inj (Option.some.inj hx)
      exact ⟨P2, rfl, _, _, _, _, _, rfl, o2, f2⟩
    · simp at hx
  refine (AM.law_calls (AM.GridParts_c W false a0 a1 n2 none (fun i => g2 i 0) (fun i => g2 i 1) (fun i => g2 i 2) (g3 0) (g3 1) (g3 2) (g3 3) _ rfl) hw ?_).mono fun e W' ⟨he, bel0⟩ => ?_
  · exact ⟨rfl, rfl, c2 _ 0 rfl, c3 _, trivial⟩
  have bel : Below W.heap.size W W' := bel0
  subst he
  exact ⟨_, rfl, _, _, _, [], _, [], hW', trodAll_mk1 (shut_bool Try.underlying4 _), (trodAll_cons_mk (shut_int Try.underlying3 w0) (trodAll_cons_mk (shut_int Try.underlying3 w1) (trodAll_cons_mk (Below.trod laidOut (by kernel_rfl) (of_decide_eq_true (by kernel_rfl)) k2 bel lt2) (trodAll_cons_mk (Below.trod laidOut (by kernel_rfl) (of_decide_eq_true (by kernel_rfl)) k3 bel lt3) trodAll_mk0)))), rfl, bel.frame _, fun h => by cases h⟩
theorem over : Rows.gridPartsRow.holds Try.pinned (OpenSpec.ofChange Rows.gridPartsSpec) :=
  OpenClaim.holds_of_wide 7 Try.f7 rfl rfl rfl rfl rfl rfl rfl ⟨rfl, rfl, rfl, rfl, rfl⟩ rfl rfl rfl rfl rfl (by kernel_rfl) Try.func7 (by kernel_rfl)
    (of_decide_eq_true (by kernel_rfl)) (by unfold Func.isWrapper; first | (rw [if_pos (by decide +kernel)]; kernel_rfl) | (rw [if_neg (by decide +kernel)]; exact ⟨rfl, rfl⟩))
    (fun os started H enc _ => lifted os started H enc)
theorem proved : Rows.GridPartsSaid := over
#print axioms proved
end Go.Proofs.Ytnfoibgafmeenaa.gridParts
namespace Go.Proofs.Ytnfoibgafmeenaa
/-- The row, under a short name, for the claim. -/
theorem gridParts_holds : Rows.GridPartsSaid := gridParts.proved
end Go.Proofs.Ytnfoibgafmeenaa
