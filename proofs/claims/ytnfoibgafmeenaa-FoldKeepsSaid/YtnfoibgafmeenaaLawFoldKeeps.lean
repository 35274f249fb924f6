/- FoldKeeps is proved: whatever data it is called with, it returns true and leaves its arguments as they were. -/
import Derived.Test.YtnfoibgafmeenaaRows
import Derived.Test.YtnfoibgafmeenaaFo24
import Derived.WalkKit
import Derived.ProofKit
import Derived.OpenShut
import Derived.ShutString
import Derived.ChangeOld
import Derived.Below
import Derived.SizedLaws
import Derived.Carry
namespace Go.Proofs.Ytnfoibgafmeenaa.foldKeeps
open Go Go.ChangeShapes Go.WideShapes Go.ChangeAt Go.RowKit Go.Proofs.Ytnfoibgafmeenaa Go.Proofs.Ytnfoibgafmeenaa.AM
open Go.ChangeMaps (open_string shut_string)
set_option linter.unusedVariables false
theorem own : ownKnob Try.prog.godebug = none := by kernel_rfl
theorem laidOut : laidOutB Try.prog = true := by kernel_rfl
set_option maxRecDepth 100000 in
theorem lifted (os : Os) (started : os.Started) (H : Type) (enc : TypeId × Value → H) :
    ReturnsInHanded {} Try.checked os 12 .any (Rows.foldKeepsSpec.pre6 enc Try.prog Try.f12 Rows.foldKeepsRow.domain false) (Rows.foldKeepsSpec.post enc Try.prog Try.f12 false true false false) := by
  refine returnsInHanded_of_change_sized (C := Try.checked) own started (by kernel_rfl) Try.func12
    (ChangeSpec.witness6 (enc := enc) (C := Try.checked) false ⟨#[], #[.slice none 0 0, .int .i64 0, .agg #[.bool false, .bool false, .bool false]], []⟩ 8 (by kernel_rfl) (by kernel_rfl) (by kernel_rfl) (by kernel_rfl)) ?_
  intro W base args ds gs before hval0 hW hcnd hsz0 _
  have hsz : (DataW.weightsEach Try.prog (Try.f12.params.toList ++ Rows.foldKeepsSpec.plain.varTypes Try.prog) (ds ++ gs)).all (· ≤ reachBytes) = true := hsz0
  have hval : ∀ (j : Nat) t v, Try.f12.params[j]? = some t → args[j]? = some v → Value.okWide Try.prog W .any base t v := hval0
  have hW' := hW
  obtain ⟨p, q, hA0, hV, rfl, hfz, hnd⟩ := hW
  have hA : DataW.TrodAll enc Try.prog W 0 (fun _ => true) true Try.f12.params.toList args.toList ds p := hA0
  rw [Try.params12] at hA hval hsz
  obtain ⟨v0, vs0, d0, ds0, p0, q0, hargs, rfl, rfl, h0, r0⟩ := trodAll_cons hA
  obtain ⟨v1, vs1, d1, ds1, p1, q1, rfl, rfl, rfl, h1, r1⟩ := trodAll_cons r0
  obtain ⟨v2, vs2, d2, ds2, p2, q2, rfl, rfl, rfl, h2, r2⟩ := trodAll_cons r1
  obtain ⟨rfl, rfl, rfl⟩ := trodAll_nil r2
  obtain rfl : args = #[v0, v1, v2] := by cases args; simp_all
  obtain ⟨rfl, rfl⟩ := trodVars_none hV
  have k0 := h0
  have lt0 : ∀ x ∈ p0, x.block < W.heap.size := by obtain ⟨m, hm⟩ := k0; exact DataW.trod_lt m _ _ _ hm
  obtain ⟨P0, n0, cs0, g0, o0, c0, f0, y0, z0⟩ := AM.open_flats (ks := [.int .i64, .int .i64, .int .i64, .int .i64, .int .i64, .int .i64, .int .i64]) Try.underlying57 AM.flat69 (by decide) (hval 0 57 v0 rfl rfl) h0
  obtain ⟨a1, rfl, rfl, rfl, w1⟩ := open_int Try.underlying3 (hval 1 3 v1 rfl rfl) h1
  have k2 := h2
  have lt2 : ∀ x ∈ p2, x.block < W.heap.size := by obtain ⟨m, hm⟩ := k2; exact DataW.trod_lt m _ _ _ hm
  obtain ⟨g2, y2, c2⟩ := AM.open_flat (ks := [.bool, .bool, .bool]) (AM.agg_of_array Try.underlying58 (hval 2 58 v2 rfl rfl)) AM.flat58 h2
  clear hA0 hval0 hsz0 hsz
  have hw : AM.WR W (fun id => ([P0] : List Ps)[id]?) (fun b => W.heap[b]?) [some (.row false 69 7 n0 fun i => [.int .i64 (AM.vI (g0 i 0)), .int .i64 (AM.vI (g0 i 1)), .int .i64 (AM.vI (g0 i 2)), .int .i64 (AM.vI (g0 i 3)), .int .i64 (AM.vI (g0 i 4)), .int .i64 (AM.vI (g0 i 5)), .int .i64 (AM.vI (g0 i 6))])] W := by
    refine AM.WR.start _ _ (fun id x hx => ?_) (Nat.le_refl _)
    rcases id with _ | id
    · obtain rfl := Option.some.inj (Option.some.inj hx)
      exact ⟨P0, rfl, _, _, _, _, _, rfl, o0, f0⟩
    · simp at hx
  refine (AM.law_calls (AM.FoldKeeps_c W false ((List.range n0).map fun i => (⟨AM.vI (g0 i 0), AM.vI (g0 i 1), AM.vI (g0 i 2), AM.vI (g0 i 3), AM.vI (g0 i 4), AM.vI (g0 i 5), AM.vI (g0 i 6)⟩ : AM.La)) n0 none (fun i => (⟨AM.vI (g0 i 0), AM.vI (g0 i 1), AM.vI (g0 i 2), AM.vI (g0 i 3), AM.vI (g0 i 4), AM.vI (g0 i 5), AM.vI (g0 i 6)⟩ : AM.La)) (AM.Tells.range _ _) z0 a1 (AM.vB (g2 0)) (AM.vB (g2 1)) (AM.vB (g2 2)) _ (fun _ => rfl)) hw ?_).mono fun e W' ⟨he, bel0⟩ => ?_
  · exact ⟨c0 _ 0 rfl, rfl, c2 _, trivial⟩
  have bel : Below W.heap.size W W' := bel0
  subst he
  exact ⟨_, rfl, _, _, _, [], _, [], hW', trodAll_mk1 (shut_bool Try.underlying4 _), (trodAll_cons_mk (Below.trod laidOut (by kernel_rfl) (of_decide_eq_true (by kernel_rfl)) k0 bel lt0) (trodAll_cons_mk (shut_int Try.underlying3 w1) (trodAll_cons_mk (Below.trod laidOut (by kernel_rfl) (of_decide_eq_true (by kernel_rfl)) k2 bel lt2) trodAll_mk0))), rfl, bel.frame _, fun h => by cases h⟩
theorem over : Rows.foldKeepsRow.holds Try.pinned (OpenSpec.ofChange Rows.foldKeepsSpec) :=
  OpenClaim.holds_of_wide 12 Try.f12 rfl rfl rfl rfl rfl rfl rfl ⟨rfl, rfl, rfl, rfl, rfl⟩ rfl rfl rfl rfl rfl (by kernel_rfl) Try.func12 (by kernel_rfl)
    (of_decide_eq_true (by kernel_rfl)) (by unfold Func.isWrapper; first | (rw [if_pos (by decide +kernel)]; kernel_rfl) | (rw [if_neg (by decide +kernel)]; exact ⟨rfl, rfl⟩))
    (fun os started H enc _ => lifted os started H enc)
theorem proved : Rows.FoldKeepsSaid := over
#print axioms proved
end Go.Proofs.Ytnfoibgafmeenaa.foldKeeps
namespace Go.Proofs.Ytnfoibgafmeenaa
/-- The row, under a short name, for the claim. -/
theorem foldKeeps_holds : Rows.FoldKeepsSaid := foldKeeps.proved
end Go.Proofs.Ytnfoibgafmeenaa
