/- FoldSteps is proved: whatever data it is called with, it returns true and leaves its arguments as they were. -/
import Derived.Test.YtdijdlkljeibjaaDoorRows
import Derived.Test.YtdijdlkljeibjaaDoorFs6
import Derived.WalkKit
import Derived.ProofKit
import Derived.OpenShut
import Derived.ShutString
import Derived.ChangeOld
import Derived.Below
import Derived.SizedLaws
import Derived.LaidMore
import Derived.Lay
import Derived.SevenTiedAt
import Derived.Stop.Joined
import Derived.MakeChecks
import Derived.Test.YtdijdlkljeibjaaDoorCards
import Derived.Test.YtdijdlkljeibjaaDoorTie
import Derived.Test.YtdijdlkljeibjaaDoorSh
import Derived.Carry
namespace Go.Proofs.YtdijdlkljeibjaaDoor.foldSteps
open Go Go.ChangeShapes Go.WideShapes Go.ChangeAt Go.RowKit Go.Proofs.YtdijdlkljeibjaaDoor Go.Proofs.YtdijdlkljeibjaaDoor.AM
open Go.ChangeMaps (open_string shut_string)
set_option linter.unusedVariables false
theorem own : ownKnob Tryd.prog.godebug = none := by kernel_rfl
theorem laidOut : laidOutB Tryd.prog = true := by kernel_rfl
set_option maxRecDepth 100000 in
theorem lifted (os : Os) (started : os.Started) (H : Type) (enc : TypeId × Value → H) :
    ReturnsInHanded {} Tryd.checked os 3 .any (fun w args => (Rows.foldStepsSpec.pre enc Tryd.prog Tryd.f3 Rows.foldStepsRow.domain false w args ∧ laidMetH Tryd.prog Rows.foldStepsRow.laid w) ∧ sizedMet enc Tryd.prog Tryd.f3 (OpenSpec.ofChange Rows.foldStepsSpec) false w args) (Rows.foldStepsSpec.post enc Tryd.prog Tryd.f3 false true false false) := by
  refine AM.returnsInHanded_laid_shaped (C := Tryd.checked) (X := fun w _ => laidMetH Tryd.prog Rows.foldStepsRow.laid w) (fun _ _ _ hh h => h.of_heap hh) own started (by kernel_rfl) Tryd.func3
    (ChangeSpec.witness_shaped (enc := enc) (C := Tryd.checked) (os := os) (X := fun w _ => laidMetH Tryd.prog Rows.foldStepsRow.laid w) false (World.laidAll Tryd.prog os Rows.foldStepsRow.laid) #[.slice none 0 0, .int .i64 0, .int .i64 0, .slice none 0 0] 8 (World.laidAll_os _ _ _)
      (World.shaped_of_ZipB (by kernel_rfl) (by kernel_rfl)) (by kernel_rfl) (by kernel_rfl) (by kernel_rfl)
      (by rw [MakeChecks.laidMetH_plain _ _ _ (by kernel_rfl)]; exact laidMet_laidAll _ (by kernel_rfl) (by kernel_rfl))) ?_
  intro W base args ds gs before hval0 hW hcnd hsz0 hL hsh _
  have hG : AM.GL W := AM.GL.mk_ W hL hsh
  have hsz : (DataW.weightsEach Tryd.prog (Tryd.f3.params.toList ++ Rows.foldStepsSpec.plain.varTypes Tryd.prog) (ds ++ gs)).all (· ≤ reachBytes) = true := hsz0
  have hval : ∀ (j : Nat) t v, Tryd.f3.params[j]? = some t → args[j]? = some v → Value.okWide Tryd.prog W .any base t v := hval0
  have hW' := hW
  obtain ⟨p, q, hA0, hV, rfl, hfz, hnd⟩ := hW
  have hA : DataW.TrodAll enc Tryd.prog W 0 (fun _ => true) true Tryd.f3.params.toList args.toList ds p := hA0
  rw [Tryd.params3] at hA hval hsz
  obtain ⟨v0, vs0, d0, ds0, p0, q0, hargs, rfl, rfl, h0, r0⟩ := trodAll_cons hA
  obtain ⟨v1, vs1, d1, ds1, p1, q1, rfl, rfl, rfl, h1, r1⟩ := trodAll_cons r0
  obtain ⟨v2, vs2, d2, ds2, p2, q2, rfl, rfl, rfl, h2, r2⟩ := trodAll_cons r1
  obtain ⟨v3, vs3, d3, ds3, p3, q3, rfl, rfl, rfl, h3, r3⟩ := trodAll_cons r2
  obtain ⟨rfl, rfl, rfl⟩ := trodAll_nil r3
  obtain rfl : args = #[v0, v1, v2, v3] := by cases args; simp_all
  obtain ⟨rfl, rfl⟩ := trodVars_none hV
  have k0 := h0
  have lt0 : ∀ x ∈ p0, x.block < W.heap.size := by obtain ⟨m, hm⟩ := k0; exact DataW.trod_lt m _ _ _ hm
  obtain ⟨P0, n0, cs0, g0, o0, c0, f0, y0, z0⟩ := AM.open_flats (ks := [.int .i64, .int .i64, .int .i64, .int .i64, .int .i64, .int .i64, .int .i64]) Tryd.underlying22 AM.flat43 (by decide) (hval 0 22 v0 rfl rfl) h0
  obtain ⟨a1, rfl, rfl, rfl, w1⟩ := open_int Tryd.underlying3 (hval 1 3 v1 rfl rfl) h1
  obtain ⟨a2, rfl, rfl, rfl, w2⟩ := open_int Tryd.underlying3 (hval 2 3 v2 rfl rfl) h2
  have k3 := h3
  have lt3 : ∀ x ∈ p3, x.block < W.heap.size := by obtain ⟨m, hm⟩ := k3; exact DataW.trod_lt m _ _ _ hm
  obtain ⟨P3, n3, cs3, g3, o3, c3, f3, y3, z3⟩ := AM.open_flats (ks := [.int .i64, .int .i64, .bool]) Tryd.underlying23 AM.flat29 (by decide) (hval 3 23 v3 rfl rfl) h3
  clear hA0 hval0 hsz0 hsz
  have hw : AM.WR W (fun id => ([P0, P3] : List Ps)[id]?) (fun b => W.heap[b]?) [some (.row false 43 7 n0 fun i => [.int .i64 (AM.vI (g0 i 0)), .int .i64 (AM.vI (g0 i 1)), .int .i64 (AM.vI (g0 i 2)), .int .i64 (AM.vI (g0 i 3)), .int .i64 (AM.vI (g0 i 4)), .int .i64 (AM.vI (g0 i 5)), .int .i64 (AM.vI (g0 i 6))]), some (.row false 29 3 n3 fun i => [.int .i64 (AM.vI (g3 i 0)), .int .i64 (AM.vI (g3 i 1)), .bool (AM.vB (g3 i 2))])] W := by
    refine AM.WR.start _ _ (fun id x hx => ?_) (Nat.le_refl _)
    rcases id with _ | id
    · obtain rfl := Option.some.inj (Option.some.inj hx)
      exact ⟨P0, rfl, _, _, _, _, _, rfl, o0, f0⟩
    · skip
      rcases id with _ | id
      · obtain rfl := Option.some.inj (Option.some.inj hx)
        exact ⟨P3, rfl, _, _, _, _, _, rfl, o3, f3⟩
      · simp at hx
  refine (AM.law_calls (AM.FoldSteps_c W hG false false ((List.range n0).map fun i => (⟨AM.vI (g0 i 0), AM.vI (g0 i 1), AM.vI (g0 i 2), AM.vI (g0 i 3), AM.vI (g0 i 4), AM.vI (g0 i 5), AM.vI (g0 i 6)⟩ : AM.La)) n0 none (fun i => (⟨AM.vI (g0 i 0), AM.vI (g0 i 1), AM.vI (g0 i 2), AM.vI (g0 i 3), AM.vI (g0 i 4), AM.vI (g0 i 5), AM.vI (g0 i 6)⟩ : AM.La)) (AM.Tells.range _ _) z0 a1 a2 ((List.range n3).map fun i => (⟨AM.vI (g3 i 0), AM.vI (g3 i 1), AM.vB (g3 i 2)⟩ : AM.Sp)) n3 none (fun i => (⟨AM.vI (g3 i 0), AM.vI (g3 i 1), AM.vB (g3 i 2)⟩ : AM.Sp)) (AM.TellsS.range _ _) _ (fun _ => rfl)) hw ?_).mono fun e W' ⟨he, bel0⟩ => ?_
  · exact ⟨c0 _ 0 rfl, rfl, rfl, c3 _ 1 rfl, trivial⟩
  have bel : Below W.heap.size W W' := bel0
  subst he
  exact ⟨_, rfl, _, _, _, [], _, [], hW', trodAll_mk1 (shut_bool Tryd.underlying4 _), (trodAll_cons_mk (Below.trod laidOut (by kernel_rfl) (of_decide_eq_true (by kernel_rfl)) k0 bel lt0) (trodAll_cons_mk (shut_int Tryd.underlying3 w1) (trodAll_cons_mk (shut_int Tryd.underlying3 w2) (trodAll_cons_mk (Below.trod laidOut (by kernel_rfl) (of_decide_eq_true (by kernel_rfl)) k3 bel lt3) trodAll_mk0)))), rfl, bel.frame _, fun h => by cases h⟩
theorem over : Rows.foldStepsRow.holds Tryd.pinned (OpenSpec.ofChange Rows.foldStepsSpec) :=
  OpenClaim.holds_of_wide 3 Tryd.f3 rfl rfl rfl rfl rfl rfl rfl ⟨rfl, rfl, rfl, rfl, rfl⟩ rfl rfl rfl rfl rfl (by kernel_rfl) Tryd.func3 (by kernel_rfl)
    (of_decide_eq_true (by kernel_rfl)) (by unfold Func.isWrapper; first | (rw [if_pos (by decide +kernel)]; kernel_rfl) | (rw [if_neg (by decide +kernel)]; exact ⟨rfl, rfl⟩))
    (fun os started H enc _ => lifted os started H enc)
theorem card : Rows.FoldStepsCardSaid :=
  Claim7.holds_tied_plain_at .later [] [.data, .data, .data, .listed, .data] true (true, "7340b8d58fcb19c635d3e16a9af3ccb53330674122d941aedbf031a288097a4e") false over (fun _ h => by cases h) (by kernel_rfl) (fun _ h => by cases h) foldSteps_row_tie rfl ⟨rfl, rfl⟩ (by kernel_rfl) rfl
    (fun f fn hf hfn => by
      obtain rfl : f = 3 := Option.some.inj ((show Tryd.prog.funcNamed Rows.foldStepsRow.func = some 3 by kernel_rfl).symm.trans hf) |>.symm
      obtain rfl : fn = Tryd.f3 := (Option.some.inj (Tryd.func3.symm.trans hfn)).symm
      exact ⟨by kernel_rfl, fun j t ht => by
        rw [Tryd.params3] at ht
        have hm : t ∈ [22, 3, 3, 23] := by simpa using Array.mem_of_getElem? ht
        have hall : ([22, 3, 3, 23].all fun u => !Tryd.prog.wantsStandIn u) = true := by kernel_rfl
        exact (show Tryd.prog.wantsStandIn t = false by simpa using List.all_eq_true.1 hall t hm)⟩)
    (by kernel_rfl)
#print axioms card
end Go.Proofs.YtdijdlkljeibjaaDoor.foldSteps
namespace Go.Proofs.YtdijdlkljeibjaaDoor
/-- The row, under a short name, for the claim. -/
theorem foldSteps_holds : Rows.FoldStepsCardSaid := foldSteps.card
end Go.Proofs.YtdijdlkljeibjaaDoor
