/- StepFolds is proved: whatever data it is called with, and with the listed variables of the library as the program's own text lays them, it returns true and leaves its arguments as they were. -/
import Derived.Test.YthkbomclongjgaaDoorRows
import Derived.Test.YthkbomclongjgaaDoorPStepFoldsx2
import Derived.Test.YthkbomclongjgaaDoorPureStepFolds
import Derived.Test.YthkbomclongjgaaDoorExtOpen
import Derived.WalkKit
import Derived.ProofKit
import Derived.OpenShut
import Derived.ShutString
import Derived.ChangeOld
import Derived.Below
import Derived.SizedLaws
import Derived.LaidMore
import Derived.Lay
import Derived.SevenTiedAt
import Derived.Stop.Joined
import Derived.Test.YthkbomclongjgaaDoorCards
import Derived.Test.YthkbomclongjgaaDoorTie
import Derived.Test.YthkbomclongjgaaDoorExtStep
namespace Go.Proofs.YthkbomclongjgaaDoor.stepFolds
open Go.ChangeShapes Go.WideShapes Go.ChangeAt Go.RowKit Go.Proofs.YthkbomclongjgaaDoor.PStepFolds Go.Proofs.YthkbomclongjgaaDoorW.PrintWords
open Go.ChangeMaps (open_string shut_string)
set_option linter.unusedVariables false
theorem own : ownKnob Tryd.prog.godebug = none := by kernel_rfl
theorem laidOut : laidOutB Tryd.prog = true := by kernel_rfl
theorem opens33 : ExtOpen.Opens Tryd.prog k33 33 ok33 :=
  ExtOpen.opens_struct _ (fun y => ⟨y.1, y.2.1, y.2.2⟩) (fun _ => rfl) Tryd.underlying33 (by kernel_rfl) (ExtOpen.opensF_cons (ExtOpen.opens_int Tryd.underlying3) (ExtOpen.opensF_cons (ExtOpen.opens_int Tryd.underlying3) (ExtOpen.opensF_one (ExtOpen.opens_bool Tryd.underlying4))))
set_option maxRecDepth 100000 in
theorem lifted (os : Os) (started : os.Started) (H : Type) (enc : TypeId × Value → H) :
    ReturnsInHanded {} Tryd.checked os 8 .any (fun w args => (Rows.stepFoldsSpec.pre enc Tryd.prog Tryd.f8 Rows.stepFoldsRow.domain false w args ∧ laidMetH Tryd.prog Rows.stepFoldsRow.laid w) ∧ sizedMet enc Tryd.prog Tryd.f8 (OpenSpec.ofChange Rows.stepFoldsSpec) false w args) (Rows.stepFoldsSpec.post enc Tryd.prog Tryd.f8 false true false false) := by
  refine ExtLex.returnsInHanded_laid_shaped (C := Tryd.checked) (X := fun w _ => laidMetH Tryd.prog Rows.stepFoldsRow.laid w) (fun _ _ _ hh h => h.of_heap hh) own started (by kernel_rfl) Tryd.func8
    (ChangeSpec.witness_shaped (enc := enc) (C := Tryd.checked) (os := os) (X := fun w _ => laidMetH Tryd.prog Rows.stepFoldsRow.laid w) false (World.laidAll Tryd.prog os Rows.stepFoldsRow.laid) #[.int .i64 0, .int .i64 0, .slice none 0 0] 8 (World.laidAll_os _ _ _)
      (World.shaped_of_ZipB (by kernel_rfl) (by kernel_rfl)) (by kernel_rfl) (by kernel_rfl) (by kernel_rfl)
      (by rw [MakeChecks.laidMetH_plain _ _ _ (by kernel_rfl)]; exact laidMet_laidAll _ (by kernel_rfl) (by kernel_rfl))) ?_
  intro W base args ds gs before hval0 hW hcnd hsz0 hL hsh _
  have hG : Go.Proofs.YthkbomclongjgaaDoor.ExtStep.GL W := Go.Proofs.YthkbomclongjgaaDoor.ExtStep.GL.mk_ W hL hsh
  have hsz : (DataW.weightsEach Tryd.prog (Tryd.f8.params.toList ++ Rows.stepFoldsSpec.plain.varTypes Tryd.prog) (ds ++ gs)).all (· ≤ reachBytes) = true := hsz0
  have hval : ∀ (j : Nat) t v, Tryd.f8.params[j]? = some t → args[j]? = some v → Value.okWide Tryd.prog W .any base t v := hval0
  have hW' := hW
  obtain ⟨p, q, hA0, hV, rfl, hfz, hnd⟩ := hW
  have hA : DataW.TrodAll enc Tryd.prog W 0 (fun _ => true) true Tryd.f8.params.toList args.toList ds p := hA0
  rw [Tryd.params8] at hA hval hsz
  obtain ⟨v0, vs0, d0, ds0, p0, q0, hargs, rfl, rfl, h0, r0⟩ := trodAll_cons hA
  obtain ⟨v1, vs1, d1, ds1, p1, q1, rfl, rfl, rfl, h1, r1⟩ := trodAll_cons r0
  obtain ⟨v2, vs2, d2, ds2, p2, q2, rfl, rfl, rfl, h2, r2⟩ := trodAll_cons r1
  obtain ⟨rfl, rfl, rfl⟩ := trodAll_nil r2
  obtain rfl : args = #[v0, v1, v2] := by cases args; simp_all
  obtain ⟨rfl, rfl⟩ := trodVars_none hV
  obtain ⟨a0, rfl, rfl, rfl, w0⟩ := open_int Tryd.underlying3 (hval 0 3 v0 rfl rfl) h0
  obtain ⟨a1, rfl, rfl, rfl, w1⟩ := open_int Tryd.underlying3 (hval 1 3 v1 rfl rfl) h1
  have k2 := h2
  have lt2 : ∀ x ∈ p2, x.block < W.heap.size := by obtain ⟨m, hm⟩ := k2; exact DataW.trod_lt m _ _ _ hm
  obtain ⟨A2, c2, l2, rfl, hc2, hr2, w2⟩ := ExtOpen.arg_slice (ExtOpen.opens_slice opens33 Tryd.underlying37 (by kernel_rfl) (B := 24) (by kernel_rfl)) Tryd.underlying37 (hval 2 37 v2 rfl rfl) h2 (ExtOpen.weights_at hsz (j := 2) (t := 37) rfl rfl)
  clear hA0 hval0 hsz0 hsz
  obtain ⟨k, hk⟩ := Pure.StepFolds a0 a1 l2 w0 w1 w2
  refine (PStepFolds.gatherumlaw11_StepFolds.calls k a0 a1 A2 c2 l2 true W hr2 hc2 hG hk).mono fun e W' ⟨he, bel0⟩ => ?_
  have bel : Below W.heap.size W W' := bel0
  subst he
  exact ⟨_, rfl, _, _, _, [], _, [], hW', trodAll_mk1 (shut_bool Tryd.underlying4 _), (trodAll_cons_mk (shut_int Tryd.underlying3 w0) (trodAll_cons_mk (shut_int Tryd.underlying3 w1) (trodAll_cons_mk (Below.trod laidOut (by kernel_rfl) (of_decide_eq_true (by kernel_rfl)) k2 bel lt2) trodAll_mk0))), rfl, bel.frame _, fun h => by cases h⟩
theorem over : Rows.stepFoldsRow.holds Tryd.pinned (OpenSpec.ofChange Rows.stepFoldsSpec) :=
  OpenClaim.holds_of_wide 8 Tryd.f8 rfl rfl rfl rfl rfl rfl rfl ⟨rfl, rfl, rfl, rfl, rfl⟩ rfl rfl rfl rfl rfl (by kernel_rfl) Tryd.func8 (by kernel_rfl)
    (of_decide_eq_true (by kernel_rfl)) (by unfold Func.isWrapper; first | (rw [if_pos (by decide +kernel)]; kernel_rfl) | (rw [if_neg (by decide +kernel)]; exact ⟨rfl, rfl⟩))
    (fun os started H enc _ => lifted os started H enc)
theorem card : Rows.StepFoldsCardSaid :=
  Claim7.holds_tied_plain_at .later [] [.data, .data, .data, .listed, .data] true (true, "317a0e92f13fe99fbcc6793444b0813dfe09c0612919ce800d2b23b864f72e80") true over (fun _ h => by cases h) (by kernel_rfl) (fun _ h => by cases h) stepFolds_row_tie rfl ⟨rfl, rfl⟩ (by kernel_rfl) rfl
    (fun f fn hf hfn => by
      obtain rfl : f = 8 := Option.some.inj ((show Tryd.prog.funcNamed Rows.stepFoldsRow.func = some 8 by kernel_rfl).symm.trans hf) |>.symm
      obtain rfl : fn = Tryd.f8 := (Option.some.inj (Tryd.func8.symm.trans hfn)).symm
      exact ⟨by kernel_rfl, fun j t ht => by
        rw [Tryd.params8] at ht
        have hm : t ∈ [3, 3, 37] := by simpa using Array.mem_of_getElem? ht
        have hall : ([3, 3, 37].all fun u => !Tryd.prog.wantsStandIn u) = true := by kernel_rfl
        exact (show Tryd.prog.wantsStandIn t = false by simpa using List.all_eq_true.1 hall t hm)⟩)
    (by kernel_rfl)
#print axioms card
end Go.Proofs.YthkbomclongjgaaDoor.stepFolds
namespace Go.Proofs.YthkbomclongjgaaDoor
/-- The row, under a short name, for the claim. -/
theorem stepFolds_holds : Rows.StepFoldsCardSaid := stepFolds.card
end Go.Proofs.YthkbomclongjgaaDoor
