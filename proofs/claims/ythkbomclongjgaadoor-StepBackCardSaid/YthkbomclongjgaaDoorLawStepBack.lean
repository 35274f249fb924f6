/- StepBack is proved: whatever data it is called with, and with the listed variables of the library as the program's own text lays them, it returns true and leaves its arguments as they were. -/
import Derived.Test.YthkbomclongjgaaDoorRows
import Derived.Test.YthkbomclongjgaaDoorPStepBackx5
import Derived.Test.YthkbomclongjgaaDoorPureStepBack
import Derived.Test.YthkbomclongjgaaDoorExtOpen
import Derived.WalkKit
import Derived.ProofKit
import Derived.OpenShut
import Derived.ShutString
import Derived.ChangeOld
import Derived.Below
import Derived.SizedLaws
import Derived.LaidMore
import Derived.Lay
import Derived.SevenTiedAt
import Derived.Stop.Joined
import Derived.Test.YthkbomclongjgaaDoorCards
import Derived.Test.YthkbomclongjgaaDoorTie
import Derived.Test.YthkbomclongjgaaDoorExtBack
namespace Go.Proofs.YthkbomclongjgaaDoor.stepBack
open Go.ChangeShapes Go.WideShapes Go.ChangeAt Go.RowKit Go.Proofs.YthkbomclongjgaaDoor.PStepBack Go.Proofs.YthkbomclongjgaaDoorW.PrintWords
open Go.ChangeMaps (open_string shut_string)
set_option linter.unusedVariables false
theorem own : ownKnob Tryd.prog.godebug = none := by kernel_rfl
theorem laidOut : laidOutB Tryd.prog = true := by kernel_rfl
theorem opens33 : ExtOpen.Opens Tryd.prog k33 33 ok33 :=
  ExtOpen.opens_struct _ (fun y => ⟨y.1, y.2.1, y.2.2⟩) (fun _ => rfl) Tryd.underlying33 (by kernel_rfl) (ExtOpen.opensF_cons (ExtOpen.opens_int Tryd.underlying3) (ExtOpen.opensF_cons (ExtOpen.opens_int Tryd.underlying3) (ExtOpen.opensF_one (ExtOpen.opens_bool Tryd.underlying4))))
set_option maxRecDepth 100000 in
theorem lifted (os : Os) (started : os.Started) (H : Type) (enc : TypeId × Value → H) :
    ReturnsInHanded {} Tryd.checked os 13 .any (fun w args => (Rows.stepBackSpec.pre enc Tryd.prog Tryd.f13 Rows.stepBackRow.domain false w args ∧ laidMetH Tryd.prog Rows.stepBackRow.laid w) ∧ sizedMet enc Tryd.prog Tryd.f13 (OpenSpec.ofChange Rows.stepBackSpec) false w args) (Rows.stepBackSpec.post enc Tryd.prog Tryd.f13 false true false false) := by
  refine ExtLex.returnsInHanded_laid_shaped (C := Tryd.checked) (X := fun w _ => laidMetH Tryd.prog Rows.stepBackRow.laid w) (fun _ _ _ hh h => h.of_heap hh) own started (by kernel_rfl) Tryd.func13
    (ChangeSpec.witness_shaped (enc := enc) (C := Tryd.checked) (os := os) (X := fun w _ => laidMetH Tryd.prog Rows.stepBackRow.laid w) false (World.laidAll Tryd.prog os Rows.stepBackRow.laid) #[.agg #[.int .i64 0, .int .i64 0, .bool false], .string ByteArray.empty] 8 (World.laidAll_os _ _ _)
      (World.shaped_of_ZipB (by kernel_rfl) (by kernel_rfl)) (by kernel_rfl) (by kernel_rfl) (by kernel_rfl)
      (by rw [MakeChecks.laidMetH_plain _ _ _ (by kernel_rfl)]; exact laidMet_laidAll _ (by kernel_rfl) (by kernel_rfl))) ?_
  intro W base args ds gs before hval0 hW hcnd hsz0 hL hsh _
  have hG : Go.Proofs.YthkbomclongjgaaDoor.ExtBack.GL W := Go.Proofs.YthkbomclongjgaaDoor.ExtBack.GL.mk_ W hL hsh
  have hsz : (DataW.weightsEach Tryd.prog (Tryd.f13.params.toList ++ Rows.stepBackSpec.plain.varTypes Tryd.prog) (ds ++ gs)).all (· ≤ reachBytes) = true := hsz0
  have hval : ∀ (j : Nat) t v, Tryd.f13.params[j]? = some t → args[j]? = some v → Value.okWide Tryd.prog W .any base t v := hval0
  have hW' := hW
  obtain ⟨p, q, hA0, hV, rfl, hfz, hnd⟩ := hW
  have hA : DataW.TrodAll enc Tryd.prog W 0 (fun _ => true) true Tryd.f13.params.toList args.toList ds p := hA0
  rw [Tryd.params13] at hA hval hsz
  obtain ⟨v0, vs0, d0, ds0, p0, q0, hargs, rfl, rfl, h0, r0⟩ := trodAll_cons hA
  obtain ⟨v1, vs1, d1, ds1, p1, q1, rfl, rfl, rfl, h1, r1⟩ := trodAll_cons r0
  obtain ⟨rfl, rfl, rfl⟩ := trodAll_nil r1
  obtain rfl : args = #[v0, v1] := by cases args; simp_all
  obtain ⟨rfl, rfl⟩ := trodVars_none hV
  have k0 := h0
  have lt0 : ∀ x ∈ p0, x.block < W.heap.size := by obtain ⟨m, hm⟩ := k0; exact DataW.trod_lt m _ _ _ hm
  obtain ⟨x0, cs0, rfl, K0, w0⟩ := ExtOpen.arg_struct opens33 Tryd.underlying33 (hval 0 33 v0 rfl rfl) h0 (ExtOpen.weights_at hsz (j := 0) (t := 33) rfl rfl)
  obtain rfl := k33_open K0
  obtain ⟨a1, rfl, rfl, rfl, y1⟩ := open_string Tryd.underlying9 (hval 1 9 v1 rfl rfl) h1
  have w1 : a1.size ≤ 140737488351232 := by
    have z := sized_string hsz (j := 1) (t := 9) rfl rfl
    rw [Array.length_toList] at z
    exact z
  clear hA0 hval0 hsz0 hsz
  obtain ⟨k, hk⟩ := Pure.StepBack x0 a1 w0 w1
  refine (PStepBack.gatherumlaw11_StepBack.calls k (x0.f0) (x0.f1) (x0.f2) a1 true W  hG hk).mono fun e W' ⟨he, bel0⟩ => ?_
  have bel : Below W.heap.size W W' := bel0
  subst he
  exact ⟨_, rfl, _, _, _, [], _, [], hW', trodAll_mk1 (shut_bool Tryd.underlying4 _), (trodAll_cons_mk (Below.trod laidOut (by kernel_rfl) (of_decide_eq_true (by kernel_rfl)) k0 bel lt0) (trodAll_cons_mk (shut_string Tryd.underlying9 y1) trodAll_mk0)), rfl, bel.frame _, fun h => by cases h⟩
theorem over : Rows.stepBackRow.holds Tryd.pinned (OpenSpec.ofChange Rows.stepBackSpec) :=
  OpenClaim.holds_of_wide 13 Tryd.f13 rfl rfl rfl rfl rfl rfl rfl ⟨rfl, rfl, rfl, rfl, rfl⟩ rfl rfl rfl rfl rfl (by kernel_rfl) Tryd.func13 (by kernel_rfl)
    (of_decide_eq_true (by kernel_rfl)) (by unfold Func.isWrapper; first | (rw [if_pos (by decide +kernel)]; kernel_rfl) | (rw [if_neg (by decide +kernel)]; exact ⟨rfl, rfl⟩))
    (fun os started H enc _ => lifted os started H enc)
theorem card : Rows.StepBackCardSaid :=
  Claim7.holds_tied_plain_at .later [] [.data, .data, .data, .sentinel, .sentinel, .listed, .data] true (true, "317a0e92f13fe99fbcc6793444b0813dfe09c0612919ce800d2b23b864f72e80") true over (fun _ h => by cases h) (by kernel_rfl) (fun _ h => by cases h) stepBack_row_tie rfl ⟨rfl, rfl⟩ (by kernel_rfl) rfl
    (fun f fn hf hfn => by
      obtain rfl : f = 13 := Option.some.inj ((show Tryd.prog.funcNamed Rows.stepBackRow.func = some 13 by kernel_rfl).symm.trans hf) |>.symm
      obtain rfl : fn = Tryd.f13 := (Option.some.inj (Tryd.func13.symm.trans hfn)).symm
      exact ⟨by kernel_rfl, fun j t ht => by
        rw [Tryd.params13] at ht
        have hm : t ∈ [33, 9] := by simpa using Array.mem_of_getElem? ht
        have hall : ([33, 9].all fun u => !Tryd.prog.wantsStandIn u) = true := by kernel_rfl
        exact (show Tryd.prog.wantsStandIn t = false by simpa using List.all_eq_true.1 hall t hm)⟩)
    (by kernel_rfl)
#print axioms card
end Go.Proofs.YthkbomclongjgaaDoor.stepBack
namespace Go.Proofs.YthkbomclongjgaaDoor
/-- The row, under a short name, for the claim. -/
theorem stepBack_holds : Rows.StepBackCardSaid := stepBack.card
end Go.Proofs.YthkbomclongjgaaDoor
