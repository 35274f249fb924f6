/- ItemTells is proved: whatever data it is called with, and with the listed variables of the library as the program's own text lays them, it returns true and leaves its arguments as they were. -/
import Derived.Test.YthkbomclongjgaaDoorRows
import Derived.Test.YthkbomclongjgaaDoorPItemTellsx5
import Derived.Test.YthkbomclongjgaaDoorPureItemTells
import Derived.Test.YthkbomclongjgaaDoorExtOpen
import Derived.WalkKit
import Derived.ProofKit
import Derived.OpenShut
import Derived.ShutString
import Derived.ChangeOld
import Derived.Below
import Derived.SizedLaws
import Derived.LaidMore
import Derived.Lay
import Derived.SevenTiedAt
import Derived.Stop.Joined
import Derived.Test.YthkbomclongjgaaDoorCards
import Derived.Test.YthkbomclongjgaaDoorTie
import Derived.Test.YthkbomclongjgaaDoorExtStep
namespace Go.Proofs.YthkbomclongjgaaDoor.itemTells
open Go.ChangeShapes Go.WideShapes Go.ChangeAt Go.RowKit Go.Proofs.YthkbomclongjgaaDoor.PItemTells Go.Proofs.YthkbomclongjgaaDoorW.PrintWords
open Go.ChangeMaps (open_string shut_string)
set_option linter.unusedVariables false
theorem own : ownKnob Tryd.prog.godebug = none := by kernel_rfl
theorem laidOut : laidOutB Tryd.prog = true := by kernel_rfl
theorem opens47 : ExtOpen.Opens Tryd.prog k47 47 ok47 :=
  ExtOpen.opens_struct _ (fun y => ⟨y.1, y.2.1, y.2.2⟩) (fun _ => rfl) Tryd.underlying47 (by kernel_rfl) (ExtOpen.opensF_cons (ExtOpen.opens_int Tryd.underlying3) (ExtOpen.opensF_cons (ExtOpen.opens_int Tryd.underlying3) (ExtOpen.opensF_one (ExtOpen.opens_int Tryd.underlying3))))
theorem opens49 : ExtOpen.Opens Tryd.prog k49 49 ok49 :=
  ExtOpen.opens_struct _ (fun y => ⟨y.1, y.2.1, y.2.2.1, y.2.2.2⟩) (fun _ => rfl) Tryd.underlying49 (by kernel_rfl) (ExtOpen.opensF_cons (ExtOpen.opens_int Tryd.underlying3) (ExtOpen.opensF_cons (ExtOpen.opens_int Tryd.underlying3) (ExtOpen.opensF_cons (ExtOpen.opens_int Tryd.underlying3) (ExtOpen.opensF_one (ExtOpen.opens_int Tryd.underlying3)))))
theorem opens51 : ExtOpen.Opens Tryd.prog k51 51 ok51 :=
  ExtOpen.opens_struct _ (fun y => ⟨y.1, y.2.1, y.2.2.1, y.2.2.2.1, y.2.2.2.2⟩) (fun _ => rfl) Tryd.underlying51 (by kernel_rfl) (ExtOpen.opensF_cons (ExtOpen.opens_int Tryd.underlying3) (ExtOpen.opensF_cons (ExtOpen.opens_int Tryd.underlying3) (ExtOpen.opensF_cons opens47 (ExtOpen.opensF_cons opens49 (ExtOpen.opensF_one (ExtOpen.opens_string Tryd.underlying9))))))
set_option maxRecDepth 100000 in
theorem lifted (os : Os) (started : os.Started) (H : Type) (enc : TypeId × Value → H) :
    ReturnsInHanded {} Tryd.checked os 11 .any (fun w args => (Rows.itemTellsSpec.pre enc Tryd.prog Tryd.f11 Rows.itemTellsRow.domain false w args ∧ laidMetH Tryd.prog Rows.itemTellsRow.laid w) ∧ sizedMet enc Tryd.prog Tryd.f11 (OpenSpec.ofChange Rows.itemTellsSpec) false w args) (Rows.itemTellsSpec.post enc Tryd.prog Tryd.f11 false true false false) := by
  refine ExtLex.returnsInHanded_laid_shaped (C := Tryd.checked) (X := fun w _ => laidMetH Tryd.prog Rows.itemTellsRow.laid w) (fun _ _ _ hh h => h.of_heap hh) own started (by kernel_rfl) Tryd.func11
    (ChangeSpec.witness_shaped (enc := enc) (C := Tryd.checked) (os := os) (X := fun w _ => laidMetH Tryd.prog Rows.itemTellsRow.laid w) false (World.laidAll Tryd.prog os Rows.itemTellsRow.laid) #[.agg #[.int .i64 0, .int .i64 0, .int .i64 0, .int .i64 0, .int .i64 0, .int .i64 0, .int .i64 0, .int .i64 0, .int .i64 0, .string ByteArray.empty], .agg #[.int .i64 0, .int .i64 0, .int .i64 0, .int .i64 0, .int .i64 0, .int .i64 0, .int .i64 0, .int .i64 0, .int .i64 0, .string ByteArray.empty]] 8 (World.laidAll_os _ _ _)
      (World.shaped_of_ZipB (by kernel_rfl) (by kernel_rfl)) (by kernel_rfl) (by kernel_rfl) (by kernel_rfl)
      (by rw [MakeChecks.laidMetH_plain _ _ _ (by kernel_rfl)]; exact laidMet_laidAll _ (by kernel_rfl) (by kernel_rfl))) ?_
  intro W base args ds gs before hval0 hW hcnd hsz0 hL hsh _
  have hG : Go.Proofs.YthkbomclongjgaaDoor.ExtStep.GL W := Go.Proofs.YthkbomclongjgaaDoor.ExtStep.GL.mk_ W hL hsh
  have hsz : (DataW.weightsEach Tryd.prog (Tryd.f11.params.toList ++ Rows.itemTellsSpec.plain.varTypes Tryd.prog) (ds ++ gs)).all (· ≤ reachBytes) = true := hsz0
  have hval : ∀ (j : Nat) t v, Tryd.f11.params[j]? = some t → args[j]? = some v → Value.okWide Tryd.prog W .any base t v := hval0
  have hW' := hW
  obtain ⟨p, q, hA0, hV, rfl, hfz, hnd⟩ := hW
  have hA : DataW.TrodAll enc Tryd.prog W 0 (fun _ => true) true Tryd.f11.params.toList args.toList ds p := hA0
  rw [Tryd.params11] at hA hval hsz
  obtain ⟨v0, vs0, d0, ds0, p0, q0, hargs, rfl, rfl, h0, r0⟩ := trodAll_cons hA
  obtain ⟨v1, vs1, d1, ds1, p1, q1, rfl, rfl, rfl, h1, r1⟩ := trodAll_cons r0
  obtain ⟨rfl, rfl, rfl⟩ := trodAll_nil r1
  obtain rfl : args = #[v0, v1] := by cases args; simp_all
  obtain ⟨rfl, rfl⟩ := trodVars_none hV
  have k0 := h0
  have lt0 : ∀ x ∈ p0, x.block < W.heap.size := by obtain ⟨m, hm⟩ := k0; exact DataW.trod_lt m _ _ _ hm
  obtain ⟨x0, cs0, rfl, K0, w0⟩ := ExtOpen.arg_struct opens51 Tryd.underlying51 (hval 0 51 v0 rfl rfl) h0 (ExtOpen.weights_at hsz (j := 0) (t := 51) rfl rfl)
  obtain rfl := k51_open K0
  have k1 := h1
  have lt1 : ∀ x ∈ p1, x.block < W.heap.size := by obtain ⟨m, hm⟩ := k1; exact DataW.trod_lt m _ _ _ hm
  obtain ⟨x1, cs1, rfl, K1, w1⟩ := ExtOpen.arg_struct opens51 Tryd.underlying51 (hval 1 51 v1 rfl rfl) h1 (ExtOpen.weights_at hsz (j := 1) (t := 51) rfl rfl)
  obtain rfl := k51_open K1
  clear hA0 hval0 hsz0 hsz
  obtain ⟨k, hk⟩ := Pure.ItemTells x0 x1 w0 w1
  refine (PItemTells.gatherumlaw24_ItemTells.calls k (x0.f0) (x0.f1) (x0.f2.f0) (x0.f2.f1) (x0.f2.f2) (x0.f3.f0) (x0.f3.f1) (x0.f3.f2) (x0.f3.f3) (x0.f4) (x1.f0) (x1.f1) (x1.f2.f0) (x1.f2.f1) (x1.f2.f2) (x1.f3.f0) (x1.f3.f1) (x1.f3.f2) (x1.f3.f3) (x1.f4) true W  hG hk).mono fun e W' ⟨he, bel0⟩ => ?_
  have bel : Below W.heap.size W W' := bel0
  subst he
  exact ⟨_, rfl, _, _, _, [], _, [], hW', trodAll_mk1 (shut_bool Tryd.underlying4 _), (trodAll_cons_mk (Below.trod laidOut (by kernel_rfl) (of_decide_eq_true (by kernel_rfl)) k0 bel lt0) (trodAll_cons_mk (Below.trod laidOut (by kernel_rfl) (of_decide_eq_true (by kernel_rfl)) k1 bel lt1) trodAll_mk0)), rfl, bel.frame _, fun h => by cases h⟩
theorem over : Rows.itemTellsRow.holds Tryd.pinned (OpenSpec.ofChange Rows.itemTellsSpec) :=
  OpenClaim.holds_of_wide 11 Tryd.f11 rfl rfl rfl rfl rfl rfl rfl ⟨rfl, rfl, rfl, rfl, rfl⟩ rfl rfl rfl rfl rfl (by kernel_rfl) Tryd.func11 (by kernel_rfl)
    (of_decide_eq_true (by kernel_rfl)) (by unfold Func.isWrapper; first | (rw [if_pos (by decide +kernel)]; kernel_rfl) | (rw [if_neg (by decide +kernel)]; exact ⟨rfl, rfl⟩))
    (fun os started H enc _ => lifted os started H enc)
theorem card : Rows.ItemTellsCardSaid :=
  Claim7.holds_tied_plain_at .later [] [.data, .data, .data, .listed, .data] true (true, "317a0e92f13fe99fbcc6793444b0813dfe09c0612919ce800d2b23b864f72e80") true over (fun _ h => by cases h) (by kernel_rfl) (fun _ h => by cases h) itemTells_row_tie rfl ⟨rfl, rfl⟩ (by kernel_rfl) rfl
    (fun f fn hf hfn => by
      obtain rfl : f = 11 := Option.some.inj ((show Tryd.prog.funcNamed Rows.itemTellsRow.func = some 11 by kernel_rfl).symm.trans hf) |>.symm
      obtain rfl : fn = Tryd.f11 := (Option.some.inj (Tryd.func11.symm.trans hfn)).symm
      exact ⟨by kernel_rfl, fun j t ht => by
        rw [Tryd.params11] at ht
        have hm : t ∈ [51, 51] := by simpa using Array.mem_of_getElem? ht
        have hall : ([51, 51].all fun u => !Tryd.prog.wantsStandIn u) = true := by kernel_rfl
        exact (show Tryd.prog.wantsStandIn t = false by simpa using List.all_eq_true.1 hall t hm)⟩)
    (by kernel_rfl)
#print axioms card
end Go.Proofs.YthkbomclongjgaaDoor.itemTells
namespace Go.Proofs.YthkbomclongjgaaDoor
/-- The row, under a short name, for the claim. -/
theorem itemTells_holds : Rows.ItemTellsCardSaid := itemTells.card
end Go.Proofs.YthkbomclongjgaaDoor
