/- DeckSelf is proved: whatever data it is called with, it returns true and leaves its arguments as they were. -/
import Derived.Test.YtnfoibgafmeenaaRows
import Derived.Test.YtnfoibgafmeenaaDk15
import Derived.WalkKit
import Derived.ProofKit
import Derived.OpenShut
import Derived.ShutString
import Derived.ChangeOld
import Derived.Below
import Derived.SizedLaws
import Derived.Carry
namespace Go.Proofs.Ytnfoibgafmeenaa.deckSelf
open Go Go.ChangeShapes Go.WideShapes Go.ChangeAt Go.RowKit Go.Proofs.Ytnfoibgafmeenaa Go.Proofs.Ytnfoibgafmeenaa.AM
open Go.ChangeMaps (open_string shut_string)
set_option linter.unusedVariables false
theorem own : ownKnob Try.prog.godebug = none := by kernel_rfl
theorem laidOut : laidOutB Try.prog = true := by kernel_rfl
set_option maxRecDepth 100000 in
theorem lifted (os : Os) (started : os.Started) (H : Type) (enc : TypeId × Value → H) :
    ReturnsInHanded {} Try.checked os 10 .any (Rows.deckSelfSpec.pre6 enc Try.prog Try.f10 Rows.deckSelfRow.domain false) (Rows.deckSelfSpec.post enc Try.prog Try.f10 false true false false) := by
  refine returnsInHanded_of_change_sized (C := Try.checked) own started (by kernel_rfl) Try.func10
    (ChangeSpec.witness6 (enc := enc) (C := Try.checked) false ⟨#[], #[.slice none 0 0, .slice none 0 0], []⟩ 8 (by kernel_rfl) (by kernel_rfl) (by kernel_rfl) (by kernel_rfl)) ?_
  intro W base args ds gs before hval0 hW hcnd hsz0 _
  have hsz : (DataW.weightsEach Try.prog (Try.f10.params.toList ++ Rows.deckSelfSpec.plain.varTypes Try.prog) (ds ++ gs)).all (· ≤ reachBytes) = true := hsz0
  have hval : ∀ (j : Nat) t v, Try.f10.params[j]? = some t → args[j]? = some v → Value.okWide Try.prog W .any base t v := hval0
  have hW' := hW
  obtain ⟨p, q, hA0, hV, rfl, hfz, hnd⟩ := hW
  have hA : DataW.TrodAll enc Try.prog W 0 (fun _ => true) true Try.f10.params.toList args.toList ds p := hA0
  rw [Try.params10] at hA hval hsz
  obtain ⟨v0, vs0, d0, ds0, p0, q0, hargs, rfl, rfl, h0, r0⟩ := trodAll_cons hA
  obtain ⟨v1, vs1, d1, ds1, p1, q1, rfl, rfl, rfl, h1, r1⟩ := trodAll_cons r0
  obtain ⟨rfl, rfl, rfl⟩ := trodAll_nil r1
  obtain rfl : args = #[v0, v1] := by cases args; simp_all
  obtain ⟨rfl, rfl⟩ := trodVars_none hV
  have k0 := h0
  have lt0 : ∀ x ∈ p0, x.block < W.heap.size := by obtain ⟨m, hm⟩ := k0; exact DataW.trod_lt m _ _ _ hm
  obtain ⟨P0, n0, cs0, g0, o0, c0, f0, w0⟩ := AM.open_ints Try.underlying22 Try.underlying3 (by kernel_rfl) (hval 0 22 v0 rfl rfl) h0
  have k1 := h1
  have lt1 : ∀ x ∈ p1, x.block < W.heap.size := by obtain ⟨m, hm⟩ := k1; exact DataW.trod_lt m _ _ _ hm
  obtain ⟨P1, n1, cs1, g1, o1, c1, f1, w1⟩ := AM.open_ints Try.underlying22 Try.underlying3 (by kernel_rfl) (hval 1 22 v1 rfl rfl) h1
  clear hA0 hval0 hsz0 hsz
  have hw : AM.WR W (fun id => ([P0, P1] : List Ps)[id]?) (fun b => W.heap[b]?) [ints false n0 g0, ints false n1 g1] W := by
    refine AM.WR.start _ _ (fun id x hx => ?_) (Nat.le_refl _)
    rcases id with _ | id
    · obtain rfl := Option.some.inj (Option.some.inj hx)
      exact ⟨P0, rfl, _, _, _, _, _, rfl, o0, f0⟩
    · skip
      rcases id with _ | id
      · obtain rfl := Option.some.inj (Option.some.inj hx)
        exact ⟨P1, rfl, _, _, _, _, _, rfl, o1, f1⟩
      · simp at hx
  refine (AM.law_calls (AM.DeckSelf_c W false false n0 n1 none none g0 g1 _ rfl) hw ?_).mono fun e W' ⟨he, bel0⟩ => ?_
  · exact ⟨c0 _ 0 rfl, c1 _ 1 rfl, trivial⟩
  have bel : Below W.heap.size W W' := bel0
  subst he
  exact ⟨_, rfl, _, _, _, [], _, [], hW', trodAll_mk1 (shut_bool Try.underlying4 _), (trodAll_cons_mk (Below.trod laidOut (by kernel_rfl) (of_decide_eq_true (by kernel_rfl)) k0 bel lt0) (trodAll_cons_mk (Below.trod laidOut (by kernel_rfl) (of_decide_eq_true (by kernel_rfl)) k1 bel lt1) trodAll_mk0)), rfl, bel.frame _, fun h => by cases h⟩
theorem over : Rows.deckSelfRow.holds Try.pinned (OpenSpec.ofChange Rows.deckSelfSpec) :=
  OpenClaim.holds_of_wide 10 Try.f10 rfl rfl rfl rfl rfl rfl rfl ⟨rfl, rfl, rfl, rfl, rfl⟩ rfl rfl rfl rfl rfl (by kernel_rfl) Try.func10 (by kernel_rfl)
    (of_decide_eq_true (by kernel_rfl)) (by unfold Func.isWrapper; first | (rw [if_pos (by decide +kernel)]; kernel_rfl) | (rw [if_neg (by decide +kernel)]; exact ⟨rfl, rfl⟩))
    (fun os started H enc _ => lifted os started H enc)
theorem proved : Rows.DeckSelfSaid := over
#print axioms proved
end Go.Proofs.Ytnfoibgafmeenaa.deckSelf
namespace Go.Proofs.Ytnfoibgafmeenaa
/-- The row, under a short name, for the claim. -/
theorem deckSelf_holds : Rows.DeckSelfSaid := deckSelf.proved
end Go.Proofs.Ytnfoibgafmeenaa
