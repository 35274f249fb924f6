/- The pure statement of StepOne: one step takes its strip where it can, and else nothing is told. No condition beyond the statement's own. -/
import Derived.Test.YthkbomclongjgaaDoorPStepOnex1
import Derived.Test.YthkbomclongjgaaDoorPkStep
namespace Go.Proofs.YthkbomclongjgaaDoor.Pure
open Go.RowKit Go.Proofs.YthkbomclongjgaaDoor.PStepOne Go.Proofs.YthkbomclongjgaaDoorW.PrintWords Go.Proofs.YthkbomclongjgaaDoorW.PrintLast Go.Proofs.YthkbomclongjgaaDoor.Pk Go.Proofs.YthkbomclongjgaaDoor.PkStep
set_option linter.unusedSimpArgs false
set_option linter.unusedVariables false

theorem stepOne_alive (k : Nat) : gatherumlaw11_alive.f (k + 1) = some true := by
  unfold gatherumlaw11_alive.f
  rw [after k 4 1 1 2 false (by unfold In64; omega) (by unfold In64; omega), put_step k 2 1 true (by unfold In64; omega) (by unfold In64; omega)]
  rw [aft_ok 4 1 1 2 (by unfold In64; omega) (by unfold In64; omega)]
  simp only [Option.bind_some, mk_toList]
  kernel_rfl

theorem StepOne : gatherumlaw11_StepOne.Pure := by
  intro a0 a1 x2 w0 w1 w2
  obtain ⟨h0, h1⟩ := wf_i64 w0
  obtain ⟨h2, h3⟩ := wf_i64 w1
  obtain ⟨s, n, u⟩ := x2
  obtain ⟨w2, w3, _⟩ := w2
  have hs := wf_i64 w2
  have hn := wf_i64 w3
  clear w0 w1 w2 w3
  refine ⟨1, ?_⟩
  unfold gatherumlaw11_StepOne.f
  simp only [] at hs hn
  simp only []
  rw [stepOne_alive, after 0 a0 a1 s n u hs hn, aft_ok a0 a1 s n ⟨h0, h1⟩ ⟨h2, h3⟩]
  simp only [Option.bind_some, if_true]
  by_cases h : okStep s n = true ∧ 1 ≤ a0 ∧ 1 ≤ a1 ∧ (s ≤ 2 ∧ 2 * n ≤ a0 ∨ 2 < s ∧ 2 * n ≤ a1)
  · rw [if_pos h]
    obtain ⟨ho, c1, c2, c3⟩ := h
    unfold okStep at ho
    simp only [decide_eq_true_eq] at ho
    by_cases c4 : s ≤ 2
    · simp only [if_pos c4, if_true]
      rw [wr (by omega) (by omega), if_pos rfl, if_pos (by omega)]
      simp; omega
    · simp only [if_neg c4, if_true]
      rw [wr (by omega) (by omega), if_pos rfl, if_pos (by omega)]
      simp; omega
  · rw [if_neg h]
    rfl
end Go.Proofs.YthkbomclongjgaaDoor.Pure
