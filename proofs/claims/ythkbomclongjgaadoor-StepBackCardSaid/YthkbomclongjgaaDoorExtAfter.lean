/- The contract of step.After, over the printed contract of step.Put; its condition: the library's tables lie as listed. -/
import Derived.Test.YthkbomclongjgaaDoorPPutStepx1
import Derived.RegionTactic
import Derived.Deep.QuietTactic
import Derived.BigQuiet
namespace Go.Proofs.YthkbomclongjgaaDoor.ExtAfter
open Go.RowKit Go.Proofs.YthkbomclongjgaaDoorW.PrintWords Go.Proofs.YthkbomclongjgaaDoorW.PrintMore Go.Proofs.YthkbomclongjgaaDoor.PPutStep
set_option linter.unusedVariables false
set_option linter.unusedSimpArgs false

/-- What is left, where a step can be told. -/
def left (c r s n : Int) : Int × Int × Bool :=
  if c < 1 then (0, 0, false) else if r < 1 then (0, 0, false) else
  if s = 3 ∨ s = 4 then (if wrap64 (Int.tdiv r 2) < n then (0, 0, false) else (c, wrap64 (r - n), true))
  else (if wrap64 (Int.tdiv c 2) < n then (0, 0, false) else (wrap64 (c - n), r, true))
def step_After.f (k : Nat) (a0 a1 a2_0 a2_1 : Int) (a2_2 : Bool) : Option (Int × Int × Bool) :=
  (step_Put.f k a2_0 a2_1 a2_2).bind fun p => if p.2 = true then some (left a0 a1 a2_0 a2_1) else some (0, 0, false)
theorem step_After.mono : ∀ a0 a1 a2_0 a2_1 a2_2 k, LeO (step_After.f k a0 a1 a2_0 a2_1 a2_2) (step_After.f (k + 1) a0 a1 a2_0 a2_1 a2_2) := by
  intro a0 a1 a2_0 a2_1 a2_2 k
  unfold step_After.f
  exact LeO.bind (step_Put.mono _ _ _ _) (fun _ => LeO.refl _)

theorem bcell {W w1 : World} (hb : Below W.heap.size W w1) : (∀ b o, b < W.heap.size → w1.cell? ⟨b, o, none⟩ = W.cell? ⟨b, o, none⟩) ∧ (∀ b o, b < W.heap.size → w1.frozen? ⟨b, o, none⟩ = W.frozen? ⟨b, o, none⟩) :=
  ⟨fun b o h => hb.cell (p := ⟨b, o, none⟩) h, fun b o h => hb.frozen (p := ⟨b, o, none⟩) h⟩

set_option maxRecDepth 100000 in
theorem step_After.calls (k : Nat) (a0 a1 a2_0 a2_1 : Int) (a2_2 : Bool) (r1 r2 : Int) (r3 : Bool) (w : World) (hG : ExtStep.GL w) (h : step_After.f k a0 a1 a2_0 a2_1 a2_2 = some (r1, r2, r3)) :
    Calls Tryd.prog 25 #[.int .i64 a0, .int .i64 a1, .agg #[.int .i64 a2_0, .int .i64 a2_1, .bool a2_2]] w fun e w' => e = .returned (.tuple #[.int .i64 r1, .int .i64 r2, .bool r3]) ∧ Below w.heap.size w w' := by
  unfold step_After.f at h
  obtain ⟨⟨t, ok⟩, hp, h⟩ := Option.bind_eq_some_iff.mp h
  have HG := Aside0.mk hG
  have HP := Aside0.mk hp
  have hu := Tryd.underlying33
  clear hG hp
  cases ok with
  | false =>
    simp only [Bool.false_eq_true, if_false, Option.some.injEq, Prod.mk.injEq] at h
    obtain ⟨rfl, rfl, rfl⟩ := h
    go_enter Tryd.func25, Tryd.ntmps25
    go_wp2_with fail
    refine (step_Put.calls k a2_0 a2_1 a2_2 t false _ ?hg HP.out).mono ?_
    case hg => exact ExtStep.GL.below HG.out (((below_alloc (below_alloc (below_alloc (Below.refl _ _) _) _) _)))
    rintro e w1 ⟨rfl, hb⟩
    have HB := Aside0.mk hb
    clear hb
    go_wp2
    go_ret3
    exact ⟨rfl, (below_alloc (below_alloc (below_alloc (Below.refl _ _) _) _) _).trans (HB.out.mono (by simp; omega))⟩
  | true =>
    simp only [if_true, Option.some.injEq] at h
    have H := Aside0.mk h
    clear h
    go_enter Tryd.func25, Tryd.ntmps25
    go_wp2_with fail
    refine (step_Put.calls k a2_0 a2_1 a2_2 t true _ ?hg HP.out).mono ?_
    case hg => exact ExtStep.GL.below HG.out (((below_alloc (below_alloc (below_alloc (Below.refl _ _) _) _) _)))
    rintro e w1 ⟨rfl, hb⟩
    have HB := Aside0.mk ((below_alloc (below_alloc (below_alloc (Below.refl w.heap.size w) _) _) _).trans (hb.mono (by simp; omega)))
    obtain ⟨hc, hf⟩ := bcell hb
    have hz : w.heap.size + 2 < w1.heap.size := by have := hb.size; simp at this; omega
    clear hb
    have h := H.out
    clear H
    unfold left at h
    by_cases c1 : a0 < 1
    · rw [if_pos c1] at h
      simp only [Prod.mk.injEq] at h
      obtain ⟨rfl, rfl, rfl⟩ := h
      go_wp2
      go_ret3
      exact ⟨rfl, HB.out⟩
    · rw [if_neg c1] at h
      by_cases c2 : a1 < 1
      · rw [if_pos c2] at h
        simp only [Prod.mk.injEq] at h
        obtain ⟨rfl, rfl, rfl⟩ := h
        go_wp2
        go_ret3
        exact ⟨rfl, HB.out⟩
      · rw [if_neg c2] at h
        have b1 : decide (a0 < 1) = false := decide_eq_false c1
        have b2 : decide (a1 < 1) = false := decide_eq_false c2
        clear c1 c2
        have q0 : w1.cell? ⟨w.heap.size, 0, none⟩ = some (.int .i64 a0) := by rw [hc _ _ (by simp <;> omega)]; go_simp
        have q1 : w1.cell? ⟨w.heap.size + 1, 0, none⟩ = some (.int .i64 a1) := by rw [hc _ _ (by simp <;> omega)]; go_simp
        by_cases c3 : a2_0 = 3
        · subst c3
          rw [if_pos (.inl rfl)] at h
          by_cases c5 : wrap64 (Int.tdiv a1 2) < a2_1
          · rw [if_pos c5] at h
            simp only [Prod.mk.injEq] at h
            obtain ⟨rfl, rfl, rfl⟩ := h
            have b5 := decide_eq_true c5
            clear c5
            go_wp2
            go_quiet (fail)
            go_wp2
            go_ret3
            exact ⟨rfl, by repeat (first | (with_reducible first | exact HB.out | apply pw_below_drewN | apply below_drew1 | (refine below_set ?_ (by omega))) | exact HB.out)⟩
          · rw [if_neg c5] at h
            simp only [Prod.mk.injEq] at h
            obtain ⟨rfl, rfl, rfl⟩ := h
            have b5 := decide_eq_false c5
            clear c5
            go_wp2
            go_quiet (fail)
            go_wp2
            go_region
            all_goals go_wp2
            all_goals (go_quiet (fail))
            all_goals go_wp2
            all_goals go_ret3
            all_goals exact ⟨rfl, by repeat (first | (with_reducible first | exact HB.out | apply pw_below_drewN | apply below_drew1 | (refine below_set ?_ (by omega))) | exact HB.out)⟩
        · by_cases c4 : a2_0 = 4
          · subst c4
            rw [if_pos (.inr rfl)] at h
            clear c3
            by_cases c5 : wrap64 (Int.tdiv a1 2) < a2_1
            · rw [if_pos c5] at h
              simp only [Prod.mk.injEq] at h
              obtain ⟨rfl, rfl, rfl⟩ := h
              have b5 := decide_eq_true c5
              clear c5
              go_wp2
              go_quiet (fail)
              go_wp2
              go_ret3
              exact ⟨rfl, by repeat (first | (with_reducible first | exact HB.out | apply pw_below_drewN | apply below_drew1 | (refine below_set ?_ (by omega))) | exact HB.out)⟩
            · rw [if_neg c5] at h
              simp only [Prod.mk.injEq] at h
              obtain ⟨rfl, rfl, rfl⟩ := h
              have b5 := decide_eq_false c5
              clear c5
              go_wp2
              go_quiet (fail)
              go_wp2
              go_region
              all_goals go_wp2
              all_goals (go_quiet (fail))
              all_goals go_wp2
              all_goals go_ret3
              all_goals exact ⟨rfl, by repeat (first | (with_reducible first | exact HB.out | apply pw_below_drewN | apply below_drew1 | (refine below_set ?_ (by omega))) | exact HB.out)⟩
          · rw [if_neg (by omega)] at h
            have b3 : (a2_0 == 3) = false := beq_eq_false_iff_ne.2 c3
            have b4 : (a2_0 == 4) = false := beq_eq_false_iff_ne.2 c4
            clear c3 c4
            by_cases c5 : wrap64 (Int.tdiv a0 2) < a2_1
            · rw [if_pos c5] at h
              simp only [Prod.mk.injEq] at h
              obtain ⟨rfl, rfl, rfl⟩ := h
              have b5 := decide_eq_true c5
              clear c5
              go_wp2
              go_quiet (fail)
              go_wp2
              go_ret3
              exact ⟨rfl, by repeat (first | (with_reducible first | exact HB.out | apply pw_below_drewN | apply below_drew1 | (refine below_set ?_ (by omega))) | exact HB.out)⟩
            · rw [if_neg c5] at h
              simp only [Prod.mk.injEq] at h
              obtain ⟨rfl, rfl, rfl⟩ := h
              have b5 := decide_eq_false c5
              clear c5
              go_wp2
              go_quiet (fail)
              go_wp2
              go_region
              all_goals go_wp2
              all_goals (go_quiet (fail))
              all_goals go_wp2
              all_goals go_ret3
              all_goals exact ⟨rfl, by repeat (first | (with_reducible first | exact HB.out | apply pw_below_drewN | apply below_drew1 | (refine below_set ?_ (by omega))) | exact HB.out)⟩
end Go.Proofs.YthkbomclongjgaaDoor.ExtAfter
