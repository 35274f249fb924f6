-- written by xprint.py (a program of this session's, over the kit's printer)
import Derived.Test.YthkbomclongjgaaDoorPStepFoldsx0
import Derived.Test.YthkbomclongjgaaDoorPStepFoldsx1
namespace Go.Proofs.YthkbomclongjgaaDoor.PStepFolds
open Go.RowKit Go.Proofs.YthkbomclongjgaaDoorW.PrintWords Go.Proofs.YthkbomclongjgaaDoorW.PrintLast Go.Proofs.YthkbomclongjgaaDoorW.PrintMore
attribute [local go_sem] max2_int min2_int max_two min_two max_three min_three max_four min_four   -- for this text's walks alone
set_option linter.unusedVariables false
set_option linter.unusedSimpArgs false

/-! ### gatherumlaw11_StepFolds: function 8 -/
def gatherumlaw11_StepFolds.j0 : Nat → Int → Int → List (S33) → Int → Int → Bool → Bool → Option (Bool)
  | 0, _, _, _, _, _, _, _ => none
  | k + 1, x0, x1, x2, x10, x11, x12, x49 => if x49 = true then (some false) else (if (x2.length : Int) = 1 then (if 0 < (x2.length : Int) then ((Go.Proofs.YthkbomclongjgaaDoor.ExtAfter.step_After.f k x0 x1 ((rd_T33 x2 0).f0) ((rd_T33 x2 0).f1) ((rd_T33 x2 0).f2)).bind fun bt125 => (if bt125.1 = x10 then (if bt125.2.1 = x11 then (some (bt125.2.2 == x12)) else (some false)) else (some false))) else (none)) else (some true))
def gatherumlaw11_StepFolds.f (k : Nat) (a0 : Int) (a1 : Int) (l2 : List (S33)) : Option (Bool) := (gatherumlaw11_alive.f k).bind fun t117 => (if t117 = true then (if (l2.length : Int) > 100 then (some true) else ((step_All.f k a0 a1 l2).bind fun bt118 => ((gatherumref11_After.f k a0 a1 l2).bind fun bt121 => (if bt118.1 = bt121.1 then (if bt118.2.1 = bt121.2.1 then (gatherumlaw11_StepFolds.j0 k a0 a1 l2 bt121.1 bt121.2.1 bt121.2.2 (bt118.2.2 != bt121.2.2)) else (gatherumlaw11_StepFolds.j0 k a0 a1 l2 bt121.1 bt121.2.1 bt121.2.2 true)) else (gatherumlaw11_StepFolds.j0 k a0 a1 l2 bt121.1 bt121.2.1 bt121.2.2 true))))) else (some false))
theorem gatherumlaw11_StepFolds.mono_l : ∀ k, (∀ y0 y1 y2 y3 y4 y5 y6, LeO (gatherumlaw11_StepFolds.j0 k y0 y1 y2 y3 y4 y5 y6) (gatherumlaw11_StepFolds.j0 (k + 1) y0 y1 y2 y3 y4 y5 y6))
  | 0 => fun _ _ _ _ _ _ _ r h => by simp [gatherumlaw11_StepFolds.j0] at h
  | k + 1 => by
    have ih0 := gatherumlaw11_StepFolds.mono_l k
    · intro y0 y1 y2 y3 y4 y5 y6
      unfold gatherumlaw11_StepFolds.j0
      repeat' first
      | (with_reducible exact ih0 _ _ _ _ _ _ _)
      | (with_reducible exact Go.Proofs.YthkbomclongjgaaDoor.ExtAfter.step_After.mono _ _ _ _ _ _)
      | (with_reducible exact gatherumlaw11_alive.mono _)
      | (with_reducible exact gatherumref11_After.mono _ _ _ _)
      | (with_reducible exact step_All.mono _ _ _ _)
      | (with_reducible exact LeO.refl _)
      | (with_reducible exact LeO.none _)
      | (with_reducible refine LeO.ite ?_ ?_)
      | (with_reducible refine LeO.bind ?_ (fun _ => ?_))
      | exact ih0 _ _ _ _ _ _ _
      | exact Go.Proofs.YthkbomclongjgaaDoor.ExtAfter.step_After.mono _ _ _ _ _ _
      | exact gatherumlaw11_alive.mono _
      | exact gatherumref11_After.mono _ _ _ _
      | exact step_All.mono _ _ _ _
      | exact LeO.none _
      | refine LeO.ite ?_ ?_
      | refine LeO.bind ?_ (fun _ => ?_)
theorem gatherumlaw11_StepFolds.mono : ∀ a0 a1 a2 k, LeO (gatherumlaw11_StepFolds.f k a0 a1 a2) (gatherumlaw11_StepFolds.f (k + 1) a0 a1 a2) := by
  intro a0 a1 a2 k
  have ih0 := gatherumlaw11_StepFolds.mono_l k
  unfold gatherumlaw11_StepFolds.f
  repeat' first
      | (with_reducible exact ih0 _ _ _ _ _ _ _)
      | (with_reducible exact Go.Proofs.YthkbomclongjgaaDoor.ExtAfter.step_After.mono _ _ _ _ _ _)
      | (with_reducible exact gatherumlaw11_alive.mono _)
      | (with_reducible exact gatherumref11_After.mono _ _ _ _)
      | (with_reducible exact step_All.mono _ _ _ _)
      | (with_reducible exact LeO.refl _)
      | (with_reducible exact LeO.none _)
      | (with_reducible refine LeO.ite ?_ ?_)
      | (with_reducible refine LeO.bind ?_ (fun _ => ?_))
      | exact ih0 _ _ _ _ _ _ _
      | exact Go.Proofs.YthkbomclongjgaaDoor.ExtAfter.step_After.mono _ _ _ _ _ _
      | exact gatherumlaw11_alive.mono _
      | exact gatherumref11_After.mono _ _ _ _
      | exact step_All.mono _ _ _ _
      | exact LeO.none _
      | refine LeO.ite ?_ ?_
      | refine LeO.bind ?_ (fun _ => ?_)
set_option maxHeartbeats 8000000 in
set_option maxRecDepth 100000 in
theorem gatherumlaw11_StepFolds.calls (k : Nat) (a0 : Int) (a1 : Int) (A2 : Option Addr) (c2 : Nat) (l2 : List (S33)) (r : Bool) (w : World) (hr2 : Kd.C k33 w A2 l2.length l2) (hc2 : l2.length ≤ c2) (hG : Go.Proofs.YthkbomclongjgaaDoor.ExtStep.GL w) (h : gatherumlaw11_StepFolds.f k a0 a1 l2 = some r) :
    Calls Tryd.prog 8 #[.int .i64 a0, .int .i64 a1, .slice A2 l2.length c2] w fun e w' => e = .returned (.bool r) ∧ Below w.heap.size w w' := by
  have hu33 := Tryd.underlying33
  have HG := Aside0.mk hG
  clear hG
  have HR2 := Aside0.mk hr2
  have HC2 := Aside0.mk hc2
  clear hr2 hc2
  have HB := Aside0.mk (Below.refl w.heap.size w)
  have H : ((gatherumlaw11_alive.f k).bind fun t117 => (if t117 = true then (if (l2.length : Int) > 100 then (some true) else ((step_All.f k a0 a1 l2).bind fun bt118 => ((gatherumref11_After.f k a0 a1 l2).bind fun bt121 => (if bt118.1 = bt121.1 then (if bt118.2.1 = bt121.2.1 then (gatherumlaw11_StepFolds.j0 k a0 a1 l2 bt121.1 bt121.2.1 bt121.2.2 (bt118.2.2 != bt121.2.2)) else (gatherumlaw11_StepFolds.j0 k a0 a1 l2 bt121.1 bt121.2.1 bt121.2.2 true)) else (gatherumlaw11_StepFolds.j0 k a0 a1 l2 bt121.1 bt121.2.1 bt121.2.2 true))))) else (some false))) = some r := h
  clear h
  replace H := Option.bind_eq_some_iff.mp H
  obtain ⟨t117, A40, H⟩ := H
  replace H : (if t117 = true then (if (l2.length : Int) > 100 then (some true) else ((step_All.f k a0 a1 l2).bind fun bt118 => ((gatherumref11_After.f k a0 a1 l2).bind fun bt121 => (if bt118.1 = bt121.1 then (if bt118.2.1 = bt121.2.1 then (gatherumlaw11_StepFolds.j0 k a0 a1 l2 bt121.1 bt121.2.1 bt121.2.2 (bt118.2.2 != bt121.2.2)) else (gatherumlaw11_StepFolds.j0 k a0 a1 l2 bt121.1 bt121.2.1 bt121.2.2 true)) else (gatherumlaw11_StepFolds.j0 k a0 a1 l2 bt121.1 bt121.2.1 bt121.2.2 true))))) else (some false)) = some r := H
  have A4 := Aside0.mk A40
  clear A40
  by_cases c5 : t117 = true
  · subst c5
    have H1 : (if (l2.length : Int) > 100 then (some true) else ((step_All.f k a0 a1 l2).bind fun bt118 => ((gatherumref11_After.f k a0 a1 l2).bind fun bt121 => (if bt118.1 = bt121.1 then (if bt118.2.1 = bt121.2.1 then (gatherumlaw11_StepFolds.j0 k a0 a1 l2 bt121.1 bt121.2.1 bt121.2.2 (bt118.2.2 != bt121.2.2)) else (gatherumlaw11_StepFolds.j0 k a0 a1 l2 bt121.1 bt121.2.1 bt121.2.2 true)) else (gatherumlaw11_StepFolds.j0 k a0 a1 l2 bt121.1 bt121.2.1 bt121.2.2 true))))) = some r := by rw [if_pos rfl] at H; exact H
    clear H
    have H := H1
    clear H1
    by_cases c6 : (l2.length : Int) > 100
    · rw [if_pos c6] at H
      have c6b0 : decide (100 < (l2.length : Int)) = true := decide_eq_true c6
      have c6b1 : decide (100 < l2.length) = true := decide_eq_true (by omega)
      clear c6
      obtain rfl := Option.some.inj H
      go_enter Tryd.func8, Tryd.ntmps8
      go_wp2_with (first | ((with_reducible refine gate_callee (f := 24) rfl ?_); refine goesL_ (some 16) rfl rfl Tryd.func24 (by kernel_rfl) rfl #[] rfl (by (try simp only [List.map_toArray, List.map_cons, List.map_nil]); first | done | rfl | (simp only [List.length_drop, List.length_take]; rfl)) ?_; (with_reducible refine (gatherumlaw11_alive.calls k  true _ ?side1 A4.out).mono ?_); (case side1 => exact Go.Proofs.YthkbomclongjgaaDoor.ExtStep.GL.below HG.out (by repeat (first | (with_reducible first | exact HB.out | apply below_alloc | apply pw_below_drewN | apply below_drew1) | exact HB.out))); rintro e w7 ⟨rfl, hb⟩; refine ⟨_, rfl, ?_⟩; have n0_ := Aside0.mk (below_step (by repeat (first | (with_reducible first | exact HB.out | apply below_alloc | apply pw_below_drewN | apply below_drew1) | exact HB.out)) hb); clear HB; have HB := n0_; clear n0_; (try clear hb); (try clear hb2); (try clear hk); (try clear hi)))
      go_ret
      exact ⟨by first | rfl | (simp [errW_none, errW_some] <;> rfl) | (simp [*, errW_none, errW_some] <;> rfl), by repeat (first | (with_reducible first | exact HB.out | apply below_alloc | apply pw_below_drewN | apply below_drew1) | exact HB.out)⟩
    · rw [if_neg c6] at H
      have c6b0 : decide (100 < (l2.length : Int)) = false := decide_eq_false c6
      have c6b1 : decide (100 < l2.length) = false := decide_eq_false (by omega)
      clear c6
      replace H := Option.bind_eq_some_iff.mp H
      obtain ⟨⟨t118, t119, t120⟩, A80, H⟩ := H
      replace H : ((gatherumref11_After.f k a0 a1 l2).bind fun bt121 => (if t118 = bt121.1 then (if t119 = bt121.2.1 then (gatherumlaw11_StepFolds.j0 k a0 a1 l2 bt121.1 bt121.2.1 bt121.2.2 (t120 != bt121.2.2)) else (gatherumlaw11_StepFolds.j0 k a0 a1 l2 bt121.1 bt121.2.1 bt121.2.2 true)) else (gatherumlaw11_StepFolds.j0 k a0 a1 l2 bt121.1 bt121.2.1 bt121.2.2 true))) = some r := H
      have A8 := Aside0.mk A80
      clear A80
      replace H := Option.bind_eq_some_iff.mp H
      obtain ⟨⟨t121, t122, t123⟩, A90, H⟩ := H
      replace H : (if t118 = t121 then (if t119 = t122 then (gatherumlaw11_StepFolds.j0 k a0 a1 l2 t121 t122 t123 (t120 != t123)) else (gatherumlaw11_StepFolds.j0 k a0 a1 l2 t121 t122 t123 true)) else (gatherumlaw11_StepFolds.j0 k a0 a1 l2 t121 t122 t123 true)) = some r := H
      have A9 := Aside0.mk A90
      clear A90
      have HC10 := Aside0.mk H
      clear H
      go_enter Tryd.func8, Tryd.ntmps8
      go_upto_region 7 with (first | ((with_reducible refine gate_callee (f := 24) rfl ?_); refine goesL_ (some 16) rfl rfl Tryd.func24 (by kernel_rfl) rfl #[] rfl (by (try simp only [List.map_toArray, List.map_cons, List.map_nil]); first | done | rfl | (simp only [List.length_drop, List.length_take]; rfl)) ?_; (with_reducible refine (gatherumlaw11_alive.calls k  true _ ?side1 A4.out).mono ?_); (case side1 => exact Go.Proofs.YthkbomclongjgaaDoor.ExtStep.GL.below HG.out (by repeat (first | (with_reducible first | exact HB.out | apply below_alloc | apply pw_below_drewN | apply below_drew1) | exact HB.out))); rintro e w11 ⟨rfl, hb⟩; refine ⟨_, rfl, ?_⟩; have n0_ := Aside0.mk (below_step (by repeat (first | (with_reducible first | exact HB.out | apply below_alloc | apply pw_below_drewN | apply below_drew1) | exact HB.out)) hb); clear HB; have HB := n0_; clear n0_; (try clear hb); (try clear hb2); (try clear hk); (try clear hi)) | ((with_reducible refine gate_callee (f := 26) rfl ?_); refine goesL_ (some 25) rfl rfl Tryd.func26 (by kernel_rfl) rfl #[.int .i64 a0, .int .i64 a1, .slice A2 l2.length c2] rfl (by (try simp only [List.map_toArray, List.map_cons, List.map_nil]); first | done | rfl | (simp only [List.length_drop, List.length_take]; rfl)) ?_; (with_reducible refine (step_All.calls k a0 a1 _ _ l2 t118 t119 t120 _ ?side1 ?side2 ?side3 A8.out).mono ?_); (case side1 => repeat (first | exact (Kd.C_below HR2.out HB.out) | (with_reducible refine Kd.C_alloc ?_ _) | (with_reducible refine Kd.C_drewN ?_ _) | (with_reducible refine Kd.C_drew ?_))); (case side2 => exact HC2.out); (case side3 => exact Go.Proofs.YthkbomclongjgaaDoor.ExtStep.GL.below HG.out (by repeat (first | (with_reducible first | exact HB.out | apply below_alloc | apply pw_below_drewN | apply below_drew1) | exact HB.out))); rintro e w12 ⟨rfl, hb⟩; refine ⟨_, rfl, ?_⟩; have n0_ := Aside0.mk (below_step (by repeat (first | (with_reducible first | exact HB.out | apply below_alloc | apply pw_below_drewN | apply below_drew1) | exact HB.out)) hb); clear HB; have HB := n0_; clear n0_; (try clear hb); (try clear hb2); (try clear hk); (try clear hi)) | ((with_reducible refine gate_callee (f := 27) rfl ?_); refine goesL_ (some 33) rfl rfl Tryd.func27 (by kernel_rfl) rfl #[.int .i64 a0, .int .i64 a1, .slice A2 l2.length c2] rfl (by (try simp only [List.map_toArray, List.map_cons, List.map_nil]); first | done | rfl | (simp only [List.length_drop, List.length_take]; rfl)) ?_; (with_reducible refine (gatherumref11_After.calls k a0 a1 _ _ l2 t121 t122 t123 _ ?side1 ?side2 A9.out).mono ?_); (case side1 => repeat (first | exact (Kd.C_below HR2.out HB.out) | (with_reducible refine Kd.C_alloc ?_ _) | (with_reducible refine Kd.C_drewN ?_ _) | (with_reducible refine Kd.C_drew ?_))); (case side2 => exact HC2.out); rintro e w13 ⟨rfl, hb⟩; refine ⟨_, rfl, ?_⟩; have n0_ := Aside0.mk (below_step (by repeat (first | (with_reducible first | exact HB.out | apply below_alloc | apply pw_below_drewN | apply below_drew1) | exact HB.out)) hb); clear HB; have HB := n0_; clear n0_; (try clear hb); (try clear hb2); (try clear hk); (try clear hi)))
      (try simp only [Act.put, List.setIfInBounds_toArray, List.set_cons_zero, List.set_cons_succ])
      go_cut [49] (fun v49 wc => ∃ (kq : Nat) (x49_9 : Bool), v49 = .bool x49_9 ∧ Aside0 (gatherumlaw11_StepFolds.j0 kq a0 a1 l2 t121 t122 t123 x49_9 = some r) ∧ Aside0 (kq ≤ k) ∧ Aside0 (Below w.heap.size w wc))
      case first =>
        have H := HC10.out
        clear HC10
        by_cases c14 : t118 = t121
        · rw [if_pos c14] at H
          have c14b0 : (t118 == t121) = true := beq_iff_eq.mpr c14
          have c14b1 : (t118 != t121) = false := bne_eq_false_iff_eq.mpr c14
          clear c14
          (first | rw [c14b0] | (simp only [i64_w, i32_w]; rw [c14b0]) | skip)
          by_cases c15 : t119 = t122
          · rw [if_pos c15] at H
            have c15b0 : (t119 == t122) = true := beq_iff_eq.mpr c15
            have c15b1 : (t119 != t122) = false := bne_eq_false_iff_eq.mpr c15
            clear c15
            have H' := Aside0.mk H
            clear H
            go_wp2
            go_meet
            case rel => exact ⟨_, ((t120 != t123)), (by first | rfl | (simp; done) | (simp [*]; done)), H', ⟨by first | omega | exact Nat.le_refl _⟩, ⟨by repeat (first | (with_reducible first | exact HB.out | apply below_alloc | apply pw_below_drewN | apply below_drew1) | exact HB.out)⟩⟩
          · rw [if_neg c15] at H
            have c15b0 : (t119 == t122) = false := beq_eq_false_iff_ne.mpr c15
            have c15b1 : (t119 != t122) = true := bne_iff_ne.mpr c15
            have H' := Aside0.mk H
            clear H
            go_wp2
            go_meet
            case rel => exact ⟨_, (true), (by first | rfl | (simp; done) | (simp [*]; done)), H', ⟨by first | omega | exact Nat.le_refl _⟩, ⟨by repeat (first | (with_reducible first | exact HB.out | apply below_alloc | apply pw_below_drewN | apply below_drew1) | exact HB.out)⟩⟩
        · rw [if_neg c14] at H
          have c14b0 : (t118 == t121) = false := beq_eq_false_iff_ne.mpr c14
          have c14b1 : (t118 != t121) = true := bne_iff_ne.mpr c14
          (first | rw [c14b0] | (simp only [i64_w, i32_w]; rw [c14b0]) | skip)
          have H' := Aside0.mk H
          clear H
          go_wp2
          go_meet
          case rel => exact ⟨_, (true), (by first | rfl | (simp; done) | (simp [*]; done)), H', ⟨by first | omega | exact Nat.le_refl _⟩, ⟨by repeat (first | (with_reducible first | exact HB.out | apply below_alloc | apply pw_below_drewN | apply below_drew1) | exact HB.out)⟩⟩
      case rest =>
        clear HC10
        try clear c1
        try clear c2
        try clear p2
        try clear c5
        try clear c6
        try clear c6b0
        try clear c6b1
        try clear c8
        try clear c14
        try clear c14b0
        try clear c14b1
        try clear c15
        try clear c15b0
        try clear c15b1
        obtain ⟨kq, x49_9, rfl, HA, HJ9, HB⟩ := hcut
        cases kq with
        | zero => exact absurd HA.out (by simp [gatherumlaw11_StepFolds.j0])
        | succ kj9 =>
          have H := HA.out
          clear HA
          simp only [gatherumlaw11_StepFolds.j0] at H
          by_cases c16 : x49_9 = true
          · subst c16
            have H1 : (some false) = some r := by rw [if_pos rfl] at H; exact H
            clear H
            have H := H1
            clear H1
            obtain rfl := Option.some.inj H
            go_wp2
            go_ret
            exact ⟨by first | rfl | (simp [errW_none, errW_some] <;> rfl) | (simp [*, errW_none, errW_some] <;> rfl), by repeat (first | (with_reducible first | exact HB.out | apply below_alloc | apply pw_below_drewN | apply below_drew1) | exact HB.out)⟩
          · replace c16 := Bool.eq_false_iff.mpr c16
            subst c16
            have H1 : (if (l2.length : Int) = 1 then (if 0 < (l2.length : Int) then ((Go.Proofs.YthkbomclongjgaaDoor.ExtAfter.step_After.f kj9 a0 a1 ((rd_T33 l2 0).f0) ((rd_T33 l2 0).f1) ((rd_T33 l2 0).f2)).bind fun bt125 => (if bt125.1 = t121 then (if bt125.2.1 = t122 then (some (bt125.2.2 == t123)) else (some false)) else (some false))) else (none)) else (some true)) = some r := by rw [if_neg (show ¬ (false = true) by decide)] at H; exact H
            clear H
            have H := H1
            clear H1
            by_cases c17 : (l2.length : Int) = 1
            · rw [if_pos c17] at H
              have c17b0 : ((l2.length : Int) == 1) = true := beq_iff_eq.mpr c17
              have c17b1 : ((l2.length : Int) != 1) = false := bne_eq_false_iff_eq.mpr c17
              clear c17
              by_cases c18 : 0 < (l2.length : Int)
              · rw [if_pos c18] at H
                have c18b0 : decide (0 < (l2.length : Int)) = true := decide_eq_true c18
                have c18b1 : decide (0 < l2.length) = true := decide_eq_true (by omega)
                clear c18
                replace H := Option.bind_eq_some_iff.mp H
                obtain ⟨⟨t125, t126, t127⟩, A190, H⟩ := H
                replace H : (if t125 = t121 then (if t126 = t122 then (some (t127 == t123)) else (some false)) else (some false)) = some r := H
                have A19 := Aside0.mk A190
                clear A190
                by_cases c20 : t125 = t121
                · rw [if_pos c20] at H
                  have c20b0 : (t125 == t121) = true := beq_iff_eq.mpr c20
                  have c20b1 : (t125 != t121) = false := bne_eq_false_iff_eq.mpr c20
                  clear c20
                  by_cases c21 : t126 = t122
                  · rw [if_pos c21] at H
                    have c21b0 : (t126 == t122) = true := beq_iff_eq.mpr c21
                    have c21b1 : (t126 != t122) = false := bne_eq_false_iff_eq.mpr c21
                    clear c21
                    obtain rfl := Option.some.inj H
                    have p124 : 0 ≤ (0 : Int) := (by omega)
                    have q124 : 0 < (l2.length : Int) := of_decide_eq_true (by first | (with_reducible assumption) | assumption)
                    obtain ⟨ad124, e124, hx124_0, hx124_1, hx124_2⟩ := at_T33 HR2.out 0 p124 q124
                    cases e124
                    have qi124 : (0 < l2.length) = True := eq_true (by omega)
                    (try rw [show ((0 : Int)).toNat = 0 from rfl] at hx124_0)
                    (try rw [show 0 * 3 = 0 from rfl] at hx124_0)
                    (try rw [Addr.add_zero'] at hx124_0)
                    (try rw [show ((0 : Int)).toNat = 0 from rfl] at hx124_1)
                    (try rw [show 0 * 3 = 0 from rfl] at hx124_1)
                    (try rw [Addr.add_zero'] at hx124_1)
                    (try rw [show ((0 : Int)).toNat = 0 from rfl] at hx124_2)
                    (try rw [show 0 * 3 = 0 from rfl] at hx124_2)
                    (try rw [Addr.add_zero'] at hx124_2)
                    replace hx124_0 := (HB.out.cell (World.block_lt_of_cell? w _ hx124_0)).trans hx124_0
                    replace hx124_1 := (HB.out.cell (World.block_lt_of_cell? w _ hx124_1)).trans hx124_1
                    replace hx124_2 := (HB.out.cell (World.block_lt_of_cell? w _ hx124_2)).trans hx124_2
                    replace p124 := eq_true p124
                    replace q124 := eq_true q124
                    go_wp2_with (first | ((with_reducible refine gate_callee (f := 25) rfl ?_); refine goesL_ (some 59) rfl rfl Tryd.func25 (by kernel_rfl) rfl #[.int .i64 a0, .int .i64 a1, .agg #[.int .i64 ((rd_T33 l2 0).f0), .int .i64 ((rd_T33 l2 0).f1), .bool ((rd_T33 l2 0).f2)]] rfl (by (try simp only [List.map_toArray, List.map_cons, List.map_nil]); first | done | rfl | (simp only [List.length_drop, List.length_take]; rfl)) ?_; (with_reducible refine (Go.Proofs.YthkbomclongjgaaDoor.ExtAfter.step_After.calls kj9 a0 a1 ((rd_T33 l2 0).f0) ((rd_T33 l2 0).f1) ((rd_T33 l2 0).f2) t125 t126 t127 _ ?side1 A19.out).mono ?_); (case side1 => exact Go.Proofs.YthkbomclongjgaaDoor.ExtStep.GL.below HG.out (by repeat (first | (with_reducible first | exact HB.out | apply below_alloc | apply pw_below_drewN | apply below_drew1) | exact HB.out))); rintro e w22 ⟨rfl, hb⟩; refine ⟨_, rfl, ?_⟩; have n0_ := Aside0.mk (below_step (by repeat (first | (with_reducible first | exact HB.out | apply below_alloc | apply pw_below_drewN | apply below_drew1) | exact HB.out)) hb); clear HB; have HB := n0_; clear n0_; (try clear hb); (try clear hb2); (try clear hk); (try clear hi)))
                    go_ret
                    exact ⟨by first | rfl | (simp [errW_none, errW_some] <;> rfl) | (simp [*, errW_none, errW_some] <;> rfl), by repeat (first | (with_reducible first | exact HB.out | apply below_alloc | apply pw_below_drewN | apply below_drew1) | exact HB.out)⟩
                  · rw [if_neg c21] at H
                    have c21b0 : (t126 == t122) = false := beq_eq_false_iff_ne.mpr c21
                    have c21b1 : (t126 != t122) = true := bne_iff_ne.mpr c21
                    obtain rfl := Option.some.inj H
                    have p124 : 0 ≤ (0 : Int) := (by omega)
                    have q124 : 0 < (l2.length : Int) := of_decide_eq_true (by first | (with_reducible assumption) | assumption)
                    obtain ⟨ad124, e124, hx124_0, hx124_1, hx124_2⟩ := at_T33 HR2.out 0 p124 q124
                    cases e124
                    have qi124 : (0 < l2.length) = True := eq_true (by omega)
                    (try rw [show ((0 : Int)).toNat = 0 from rfl] at hx124_0)
                    (try rw [show 0 * 3 = 0 from rfl] at hx124_0)
                    (try rw [Addr.add_zero'] at hx124_0)
                    (try rw [show ((0 : Int)).toNat = 0 from rfl] at hx124_1)
                    (try rw [show 0 * 3 = 0 from rfl] at hx124_1)
                    (try rw [Addr.add_zero'] at hx124_1)
                    (try rw [show ((0 : Int)).toNat = 0 from rfl] at hx124_2)
                    (try rw [show 0 * 3 = 0 from rfl] at hx124_2)
                    (try rw [Addr.add_zero'] at hx124_2)
                    replace hx124_0 := (HB.out.cell (World.block_lt_of_cell? w _ hx124_0)).trans hx124_0
                    replace hx124_1 := (HB.out.cell (World.block_lt_of_cell? w _ hx124_1)).trans hx124_1
                    replace hx124_2 := (HB.out.cell (World.block_lt_of_cell? w _ hx124_2)).trans hx124_2
                    replace p124 := eq_true p124
                    replace q124 := eq_true q124
                    go_wp2_with (first | ((with_reducible refine gate_callee (f := 25) rfl ?_); refine goesL_ (some 59) rfl rfl Tryd.func25 (by kernel_rfl) rfl #[.int .i64 a0, .int .i64 a1, .agg #[.int .i64 ((rd_T33 l2 0).f0), .int .i64 ((rd_T33 l2 0).f1), .bool ((rd_T33 l2 0).f2)]] rfl (by (try simp only [List.map_toArray, List.map_cons, List.map_nil]); first | done | rfl | (simp only [List.length_drop, List.length_take]; rfl)) ?_; (with_reducible refine (Go.Proofs.YthkbomclongjgaaDoor.ExtAfter.step_After.calls kj9 a0 a1 ((rd_T33 l2 0).f0) ((rd_T33 l2 0).f1) ((rd_T33 l2 0).f2) t125 t126 t127 _ ?side1 A19.out).mono ?_); (case side1 => exact Go.Proofs.YthkbomclongjgaaDoor.ExtStep.GL.below HG.out (by repeat (first | (with_reducible first | exact HB.out | apply below_alloc | apply pw_below_drewN | apply below_drew1) | exact HB.out))); rintro e w23 ⟨rfl, hb⟩; refine ⟨_, rfl, ?_⟩; have n0_ := Aside0.mk (below_step (by repeat (first | (with_reducible first | exact HB.out | apply below_alloc | apply pw_below_drewN | apply below_drew1) | exact HB.out)) hb); clear HB; have HB := n0_; clear n0_; (try clear hb); (try clear hb2); (try clear hk); (try clear hi)))
                    go_ret
                    exact ⟨by first | rfl | (simp [errW_none, errW_some] <;> rfl) | (simp [*, errW_none, errW_some] <;> rfl), by repeat (first | (with_reducible first | exact HB.out | apply below_alloc | apply pw_below_drewN | apply below_drew1) | exact HB.out)⟩
                · rw [if_neg c20] at H
                  have c20b0 : (t125 == t121) = false := beq_eq_false_iff_ne.mpr c20
                  have c20b1 : (t125 != t121) = true := bne_iff_ne.mpr c20
                  obtain rfl := Option.some.inj H
                  have p124 : 0 ≤ (0 : Int) := (by omega)
                  have q124 : 0 < (l2.length : Int) := of_decide_eq_true (by first | (with_reducible assumption) | assumption)
                  obtain ⟨ad124, e124, hx124_0, hx124_1, hx124_2⟩ := at_T33 HR2.out 0 p124 q124
                  cases e124
                  have qi124 : (0 < l2.length) = True := eq_true (by omega)
                  (try rw [show ((0 : Int)).toNat = 0 from rfl] at hx124_0)
                  (try rw [show 0 * 3 = 0 from rfl] at hx124_0)
                  (try rw [Addr.add_zero'] at hx124_0)
                  (try rw [show ((0 : Int)).toNat = 0 from rfl] at hx124_1)
                  (try rw [show 0 * 3 = 0 from rfl] at hx124_1)
                  (try rw [Addr.add_zero'] at hx124_1)
                  (try rw [show ((0 : Int)).toNat = 0 from rfl] at hx124_2)
                  (try rw [show 0 * 3 = 0 from rfl] at hx124_2)
                  (try rw [Addr.add_zero'] at hx124_2)
                  replace hx124_0 := (HB.out.cell (World.block_lt_of_cell? w _ hx124_0)).trans hx124_0
                  replace hx124_1 := (HB.out.cell (World.block_lt_of_cell? w _ hx124_1)).trans hx124_1
                  replace hx124_2 := (HB.out.cell (World.block_lt_of_cell? w _ hx124_2)).trans hx124_2
                  replace p124 := eq_true p124
                  replace q124 := eq_true q124
                  go_wp2_with (first | ((with_reducible refine gate_callee (f := 25) rfl ?_); refine goesL_ (some 59) rfl rfl Tryd.func25 (by kernel_rfl) rfl #[.int .i64 a0, .int .i64 a1, .agg #[.int .i64 ((rd_T33 l2 0).f0), .int .i64 ((rd_T33 l2 0).f1), .bool ((rd_T33 l2 0).f2)]] rfl (by (try simp only [List.map_toArray, List.map_cons, List.map_nil]); first | done | rfl | (simp only [List.length_drop, List.length_take]; rfl)) ?_; (with_reducible refine (Go.Proofs.YthkbomclongjgaaDoor.ExtAfter.step_After.calls kj9 a0 a1 ((rd_T33 l2 0).f0) ((rd_T33 l2 0).f1) ((rd_T33 l2 0).f2) t125 t126 t127 _ ?side1 A19.out).mono ?_); (case side1 => exact Go.Proofs.YthkbomclongjgaaDoor.ExtStep.GL.below HG.out (by repeat (first | (with_reducible first | exact HB.out | apply below_alloc | apply pw_below_drewN | apply below_drew1) | exact HB.out))); rintro e w24 ⟨rfl, hb⟩; refine ⟨_, rfl, ?_⟩; have n0_ := Aside0.mk (below_step (by repeat (first | (with_reducible first | exact HB.out | apply below_alloc | apply pw_below_drewN | apply below_drew1) | exact HB.out)) hb); clear HB; have HB := n0_; clear n0_; (try clear hb); (try clear hb2); (try clear hk); (try clear hi)))
                  go_ret
                  exact ⟨by first | rfl | (simp [errW_none, errW_some] <;> rfl) | (simp [*, errW_none, errW_some] <;> rfl), by repeat (first | (with_reducible first | exact HB.out | apply below_alloc | apply pw_below_drewN | apply below_drew1) | exact HB.out)⟩
              · rw [if_neg c18] at H
                exact absurd H (by simp)
            · rw [if_neg c17] at H
              have c17b0 : ((l2.length : Int) == 1) = false := beq_eq_false_iff_ne.mpr c17
              have c17b1 : ((l2.length : Int) != 1) = true := bne_iff_ne.mpr c17
              obtain rfl := Option.some.inj H
              go_wp2
              go_ret
              exact ⟨by first | rfl | (simp [errW_none, errW_some] <;> rfl) | (simp [*, errW_none, errW_some] <;> rfl), by repeat (first | (with_reducible first | exact HB.out | apply below_alloc | apply pw_below_drewN | apply below_drew1) | exact HB.out)⟩
  · replace c5 := Bool.eq_false_iff.mpr c5
    subst c5
    have H1 : (some false) = some r := by rw [if_neg (show ¬ (false = true) by decide)] at H; exact H
    clear H
    have H := H1
    clear H1
    obtain rfl := Option.some.inj H
    go_enter Tryd.func8, Tryd.ntmps8
    go_wp2_with (first | ((with_reducible refine gate_callee (f := 24) rfl ?_); refine goesL_ (some 16) rfl rfl Tryd.func24 (by kernel_rfl) rfl #[] rfl (by (try simp only [List.map_toArray, List.map_cons, List.map_nil]); first | done | rfl | (simp only [List.length_drop, List.length_take]; rfl)) ?_; (with_reducible refine (gatherumlaw11_alive.calls k  false _ ?side1 A4.out).mono ?_); (case side1 => exact Go.Proofs.YthkbomclongjgaaDoor.ExtStep.GL.below HG.out (by repeat (first | (with_reducible first | exact HB.out | apply below_alloc | apply pw_below_drewN | apply below_drew1) | exact HB.out))); rintro e w25 ⟨rfl, hb⟩; refine ⟨_, rfl, ?_⟩; have n0_ := Aside0.mk (below_step (by repeat (first | (with_reducible first | exact HB.out | apply below_alloc | apply pw_below_drewN | apply below_drew1) | exact HB.out)) hb); clear HB; have HB := n0_; clear n0_; (try clear hb); (try clear hb2); (try clear hk); (try clear hi)))
    go_ret
    exact ⟨by first | rfl | (simp [errW_none, errW_some] <;> rfl) | (simp [*, errW_none, errW_some] <;> rfl), by repeat (first | (with_reducible first | exact HB.out | apply below_alloc | apply pw_below_drewN | apply below_drew1) | exact HB.out)⟩

/-- What a value of type 33 keeps to. -/
def ok33 (x : S33) : Prop := (Lit.int .i64 x.f0).wf = true ∧ (Lit.int .i64 x.f1).wf = true ∧ True
/-- THE ONE PURE STATEMENT of gatherumlaw11_StepFolds: yours. -/
def gatherumlaw11_StepFolds.Pure : Prop := ∀ (a0 : Int) (a1 : Int) (l2 : List (S33)), (Lit.int .i64 a0).wf = true → (Lit.int .i64 a1).wf = true → (l2.length ≤ maxLen ∧ l2.length * 24 ≤ 140737488351232 ∧ ∀ x_ ∈ l2, ok33 x_) → ∃ k, gatherumlaw11_StepFolds.f k a0 a1 l2 = some true

end Go.Proofs.YthkbomclongjgaaDoor.PStepFolds
