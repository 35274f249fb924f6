-- written by xprint.py (a program of this session's, over the kit's printer)
import Derived.Test.YthkbomclongjgaaDoorPLexQuotesx0
import Derived.Test.YthkbomclongjgaaDoorPLexQuotesx2
import Derived.Test.YthkbomclongjgaaDoorPLexQuotesx3
namespace Go.Proofs.YthkbomclongjgaaDoor.PLexQuotes
open Go.RowKit Go.Proofs.YthkbomclongjgaaDoorW.PrintWords Go.Proofs.YthkbomclongjgaaDoorW.PrintLast Go.Proofs.YthkbomclongjgaaDoorW.PrintMore
attribute [local go_sem] max2_int min2_int max_two min_two max_three min_three max_four min_four   -- for this text's walks alone
set_option linter.unusedVariables false
set_option linter.unusedSimpArgs false

/-! ### gatherumlaw10_LexQuotes: function 6 -/
def gatherumlaw10_LexQuotes.j0 : Nat → ByteArray → ByteArray → Bool → Bool → Option (Bool)
  | 0, _, _, _, _ => none
  | k + 1, x0, x3, x4, x57 => if x57 = true then (some false) else (if x4 = true then ((lex_Unquote.f k x3).bind fun bt165 => ((lex_Fields.f k x3).bind fun bt167 => (if bt165.1.toList = x0.toList then (if bt165.2 = true then (if bt167.2 = true then (if (bt167.1.length : Int) = 1 then (if 0 < (bt167.1.length : Int) then (some ((rdOf ByteArray.empty bt167.1 0).toList == x3.toList)) else (none)) else (some false)) else (some false)) else (some false)) else (some false)))) else (some true))
def gatherumlaw10_LexQuotes.f (k : Nat) (a0 : ByteArray) : Option (Bool) := (gatherumlaw10_alive.f k).bind fun t156 => (if t156 = true then (if (a0.size : Int) > 500 then (some true) else ((lex_Quote.f k a0).bind fun bt157 => ((gatherumref07_Quote.f k a0).bind fun bt159 => ((lex_Unquote.f k a0).bind fun bt161 => ((gatherumref07_Unquote.f k a0).bind fun bt163 => (if bt157.1.toList = bt159.1.toList then (if (bt157.2 != bt159.2) = true then (gatherumlaw10_LexQuotes.j0 k a0 bt157.1 bt157.2 true) else (if bt161.1.toList = bt163.1.toList then (gatherumlaw10_LexQuotes.j0 k a0 bt157.1 bt157.2 (bt161.2 != bt163.2)) else (gatherumlaw10_LexQuotes.j0 k a0 bt157.1 bt157.2 true))) else (gatherumlaw10_LexQuotes.j0 k a0 bt157.1 bt157.2 true))))))) else (some false))
theorem gatherumlaw10_LexQuotes.mono_l : ∀ k, (∀ y0 y1 y2 y3, LeO (gatherumlaw10_LexQuotes.j0 k y0 y1 y2 y3) (gatherumlaw10_LexQuotes.j0 (k + 1) y0 y1 y2 y3))
  | 0 => fun _ _ _ _ r h => by simp [gatherumlaw10_LexQuotes.j0] at h
  | k + 1 => by
    have ih0 := gatherumlaw10_LexQuotes.mono_l k
    · intro y0 y1 y2 y3
      unfold gatherumlaw10_LexQuotes.j0
      repeat' first
      | (with_reducible exact ih0 _ _ _ _)
      | (with_reducible exact gatherumlaw10_alive.mono _)
      | (with_reducible exact gatherumref07_Quote.mono _ _)
      | (with_reducible exact gatherumref07_Unquote.mono _ _)
      | (with_reducible exact lex_Fields.mono _ _)
      | (with_reducible exact lex_Quote.mono _ _)
      | (with_reducible exact lex_Unquote.mono _ _)
      | (with_reducible exact LeO.refl _)
      | (with_reducible exact LeO.none _)
      | (with_reducible refine LeO.ite ?_ ?_)
      | (with_reducible refine LeO.bind ?_ (fun _ => ?_))
      | exact ih0 _ _ _ _
      | exact gatherumlaw10_alive.mono _
      | exact gatherumref07_Quote.mono _ _
      | exact gatherumref07_Unquote.mono _ _
      | exact lex_Fields.mono _ _
      | exact lex_Quote.mono _ _
      | exact lex_Unquote.mono _ _
      | exact LeO.none _
      | refine LeO.ite ?_ ?_
      | refine LeO.bind ?_ (fun _ => ?_)
theorem gatherumlaw10_LexQuotes.mono : ∀ a0 k, LeO (gatherumlaw10_LexQuotes.f k a0) (gatherumlaw10_LexQuotes.f (k + 1) a0) := by
  intro a0 k
  have ih0 := gatherumlaw10_LexQuotes.mono_l k
  unfold gatherumlaw10_LexQuotes.f
  repeat' first
      | (with_reducible exact ih0 _ _ _ _)
      | (with_reducible exact gatherumlaw10_alive.mono _)
      | (with_reducible exact gatherumref07_Quote.mono _ _)
      | (with_reducible exact gatherumref07_Unquote.mono _ _)
      | (with_reducible exact lex_Fields.mono _ _)
      | (with_reducible exact lex_Quote.mono _ _)
      | (with_reducible exact lex_Unquote.mono _ _)
      | (with_reducible exact LeO.refl _)
      | (with_reducible exact LeO.none _)
      | (with_reducible refine LeO.ite ?_ ?_)
      | (with_reducible refine LeO.bind ?_ (fun _ => ?_))
      | exact ih0 _ _ _ _
      | exact gatherumlaw10_alive.mono _
      | exact gatherumref07_Quote.mono _ _
      | exact gatherumref07_Unquote.mono _ _
      | exact lex_Fields.mono _ _
      | exact lex_Quote.mono _ _
      | exact lex_Unquote.mono _ _
      | exact LeO.none _
      | refine LeO.ite ?_ ?_
      | refine LeO.bind ?_ (fun _ => ?_)
set_option maxHeartbeats 8000000 in
set_option maxRecDepth 100000 in
theorem gatherumlaw10_LexQuotes.calls (k : Nat) (a0 : ByteArray) (r : Bool) (w : World) (hG : Go.Proofs.YthkbomclongjgaaDoor.ExtLex.GL w) (h : gatherumlaw10_LexQuotes.f k a0 = some r) :
    Calls Tryd.prog 6 #[.string a0] w fun e w' => e = .returned (.bool r) ∧ Below w.heap.size w w' := by
  have HG := Aside0.mk hG
  clear hG
  have HB := Aside0.mk (Below.refl w.heap.size w)
  have H : ((gatherumlaw10_alive.f k).bind fun t156 => (if t156 = true then (if (a0.size : Int) > 500 then (some true) else ((lex_Quote.f k a0).bind fun bt157 => ((gatherumref07_Quote.f k a0).bind fun bt159 => ((lex_Unquote.f k a0).bind fun bt161 => ((gatherumref07_Unquote.f k a0).bind fun bt163 => (if bt157.1.toList = bt159.1.toList then (if (bt157.2 != bt159.2) = true then (gatherumlaw10_LexQuotes.j0 k a0 bt157.1 bt157.2 true) else (if bt161.1.toList = bt163.1.toList then (gatherumlaw10_LexQuotes.j0 k a0 bt157.1 bt157.2 (bt161.2 != bt163.2)) else (gatherumlaw10_LexQuotes.j0 k a0 bt157.1 bt157.2 true))) else (gatherumlaw10_LexQuotes.j0 k a0 bt157.1 bt157.2 true))))))) else (some false))) = some r := h
  clear h
  replace H := Option.bind_eq_some_iff.mp H
  obtain ⟨t156, A20, H⟩ := H
  replace H : (if t156 = true then (if (a0.size : Int) > 500 then (some true) else ((lex_Quote.f k a0).bind fun bt157 => ((gatherumref07_Quote.f k a0).bind fun bt159 => ((lex_Unquote.f k a0).bind fun bt161 => ((gatherumref07_Unquote.f k a0).bind fun bt163 => (if bt157.1.toList = bt159.1.toList then (if (bt157.2 != bt159.2) = true then (gatherumlaw10_LexQuotes.j0 k a0 bt157.1 bt157.2 true) else (if bt161.1.toList = bt163.1.toList then (gatherumlaw10_LexQuotes.j0 k a0 bt157.1 bt157.2 (bt161.2 != bt163.2)) else (gatherumlaw10_LexQuotes.j0 k a0 bt157.1 bt157.2 true))) else (gatherumlaw10_LexQuotes.j0 k a0 bt157.1 bt157.2 true))))))) else (some false)) = some r := H
  have A2 := Aside0.mk A20
  clear A20
  by_cases c3 : t156 = true
  · subst c3
    have H1 : (if (a0.size : Int) > 500 then (some true) else ((lex_Quote.f k a0).bind fun bt157 => ((gatherumref07_Quote.f k a0).bind fun bt159 => ((lex_Unquote.f k a0).bind fun bt161 => ((gatherumref07_Unquote.f k a0).bind fun bt163 => (if bt157.1.toList = bt159.1.toList then (if (bt157.2 != bt159.2) = true then (gatherumlaw10_LexQuotes.j0 k a0 bt157.1 bt157.2 true) else (if bt161.1.toList = bt163.1.toList then (gatherumlaw10_LexQuotes.j0 k a0 bt157.1 bt157.2 (bt161.2 != bt163.2)) else (gatherumlaw10_LexQuotes.j0 k a0 bt157.1 bt157.2 true))) else (gatherumlaw10_LexQuotes.j0 k a0 bt157.1 bt157.2 true))))))) = some r := by rw [if_pos rfl] at H; exact H
    clear H
    have H := H1
    clear H1
    by_cases c4 : (a0.size : Int) > 500
    · rw [if_pos c4] at H
      have c4b0 : decide (500 < (a0.size : Int)) = true := decide_eq_true c4
      have c4b1 : decide (500 < a0.size) = true := decide_eq_true (by omega)
      clear c4
      obtain rfl := Option.some.inj H
      go_enter Tryd.func6, Tryd.ntmps6
      go_wp2_with (first | ((with_reducible refine gate_callee (f := 15) rfl ?_); refine goesL_ (some 15) rfl rfl Tryd.func15 (by kernel_rfl) rfl #[] rfl (by (try simp only [List.map_toArray, List.map_cons, List.map_nil]); first | done | rfl | (simp only [List.length_drop, List.length_take]; rfl)) ?_; (with_reducible refine (gatherumlaw10_alive.calls k  true _ ?side1 A2.out).mono ?_); (case side1 => exact Go.Proofs.YthkbomclongjgaaDoor.ExtLex.GL.below HG.out (by repeat (first | (with_reducible first | exact HB.out | apply below_alloc | apply pw_below_drewN | apply below_drew1) | exact HB.out))); rintro e w5 ⟨rfl, hb⟩; refine ⟨_, rfl, ?_⟩; have n0_ := Aside0.mk (below_step (by repeat (first | (with_reducible first | exact HB.out | apply below_alloc | apply pw_below_drewN | apply below_drew1) | exact HB.out)) hb); clear HB; have HB := n0_; clear n0_; (try clear hb); (try clear hb2); (try clear hk); (try clear hi)))
      go_ret
      exact ⟨by first | rfl | (simp [errW_none, errW_some] <;> rfl) | (simp [*, errW_none, errW_some] <;> rfl), by repeat (first | (with_reducible first | exact HB.out | apply below_alloc | apply pw_below_drewN | apply below_drew1) | exact HB.out)⟩
    · rw [if_neg c4] at H
      have c4b0 : decide (500 < (a0.size : Int)) = false := decide_eq_false c4
      have c4b1 : decide (500 < a0.size) = false := decide_eq_false (by omega)
      clear c4
      replace H := Option.bind_eq_some_iff.mp H
      obtain ⟨⟨t157, t158⟩, A60, H⟩ := H
      replace H : ((gatherumref07_Quote.f k a0).bind fun bt159 => ((lex_Unquote.f k a0).bind fun bt161 => ((gatherumref07_Unquote.f k a0).bind fun bt163 => (if t157.toList = bt159.1.toList then (if (t158 != bt159.2) = true then (gatherumlaw10_LexQuotes.j0 k a0 t157 t158 true) else (if bt161.1.toList = bt163.1.toList then (gatherumlaw10_LexQuotes.j0 k a0 t157 t158 (bt161.2 != bt163.2)) else (gatherumlaw10_LexQuotes.j0 k a0 t157 t158 true))) else (gatherumlaw10_LexQuotes.j0 k a0 t157 t158 true))))) = some r := H
      have A6 := Aside0.mk A60
      clear A60
      replace H := Option.bind_eq_some_iff.mp H
      obtain ⟨⟨t159, t160⟩, A70, H⟩ := H
      replace H : ((lex_Unquote.f k a0).bind fun bt161 => ((gatherumref07_Unquote.f k a0).bind fun bt163 => (if t157.toList = t159.toList then (if (t158 != t160) = true then (gatherumlaw10_LexQuotes.j0 k a0 t157 t158 true) else (if bt161.1.toList = bt163.1.toList then (gatherumlaw10_LexQuotes.j0 k a0 t157 t158 (bt161.2 != bt163.2)) else (gatherumlaw10_LexQuotes.j0 k a0 t157 t158 true))) else (gatherumlaw10_LexQuotes.j0 k a0 t157 t158 true)))) = some r := H
      have A7 := Aside0.mk A70
      clear A70
      replace H := Option.bind_eq_some_iff.mp H
      obtain ⟨⟨t161, t162⟩, A80, H⟩ := H
      replace H : ((gatherumref07_Unquote.f k a0).bind fun bt163 => (if t157.toList = t159.toList then (if (t158 != t160) = true then (gatherumlaw10_LexQuotes.j0 k a0 t157 t158 true) else (if t161.toList = bt163.1.toList then (gatherumlaw10_LexQuotes.j0 k a0 t157 t158 (t162 != bt163.2)) else (gatherumlaw10_LexQuotes.j0 k a0 t157 t158 true))) else (gatherumlaw10_LexQuotes.j0 k a0 t157 t158 true))) = some r := H
      have A8 := Aside0.mk A80
      clear A80
      replace H := Option.bind_eq_some_iff.mp H
      obtain ⟨⟨t163, t164⟩, A90, H⟩ := H
      replace H : (if t157.toList = t159.toList then (if (t158 != t160) = true then (gatherumlaw10_LexQuotes.j0 k a0 t157 t158 true) else (if t161.toList = t163.toList then (gatherumlaw10_LexQuotes.j0 k a0 t157 t158 (t162 != t164)) else (gatherumlaw10_LexQuotes.j0 k a0 t157 t158 true))) else (gatherumlaw10_LexQuotes.j0 k a0 t157 t158 true)) = some r := H
      have A9 := Aside0.mk A90
      clear A90
      have HC10 := Aside0.mk H
      clear H
      go_enter Tryd.func6, Tryd.ntmps6
      go_upto_region 9 with (first | ((with_reducible refine gate_callee (f := 15) rfl ?_); refine goesL_ (some 15) rfl rfl Tryd.func15 (by kernel_rfl) rfl #[] rfl (by (try simp only [List.map_toArray, List.map_cons, List.map_nil]); first | done | rfl | (simp only [List.length_drop, List.length_take]; rfl)) ?_; (with_reducible refine (gatherumlaw10_alive.calls k  true _ ?side1 A2.out).mono ?_); (case side1 => exact Go.Proofs.YthkbomclongjgaaDoor.ExtLex.GL.below HG.out (by repeat (first | (with_reducible first | exact HB.out | apply below_alloc | apply pw_below_drewN | apply below_drew1) | exact HB.out))); rintro e w11 ⟨rfl, hb⟩; refine ⟨_, rfl, ?_⟩; have n0_ := Aside0.mk (below_step (by repeat (first | (with_reducible first | exact HB.out | apply below_alloc | apply pw_below_drewN | apply below_drew1) | exact HB.out)) hb); clear HB; have HB := n0_; clear n0_; (try clear hb); (try clear hb2); (try clear hk); (try clear hi)) | ((with_reducible refine gate_callee (f := 20) rfl ?_); refine goesL_ (some 22) rfl rfl Tryd.func20 (by kernel_rfl) rfl #[.string a0] rfl (by (try simp only [List.map_toArray, List.map_cons, List.map_nil]); first | done | rfl | (simp only [List.length_drop, List.length_take]; rfl)) ?_; (with_reducible refine (lex_Quote.calls k a0 t157 t158 _ A6.out).mono ?_); rintro e w12 ⟨rfl, hb⟩; refine ⟨_, rfl, ?_⟩; have n0_ := Aside0.mk (below_step (by repeat (first | (with_reducible first | exact HB.out | apply below_alloc | apply pw_below_drewN | apply below_drew1) | exact HB.out)) hb); clear HB; have HB := n0_; clear n0_; (try clear hb); (try clear hb2); (try clear hk); (try clear hi)) | ((with_reducible refine gate_callee (f := 21) rfl ?_); refine goesL_ (some 27) rfl rfl Tryd.func21 (by kernel_rfl) rfl #[.string a0] rfl (by (try simp only [List.map_toArray, List.map_cons, List.map_nil]); first | done | rfl | (simp only [List.length_drop, List.length_take]; rfl)) ?_; (with_reducible refine (gatherumref07_Quote.calls k a0 t159 t160 _ A7.out).mono ?_); rintro e w' ⟨rfl, ⟨nd, rfl⟩⟩; refine ⟨_, rfl, ?_⟩) | ((with_reducible refine gate_callee (f := 22) rfl ?_); refine goesL_ (some 32) rfl rfl Tryd.func22 (by kernel_rfl) rfl #[.string a0] rfl (by (try simp only [List.map_toArray, List.map_cons, List.map_nil]); first | done | rfl | (simp only [List.length_drop, List.length_take]; rfl)) ?_; (with_reducible refine (lex_Unquote.calls k a0 t161 t162 _ A8.out).mono ?_); rintro e w13 ⟨rfl, hb⟩; refine ⟨_, rfl, ?_⟩; have n0_ := Aside0.mk (below_step (by repeat (first | (with_reducible first | exact HB.out | apply below_alloc | apply pw_below_drewN | apply below_drew1) | exact HB.out)) hb); clear HB; have HB := n0_; clear n0_; (try clear hb); (try clear hb2); (try clear hk); (try clear hi)) | ((with_reducible refine gate_callee (f := 23) rfl ?_); refine goesL_ (some 37) rfl rfl Tryd.func23 (by kernel_rfl) rfl #[.string a0] rfl (by (try simp only [List.map_toArray, List.map_cons, List.map_nil]); first | done | rfl | (simp only [List.length_drop, List.length_take]; rfl)) ?_; (with_reducible refine (gatherumref07_Unquote.calls k a0 t163 t164 _ A9.out).mono ?_); rintro e w' ⟨rfl, ⟨nd, rfl⟩⟩; refine ⟨_, rfl, ?_⟩))
      (try simp only [Act.put, List.setIfInBounds_toArray, List.set_cons_zero, List.set_cons_succ])
      go_cut [57] (fun v57 wc => ∃ (kq : Nat) (x57_9 : Bool), v57 = .bool x57_9 ∧ Aside0 (gatherumlaw10_LexQuotes.j0 kq a0 t157 t158 x57_9 = some r) ∧ Aside0 (kq ≤ k) ∧ Aside0 (Below w.heap.size w wc))
      case first =>
        have H := HC10.out
        clear HC10
        by_cases c14 : t157.toList = t159.toList
        · rw [if_pos c14] at H
          have c14b0 : (t157.toList == t159.toList) = true := beq_iff_eq.mpr c14
          have c14b1 : (t157.toList != t159.toList) = false := bne_eq_false_iff_eq.mpr c14
          clear c14
          (first | rw [c14b0] | (simp only [i64_w, i32_w]; rw [c14b0]) | skip)
          by_cases c15 : (t158 != t160) = true
          · rw [if_pos c15] at H
            have c15b0 : (t158 != t160) = true := c15
            (try (have c15b1 : decide (t158 = t160) = false := by simpa using c15))
            (try (have c15b2 : (t158 == t160) = false := by simpa using c15))
            (try (have c15b3 : ¬ (t158 = t160) := by simpa using c15))
            clear c15
            have H' := Aside0.mk H
            clear H
            go_wp2
            go_meet
            case rel => exact ⟨_, (true), (by first | rfl | (simp; done) | (simp [*]; done)), H', ⟨by first | omega | exact Nat.le_refl _⟩, ⟨by repeat (first | (with_reducible first | exact HB.out | apply below_alloc | apply pw_below_drewN | apply below_drew1) | exact HB.out)⟩⟩
          · rw [if_neg c15] at H
            have c15b0 : (t158 != t160) = false := by simpa using c15
            (try (have c15b1 : decide (t158 = t160) = true := by simpa using c15))
            (try (have c15b2 : (t158 == t160) = true := by simpa using c15))
            clear c15
            by_cases c16 : t161.toList = t163.toList
            · rw [if_pos c16] at H
              have c16b0 : (t161.toList == t163.toList) = true := beq_iff_eq.mpr c16
              have c16b1 : (t161.toList != t163.toList) = false := bne_eq_false_iff_eq.mpr c16
              clear c16
              have H' := Aside0.mk H
              clear H
              go_wp2
              go_meet
              case rel => exact ⟨_, ((t162 != t164)), (by first | rfl | (simp; done) | (simp [*]; done)), H', ⟨by first | omega | exact Nat.le_refl _⟩, ⟨by repeat (first | (with_reducible first | exact HB.out | apply below_alloc | apply pw_below_drewN | apply below_drew1) | exact HB.out)⟩⟩
            · rw [if_neg c16] at H
              have c16b0 : (t161.toList == t163.toList) = false := beq_eq_false_iff_ne.mpr c16
              have c16b1 : (t161.toList != t163.toList) = true := bne_iff_ne.mpr c16
              have H' := Aside0.mk H
              clear H
              go_wp2
              go_meet
              case rel => exact ⟨_, (true), (by first | rfl | (simp; done) | (simp [*]; done)), H', ⟨by first | omega | exact Nat.le_refl _⟩, ⟨by repeat (first | (with_reducible first | exact HB.out | apply below_alloc | apply pw_below_drewN | apply below_drew1) | exact HB.out)⟩⟩
        · rw [if_neg c14] at H
          have c14b0 : (t157.toList == t159.toList) = false := beq_eq_false_iff_ne.mpr c14
          have c14b1 : (t157.toList != t159.toList) = true := bne_iff_ne.mpr c14
          (first | rw [c14b0] | (simp only [i64_w, i32_w]; rw [c14b0]) | skip)
          have H' := Aside0.mk H
          clear H
          go_wp2
          go_meet
          case rel => exact ⟨_, (true), (by first | rfl | (simp; done) | (simp [*]; done)), H', ⟨by first | omega | exact Nat.le_refl _⟩, ⟨by repeat (first | (with_reducible first | exact HB.out | apply below_alloc | apply pw_below_drewN | apply below_drew1) | exact HB.out)⟩⟩
      case rest =>
        clear HC10
        try clear c1
        try clear c2
        try clear p2
        try clear c3
        try clear c4
        try clear c4b0
        try clear c4b1
        try clear c6
        try clear c14
        try clear c14b0
        try clear c14b1
        try clear c15
        try clear c15b0
        try clear c15b1
        try clear c15b2
        try clear c16
        try clear c16b0
        try clear c16b1
        obtain ⟨kq, x57_9, rfl, HA, HJ9, HB⟩ := hcut
        cases kq with
        | zero => exact absurd HA.out (by simp [gatherumlaw10_LexQuotes.j0])
        | succ kj9 =>
          have H := HA.out
          clear HA
          simp only [gatherumlaw10_LexQuotes.j0] at H
          by_cases c17 : x57_9 = true
          · subst c17
            have H1 : (some false) = some r := by rw [if_pos rfl] at H; exact H
            clear H
            have H := H1
            clear H1
            obtain rfl := Option.some.inj H
            go_wp2
            go_ret
            exact ⟨by first | rfl | (simp [errW_none, errW_some] <;> rfl) | (simp [*, errW_none, errW_some] <;> rfl), by repeat (first | (with_reducible first | exact HB.out | apply below_alloc | apply pw_below_drewN | apply below_drew1) | exact HB.out)⟩
          · replace c17 := Bool.eq_false_iff.mpr c17
            subst c17
            have H1 : (if t158 = true then ((lex_Unquote.f kj9 t157).bind fun bt165 => ((lex_Fields.f kj9 t157).bind fun bt167 => (if bt165.1.toList = a0.toList then (if bt165.2 = true then (if bt167.2 = true then (if (bt167.1.length : Int) = 1 then (if 0 < (bt167.1.length : Int) then (some ((rdOf ByteArray.empty bt167.1 0).toList == t157.toList)) else (none)) else (some false)) else (some false)) else (some false)) else (some false)))) else (some true)) = some r := by rw [if_neg (show ¬ (false = true) by decide)] at H; exact H
            clear H
            have H := H1
            clear H1
            by_cases c18 : t158 = true
            · subst c18
              have H1 : ((lex_Unquote.f kj9 t157).bind fun bt165 => ((lex_Fields.f kj9 t157).bind fun bt167 => (if bt165.1.toList = a0.toList then (if bt165.2 = true then (if bt167.2 = true then (if (bt167.1.length : Int) = 1 then (if 0 < (bt167.1.length : Int) then (some ((rdOf ByteArray.empty bt167.1 0).toList == t157.toList)) else (none)) else (some false)) else (some false)) else (some false)) else (some false)))) = some r := by rw [if_pos rfl] at H; exact H
              clear H
              have H := H1
              clear H1
              replace H := Option.bind_eq_some_iff.mp H
              obtain ⟨⟨t165, t166⟩, A190, H⟩ := H
              replace H : ((lex_Fields.f kj9 t157).bind fun bt167 => (if t165.toList = a0.toList then (if t166 = true then (if bt167.2 = true then (if (bt167.1.length : Int) = 1 then (if 0 < (bt167.1.length : Int) then (some ((rdOf ByteArray.empty bt167.1 0).toList == t157.toList)) else (none)) else (some false)) else (some false)) else (some false)) else (some false))) = some r := H
              have A19 := Aside0.mk A190
              clear A190
              replace H := Option.bind_eq_some_iff.mp H
              obtain ⟨⟨t167, t168⟩, A200, H⟩ := H
              replace H : (if t165.toList = a0.toList then (if t166 = true then (if t168 = true then (if (t167.length : Int) = 1 then (if 0 < (t167.length : Int) then (some ((rdOf ByteArray.empty t167 0).toList == t157.toList)) else (none)) else (some false)) else (some false)) else (some false)) else (some false)) = some r := H
              have A20 := Aside0.mk A200
              clear A200
              by_cases c21 : t165.toList = a0.toList
              · rw [if_pos c21] at H
                have c21b0 : (t165.toList == a0.toList) = true := beq_iff_eq.mpr c21
                have c21b1 : (t165.toList != a0.toList) = false := bne_eq_false_iff_eq.mpr c21
                clear c21
                by_cases c22 : t166 = true
                · subst c22
                  have H1 : (if t168 = true then (if (t167.length : Int) = 1 then (if 0 < (t167.length : Int) then (some ((rdOf ByteArray.empty t167 0).toList == t157.toList)) else (none)) else (some false)) else (some false)) = some r := by rw [if_pos rfl] at H; exact H
                  clear H
                  have H := H1
                  clear H1
                  by_cases c23 : t168 = true
                  · subst c23
                    have H1 : (if (t167.length : Int) = 1 then (if 0 < (t167.length : Int) then (some ((rdOf ByteArray.empty t167 0).toList == t157.toList)) else (none)) else (some false)) = some r := by rw [if_pos rfl] at H; exact H
                    clear H
                    have H := H1
                    clear H1
                    by_cases c24 : (t167.length : Int) = 1
                    · rw [if_pos c24] at H
                      have c24b0 : ((t167.length : Int) == 1) = true := beq_iff_eq.mpr c24
                      have c24b1 : ((t167.length : Int) != 1) = false := bne_eq_false_iff_eq.mpr c24
                      clear c24
                      by_cases c25 : 0 < (t167.length : Int)
                      · rw [if_pos c25] at H
                        have c25b0 : decide (0 < (t167.length : Int)) = true := decide_eq_true c25
                        have c25b1 : decide (0 < t167.length) = true := decide_eq_true (by omega)
                        clear c25
                        obtain rfl := Option.some.inj H
                        go_wp2_with (first | ((with_reducible refine gate_callee (f := 22) rfl ?_); refine goesL_ (some 62) rfl rfl Tryd.func22 (by kernel_rfl) rfl #[.string t157] rfl (by (try simp only [List.map_toArray, List.map_cons, List.map_nil]); first | done | rfl | (simp only [List.length_drop, List.length_take]; rfl)) ?_; (with_reducible refine (lex_Unquote.calls kj9 t157 t165 true _ A19.out).mono ?_); rintro e w26 ⟨rfl, hb⟩; refine ⟨_, rfl, ?_⟩; have n0_ := Aside0.mk (below_step (by repeat (first | (with_reducible first | exact HB.out | apply below_alloc | apply pw_below_drewN | apply below_drew1) | exact HB.out)) hb); clear HB; have HB := n0_; clear n0_; (try clear hb); (try clear hb2); (try clear hk); (try clear hi)) | ((with_reducible refine gate_callee (f := 17) rfl ?_); refine goesL_ (some 67) rfl rfl Tryd.func17 (by kernel_rfl) rfl #[.string t157] rfl (by (try simp only [List.map_toArray, List.map_cons, List.map_nil]); first | done | rfl | (simp only [List.length_drop, List.length_take]; rfl)) ?_; (with_reducible refine (lex_Fields.calls kj9 t157 t167 true _ A20.out).mono ?_); rintro e w27 ⟨v169, rfl, ho0, hb⟩; refine ⟨_, rfl, ?_⟩; have n0_ := Aside0.mk (Kd.R_lower ho0 (below_size (by repeat (first | (with_reducible first | exact HB.out | apply below_alloc | apply pw_below_drewN | apply below_drew1) | exact HB.out)))); have n1_ := Aside0.mk (below_step (by repeat (first | (with_reducible first | exact HB.out | apply below_alloc | apply pw_below_drewN | apply below_drew1) | exact HB.out)) hb); clear HB; have HO170 := n0_; have HB := n1_; clear n0_ n1_; (try clear hb); (try clear hb2); (try clear hk); (try clear hi); (try clear ho0); obtain ⟨Ao28, co28, eo28⟩ := Kd.R_slice HO170.out; subst eo28; have p171 : 0 ≤ (0 : Int) := (by omega); have q171 : 0 < (t167.length : Int) := of_decide_eq_true (by first | (with_reducible assumption) | assumption); obtain ⟨ad171, e171, hx171_0⟩ := Kd.at_string (Kd.R_reads' HO170.out).2.2 0 p171 q171; cases e171; have qi171 : (0 < t167.length) = True := eq_true (by omega); (try rw [show ((0 : Int)).toNat = 0 from rfl] at hx171_0); (try rw [Addr.add_zero'] at hx171_0); replace p171 := eq_true p171; replace q171 := eq_true q171))
                        go_ret
                        exact ⟨by first | rfl | (simp [errW_none, errW_some] <;> rfl) | (simp [*, errW_none, errW_some] <;> rfl), by repeat (first | (with_reducible first | exact HB.out | apply below_alloc | apply pw_below_drewN | apply below_drew1) | exact HB.out)⟩
                      · rw [if_neg c25] at H
                        exact absurd H (by simp)
                    · rw [if_neg c24] at H
                      have c24b0 : ((t167.length : Int) == 1) = false := beq_eq_false_iff_ne.mpr c24
                      have c24b1 : ((t167.length : Int) != 1) = true := bne_iff_ne.mpr c24
                      obtain rfl := Option.some.inj H
                      go_wp2_with (first | ((with_reducible refine gate_callee (f := 22) rfl ?_); refine goesL_ (some 62) rfl rfl Tryd.func22 (by kernel_rfl) rfl #[.string t157] rfl (by (try simp only [List.map_toArray, List.map_cons, List.map_nil]); first | done | rfl | (simp only [List.length_drop, List.length_take]; rfl)) ?_; (with_reducible refine (lex_Unquote.calls kj9 t157 t165 true _ A19.out).mono ?_); rintro e w29 ⟨rfl, hb⟩; refine ⟨_, rfl, ?_⟩; have n0_ := Aside0.mk (below_step (by repeat (first | (with_reducible first | exact HB.out | apply below_alloc | apply pw_below_drewN | apply below_drew1) | exact HB.out)) hb); clear HB; have HB := n0_; clear n0_; (try clear hb); (try clear hb2); (try clear hk); (try clear hi)) | ((with_reducible refine gate_callee (f := 17) rfl ?_); refine goesL_ (some 67) rfl rfl Tryd.func17 (by kernel_rfl) rfl #[.string t157] rfl (by (try simp only [List.map_toArray, List.map_cons, List.map_nil]); first | done | rfl | (simp only [List.length_drop, List.length_take]; rfl)) ?_; (with_reducible refine (lex_Fields.calls kj9 t157 t167 true _ A20.out).mono ?_); rintro e w30 ⟨v169, rfl, ho0, hb⟩; refine ⟨_, rfl, ?_⟩; have n0_ := Aside0.mk (Kd.R_lower ho0 (below_size (by repeat (first | (with_reducible first | exact HB.out | apply below_alloc | apply pw_below_drewN | apply below_drew1) | exact HB.out)))); have n1_ := Aside0.mk (below_step (by repeat (first | (with_reducible first | exact HB.out | apply below_alloc | apply pw_below_drewN | apply below_drew1) | exact HB.out)) hb); clear HB; have HO170 := n0_; have HB := n1_; clear n0_ n1_; (try clear hb); (try clear hb2); (try clear hk); (try clear hi); (try clear ho0); obtain ⟨Ao31, co31, eo31⟩ := Kd.R_slice HO170.out; subst eo31))
                      go_ret
                      exact ⟨by first | rfl | (simp [errW_none, errW_some] <;> rfl) | (simp [*, errW_none, errW_some] <;> rfl), by repeat (first | (with_reducible first | exact HB.out | apply below_alloc | apply pw_below_drewN | apply below_drew1) | exact HB.out)⟩
                  · replace c23 := Bool.eq_false_iff.mpr c23
                    subst c23
                    have H1 : (some false) = some r := by rw [if_neg (show ¬ (false = true) by decide)] at H; exact H
                    clear H
                    have H := H1
                    clear H1
                    obtain rfl := Option.some.inj H
                    go_wp2_with (first | ((with_reducible refine gate_callee (f := 22) rfl ?_); refine goesL_ (some 62) rfl rfl Tryd.func22 (by kernel_rfl) rfl #[.string t157] rfl (by (try simp only [List.map_toArray, List.map_cons, List.map_nil]); first | done | rfl | (simp only [List.length_drop, List.length_take]; rfl)) ?_; (with_reducible refine (lex_Unquote.calls kj9 t157 t165 true _ A19.out).mono ?_); rintro e w32 ⟨rfl, hb⟩; refine ⟨_, rfl, ?_⟩; have n0_ := Aside0.mk (below_step (by repeat (first | (with_reducible first | exact HB.out | apply below_alloc | apply pw_below_drewN | apply below_drew1) | exact HB.out)) hb); clear HB; have HB := n0_; clear n0_; (try clear hb); (try clear hb2); (try clear hk); (try clear hi)) | ((with_reducible refine gate_callee (f := 17) rfl ?_); refine goesL_ (some 67) rfl rfl Tryd.func17 (by kernel_rfl) rfl #[.string t157] rfl (by (try simp only [List.map_toArray, List.map_cons, List.map_nil]); first | done | rfl | (simp only [List.length_drop, List.length_take]; rfl)) ?_; (with_reducible refine (lex_Fields.calls kj9 t157 t167 false _ A20.out).mono ?_); rintro e w33 ⟨v169, rfl, ho0, hb⟩; refine ⟨_, rfl, ?_⟩; have n0_ := Aside0.mk (Kd.R_lower ho0 (below_size (by repeat (first | (with_reducible first | exact HB.out | apply below_alloc | apply pw_below_drewN | apply below_drew1) | exact HB.out)))); have n1_ := Aside0.mk (below_step (by repeat (first | (with_reducible first | exact HB.out | apply below_alloc | apply pw_below_drewN | apply below_drew1) | exact HB.out)) hb); clear HB; have HO170 := n0_; have HB := n1_; clear n0_ n1_; (try clear hb); (try clear hb2); (try clear hk); (try clear hi); (try clear ho0)))
                    go_ret
                    exact ⟨by first | rfl | (simp [errW_none, errW_some] <;> rfl) | (simp [*, errW_none, errW_some] <;> rfl), by repeat (first | (with_reducible first | exact HB.out | apply below_alloc | apply pw_below_drewN | apply below_drew1) | exact HB.out)⟩
                · replace c22 := Bool.eq_false_iff.mpr c22
                  subst c22
                  have H1 : (some false) = some r := by rw [if_neg (show ¬ (false = true) by decide)] at H; exact H
                  clear H
                  have H := H1
                  clear H1
                  obtain rfl := Option.some.inj H
                  go_wp2_with (first | ((with_reducible refine gate_callee (f := 22) rfl ?_); refine goesL_ (some 62) rfl rfl Tryd.func22 (by kernel_rfl) rfl #[.string t157] rfl (by (try simp only [List.map_toArray, List.map_cons, List.map_nil]); first | done | rfl | (simp only [List.length_drop, List.length_take]; rfl)) ?_; (with_reducible refine (lex_Unquote.calls kj9 t157 t165 false _ A19.out).mono ?_); rintro e w34 ⟨rfl, hb⟩; refine ⟨_, rfl, ?_⟩; have n0_ := Aside0.mk (below_step (by repeat (first | (with_reducible first | exact HB.out | apply below_alloc | apply pw_below_drewN | apply below_drew1) | exact HB.out)) hb); clear HB; have HB := n0_; clear n0_; (try clear hb); (try clear hb2); (try clear hk); (try clear hi)) | ((with_reducible refine gate_callee (f := 17) rfl ?_); refine goesL_ (some 67) rfl rfl Tryd.func17 (by kernel_rfl) rfl #[.string t157] rfl (by (try simp only [List.map_toArray, List.map_cons, List.map_nil]); first | done | rfl | (simp only [List.length_drop, List.length_take]; rfl)) ?_; (with_reducible refine (lex_Fields.calls kj9 t157 t167 t168 _ A20.out).mono ?_); rintro e w35 ⟨v169, rfl, ho0, hb⟩; refine ⟨_, rfl, ?_⟩; have n0_ := Aside0.mk (Kd.R_lower ho0 (below_size (by repeat (first | (with_reducible first | exact HB.out | apply below_alloc | apply pw_below_drewN | apply below_drew1) | exact HB.out)))); have n1_ := Aside0.mk (below_step (by repeat (first | (with_reducible first | exact HB.out | apply below_alloc | apply pw_below_drewN | apply below_drew1) | exact HB.out)) hb); clear HB; have HO170 := n0_; have HB := n1_; clear n0_ n1_; (try clear hb); (try clear hb2); (try clear hk); (try clear hi); (try clear ho0)))
                  go_ret
                  exact ⟨by first | rfl | (simp [errW_none, errW_some] <;> rfl) | (simp [*, errW_none, errW_some] <;> rfl), by repeat (first | (with_reducible first | exact HB.out | apply below_alloc | apply pw_below_drewN | apply below_drew1) | exact HB.out)⟩
              · rw [if_neg c21] at H
                have c21b0 : (t165.toList == a0.toList) = false := beq_eq_false_iff_ne.mpr c21
                have c21b1 : (t165.toList != a0.toList) = true := bne_iff_ne.mpr c21
                obtain rfl := Option.some.inj H
                go_wp2_with (first | ((with_reducible refine gate_callee (f := 22) rfl ?_); refine goesL_ (some 62) rfl rfl Tryd.func22 (by kernel_rfl) rfl #[.string t157] rfl (by (try simp only [List.map_toArray, List.map_cons, List.map_nil]); first | done | rfl | (simp only [List.length_drop, List.length_take]; rfl)) ?_; (with_reducible refine (lex_Unquote.calls kj9 t157 t165 t166 _ A19.out).mono ?_); rintro e w36 ⟨rfl, hb⟩; refine ⟨_, rfl, ?_⟩; have n0_ := Aside0.mk (below_step (by repeat (first | (with_reducible first | exact HB.out | apply below_alloc | apply pw_below_drewN | apply below_drew1) | exact HB.out)) hb); clear HB; have HB := n0_; clear n0_; (try clear hb); (try clear hb2); (try clear hk); (try clear hi)) | ((with_reducible refine gate_callee (f := 17) rfl ?_); refine goesL_ (some 67) rfl rfl Tryd.func17 (by kernel_rfl) rfl #[.string t157] rfl (by (try simp only [List.map_toArray, List.map_cons, List.map_nil]); first | done | rfl | (simp only [List.length_drop, List.length_take]; rfl)) ?_; (with_reducible refine (lex_Fields.calls kj9 t157 t167 t168 _ A20.out).mono ?_); rintro e w37 ⟨v169, rfl, ho0, hb⟩; refine ⟨_, rfl, ?_⟩; have n0_ := Aside0.mk (Kd.R_lower ho0 (below_size (by repeat (first | (with_reducible first | exact HB.out | apply below_alloc | apply pw_below_drewN | apply below_drew1) | exact HB.out)))); have n1_ := Aside0.mk (below_step (by repeat (first | (with_reducible first | exact HB.out | apply below_alloc | apply pw_below_drewN | apply below_drew1) | exact HB.out)) hb); clear HB; have HO170 := n0_; have HB := n1_; clear n0_ n1_; (try clear hb); (try clear hb2); (try clear hk); (try clear hi); (try clear ho0)))
                go_ret
                exact ⟨by first | rfl | (simp [errW_none, errW_some] <;> rfl) | (simp [*, errW_none, errW_some] <;> rfl), by repeat (first | (with_reducible first | exact HB.out | apply below_alloc | apply pw_below_drewN | apply below_drew1) | exact HB.out)⟩
            · replace c18 := Bool.eq_false_iff.mpr c18
              subst c18
              have H1 : (some true) = some r := by rw [if_neg (show ¬ (false = true) by decide)] at H; exact H
              clear H
              have H := H1
              clear H1
              obtain rfl := Option.some.inj H
              go_wp2
              go_ret
              exact ⟨by first | rfl | (simp [errW_none, errW_some] <;> rfl) | (simp [*, errW_none, errW_some] <;> rfl), by repeat (first | (with_reducible first | exact HB.out | apply below_alloc | apply pw_below_drewN | apply below_drew1) | exact HB.out)⟩
  · replace c3 := Bool.eq_false_iff.mpr c3
    subst c3
    have H1 : (some false) = some r := by rw [if_neg (show ¬ (false = true) by decide)] at H; exact H
    clear H
    have H := H1
    clear H1
    obtain rfl := Option.some.inj H
    go_enter Tryd.func6, Tryd.ntmps6
    go_wp2_with (first | ((with_reducible refine gate_callee (f := 15) rfl ?_); refine goesL_ (some 15) rfl rfl Tryd.func15 (by kernel_rfl) rfl #[] rfl (by (try simp only [List.map_toArray, List.map_cons, List.map_nil]); first | done | rfl | (simp only [List.length_drop, List.length_take]; rfl)) ?_; (with_reducible refine (gatherumlaw10_alive.calls k  false _ ?side1 A2.out).mono ?_); (case side1 => exact Go.Proofs.YthkbomclongjgaaDoor.ExtLex.GL.below HG.out (by repeat (first | (with_reducible first | exact HB.out | apply below_alloc | apply pw_below_drewN | apply below_drew1) | exact HB.out))); rintro e w38 ⟨rfl, hb⟩; refine ⟨_, rfl, ?_⟩; have n0_ := Aside0.mk (below_step (by repeat (first | (with_reducible first | exact HB.out | apply below_alloc | apply pw_below_drewN | apply below_drew1) | exact HB.out)) hb); clear HB; have HB := n0_; clear n0_; (try clear hb); (try clear hb2); (try clear hk); (try clear hi)))
    go_ret
    exact ⟨by first | rfl | (simp [errW_none, errW_some] <;> rfl) | (simp [*, errW_none, errW_some] <;> rfl), by repeat (first | (with_reducible first | exact HB.out | apply below_alloc | apply pw_below_drewN | apply below_drew1) | exact HB.out)⟩

/-- THE ONE PURE STATEMENT of gatherumlaw10_LexQuotes: yours. -/
def gatherumlaw10_LexQuotes.Pure : Prop := ∀ (a0 : ByteArray), a0.size ≤ 140737488351232 → ∃ k, gatherumlaw10_LexQuotes.f k a0 = some true
theorem gatherumlaw10_LexQuotes.walk (P : gatherumlaw10_LexQuotes.Pure) (a0 : ByteArray) (w : World) (w0 : a0.size ≤ 140737488351232) (hG : Go.Proofs.YthkbomclongjgaaDoor.ExtLex.GL w) :
    Calls Tryd.prog 6 #[.string a0] w fun e w' => e = .returned (.bool true) ∧ Below w.heap.size w w' := by
  obtain ⟨k, h⟩ := P a0 w0
  refine (gatherumlaw10_LexQuotes.calls k a0 true w hG h).mono ?_
  rintro e w' ⟨rfl, hd⟩
  exact ⟨rfl, hd⟩

end Go.Proofs.YthkbomclongjgaaDoor.PLexQuotes
