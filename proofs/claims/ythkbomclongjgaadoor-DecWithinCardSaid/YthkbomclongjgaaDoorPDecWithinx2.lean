-- written by xprint.py (a program of this session's, over the kit's printer)
import Derived.Test.YthkbomclongjgaaDoorPDecWithinx0
import Derived.Test.YthkbomclongjgaaDoorPDecWithinx1
namespace Go.Proofs.YthkbomclongjgaaDoor.PDecWithin
open Go.RowKit Go.Proofs.YthkbomclongjgaaDoorW.PrintWords Go.Proofs.YthkbomclongjgaaDoorW.PrintLast Go.Proofs.YthkbomclongjgaaDoorW.PrintMore
attribute [local go_sem] max2_int min2_int max_two min_two max_three min_three max_four min_four   -- for this text's walks alone
set_option linter.unusedVariables false
set_option linter.unusedSimpArgs false

/-! ### gatherumlaw02_DecWithin: function 10 -/
mutual
def gatherumlaw02_DecWithin.j0 : Nat → Int → Int → Int → Int → Bool → Int → Bool → Int → Bool → Bool → Option (Bool)
  | 0, _, _, _, _, _, _, _, _, _, _ => none
  | k + 1, x0, x1, x2, x9, x10, x11, x12, x13, x14, x51 => if x51 = true then (gatherumlaw02_DecWithin.j1 k x0 x1 x2 x9 x10 x11 x12 0 false) else (gatherumlaw02_DecWithin.j1 k x0 x1 x2 x9 x10 x11 x12 x13 x14)
def gatherumlaw02_DecWithin.j1 : Nat → Int → Int → Int → Int → Bool → Int → Bool → Int → Bool → Option (Bool)
  | 0, _, _, _, _, _, _, _, _, _ => none
  | k + 1, x0, x1, x2, x9, x10, x11, x12, x13, x14 => if x11 = x13 then (gatherumlaw02_DecWithin.j2 k x0 x1 x2 x9 x10 (x12 != x14)) else (gatherumlaw02_DecWithin.j2 k x0 x1 x2 x9 x10 true)
def gatherumlaw02_DecWithin.j2 : Nat → Int → Int → Int → Int → Bool → Bool → Option (Bool)
  | 0, _, _, _, _, _, _ => none
  | k + 1, x0, x1, x2, x9, x10, x59 => if x59 = true then (some false) else (if x0 < x1 then (if x9 = 0 then (some (!x10)) else (some false)) else (if x0 > x2 then (if x9 = 0 then (some (!x10)) else (some false)) else (if x9 = x0 then (some x10) else (some false))))
end
def gatherumlaw02_DecWithin.f (k : Nat) (a0 : Int) (a1 : Int) (a2 : Int) (a3 : ByteArray) : Option (Bool) := (gatherumlaw02_alive.f).bind fun t110 => (if t110 = true then (if (a3.size : Int) > 200 then (some true) else ((gatherumref02_Put.f k a0).bind fun t111 => ((dec_Within.f t111 a1 a2).bind fun bt112 => ((dec_Within.f a3 a1 a2).bind fun bt114 => ((gatherumref02_Get.f k a3).bind fun bt116 => (if bt116.2 = true then (if bt116.1 < a1 then (gatherumlaw02_DecWithin.j0 k a0 a1 a2 bt112.1 bt112.2 bt114.1 bt114.2 bt116.1 bt116.2 true) else (gatherumlaw02_DecWithin.j0 k a0 a1 a2 bt112.1 bt112.2 bt114.1 bt114.2 bt116.1 bt116.2 (decide (bt116.1 > a2)))) else (gatherumlaw02_DecWithin.j0 k a0 a1 a2 bt112.1 bt112.2 bt114.1 bt114.2 bt116.1 bt116.2 true))))))) else (some false))
theorem gatherumlaw02_DecWithin.mono_l : ∀ k, (∀ y0 y1 y2 y3 y4 y5 y6 y7 y8 y9, LeO (gatherumlaw02_DecWithin.j0 k y0 y1 y2 y3 y4 y5 y6 y7 y8 y9) (gatherumlaw02_DecWithin.j0 (k + 1) y0 y1 y2 y3 y4 y5 y6 y7 y8 y9)) ∧ (∀ y0 y1 y2 y3 y4 y5 y6 y7 y8, LeO (gatherumlaw02_DecWithin.j1 k y0 y1 y2 y3 y4 y5 y6 y7 y8) (gatherumlaw02_DecWithin.j1 (k + 1) y0 y1 y2 y3 y4 y5 y6 y7 y8)) ∧ (∀ y0 y1 y2 y3 y4 y5, LeO (gatherumlaw02_DecWithin.j2 k y0 y1 y2 y3 y4 y5) (gatherumlaw02_DecWithin.j2 (k + 1) y0 y1 y2 y3 y4 y5))
  | 0 => ⟨fun _ _ _ _ _ _ _ _ _ _ r h => by simp [gatherumlaw02_DecWithin.j0] at h, fun _ _ _ _ _ _ _ _ _ r h => by simp [gatherumlaw02_DecWithin.j1] at h, fun _ _ _ _ _ _ r h => by simp [gatherumlaw02_DecWithin.j2] at h⟩
  | k + 1 => by
    obtain ⟨ih0, ih1, ih2⟩ := gatherumlaw02_DecWithin.mono_l k
    refine ⟨?_, ?_, ?_⟩
    · intro y0 y1 y2 y3 y4 y5 y6 y7 y8 y9
      unfold gatherumlaw02_DecWithin.j0
      repeat' first
      | (with_reducible exact ih0 _ _ _ _ _ _ _ _ _ _)
      | (with_reducible exact ih1 _ _ _ _ _ _ _ _ _)
      | (with_reducible exact ih2 _ _ _ _ _ _)
      | (with_reducible exact gatherumref02_Get.mono _ _)
      | (with_reducible exact gatherumref02_Put.mono _ _)
      | (with_reducible exact LeO.refl _)
      | (with_reducible exact LeO.none _)
      | (with_reducible refine LeO.ite ?_ ?_)
      | (with_reducible refine LeO.bind ?_ (fun _ => ?_))
      | exact ih0 _ _ _ _ _ _ _ _ _ _
      | exact ih1 _ _ _ _ _ _ _ _ _
      | exact ih2 _ _ _ _ _ _
      | exact gatherumref02_Get.mono _ _
      | exact gatherumref02_Put.mono _ _
      | exact LeO.none _
      | refine LeO.ite ?_ ?_
      | refine LeO.bind ?_ (fun _ => ?_)
    · intro y0 y1 y2 y3 y4 y5 y6 y7 y8
      unfold gatherumlaw02_DecWithin.j1
      repeat' first
      | (with_reducible exact ih0 _ _ _ _ _ _ _ _ _ _)
      | (with_reducible exact ih1 _ _ _ _ _ _ _ _ _)
      | (with_reducible exact ih2 _ _ _ _ _ _)
      | (with_reducible exact gatherumref02_Get.mono _ _)
      | (with_reducible exact gatherumref02_Put.mono _ _)
      | (with_reducible exact LeO.refl _)
      | (with_reducible exact LeO.none _)
      | (with_reducible refine LeO.ite ?_ ?_)
      | (with_reducible refine LeO.bind ?_ (fun _ => ?_))
      | exact ih0 _ _ _ _ _ _ _ _ _ _
      | exact ih1 _ _ _ _ _ _ _ _ _
      | exact ih2 _ _ _ _ _ _
      | exact gatherumref02_Get.mono _ _
      | exact gatherumref02_Put.mono _ _
      | exact LeO.none _
      | refine LeO.ite ?_ ?_
      | refine LeO.bind ?_ (fun _ => ?_)
    · intro y0 y1 y2 y3 y4 y5
      unfold gatherumlaw02_DecWithin.j2
      repeat' first
      | (with_reducible exact ih0 _ _ _ _ _ _ _ _ _ _)
      | (with_reducible exact ih1 _ _ _ _ _ _ _ _ _)
      | (with_reducible exact ih2 _ _ _ _ _ _)
      | (with_reducible exact gatherumref02_Get.mono _ _)
      | (with_reducible exact gatherumref02_Put.mono _ _)
      | (with_reducible exact LeO.refl _)
      | (with_reducible exact LeO.none _)
      | (with_reducible refine LeO.ite ?_ ?_)
      | (with_reducible refine LeO.bind ?_ (fun _ => ?_))
      | exact ih0 _ _ _ _ _ _ _ _ _ _
      | exact ih1 _ _ _ _ _ _ _ _ _
      | exact ih2 _ _ _ _ _ _
      | exact gatherumref02_Get.mono _ _
      | exact gatherumref02_Put.mono _ _
      | exact LeO.none _
      | refine LeO.ite ?_ ?_
      | refine LeO.bind ?_ (fun _ => ?_)
theorem gatherumlaw02_DecWithin.mono : ∀ a0 a1 a2 a3 k, LeO (gatherumlaw02_DecWithin.f k a0 a1 a2 a3) (gatherumlaw02_DecWithin.f (k + 1) a0 a1 a2 a3) := by
  intro a0 a1 a2 a3 k
  obtain ⟨ih0, ih1, ih2⟩ := gatherumlaw02_DecWithin.mono_l k
  unfold gatherumlaw02_DecWithin.f
  repeat' first
      | (with_reducible exact ih0 _ _ _ _ _ _ _ _ _ _)
      | (with_reducible exact ih1 _ _ _ _ _ _ _ _ _)
      | (with_reducible exact ih2 _ _ _ _ _ _)
      | (with_reducible exact gatherumref02_Get.mono _ _)
      | (with_reducible exact gatherumref02_Put.mono _ _)
      | (with_reducible exact LeO.refl _)
      | (with_reducible exact LeO.none _)
      | (with_reducible refine LeO.ite ?_ ?_)
      | (with_reducible refine LeO.bind ?_ (fun _ => ?_))
      | exact ih0 _ _ _ _ _ _ _ _ _ _
      | exact ih1 _ _ _ _ _ _ _ _ _
      | exact ih2 _ _ _ _ _ _
      | exact gatherumref02_Get.mono _ _
      | exact gatherumref02_Put.mono _ _
      | exact LeO.none _
      | refine LeO.ite ?_ ?_
      | refine LeO.bind ?_ (fun _ => ?_)
set_option maxHeartbeats 8000000 in
set_option maxRecDepth 100000 in
theorem gatherumlaw02_DecWithin.calls (k : Nat) (a0 : Int) (a1 : Int) (a2 : Int) (a3 : ByteArray) (r : Bool) (w : World) (hG : Go.Proofs.YthkbomclongjgaaDoor.ExtDec.GL w) (h : gatherumlaw02_DecWithin.f k a0 a1 a2 a3 = some r) :
    Calls Tryd.prog 10 #[.int .i64 a0, .int .i64 a1, .int .i64 a2, .string a3] w fun e w' => e = .returned (.bool r) ∧ Below w.heap.size w w' := by
  have HG := Aside0.mk hG
  clear hG
  have HB := Aside0.mk (Below.refl w.heap.size w)
  have H : ((gatherumlaw02_alive.f).bind fun t110 => (if t110 = true then (if (a3.size : Int) > 200 then (some true) else ((gatherumref02_Put.f k a0).bind fun t111 => ((dec_Within.f t111 a1 a2).bind fun bt112 => ((dec_Within.f a3 a1 a2).bind fun bt114 => ((gatherumref02_Get.f k a3).bind fun bt116 => (if bt116.2 = true then (if bt116.1 < a1 then (gatherumlaw02_DecWithin.j0 k a0 a1 a2 bt112.1 bt112.2 bt114.1 bt114.2 bt116.1 bt116.2 true) else (gatherumlaw02_DecWithin.j0 k a0 a1 a2 bt112.1 bt112.2 bt114.1 bt114.2 bt116.1 bt116.2 (decide (bt116.1 > a2)))) else (gatherumlaw02_DecWithin.j0 k a0 a1 a2 bt112.1 bt112.2 bt114.1 bt114.2 bt116.1 bt116.2 true))))))) else (some false))) = some r := h
  clear h
  replace H := Option.bind_eq_some_iff.mp H
  obtain ⟨t110, A50, H⟩ := H
  replace H : (if t110 = true then (if (a3.size : Int) > 200 then (some true) else ((gatherumref02_Put.f k a0).bind fun t111 => ((dec_Within.f t111 a1 a2).bind fun bt112 => ((dec_Within.f a3 a1 a2).bind fun bt114 => ((gatherumref02_Get.f k a3).bind fun bt116 => (if bt116.2 = true then (if bt116.1 < a1 then (gatherumlaw02_DecWithin.j0 k a0 a1 a2 bt112.1 bt112.2 bt114.1 bt114.2 bt116.1 bt116.2 true) else (gatherumlaw02_DecWithin.j0 k a0 a1 a2 bt112.1 bt112.2 bt114.1 bt114.2 bt116.1 bt116.2 (decide (bt116.1 > a2)))) else (gatherumlaw02_DecWithin.j0 k a0 a1 a2 bt112.1 bt112.2 bt114.1 bt114.2 bt116.1 bt116.2 true))))))) else (some false)) = some r := H
  have A5 := Aside0.mk A50
  clear A50
  by_cases c6 : t110 = true
  · subst c6
    have H1 : (if (a3.size : Int) > 200 then (some true) else ((gatherumref02_Put.f k a0).bind fun t111 => ((dec_Within.f t111 a1 a2).bind fun bt112 => ((dec_Within.f a3 a1 a2).bind fun bt114 => ((gatherumref02_Get.f k a3).bind fun bt116 => (if bt116.2 = true then (if bt116.1 < a1 then (gatherumlaw02_DecWithin.j0 k a0 a1 a2 bt112.1 bt112.2 bt114.1 bt114.2 bt116.1 bt116.2 true) else (gatherumlaw02_DecWithin.j0 k a0 a1 a2 bt112.1 bt112.2 bt114.1 bt114.2 bt116.1 bt116.2 (decide (bt116.1 > a2)))) else (gatherumlaw02_DecWithin.j0 k a0 a1 a2 bt112.1 bt112.2 bt114.1 bt114.2 bt116.1 bt116.2 true))))))) = some r := by rw [if_pos rfl] at H; exact H
    clear H
    have H := H1
    clear H1
    by_cases c7 : (a3.size : Int) > 200
    · rw [if_pos c7] at H
      have c7b0 : decide (200 < (a3.size : Int)) = true := decide_eq_true c7
      have c7b1 : decide (200 < a3.size) = true := decide_eq_true (by omega)
      clear c7
      obtain rfl := Option.some.inj H
      go_enter Tryd.func10, Tryd.ntmps10
      go_wp2_with (first | ((with_reducible refine gate_callee (f := 28) rfl ?_); refine goesL_ (some 15) rfl rfl Tryd.func28 (by kernel_rfl) rfl #[] rfl (by (try simp only [List.map_toArray, List.map_cons, List.map_nil]); first | done | rfl | (simp only [List.length_drop, List.length_take]; rfl)) ?_; (with_reducible refine (gatherumlaw02_alive.calls  true _ ?side1 A5.out).mono ?_); (case side1 => exact Go.Proofs.YthkbomclongjgaaDoor.ExtDec.GL.below HG.out (by repeat (first | (with_reducible first | exact HB.out | apply below_alloc | apply pw_below_drewN | apply below_drew1) | exact HB.out))); rintro e w8 ⟨rfl, hb⟩; refine ⟨_, rfl, ?_⟩; have n0_ := Aside0.mk (below_step (by repeat (first | (with_reducible first | exact HB.out | apply below_alloc | apply pw_below_drewN | apply below_drew1) | exact HB.out)) hb); clear HB; have HB := n0_; clear n0_; (try clear hb); (try clear hb2); (try clear hk); (try clear hi)))
      go_ret
      exact ⟨by first | rfl | (simp [errW_none, errW_some] <;> rfl) | (simp [*, errW_none, errW_some] <;> rfl), by repeat (first | (with_reducible first | exact HB.out | apply below_alloc | apply pw_below_drewN | apply below_drew1) | exact HB.out)⟩
    · rw [if_neg c7] at H
      have c7b0 : decide (200 < (a3.size : Int)) = false := decide_eq_false c7
      have c7b1 : decide (200 < a3.size) = false := decide_eq_false (by omega)
      clear c7
      replace H := Option.bind_eq_some_iff.mp H
      obtain ⟨t111, A90, H⟩ := H
      replace H : ((dec_Within.f t111 a1 a2).bind fun bt112 => ((dec_Within.f a3 a1 a2).bind fun bt114 => ((gatherumref02_Get.f k a3).bind fun bt116 => (if bt116.2 = true then (if bt116.1 < a1 then (gatherumlaw02_DecWithin.j0 k a0 a1 a2 bt112.1 bt112.2 bt114.1 bt114.2 bt116.1 bt116.2 true) else (gatherumlaw02_DecWithin.j0 k a0 a1 a2 bt112.1 bt112.2 bt114.1 bt114.2 bt116.1 bt116.2 (decide (bt116.1 > a2)))) else (gatherumlaw02_DecWithin.j0 k a0 a1 a2 bt112.1 bt112.2 bt114.1 bt114.2 bt116.1 bt116.2 true))))) = some r := H
      have A9 := Aside0.mk A90
      clear A90
      replace H := Option.bind_eq_some_iff.mp H
      obtain ⟨⟨t112, t113⟩, A100, H⟩ := H
      replace H : ((dec_Within.f a3 a1 a2).bind fun bt114 => ((gatherumref02_Get.f k a3).bind fun bt116 => (if bt116.2 = true then (if bt116.1 < a1 then (gatherumlaw02_DecWithin.j0 k a0 a1 a2 t112 t113 bt114.1 bt114.2 bt116.1 bt116.2 true) else (gatherumlaw02_DecWithin.j0 k a0 a1 a2 t112 t113 bt114.1 bt114.2 bt116.1 bt116.2 (decide (bt116.1 > a2)))) else (gatherumlaw02_DecWithin.j0 k a0 a1 a2 t112 t113 bt114.1 bt114.2 bt116.1 bt116.2 true)))) = some r := H
      have A10 := Aside0.mk A100
      clear A100
      replace H := Option.bind_eq_some_iff.mp H
      obtain ⟨⟨t114, t115⟩, A110, H⟩ := H
      replace H : ((gatherumref02_Get.f k a3).bind fun bt116 => (if bt116.2 = true then (if bt116.1 < a1 then (gatherumlaw02_DecWithin.j0 k a0 a1 a2 t112 t113 t114 t115 bt116.1 bt116.2 true) else (gatherumlaw02_DecWithin.j0 k a0 a1 a2 t112 t113 t114 t115 bt116.1 bt116.2 (decide (bt116.1 > a2)))) else (gatherumlaw02_DecWithin.j0 k a0 a1 a2 t112 t113 t114 t115 bt116.1 bt116.2 true))) = some r := H
      have A11 := Aside0.mk A110
      clear A110
      replace H := Option.bind_eq_some_iff.mp H
      obtain ⟨⟨t116, t117⟩, A120, H⟩ := H
      replace H : (if t117 = true then (if t116 < a1 then (gatherumlaw02_DecWithin.j0 k a0 a1 a2 t112 t113 t114 t115 t116 t117 true) else (gatherumlaw02_DecWithin.j0 k a0 a1 a2 t112 t113 t114 t115 t116 t117 (decide (t116 > a2)))) else (gatherumlaw02_DecWithin.j0 k a0 a1 a2 t112 t113 t114 t115 t116 t117 true)) = some r := H
      have A12 := Aside0.mk A120
      clear A120
      have HC13 := Aside0.mk H
      clear H
      go_enter Tryd.func10, Tryd.ntmps10
      go_upto_region 8 with (first | ((with_reducible refine gate_callee (f := 28) rfl ?_); refine goesL_ (some 15) rfl rfl Tryd.func28 (by kernel_rfl) rfl #[] rfl (by (try simp only [List.map_toArray, List.map_cons, List.map_nil]); first | done | rfl | (simp only [List.length_drop, List.length_take]; rfl)) ?_; (with_reducible refine (gatherumlaw02_alive.calls  true _ ?side1 A5.out).mono ?_); (case side1 => exact Go.Proofs.YthkbomclongjgaaDoor.ExtDec.GL.below HG.out (by repeat (first | (with_reducible first | exact HB.out | apply below_alloc | apply pw_below_drewN | apply below_drew1) | exact HB.out))); rintro e w14 ⟨rfl, hb⟩; refine ⟨_, rfl, ?_⟩; have n0_ := Aside0.mk (below_step (by repeat (first | (with_reducible first | exact HB.out | apply below_alloc | apply pw_below_drewN | apply below_drew1) | exact HB.out)) hb); clear HB; have HB := n0_; clear n0_; (try clear hb); (try clear hb2); (try clear hk); (try clear hi)) | ((with_reducible refine gate_callee (f := 32) rfl ?_); refine goesL_ (some 22) rfl rfl Tryd.func32 (by kernel_rfl) rfl #[.int .i64 a0] rfl (by (try simp only [List.map_toArray, List.map_cons, List.map_nil]); first | done | rfl | (simp only [List.length_drop, List.length_take]; rfl)) ?_; (with_reducible refine (gatherumref02_Put.calls k a0 t111 _ A9.out).mono ?_); rintro e w' ⟨rfl, ⟨nd, rfl⟩⟩; refine ⟨_, rfl, ?_⟩) | ((with_reducible refine gate_callee (f := 33) rfl ?_); refine goesL_ (some 25) rfl rfl Tryd.func33 (by kernel_rfl) rfl #[.string t111, .int .i64 a1, .int .i64 a2] rfl (by (try simp only [List.map_toArray, List.map_cons, List.map_nil]); first | done | rfl | (simp only [List.length_drop, List.length_take]; rfl)) ?_; (with_reducible refine (dec_Within.calls t111 a1 a2 t112 t113 _ ?side1 A10.out).mono ?_); (case side1 => exact Go.Proofs.YthkbomclongjgaaDoor.ExtDec.GL.below HG.out (by repeat (first | (with_reducible first | exact HB.out | apply below_alloc | apply pw_below_drewN | apply below_drew1) | exact HB.out))); rintro e w15 ⟨rfl, hb⟩; refine ⟨_, rfl, ?_⟩; have n0_ := Aside0.mk (below_step (by repeat (first | (with_reducible first | exact HB.out | apply below_alloc | apply pw_below_drewN | apply below_drew1) | exact HB.out)) hb); clear HB; have HB := n0_; clear n0_; (try clear hb); (try clear hb2); (try clear hk); (try clear hi)) | ((with_reducible refine gate_callee (f := 33) rfl ?_); refine goesL_ (some 32) rfl rfl Tryd.func33 (by kernel_rfl) rfl #[.string a3, .int .i64 a1, .int .i64 a2] rfl (by (try simp only [List.map_toArray, List.map_cons, List.map_nil]); first | done | rfl | (simp only [List.length_drop, List.length_take]; rfl)) ?_; (with_reducible refine (dec_Within.calls a3 a1 a2 t114 t115 _ ?side1 A11.out).mono ?_); (case side1 => exact Go.Proofs.YthkbomclongjgaaDoor.ExtDec.GL.below HG.out (by repeat (first | (with_reducible first | exact HB.out | apply below_alloc | apply pw_below_drewN | apply below_drew1) | exact HB.out))); rintro e w16 ⟨rfl, hb⟩; refine ⟨_, rfl, ?_⟩; have n0_ := Aside0.mk (below_step (by repeat (first | (with_reducible first | exact HB.out | apply below_alloc | apply pw_below_drewN | apply below_drew1) | exact HB.out)) hb); clear HB; have HB := n0_; clear n0_; (try clear hb); (try clear hb2); (try clear hk); (try clear hi)) | ((with_reducible refine gate_callee (f := 31) rfl ?_); refine goesL_ (some 37) rfl rfl Tryd.func31 (by kernel_rfl) rfl #[.string a3] rfl (by (try simp only [List.map_toArray, List.map_cons, List.map_nil]); first | done | rfl | (simp only [List.length_drop, List.length_take]; rfl)) ?_; (with_reducible refine (gatherumref02_Get.calls k a3 t116 t117 _ A12.out).mono ?_); rintro e w' ⟨rfl, ⟨nd, rfl⟩⟩; refine ⟨_, rfl, ?_⟩))
      (try simp only [Act.put, List.setIfInBounds_toArray, List.set_cons_zero, List.set_cons_succ])
      go_cut [51] (fun v51 wc => ∃ (kq : Nat) (x51_12 : Bool), v51 = .bool x51_12 ∧ Aside0 (gatherumlaw02_DecWithin.j0 kq a0 a1 a2 t112 t113 t114 t115 t116 t117 x51_12 = some r) ∧ Aside0 (kq ≤ k) ∧ Aside0 (Below w.heap.size w wc))
      case first =>
        have H := HC13.out
        clear HC13
        by_cases c17 : t117 = true
        · subst c17
          have H1 : (if t116 < a1 then (gatherumlaw02_DecWithin.j0 k a0 a1 a2 t112 t113 t114 t115 t116 true true) else (gatherumlaw02_DecWithin.j0 k a0 a1 a2 t112 t113 t114 t115 t116 true (decide (t116 > a2)))) = some r := by rw [if_pos rfl] at H; exact H
          clear H
          have H := H1
          clear H1
          by_cases c18 : t116 < a1
          · rw [if_pos c18] at H
            have c18b0 : decide (t116 < a1) = true := decide_eq_true c18
            clear c18
            (first | rw [c18b0] | (simp only [i64_w, i32_w]; rw [c18b0]) | skip)
            have H' := Aside0.mk H
            clear H
            go_wp2
            go_meet
            case rel => exact ⟨_, (true), (by first | rfl | (simp; done) | (simp [*]; done)), H', ⟨by first | omega | exact Nat.le_refl _⟩, ⟨by repeat (first | (with_reducible first | exact HB.out | apply below_alloc | apply pw_below_drewN | apply below_drew1) | exact HB.out)⟩⟩
          · rw [if_neg c18] at H
            have c18b0 : decide (t116 < a1) = false := decide_eq_false c18
            clear c18
            (first | rw [c18b0] | (simp only [i64_w, i32_w]; rw [c18b0]) | skip)
            have H' := Aside0.mk H
            clear H
            go_wp2
            go_meet
            case rel => exact ⟨_, (decide (t116 > a2)), (by first | rfl | (simp; done) | (simp [*]; done)), H', ⟨by first | omega | exact Nat.le_refl _⟩, ⟨by repeat (first | (with_reducible first | exact HB.out | apply below_alloc | apply pw_below_drewN | apply below_drew1) | exact HB.out)⟩⟩
        · replace c17 := Bool.eq_false_iff.mpr c17
          subst c17
          have H1 : (gatherumlaw02_DecWithin.j0 k a0 a1 a2 t112 t113 t114 t115 t116 false true) = some r := by rw [if_neg (show ¬ (false = true) by decide)] at H; exact H
          clear H
          have H := H1
          clear H1
          have H' := Aside0.mk H
          clear H
          go_wp2
          go_meet
          case rel => exact ⟨_, (true), (by first | rfl | (simp; done) | (simp [*]; done)), H', ⟨by first | omega | exact Nat.le_refl _⟩, ⟨by repeat (first | (with_reducible first | exact HB.out | apply below_alloc | apply pw_below_drewN | apply below_drew1) | exact HB.out)⟩⟩
      case rest =>
        clear HC13
        try clear c1
        try clear c2
        try clear p2
        try clear c3
        try clear c6
        try clear c7
        try clear c7b0
        try clear c7b1
        try clear c10
        try clear c17
        try clear c18
        try clear c18b0
        obtain ⟨kq, x51_12, rfl, HA, HJ12, HB⟩ := hcut
        cases kq with
        | zero => exact absurd HA.out (by simp [gatherumlaw02_DecWithin.j0])
        | succ kj12 =>
          have H := HA.out
          clear HA
          simp only [gatherumlaw02_DecWithin.j0] at H
          have HC19 := Aside0.mk H
          clear H
          go_upto_if 51 with (fail)
          go_cut [13, 14] (fun v13 v14 wc => ∃ (kq : Nat) (x13_18 : Int) (x14_18 : Bool), v13 = .int .i64 x13_18 ∧ v14 = .bool x14_18 ∧ Aside0 (gatherumlaw02_DecWithin.j1 kq a0 a1 a2 t112 t113 t114 t115 x13_18 x14_18 = some r) ∧ Aside0 (kq ≤ kj12) ∧ Aside0 (Below w.heap.size w wc))
          case first =>
            have H := HC19.out
            clear HC19
            by_cases c20 : x51_12 = true
            · subst c20
              have H1 : (gatherumlaw02_DecWithin.j1 kj12 a0 a1 a2 t112 t113 t114 t115 0 false) = some r := by rw [if_pos rfl] at H; exact H
              clear H
              have H := H1
              clear H1
              have H' := Aside0.mk H
              clear H
              go_wp2
              go_meet
              case rel => exact ⟨_, (0), (false), (by first | rfl | (simp; done) | (simp [*]; done)), (by first | rfl | (simp; done) | (simp [*]; done)), H', ⟨by have := HJ12.out; first | omega | exact Nat.le_refl _⟩, ⟨by repeat (first | (with_reducible first | exact HB.out | apply below_alloc | apply pw_below_drewN | apply below_drew1) | exact HB.out)⟩⟩
            · replace c20 := Bool.eq_false_iff.mpr c20
              subst c20
              have H1 : (gatherumlaw02_DecWithin.j1 kj12 a0 a1 a2 t112 t113 t114 t115 t116 t117) = some r := by rw [if_neg (show ¬ (false = true) by decide)] at H; exact H
              clear H
              have H := H1
              clear H1
              have H' := Aside0.mk H
              clear H
              go_wp2
              go_meet
              case rel => exact ⟨_, (t116), (t117), (by first | rfl | (simp; done) | (simp [*]; done)), (by first | rfl | (simp; done) | (simp [*]; done)), H', ⟨by have := HJ12.out; first | omega | exact Nat.le_refl _⟩, ⟨by repeat (first | (with_reducible first | exact HB.out | apply below_alloc | apply pw_below_drewN | apply below_drew1) | exact HB.out)⟩⟩
          case rest =>
            clear HC19
            try clear c1
            try clear c2
            try clear p2
            try clear c3
            try clear c6
            try clear c7
            try clear c7b0
            try clear c7b1
            try clear c10
            try clear c17
            try clear c18
            try clear c18b0
            try clear c20
            try clear p2
            obtain ⟨kq, x13_18, x14_18, rfl, rfl, HA, HJ18, HB⟩ := hcut
            cases kq with
            | zero => exact absurd HA.out (by simp [gatherumlaw02_DecWithin.j1])
            | succ kj18 =>
              have H := HA.out
              clear HA
              simp only [gatherumlaw02_DecWithin.j1] at H
              have HC21 := Aside0.mk H
              clear H
              go_upto_region 10 with (fail)
              go_cut [59] (fun v59 wc => ∃ (kq : Nat) (x59_20 : Bool), v59 = .bool x59_20 ∧ Aside0 (gatherumlaw02_DecWithin.j2 kq a0 a1 a2 t112 t113 x59_20 = some r) ∧ Aside0 (kq ≤ kj18) ∧ Aside0 (Below w.heap.size w wc))
              case first =>
                have H := HC21.out
                clear HC21
                by_cases c22 : t114 = x13_18
                · rw [if_pos c22] at H
                  have c22b0 : (t114 == x13_18) = true := beq_iff_eq.mpr c22
                  have c22b1 : (t114 != x13_18) = false := bne_eq_false_iff_eq.mpr c22
                  clear c22
                  (first | rw [c22b0] | (simp only [i64_w, i32_w]; rw [c22b0]) | skip)
                  have H' := Aside0.mk H
                  clear H
                  go_wp2
                  go_meet
                  case rel => exact ⟨_, ((t115 != x14_18)), (by first | rfl | (simp; done) | (simp [*]; done)), H', ⟨by have := HJ12.out; have := HJ18.out; first | omega | exact Nat.le_refl _⟩, ⟨by repeat (first | (with_reducible first | exact HB.out | apply below_alloc | apply pw_below_drewN | apply below_drew1) | exact HB.out)⟩⟩
                · rw [if_neg c22] at H
                  have c22b0 : (t114 == x13_18) = false := beq_eq_false_iff_ne.mpr c22
                  have c22b1 : (t114 != x13_18) = true := bne_iff_ne.mpr c22
                  (first | rw [c22b0] | (simp only [i64_w, i32_w]; rw [c22b0]) | skip)
                  have H' := Aside0.mk H
                  clear H
                  go_wp2
                  go_meet
                  case rel => exact ⟨_, (true), (by first | rfl | (simp; done) | (simp [*]; done)), H', ⟨by have := HJ12.out; have := HJ18.out; first | omega | exact Nat.le_refl _⟩, ⟨by repeat (first | (with_reducible first | exact HB.out | apply below_alloc | apply pw_below_drewN | apply below_drew1) | exact HB.out)⟩⟩
              case rest =>
                clear HC21
                try clear c1
                try clear c2
                try clear p2
                try clear c3
                try clear c6
                try clear c7
                try clear c7b0
                try clear c7b1
                try clear c10
                try clear c17
                try clear c18
                try clear c18b0
                try clear c20
                try clear c22
                try clear c22b0
                try clear c22b1
                try clear p2
                obtain ⟨kq, x59_20, rfl, HA, HJ20, HB⟩ := hcut
                cases kq with
                | zero => exact absurd HA.out (by simp [gatherumlaw02_DecWithin.j2])
                | succ kj20 =>
                  have H := HA.out
                  clear HA
                  simp only [gatherumlaw02_DecWithin.j2] at H
                  by_cases c23 : x59_20 = true
                  · subst c23
                    have H1 : (some false) = some r := by rw [if_pos rfl] at H; exact H
                    clear H
                    have H := H1
                    clear H1
                    obtain rfl := Option.some.inj H
                    go_wp2
                    go_ret
                    exact ⟨by first | rfl | (simp [errW_none, errW_some] <;> rfl) | (simp [*, errW_none, errW_some] <;> rfl), by repeat (first | (with_reducible first | exact HB.out | apply below_alloc | apply pw_below_drewN | apply below_drew1) | exact HB.out)⟩
                  · replace c23 := Bool.eq_false_iff.mpr c23
                    subst c23
                    have H1 : (if a0 < a1 then (if t112 = 0 then (some (!t113)) else (some false)) else (if a0 > a2 then (if t112 = 0 then (some (!t113)) else (some false)) else (if t112 = a0 then (some t113) else (some false)))) = some r := by rw [if_neg (show ¬ (false = true) by decide)] at H; exact H
                    clear H
                    have H := H1
                    clear H1
                    by_cases c24 : a0 < a1
                    · rw [if_pos c24] at H
                      have c24b0 : decide (a0 < a1) = true := decide_eq_true c24
                      clear c24
                      by_cases c25 : t112 = 0
                      · rw [if_pos c25] at H
                        have c25b0 : (t112 == 0) = true := beq_iff_eq.mpr c25
                        have c25b1 : (t112 != 0) = false := bne_eq_false_iff_eq.mpr c25
                        clear c25
                        obtain rfl := Option.some.inj H
                        go_wp2
                        go_ret
                        exact ⟨by first | rfl | (simp [errW_none, errW_some] <;> rfl) | (simp [*, errW_none, errW_some] <;> rfl), by repeat (first | (with_reducible first | exact HB.out | apply below_alloc | apply pw_below_drewN | apply below_drew1) | exact HB.out)⟩
                      · rw [if_neg c25] at H
                        have c25b0 : (t112 == 0) = false := beq_eq_false_iff_ne.mpr c25
                        have c25b1 : (t112 != 0) = true := bne_iff_ne.mpr c25
                        obtain rfl := Option.some.inj H
                        go_wp2
                        go_ret
                        exact ⟨by first | rfl | (simp [errW_none, errW_some] <;> rfl) | (simp [*, errW_none, errW_some] <;> rfl), by repeat (first | (with_reducible first | exact HB.out | apply below_alloc | apply pw_below_drewN | apply below_drew1) | exact HB.out)⟩
                    · rw [if_neg c24] at H
                      have c24b0 : decide (a0 < a1) = false := decide_eq_false c24
                      clear c24
                      by_cases c26 : a0 > a2
                      · rw [if_pos c26] at H
                        have c26b0 : decide (a2 < a0) = true := decide_eq_true c26
                        clear c26
                        by_cases c27 : t112 = 0
                        · rw [if_pos c27] at H
                          have c27b0 : (t112 == 0) = true := beq_iff_eq.mpr c27
                          have c27b1 : (t112 != 0) = false := bne_eq_false_iff_eq.mpr c27
                          clear c27
                          obtain rfl := Option.some.inj H
                          go_wp2
                          go_ret
                          exact ⟨by first | rfl | (simp [errW_none, errW_some] <;> rfl) | (simp [*, errW_none, errW_some] <;> rfl), by repeat (first | (with_reducible first | exact HB.out | apply below_alloc | apply pw_below_drewN | apply below_drew1) | exact HB.out)⟩
                        · rw [if_neg c27] at H
                          have c27b0 : (t112 == 0) = false := beq_eq_false_iff_ne.mpr c27
                          have c27b1 : (t112 != 0) = true := bne_iff_ne.mpr c27
                          obtain rfl := Option.some.inj H
                          go_wp2
                          go_ret
                          exact ⟨by first | rfl | (simp [errW_none, errW_some] <;> rfl) | (simp [*, errW_none, errW_some] <;> rfl), by repeat (first | (with_reducible first | exact HB.out | apply below_alloc | apply pw_below_drewN | apply below_drew1) | exact HB.out)⟩
                      · rw [if_neg c26] at H
                        have c26b0 : decide (a2 < a0) = false := decide_eq_false c26
                        clear c26
                        by_cases c28 : t112 = a0
                        · rw [if_pos c28] at H
                          have c28b0 : (t112 == a0) = true := beq_iff_eq.mpr c28
                          have c28b1 : (t112 != a0) = false := bne_eq_false_iff_eq.mpr c28
                          clear c28
                          obtain rfl := Option.some.inj H
                          go_wp2
                          go_ret
                          exact ⟨by first | rfl | (simp [errW_none, errW_some] <;> rfl) | (simp [*, errW_none, errW_some] <;> rfl), by repeat (first | (with_reducible first | exact HB.out | apply below_alloc | apply pw_below_drewN | apply below_drew1) | exact HB.out)⟩
                        · rw [if_neg c28] at H
                          have c28b0 : (t112 == a0) = false := beq_eq_false_iff_ne.mpr c28
                          have c28b1 : (t112 != a0) = true := bne_iff_ne.mpr c28
                          obtain rfl := Option.some.inj H
                          go_wp2
                          go_ret
                          exact ⟨by first | rfl | (simp [errW_none, errW_some] <;> rfl) | (simp [*, errW_none, errW_some] <;> rfl), by repeat (first | (with_reducible first | exact HB.out | apply below_alloc | apply pw_below_drewN | apply below_drew1) | exact HB.out)⟩
  · replace c6 := Bool.eq_false_iff.mpr c6
    subst c6
    have H1 : (some false) = some r := by rw [if_neg (show ¬ (false = true) by decide)] at H; exact H
    clear H
    have H := H1
    clear H1
    obtain rfl := Option.some.inj H
    go_enter Tryd.func10, Tryd.ntmps10
    go_wp2_with (first | ((with_reducible refine gate_callee (f := 28) rfl ?_); refine goesL_ (some 15) rfl rfl Tryd.func28 (by kernel_rfl) rfl #[] rfl (by (try simp only [List.map_toArray, List.map_cons, List.map_nil]); first | done | rfl | (simp only [List.length_drop, List.length_take]; rfl)) ?_; (with_reducible refine (gatherumlaw02_alive.calls  false _ ?side1 A5.out).mono ?_); (case side1 => exact Go.Proofs.YthkbomclongjgaaDoor.ExtDec.GL.below HG.out (by repeat (first | (with_reducible first | exact HB.out | apply below_alloc | apply pw_below_drewN | apply below_drew1) | exact HB.out))); rintro e w29 ⟨rfl, hb⟩; refine ⟨_, rfl, ?_⟩; have n0_ := Aside0.mk (below_step (by repeat (first | (with_reducible first | exact HB.out | apply below_alloc | apply pw_below_drewN | apply below_drew1) | exact HB.out)) hb); clear HB; have HB := n0_; clear n0_; (try clear hb); (try clear hb2); (try clear hk); (try clear hi)))
    go_ret
    exact ⟨by first | rfl | (simp [errW_none, errW_some] <;> rfl) | (simp [*, errW_none, errW_some] <;> rfl), by repeat (first | (with_reducible first | exact HB.out | apply below_alloc | apply pw_below_drewN | apply below_drew1) | exact HB.out)⟩

/-- THE ONE PURE STATEMENT of gatherumlaw02_DecWithin: yours. -/
def gatherumlaw02_DecWithin.Pure : Prop := ∀ (a0 : Int) (a1 : Int) (a2 : Int) (a3 : ByteArray), (Lit.int .i64 a0).wf = true → (Lit.int .i64 a1).wf = true → (Lit.int .i64 a2).wf = true → a3.size ≤ 140737488351232 → ∃ k, gatherumlaw02_DecWithin.f k a0 a1 a2 a3 = some true
theorem gatherumlaw02_DecWithin.walk (P : gatherumlaw02_DecWithin.Pure) (a0 : Int) (a1 : Int) (a2 : Int) (a3 : ByteArray) (w : World) (w0 : (Lit.int .i64 a0).wf = true) (w1 : (Lit.int .i64 a1).wf = true) (w2 : (Lit.int .i64 a2).wf = true) (w3 : a3.size ≤ 140737488351232) (hG : Go.Proofs.YthkbomclongjgaaDoor.ExtDec.GL w) :
    Calls Tryd.prog 10 #[.int .i64 a0, .int .i64 a1, .int .i64 a2, .string a3] w fun e w' => e = .returned (.bool true) ∧ Below w.heap.size w w' := by
  obtain ⟨k, h⟩ := P a0 a1 a2 a3 w0 w1 w2 w3
  refine (gatherumlaw02_DecWithin.calls k a0 a1 a2 a3 true w hG h).mono ?_
  rintro e w' ⟨rfl, hd⟩
  exact ⟨rfl, hd⟩

end Go.Proofs.YthkbomclongjgaaDoor.PDecWithin
