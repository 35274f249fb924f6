/- Layers that are cut and folded, as contracts on the abstract machine. No condition but that the numbers are near. -/
import Derived.Test.YtdijdlkljeibjaaDoorFoA
namespace Go.Proofs.YtdijdlkljeibjaaDoor.AM
open Go Go.RowKit
set_option cbv.warning false
set_option maxRecDepth 100000
set_option linter.unusedVariables false
set_option linter.unusedSimpArgs false
theorem m_gen4 {A : (Nat → Nat → List V → Heap → Prop) → Prop} {k : Nat → Nat → List V → Heap → Prop} (h : ∀ K : Nat → Nat → List V → Heap → Prop, (∀ e n T H, k e n T H → K e n T H) → A K) : A k := h k fun _ _ _ _ h => h
/-- One side of a rectangle at a line. -/
def hA (up low : Bool) (at_ a : Int) : Int := if up = true ∧ low = false then max a at_ else a
def hB (up low : Bool) (at_ a : Int) : Int := if up = false ∧ low = false then max a at_ else a
def hC (up low : Bool) (at_ a : Int) : Int := if up = true ∧ low = true then min a at_ else a
def hD (up low : Bool) (at_ a : Int) : Int := if up = false ∧ low = true then min a at_ else a
/-- What is kept of a layer on one side of a line. -/
structure HalfR (x0 y0 x1 y1 t X Y : Int) (up : Bool) (at_ : Int) (low : Bool) (e : Bool) (c0 c1 c2 c3 c4 c5 c6 : Int) : Prop where
  h : ∃ la lb lc ld, IsBox t X Y x0 y0 x1 y1 la lb lc ld ∧ KeepR x0 y0 x1 y1 t X Y (hA up low at_ la) (hB up low at_ lb) (hC up low at_ lc) (hD up low at_ ld) e c0 c1 c2 c3 c4 c5 c6
set_option maxHeartbeats 2000000 in
theorem RHalf_c (W0 : World) (t X0 Y0 x0 y0 x1 y1 at_ : Int) (upr low : Bool) (ht : Tu t) (hX0 : Nr 576460752303423488 X0) (hY0 : Nr 576460752303423488 Y0) (hx0 : Nr 576460752303423488 x0) (hy0 : Nr 576460752303423488 y0) (hx1 : Nr 576460752303423488 x1) (hy1 : Nr 576460752303423488 y1) (hat : Nr 576460752303423488 at_)
    (k : V → Heap → Prop) (hk : ∀ b : Bool × Int × Int × Int × Int × Int × Int × Int, HalfR x0 y0 x1 y1 t X0 Y0 upr at_ low b.1 b.2.1 b.2.2.1 b.2.2.2.1 b.2.2.2.2.1 b.2.2.2.2.2.1 b.2.2.2.2.2.2.1 b.2.2.2.2.2.2.2 → k (.tup [.agg [.int .i64 b.2.1, .int .i64 b.2.2.1, .int .i64 b.2.2.2.1, .int .i64 b.2.2.2.2.1, .int .i64 b.2.2.2.2.2.1, .int .i64 b.2.2.2.2.2.2.1, .int .i64 b.2.2.2.2.2.2.2], .one (.bool b.1)]) []) :
    ACall Tryd.prog W0 44 [.agg [.int .i64 x0, .int .i64 y0, .int .i64 x1, .int .i64 y1, .int .i64 t, .int .i64 X0, .int .i64 Y0], .one (.bool upr), .one (.int .i64 at_), .one (.bool low)] [] k := by
  have hK : (576460752303423488 : Int) ≤ 1152921504606846976 := by decide
  refine m_body tab_ok (fn := Tryd.f44) (by kernel_rfl) rfl ?_
  intro X hX
  cbv
  refine m_callq hX [] bodied_17 (fun k2 hk2 => RLies_c W0 t X0 Y0 x0 y0 x1 y1 ht (hX0.up hK) (hY0.up hK) (hx0.up hK) (hy0.up hK) (hx1.up hK) (hy1.up hK) k2 hk2) ?_ rfl rfl ?_ ?_
  · (first | (simp [MH, MB, MT, MV, MV.MVs, MC.MCs, MC, renC.renCs, renC, up]; done) | (simp [MH, MB, MT, MV, MV.MVs, MC.MCs, MC, renC.renCs, renC, up]; omega) | (simp [MH, MB, MT, MV, MV.MVs, MC.MCs, MC, renC.renCs, renC, up] <;> omega))
  · simp [MV, MV.MVs, MC, MC.MCs]
  intro b hb
  obtain ⟨la, lb, lc, ld⟩ := b
  replace hb : IsBox t X0 Y0 x0 y0 x1 y1 la lb lc ld := hb
  obtain ⟨j0, j1, j2, j3⟩ := hb.nr (L := 1152921504606846976) ht hX0 hY0 hx0 hy0 hx1 hy1 (by decide)
  cbv
  cases upr with
  | true =>
    cases low with
    | true =>
      by_cases hc : at_ < lc
      · have hc : at_ < lc := hc
        repeat' (first | (refine m_cond_t hX (by first | rfl | assumption | (subst hX; rfl)) ?_; cbv) | (refine m_cond_f hX (by first | rfl | assumption | (subst hX; rfl)) ?_; cbv) | fail)
        refine m_cond_t hX (by subst hX; simp [std, cmpS, binS]; try omega) ?_
        cbv
        refine m_callq hX [] bodied_59 (fun k2 hk2 => RKeep_c W0 t X0 Y0 x0 y0 x1 y1 la lb at_ ld ht hX0 hY0 hx0 hy0 hx1 hy1 j0 j1 (hat.up hK) j3 k2 hk2) ?_ rfl rfl ?_ ?_
        · (first | (simp [MH, MB, MT, MV, MV.MVs, MC.MCs, MC, renC.renCs, renC, up]; done) | (simp [MH, MB, MT, MV, MV.MVs, MC.MCs, MC, renC.renCs, renC, up]; omega) | (simp [MH, MB, MT, MV, MV.MVs, MC.MCs, MC, renC.renCs, renC, up] <;> omega))
        · simp [MV, MV.MVs, MC, MC.MCs]
        intro b hb2
        obtain ⟨e, c0, c1, c2, c3, c4, c5, c6⟩ := b
        replace hb2 : KeepR x0 y0 x1 y1 t X0 Y0 la lb at_ ld e c0 c1 c2 c3 c4 c5 c6 := hb2
        cbv
        refine ⟨_, _, [], by simp [MH], rfl, rfl, ?_, hk (e, c0, c1, c2, c3, c4, c5, c6) ⟨la, lb, lc, ld, hb, ?_⟩⟩
        · simp [MV, MV.MVs, MC, MC.MCs]
        · show KeepR x0 y0 x1 y1 t X0 Y0 (hA true true at_ la) (hB true true at_ lb) (hC true true at_ lc) (hD true true at_ ld) e c0 c1 c2 c3 c4 c5 c6
          have e1 : hC true true at_ lc = at_ := by simp [hC]; omega
          rw [e1]
          exact hb2
      · have hc : ¬ at_ < lc := hc
        repeat' (first | (refine m_cond_t hX (by first | rfl | assumption | (subst hX; rfl)) ?_; cbv) | (refine m_cond_f hX (by first | rfl | assumption | (subst hX; rfl)) ?_; cbv) | fail)
        refine m_cond_f hX (by subst hX; simp [std, cmpS, binS]; try omega) ?_
        cbv
        repeat' (first | (refine m_cond_t hX (by first | rfl | assumption | (subst hX; rfl)) ?_; cbv) | (refine m_cond_f hX (by first | rfl | assumption | (subst hX; rfl)) ?_; cbv) | fail)
        refine m_callq hX [] bodied_59 (fun k2 hk2 => RKeep_c W0 t X0 Y0 x0 y0 x1 y1 la lb lc ld ht hX0 hY0 hx0 hy0 hx1 hy1 j0 j1 j2 j3 k2 hk2) ?_ rfl rfl ?_ ?_
        · (first | (simp [MH, MB, MT, MV, MV.MVs, MC.MCs, MC, renC.renCs, renC, up]; done) | (simp [MH, MB, MT, MV, MV.MVs, MC.MCs, MC, renC.renCs, renC, up]; omega) | (simp [MH, MB, MT, MV, MV.MVs, MC.MCs, MC, renC.renCs, renC, up] <;> omega))
        · simp [MV, MV.MVs, MC, MC.MCs]
        intro b hb2
        obtain ⟨e, c0, c1, c2, c3, c4, c5, c6⟩ := b
        replace hb2 : KeepR x0 y0 x1 y1 t X0 Y0 la lb lc ld e c0 c1 c2 c3 c4 c5 c6 := hb2
        cbv
        refine ⟨_, _, [], by simp [MH], rfl, rfl, ?_, hk (e, c0, c1, c2, c3, c4, c5, c6) ⟨la, lb, lc, ld, hb, ?_⟩⟩
        · simp [MV, MV.MVs, MC, MC.MCs]
        · show KeepR x0 y0 x1 y1 t X0 Y0 (hA true true at_ la) (hB true true at_ lb) (hC true true at_ lc) (hD true true at_ ld) e c0 c1 c2 c3 c4 c5 c6
          have e1 : hC true true at_ lc = lc := by simp [hC]; omega
          rw [e1]
          exact hb2
    | false =>
      by_cases hc : la < at_
      · have hc : la < at_ := hc
        repeat' (first | (refine m_cond_t hX (by first | rfl | assumption | (subst hX; rfl)) ?_; cbv) | (refine m_cond_f hX (by first | rfl | assumption | (subst hX; rfl)) ?_; cbv) | fail)
        refine m_cond_t hX (by subst hX; simp [std, cmpS, binS]; try omega) ?_
        cbv
        refine m_callq hX [] bodied_59 (fun k2 hk2 => RKeep_c W0 t X0 Y0 x0 y0 x1 y1 at_ lb lc ld ht hX0 hY0 hx0 hy0 hx1 hy1 (hat.up hK) j1 j2 j3 k2 hk2) ?_ rfl rfl ?_ ?_
        · (first | (simp [MH, MB, MT, MV, MV.MVs, MC.MCs, MC, renC.renCs, renC, up]; done) | (simp [MH, MB, MT, MV, MV.MVs, MC.MCs, MC, renC.renCs, renC, up]; omega) | (simp [MH, MB, MT, MV, MV.MVs, MC.MCs, MC, renC.renCs, renC, up] <;> omega))
        · simp [MV, MV.MVs, MC, MC.MCs]
        intro b hb2
        obtain ⟨e, c0, c1, c2, c3, c4, c5, c6⟩ := b
        replace hb2 : KeepR x0 y0 x1 y1 t X0 Y0 at_ lb lc ld e c0 c1 c2 c3 c4 c5 c6 := hb2
        cbv
        refine ⟨_, _, [], by simp [MH], rfl, rfl, ?_, hk (e, c0, c1, c2, c3, c4, c5, c6) ⟨la, lb, lc, ld, hb, ?_⟩⟩
        · simp [MV, MV.MVs, MC, MC.MCs]
        · show KeepR x0 y0 x1 y1 t X0 Y0 (hA true false at_ la) (hB true false at_ lb) (hC true false at_ lc) (hD true false at_ ld) e c0 c1 c2 c3 c4 c5 c6
          have e1 : hA true false at_ la = at_ := by simp [hA]; omega
          rw [e1]
          exact hb2
      · have hc : ¬ la < at_ := hc
        repeat' (first | (refine m_cond_t hX (by first | rfl | assumption | (subst hX; rfl)) ?_; cbv) | (refine m_cond_f hX (by first | rfl | assumption | (subst hX; rfl)) ?_; cbv) | fail)
        refine m_cond_f hX (by subst hX; simp [std, cmpS, binS]; try omega) ?_
        cbv
        repeat' (first | (refine m_cond_t hX (by first | rfl | assumption | (subst hX; rfl)) ?_; cbv) | (refine m_cond_f hX (by first | rfl | assumption | (subst hX; rfl)) ?_; cbv) | fail)
        refine m_callq hX [] bodied_59 (fun k2 hk2 => RKeep_c W0 t X0 Y0 x0 y0 x1 y1 la lb lc ld ht hX0 hY0 hx0 hy0 hx1 hy1 j0 j1 j2 j3 k2 hk2) ?_ rfl rfl ?_ ?_
        · (first | (simp [MH, MB, MT, MV, MV.MVs, MC.MCs, MC, renC.renCs, renC, up]; done) | (simp [MH, MB, MT, MV, MV.MVs, MC.MCs, MC, renC.renCs, renC, up]; omega) | (simp [MH, MB, MT, MV, MV.MVs, MC.MCs, MC, renC.renCs, renC, up] <;> omega))
        · simp [MV, MV.MVs, MC, MC.MCs]
        intro b hb2
        obtain ⟨e, c0, c1, c2, c3, c4, c5, c6⟩ := b
        replace hb2 : KeepR x0 y0 x1 y1 t X0 Y0 la lb lc ld e c0 c1 c2 c3 c4 c5 c6 := hb2
        cbv
        refine ⟨_, _, [], by simp [MH], rfl, rfl, ?_, hk (e, c0, c1, c2, c3, c4, c5, c6) ⟨la, lb, lc, ld, hb, ?_⟩⟩
        · simp [MV, MV.MVs, MC, MC.MCs]
        · show KeepR x0 y0 x1 y1 t X0 Y0 (hA true false at_ la) (hB true false at_ lb) (hC true false at_ lc) (hD true false at_ ld) e c0 c1 c2 c3 c4 c5 c6
          have e1 : hA true false at_ la = la := by simp [hA]; omega
          rw [e1]
          exact hb2
  | false =>
    cases low with
    | true =>
      by_cases hc : at_ < ld
      · have hc : at_ < ld := hc
        repeat' (first | (refine m_cond_t hX (by first | rfl | assumption | (subst hX; rfl)) ?_; cbv) | (refine m_cond_f hX (by first | rfl | assumption | (subst hX; rfl)) ?_; cbv) | fail)
        refine m_cond_t hX (by subst hX; simp [std, cmpS, binS]; try omega) ?_
        cbv
        refine m_callq hX [] bodied_59 (fun k2 hk2 => RKeep_c W0 t X0 Y0 x0 y0 x1 y1 la lb lc at_ ht hX0 hY0 hx0 hy0 hx1 hy1 j0 j1 j2 (hat.up hK) k2 hk2) ?_ rfl rfl ?_ ?_
        · (first | (simp [MH, MB, MT, MV, MV.MVs, MC.MCs, MC, renC.renCs, renC, up]; done) | (simp [MH, MB, MT, MV, MV.MVs, MC.MCs, MC, renC.renCs, renC, up]; omega) | (simp [MH, MB, MT, MV, MV.MVs, MC.MCs, MC, renC.renCs, renC, up] <;> omega))
        · simp [MV, MV.MVs, MC, MC.MCs]
        intro b hb2
        obtain ⟨e, c0, c1, c2, c3, c4, c5, c6⟩ := b
        replace hb2 : KeepR x0 y0 x1 y1 t X0 Y0 la lb lc at_ e c0 c1 c2 c3 c4 c5 c6 := hb2
        cbv
        refine ⟨_, _, [], by simp [MH], rfl, rfl, ?_, hk (e, c0, c1, c2, c3, c4, c5, c6) ⟨la, lb, lc, ld, hb, ?_⟩⟩
        · simp [MV, MV.MVs, MC, MC.MCs]
        · show KeepR x0 y0 x1 y1 t X0 Y0 (hA false true at_ la) (hB false true at_ lb) (hC false true at_ lc) (hD false true at_ ld) e c0 c1 c2 c3 c4 c5 c6
          have e1 : hD false true at_ ld = at_ := by simp [hD]; omega
          rw [e1]
          exact hb2
      · have hc : ¬ at_ < ld := hc
        repeat' (first | (refine m_cond_t hX (by first | rfl | assumption | (subst hX; rfl)) ?_; cbv) | (refine m_cond_f hX (by first | rfl | assumption | (subst hX; rfl)) ?_; cbv) | fail)
        refine m_cond_f hX (by subst hX; simp [std, cmpS, binS]; try omega) ?_
        cbv
        repeat' (first | (refine m_cond_t hX (by first | rfl | assumption | (subst hX; rfl)) ?_; cbv) | (refine m_cond_f hX (by first | rfl | assumption | (subst hX; rfl)) ?_; cbv) | fail)
        refine m_callq hX [] bodied_59 (fun k2 hk2 => RKeep_c W0 t X0 Y0 x0 y0 x1 y1 la lb lc ld ht hX0 hY0 hx0 hy0 hx1 hy1 j0 j1 j2 j3 k2 hk2) ?_ rfl rfl ?_ ?_
        · (first | (simp [MH, MB, MT, MV, MV.MVs, MC.MCs, MC, renC.renCs, renC, up]; done) | (simp [MH, MB, MT, MV, MV.MVs, MC.MCs, MC, renC.renCs, renC, up]; omega) | (simp [MH, MB, MT, MV, MV.MVs, MC.MCs, MC, renC.renCs, renC, up] <;> omega))
        · simp [MV, MV.MVs, MC, MC.MCs]
        intro b hb2
        obtain ⟨e, c0, c1, c2, c3, c4, c5, c6⟩ := b
        replace hb2 : KeepR x0 y0 x1 y1 t X0 Y0 la lb lc ld e c0 c1 c2 c3 c4 c5 c6 := hb2
        cbv
        refine ⟨_, _, [], by simp [MH], rfl, rfl, ?_, hk (e, c0, c1, c2, c3, c4, c5, c6) ⟨la, lb, lc, ld, hb, ?_⟩⟩
        · simp [MV, MV.MVs, MC, MC.MCs]
        · show KeepR x0 y0 x1 y1 t X0 Y0 (hA false true at_ la) (hB false true at_ lb) (hC false true at_ lc) (hD false true at_ ld) e c0 c1 c2 c3 c4 c5 c6
          have e1 : hD false true at_ ld = ld := by simp [hD]; omega
          rw [e1]
          exact hb2
    | false =>
      by_cases hc : lb < at_
      · have hc : lb < at_ := hc
        repeat' (first | (refine m_cond_t hX (by first | rfl | assumption | (subst hX; rfl)) ?_; cbv) | (refine m_cond_f hX (by first | rfl | assumption | (subst hX; rfl)) ?_; cbv) | fail)
        refine m_cond_t hX (by subst hX; simp [std, cmpS, binS]; try omega) ?_
        cbv
        refine m_callq hX [] bodied_59 (fun k2 hk2 => RKeep_c W0 t X0 Y0 x0 y0 x1 y1 la at_ lc ld ht hX0 hY0 hx0 hy0 hx1 hy1 j0 (hat.up hK) j2 j3 k2 hk2) ?_ rfl rfl ?_ ?_
        · (first | (simp [MH, MB, MT, MV, MV.MVs, MC.MCs, MC, renC.renCs, renC, up]; done) | (simp [MH, MB, MT, MV, MV.MVs, MC.MCs, MC, renC.renCs, renC, up]; omega) | (simp [MH, MB, MT, MV, MV.MVs, MC.MCs, MC, renC.renCs, renC, up] <;> omega))
        · simp [MV, MV.MVs, MC, MC.MCs]
        intro b hb2
        obtain ⟨e, c0, c1, c2, c3, c4, c5, c6⟩ := b
        replace hb2 : KeepR x0 y0 x1 y1 t X0 Y0 la at_ lc ld e c0 c1 c2 c3 c4 c5 c6 := hb2
        cbv
        refine ⟨_, _, [], by simp [MH], rfl, rfl, ?_, hk (e, c0, c1, c2, c3, c4, c5, c6) ⟨la, lb, lc, ld, hb, ?_⟩⟩
        · simp [MV, MV.MVs, MC, MC.MCs]
        · show KeepR x0 y0 x1 y1 t X0 Y0 (hA false false at_ la) (hB false false at_ lb) (hC false false at_ lc) (hD false false at_ ld) e c0 c1 c2 c3 c4 c5 c6
          have e1 : hB false false at_ lb = at_ := by simp [hB]; omega
          rw [e1]
          exact hb2
      · have hc : ¬ lb < at_ := hc
        repeat' (first | (refine m_cond_t hX (by first | rfl | assumption | (subst hX; rfl)) ?_; cbv) | (refine m_cond_f hX (by first | rfl | assumption | (subst hX; rfl)) ?_; cbv) | fail)
        refine m_cond_f hX (by subst hX; simp [std, cmpS, binS]; try omega) ?_
        cbv
        repeat' (first | (refine m_cond_t hX (by first | rfl | assumption | (subst hX; rfl)) ?_; cbv) | (refine m_cond_f hX (by first | rfl | assumption | (subst hX; rfl)) ?_; cbv) | fail)
        refine m_callq hX [] bodied_59 (fun k2 hk2 => RKeep_c W0 t X0 Y0 x0 y0 x1 y1 la lb lc ld ht hX0 hY0 hx0 hy0 hx1 hy1 j0 j1 j2 j3 k2 hk2) ?_ rfl rfl ?_ ?_
        · (first | (simp [MH, MB, MT, MV, MV.MVs, MC.MCs, MC, renC.renCs, renC, up]; done) | (simp [MH, MB, MT, MV, MV.MVs, MC.MCs, MC, renC.renCs, renC, up]; omega) | (simp [MH, MB, MT, MV, MV.MVs, MC.MCs, MC, renC.renCs, renC, up] <;> omega))
        · simp [MV, MV.MVs, MC, MC.MCs]
        intro b hb2
        obtain ⟨e, c0, c1, c2, c3, c4, c5, c6⟩ := b
        replace hb2 : KeepR x0 y0 x1 y1 t X0 Y0 la lb lc ld e c0 c1 c2 c3 c4 c5 c6 := hb2
        cbv
        refine ⟨_, _, [], by simp [MH], rfl, rfl, ?_, hk (e, c0, c1, c2, c3, c4, c5, c6) ⟨la, lb, lc, ld, hb, ?_⟩⟩
        · simp [MV, MV.MVs, MC, MC.MCs]
        · show KeepR x0 y0 x1 y1 t X0 Y0 (hA false false at_ la) (hB false false at_ lb) (hC false false at_ lc) (hD false false at_ ld) e c0 c1 c2 c3 c4 c5 c6
          have e1 : hB false false at_ lb = lb := by simp [hB]; omega
          rw [e1]
          exact hb2
end Go.Proofs.YtdijdlkljeibjaaDoor.AM
namespace Go.Proofs.YtdijdlkljeibjaaDoor.AM
open Go Go.RowKit
set_option cbv.warning false
set_option maxRecDepth 100000
set_option linter.unusedVariables false
set_option linter.unusedSimpArgs false
/-- Bools that are compared. -/
theorem m_eqBools {W0 : World} {md : Md} {X : Ext} (hX : X = std Tryd.prog W0 md) {op : BinOp} (hop : op = .eql ∨ op = .neq) {x y : Bool} {k : V → Prop} (h : k (.one (.bool (if op = .eql then x == y else x != y)))) : X.eqs op 4 (.one (.bool x)) (.one (.bool y)) k := by
  subst hX
  refine ⟨_, h, fun r x' y' ox oy hx hy => ?_⟩
  unfold VR CR at hx hy
  subst hx hy
  have hu : Tryd.prog.underlying 4 = some .bool := by kernel_rfl
  refine ⟨.bool (if op = .eql then x == y else x != y), fun w => ?_, by unfold VR CR; rfl⟩
  have he : ∀ w, (Op.equal 4 (.bool x) (.bool y)).run Tryd.prog w = .ok (x == y) w := fun w => by
    rw [equal_step, Op.equalIn]
    simp [run_underlying hu]
  rw [Sem.run_bind, guard_none op 4 ox oy _ _ w ⟨by simp, by simp⟩]
  rcases hop with rfl | rfl
  · show (do pure (.bool (← Op.equal 4 (.bool x) (.bool y))) : Sem Value).run Tryd.prog w = _
    simp [Sem.run_bind, he, Result.andThen]
  · show (do pure (.bool (!(← Op.equal 4 (.bool x) (.bool y)))) : Sem Value).run Tryd.prog w = _
    simp [Sem.run_bind, he, Result.andThen]
    cases x <;> cases y <;> rfl
theorem FlipX_c (W0 : World) (n : Int) (k : V → Heap → Prop) (hk : k (.agg [.int .i64 4, .int .i64 n, .int .i64 0]) []) : ACall Tryd.prog W0 54 [.one (.int .i64 n)] [] k := by
  refine m_body tab_ok (fn := Tryd.f54) (by kernel_rfl) rfl ?_
  intro X hX
  cbv
  refine ⟨_, _, [], by simp [MH], rfl, rfl, ?_, hk⟩
  simp [MV, MC, MC.MCs, zi]
theorem FlipY_c (W0 : World) (n : Int) (k : V → Heap → Prop) (hk : k (.agg [.int .i64 6, .int .i64 0, .int .i64 n]) []) : ACall Tryd.prog W0 55 [.one (.int .i64 n)] [] k := by
  refine m_body tab_ok (fn := Tryd.f55) (by kernel_rfl) rfl ?_
  intro X hX
  cbv
  refine ⟨_, _, [], by simp [MH], rfl, rfl, ?_, hk⟩
  simp [MV, MC, MC.MCs, zi]
theorem mul2N {K a : Int} (ha : Nr K a) (hK : K ≤ 2305843009213693952) {X : Ext} {P : Program} {W0 : World} {md : Md} (hX : X = std P W0 md) : X.bin .mul .i64 2 a = 2 * a := by
  obtain ⟨h1, h2⟩ := ha
  subst hX
  show IntKind.i64.wrap (2 * a) = 2 * a
  exact wrap_eq (by omega) (by omega)
def fT (upr : Bool) : Int := if upr then 4 else 6
def fX (upr : Bool) (n : Int) : Int := if upr then 2 * n else 0
def fY (upr : Bool) (n : Int) : Int := if upr then 0 else 2 * n
/-- What turns over at a line. -/
structure IsFlip (upr : Bool) (n a b c : Int) : Prop where
  a : a = fT upr
  b : b = fX upr n
  c : c = fY upr n
theorem flip_c (W0 : World) (upr low : Bool) (n : Int) (hn : Nr 1152921504606846976 n) (k : V → Heap → Prop) (hk : ∀ b : Int × Int × Int, IsFlip upr n b.1 b.2.1 b.2.2 → k (.agg [.int .i64 b.1, .int .i64 b.2.1, .int .i64 b.2.2]) []) : ACall Tryd.prog W0 36 [.agg [.bool upr, .int .i64 n, .bool low]] [] k := by
  obtain ⟨z, hz⟩ : ∃ z, z = 2 * n := ⟨_, rfl⟩
  refine m_body tab_ok (fn := Tryd.f36) (by kernel_rfl) rfl ?_
  intro X hX
  cbv
  have e1 := mul2N hn (by decide) hX
  rw [← hz] at e1
  cases upr with
  | true =>
    refine m_cond_t hX (by subst hX; rfl) ?_
    cbv
    refine m_callf hX [] bodied_54 (fun k2 hk2 => FlipX_c W0 (X.bin .mul .i64 2 n) k2 hk2) ?_ rfl rfl ?_ ?_
    · (first | (simp [MH, MB, MT, MV, MV.MVs, MC.MCs, MC, renC.renCs, renC, up]; done) | (simp [MH, MB, MT, MV, MV.MVs, MC.MCs, MC, renC.renCs, renC, up]; omega) | (simp [MH, MB, MT, MV, MV.MVs, MC.MCs, MC, renC.renCs, renC, up] <;> omega))
    · simp [MV, MV.MVs, MC, MC.MCs]
    cbv
    refine ⟨_, _, [], by simp [MH], rfl, rfl, ?_, hk (4, z, 0) ⟨rfl, hz, rfl⟩⟩
    show MV _ (.agg [.int .i64 4, .int .i64 z, .int .i64 0]) (.agg [.int .i64 4, .int .i64 (X.bin .mul .i64 2 n), .int .i64 0])
    rw [e1]
    simp [MV, MC, MC.MCs]
  | false =>
    refine m_cond_f hX (by subst hX; rfl) ?_
    cbv
    refine m_callf hX [] bodied_55 (fun k2 hk2 => FlipY_c W0 (X.bin .mul .i64 2 n) k2 hk2) ?_ rfl rfl ?_ ?_
    · (first | (simp [MH, MB, MT, MV, MV.MVs, MC.MCs, MC, renC.renCs, renC, up]; done) | (simp [MH, MB, MT, MV, MV.MVs, MC.MCs, MC, renC.renCs, renC, up]; omega) | (simp [MH, MB, MT, MV, MV.MVs, MC.MCs, MC, renC.renCs, renC, up] <;> omega))
    · simp [MV, MV.MVs, MC, MC.MCs]
    cbv
    refine ⟨_, _, [], by simp [MH], rfl, rfl, ?_, hk (6, 0, z) ⟨rfl, rfl, hz⟩⟩
    show MV _ (.agg [.int .i64 6, .int .i64 0, .int .i64 z]) (.agg [.int .i64 6, .int .i64 0, .int .i64 (X.bin .mul .i64 2 n)])
    rw [e1]
    simp [MV, MC, MC.MCs]
/-- A rectangle's end. -/
def eE (upr : Bool) (c d : Int) : Int := if upr then c else d
theorem moves_c (W0 : World) (upr low : Bool) (n t X0 Y0 x0 y0 x1 y1 : Int) (ht : Tu t) (hX0 : Nr 1152921504606846976 X0) (hY0 : Nr 1152921504606846976 Y0) (hx0 : Nr 1152921504606846976 x0) (hy0 : Nr 1152921504606846976 y0) (hx1 : Nr 1152921504606846976 x1) (hy1 : Nr 1152921504606846976 y1) (k : V → Heap → Prop) (hk : ∀ b : Bool, (b = true ↔ (eE upr (bC t X0 Y0 x0 y0 x1 y1) (bD t X0 Y0 x0 y0 x1 y1) ≤ n ↔ low = true)) → k (.one (.bool b)) []) : ACall Tryd.prog W0 35 [.agg [.bool upr, .int .i64 n, .bool low], .agg [.int .i64 x0, .int .i64 y0, .int .i64 x1, .int .i64 y1, .int .i64 t, .int .i64 X0, .int .i64 Y0]] [] k := by
  refine m_body tab_ok (fn := Tryd.f35) (by kernel_rfl) rfl ?_
  intro X hX
  cbv
  refine m_callq hX [] bodied_42 (fun k2 hk2 => LLies_c W0 t X0 Y0 x0 y0 x1 y1 ht hX0 hY0 hx0 hy0 hx1 hy1 k2 hk2) ?_ rfl rfl ?_ ?_
  · (first | (simp [MH, MB, MT, MV, MV.MVs, MC.MCs, MC, renC.renCs, renC, up]; done) | (simp [MH, MB, MT, MV, MV.MVs, MC.MCs, MC, renC.renCs, renC, up]; omega) | (simp [MH, MB, MT, MV, MV.MVs, MC.MCs, MC, renC.renCs, renC, up] <;> omega))
  · simp [MV, MV.MVs, MC, MC.MCs]
  intro b hb
  obtain ⟨la, lb, lc, ld⟩ := b
  replace hb : IsBox t X0 Y0 x0 y0 x1 y1 la lb lc ld := hb
  cbv
  cases upr with
  | true =>
    refine m_cond_t hX (by subst hX; rfl) ?_
    cbv
    refine m_eqBools hX (.inl rfl) ?_
    cbv
    refine ⟨_, _, [], by simp [MH], rfl, rfl, ?_, hk (decide (lc ≤ n) == low) ?_⟩
    · subst hX; simp [MV, MC, std, cmpS]
      by_cases h : lc ≤ n <;> cases low <;> simp [h] <;> rfl
    · rw [hb.c]
      by_cases h : bC t X0 Y0 x0 y0 x1 y1 ≤ n <;> cases low <;> simp [h, eE]
  | false =>
    refine m_cond_f hX (by subst hX; rfl) ?_
    cbv
    refine m_eqBools hX (.inl rfl) ?_
    cbv
    refine ⟨_, _, [], by simp [MH], rfl, rfl, ?_, hk (decide (ld ≤ n) == low) ?_⟩
    · subst hX; simp [MV, MC, std, cmpS]
      by_cases h : ld ≤ n <;> cases low <;> simp [h] <;> rfl
    · rw [hb.d]
      by_cases h : bD t X0 Y0 x0 y0 x1 y1 ≤ n <;> cases low <;> simp [h, eE]
end Go.Proofs.YtdijdlkljeibjaaDoor.AM
namespace Go.Proofs.YtdijdlkljeibjaaDoor.AM
open Go Go.RowKit
set_option cbv.warning false
set_option maxRecDepth 100000
set_option linter.unusedVariables false
set_option linter.unusedSimpArgs false
/-- The line goes through the rectangle. -/
def thru (upr : Bool) (n a b c d : Int) : Prop := if upr then a < n ∧ n < c else b < n ∧ n < d
abbrev rectC (a b c d : Int) : List C := [.int .i64 a, .int .i64 b, .int .i64 c, .int .i64 d]
set_option maxHeartbeats 2000000 in
theorem Split_c (W0 : World) (upr : Bool) (n a b c d : Int) (h1 : a < c) (h2 : b < d) (k : V → Heap → Prop)
    (hk1 : ¬ thru upr n a b c d → k (.one (.sl 0 0 1 (some 1))) [some (.row true 39 4 1 fun _ => rectC a b c d)])
    (hk2 : thru upr n a b c d → k (.one (.sl 0 0 2 (some 2))) [some (.row true 39 4 2 fun q => match q with | 0 => (if upr then rectC a b n d else rectC a b c n) | _ => (if upr then rectC n b c d else rectC a n c d))]) :
    ACall Tryd.prog W0 52 [.agg (rectC a b c d), .one (.bool upr), .one (.int .i64 n)] [] k := by
  refine m_body tab_ok (fn := Tryd.f52) (by kernel_rfl) rfl ?_
  intro X hX
  cbv
  refine m_drawAs hX ([.one .undef, .one (.bool upr), .one (.int .i64 n), .one (.ptr 0 0 0), .one .undef, .one .undef, .one .nils, .one (.ptr 1 0 0), .one (.ptr 2 0 0)] ++ List.replicate 47 (.one .undef)) [some (.box 39 [.int .i64 a, .int .i64 b, .int .i64 c, .int .i64 d]), some (.box 39 [.int .i64 a, .int .i64 b, .int .i64 c, .int .i64 d]), some (.box 39 [.int .i64 a, .int .i64 b, .int .i64 c, .int .i64 d])] ?_ ?_
  ·
    refine m_drawT tab_ok hX [] [] (.one 0 1 (.one 1 1 (.two 2 2 (.one 3 2 (.one 4 4 (.one 5 4 .fin))) 3 2 (.one 2 2 (.one 4 4 (.one 5 4 .fin)))))) (by kernel_rfl) (by simp) ?_
    cbv
    refine And.intro ?_ ?_
    · refine ⟨[some 0, some 1, some 2], ?_, rfl, rfl, ?_⟩
      · simp [MH, MB, MC.MCs, MC, renC.renCs, renC, up, zi]
      · simp [MT, MV.MVs, MV, MC]
    · refine ⟨[some 0, some 2, some 1], ?_, rfl, rfl, ?_⟩
      · simp [MH, MB, MC.MCs, MC, renC.renCs, renC, up, zi]
      · simp [MT, MV.MVs, MV, MC]
  cbv
  refine m_callq hX [] bodied_51 (fun k2 hk2 => Empty_c W0 a b c d k2 hk2) ?_ rfl rfl ?_ ?_
  · (first | (simp [MH, MB, MT, MV, MV.MVs, MC.MCs, MC, renC.renCs, renC, up]; done) | (simp [MH, MB, MT, MV, MV.MVs, MC.MCs, MC, renC.renCs, renC, up]; omega) | (simp [MH, MB, MT, MV, MV.MVs, MC.MCs, MC, renC.renCs, renC, up] <;> omega))
  · simp [MV, MV.MVs, MC, MC.MCs]
  intro e he
  cbv
  obtain rfl : e = false := by
    cases e with
    | false => rfl
    | true => have := he.1 rfl; omega
  refine m_cond_f hX (by subst hX; rfl) ?_
  cbv
  cases upr with
  | true =>
    by_cases c1 : a < n
    · have c1 : a < n := c1
      by_cases c2 : n < c
      · have c2 : n < c := c2
        repeat' (first | (refine m_cond_t hX (by first | rfl | assumption | (subst_vars; simp [std, cmpS, binS, c1, c2]; done) | fail) ?_; cbv) | (refine m_cond_f hX (by first | rfl | assumption | (subst_vars; simp [std, cmpS, binS, c1, c2]; done) | fail) ?_; cbv) | (refine And.intro (by first | rfl | assumption | (subst_vars; simp [std, cmpS, binS, c1, c2]; done) | fail) ?_) | fail)
        refine ⟨_, _, [some 3], ?_, rfl, rfl, ?_, hk2 ?_⟩
        · simp [MH, MB]
          intro i hi
          match i, hi with
          | 0, _ => simp [MC.MCs, MC]
          | 1, _ => simp [MC.MCs, MC]
          | i + 2, hi => omega
        · simp [MV, MC, up]
        · simp [thru]; omega
      · have c2 : ¬ n < c := c2
        repeat' (first | (refine m_cond_t hX (by first | rfl | assumption | (subst_vars; simp [std, cmpS, binS, c1, c2]; done) | fail) ?_; cbv) | (refine m_cond_f hX (by first | rfl | assumption | (subst_vars; simp [std, cmpS, binS, c1, c2]; done) | fail) ?_; cbv) | (refine And.intro (by first | rfl | assumption | (subst_vars; simp [std, cmpS, binS, c1, c2]; done) | fail) ?_) | fail)
        refine ⟨_, _, [some 3], ?_, rfl, rfl, ?_, hk1 ?_⟩
        · simp [MH, MB, MC.MCs, MC]
        · simp [MV, MC, up]
        · simp [thru]; omega
    · have c1 : ¬ a < n := c1
      repeat' (first | (refine m_cond_t hX (by first | rfl | assumption | (subst_vars; simp [std, cmpS, binS, c1]; done) | fail) ?_; cbv) | (refine m_cond_f hX (by first | rfl | assumption | (subst_vars; simp [std, cmpS, binS, c1]; done) | fail) ?_; cbv) | (refine And.intro (by first | rfl | assumption | (subst_vars; simp [std, cmpS, binS, c1]; done) | fail) ?_) | fail)
      refine ⟨_, _, [some 3], ?_, rfl, rfl, ?_, hk1 ?_⟩
      · simp [MH, MB, MC.MCs, MC]
      · simp [MV, MC, up]
      · simp [thru]; omega
  | false =>
    by_cases c1 : b < n
    · have c1 : b < n := c1
      by_cases c2 : n < d
      · have c2 : n < d := c2
        repeat' (first | (refine m_cond_t hX (by first | rfl | assumption | (subst_vars; simp [std, cmpS, binS, c1, c2]; done) | fail) ?_; cbv) | (refine m_cond_f hX (by first | rfl | assumption | (subst_vars; simp [std, cmpS, binS, c1, c2]; done) | fail) ?_; cbv) | (refine And.intro (by first | rfl | assumption | (subst_vars; simp [std, cmpS, binS, c1, c2]; done) | fail) ?_) | fail)
        refine ⟨_, _, [some 3], ?_, rfl, rfl, ?_, hk2 ?_⟩
        · simp [MH, MB]
          intro i hi
          match i, hi with
          | 0, _ => simp [MC.MCs, MC]
          | 1, _ => simp [MC.MCs, MC]
          | i + 2, hi => omega
        · simp [MV, MC, up]
        · simp [thru]; omega
      · have c2 : ¬ n < d := c2
        repeat' (first | (refine m_cond_t hX (by first | rfl | assumption | (subst_vars; simp [std, cmpS, binS, c1, c2]; done) | fail) ?_; cbv) | (refine m_cond_f hX (by first | rfl | assumption | (subst_vars; simp [std, cmpS, binS, c1, c2]; done) | fail) ?_; cbv) | (refine And.intro (by first | rfl | assumption | (subst_vars; simp [std, cmpS, binS, c1, c2]; done) | fail) ?_) | fail)
        refine ⟨_, _, [some 3], ?_, rfl, rfl, ?_, hk1 ?_⟩
        · simp [MH, MB, MC.MCs, MC]
        · simp [MV, MC, up]
        · simp [thru]; omega
    · have c1 : ¬ b < n := c1
      repeat' (first | (refine m_cond_t hX (by first | rfl | assumption | (subst_vars; simp [std, cmpS, binS, c1]; done) | fail) ?_; cbv) | (refine m_cond_f hX (by first | rfl | assumption | (subst_vars; simp [std, cmpS, binS, c1]; done) | fail) ?_; cbv) | (refine And.intro (by first | rfl | assumption | (subst_vars; simp [std, cmpS, binS, c1]; done) | fail) ?_) | fail)
      refine ⟨_, _, [some 3], ?_, rfl, rfl, ?_, hk1 ?_⟩
      · simp [MH, MB, MC.MCs, MC]
      · simp [MV, MC, up]
      · simp [thru]; omega
end Go.Proofs.YtdijdlkljeibjaaDoor.AM
namespace Go.Proofs.YtdijdlkljeibjaaDoor.AM
open Go Go.RowKit
set_option cbv.warning false
set_option maxRecDepth 100000
set_option linter.unusedVariables false
set_option linter.unusedSimpArgs false
theorem IsBox.pos {t X Y x0 y0 x1 y1 a b c d : Int} (ht : Tu t) (h : IsBox t X Y x0 y0 x1 y1 a b c d) (h0 : x0 < x1) (h1 : y0 < y1) : a < c ∧ b < d := by
  obtain ⟨rfl, rfl, rfl, rfl⟩ := h
  unfold bA bB bC bD
  rcases ht.cases with rfl | rfl | rfl | rfl | rfl | rfl | rfl | rfl <;> simp [dX, dY] <;> omega
/-- What lies in a rectangle, as a layer's own. -/
abbrev IsPart (t X Y r0 r1 r2 r3 c0 c1 c2 c3 : Int) : Prop := IsBox (tBack t) (-dX (tBack t) X Y) (-dY (tBack t) X Y) r0 r1 r2 r3 c0 c1 c2 c3
abbrev layC (x0 y0 x1 y1 t X Y : Int) : List C := [.int .i64 x0, .int .i64 y0, .int .i64 x1, .int .i64 y1, .int .i64 t, .int .i64 X, .int .i64 Y]
theorem SplitG_c (W0 : World) (upr : Bool) (n a b c d : Int) (h1 : a < c) (h2 : b < d) (ht : thru upr n a b c d) (k : V → Heap → Prop)
    (hk : ∀ G : Nat → List C, (G 0 = (if upr then rectC a b n d else rectC a b c n) ∧ G 1 = (if upr then rectC n b c d else rectC a n c d)) → k (.one (.sl 0 0 2 (some 2))) [some (.row true 39 4 2 G)]) :
    ACall Tryd.prog W0 52 [.agg (rectC a b c d), .one (.bool upr), .one (.int .i64 n)] [] k :=
  Split_c W0 upr n a b c d h1 h2 k (fun h => absurd ht h) fun _ => hk _ ⟨rfl, rfl⟩
set_option maxHeartbeats 4000000 in
theorem Cut_c (W0 : World) (upr : Bool) (n t X0 Y0 x0 y0 x1 y1 la lb lc ld : Int) (hb : IsBox t X0 Y0 x0 y0 x1 y1 la lb lc ld) (ht : Tu t) (hX0 : Nr 576460752303423488 X0) (hY0 : Nr 576460752303423488 Y0) (hx0 : Nr 576460752303423488 x0) (hy0 : Nr 576460752303423488 y0) (hx1 : Nr 576460752303423488 x1) (hy1 : Nr 576460752303423488 y1) (hat : Nr 576460752303423488 n) (k : V → Heap → Prop)
    (hk0 : (x1 ≤ x0 ∨ y1 ≤ y0) → k (.one .nils) [])
    (hk1 : ¬ (x1 ≤ x0 ∨ y1 ≤ y0) → ¬ thru upr n la lb lc ld → ∃ G : Nat → List C, G 0 = layC x0 y0 x1 y1 t X0 Y0 ∧ k (.one (.sl 0 0 1 (some 1))) [some (.row true 43 7 1 G)])
    (hk2 : ¬ (x1 ≤ x0 ∨ y1 ≤ y0) → thru upr n la lb lc ld → ∀ c0 c1 c2 c3 d0 d1 d2 d3, IsPart t X0 Y0 la lb (if upr then n else lc) (if upr then ld else n) c0 c1 c2 c3 → IsPart t X0 Y0 (if upr then n else la) (if upr then lb else n) lc ld d0 d1 d2 d3 →
      ∃ G : Nat → List C, (G 0 = layC c0 c1 c2 c3 t X0 Y0 ∧ G 1 = layC d0 d1 d2 d3 t X0 Y0) ∧ k (.one (.sl 0 0 2 (some 2))) [some (.row true 43 7 2 G)]) :
    ACall Tryd.prog W0 34 [.agg (layC x0 y0 x1 y1 t X0 Y0), .one (.bool upr), .one (.int .i64 n)] [] k := by
  have hK : (576460752303423488 : Int) ≤ 1152921504606846976 := by decide
  obtain ⟨j0, j1, j2, j3⟩ := hb.nr (L := 1152921504606846976) ht hX0 hY0 hx0 hy0 hx1 hy1 (by decide)
  refine m_body tab_ok (fn := Tryd.f34) (by kernel_rfl) rfl ?_
  intro X hX
  cbv
  refine m_callq hX [] bodied_51 (fun k2 hk2 => Empty_c W0 x0 y0 x1 y1 k2 hk2) ?_ rfl rfl ?_ ?_
  · (first | (simp [MH, MB, MT, MV, MV.MVs, MC.MCs, MC, renC.renCs, renC, up]; done) | (simp [MH, MB, MT, MV, MV.MVs, MC.MCs, MC, renC.renCs, renC, up]; omega) | (simp [MH, MB, MT, MV, MV.MVs, MC.MCs, MC, renC.renCs, renC, up] <;> omega))
  · simp [MV, MV.MVs, MC, MC.MCs]
  intro e he
  cbv
  cases e with
  | true =>
    refine m_cond_t hX (by subst hX; rfl) ?_
    cbv
    refine ⟨_, _, [], by simp [MH], rfl, rfl, ?_, hk0 (he.1 rfl)⟩
    simp [MV, MC]
  | false =>
    have hne : ¬ (x1 ≤ x0 ∨ y1 ≤ y0) := fun h => by cases he.2 h
    have hpos := hb.pos ht (by omega) (by omega)
    refine m_cond_f hX (by subst hX; rfl) ?_
    cbv
    refine m_callq hX [] bodied_42 (fun k2 hk2 => LLies_c W0 t X0 Y0 x0 y0 x1 y1 ht (hX0.up hK) (hY0.up hK) (hx0.up hK) (hy0.up hK) (hx1.up hK) (hy1.up hK) k2 hk2) ?_ rfl rfl ?_ ?_
    · (first | (simp [MH, MB, MT, MV, MV.MVs, MC.MCs, MC, renC.renCs, renC, up]; done) | (simp [MH, MB, MT, MV, MV.MVs, MC.MCs, MC, renC.renCs, renC, up]; omega) | (simp [MH, MB, MT, MV, MV.MVs, MC.MCs, MC, renC.renCs, renC, up] <;> omega))
    · simp [MV, MV.MVs, MC, MC.MCs]
    intro b hb2
    obtain rfl : b = (la, lb, lc, ld) := Prod.ext (hb2.a.trans hb.a.symm) (Prod.ext (hb2.b.trans hb.b.symm) (Prod.ext (hb2.c.trans hb.c.symm) (hb2.d.trans hb.d.symm)))
    cbv
    by_cases hth : thru upr n la lb lc ld
    · cases upr with
      | true =>
        refine m_callq hX [] bodied_52 (fun k2 hk2 => SplitG_c W0 true n la lb lc ld hpos.1 hpos.2 hth k2 hk2) ?_ rfl rfl ?_ ?_
        · (first | (simp [MH, MB, MT, MV, MV.MVs, MC.MCs, MC, renC.renCs, renC, up]; done) | (simp [MH, MB, MT, MV, MV.MVs, MC.MCs, MC, renC.renCs, renC, up]; omega) | (simp [MH, MB, MT, MV, MV.MVs, MC.MCs, MC, renC.renCs, renC, up] <;> omega))
        · simp [MV, MV.MVs, MC, MC.MCs]
        intro G hG
        cbv
        refine m_cond_f hX (by subst hX; rfl) ?_
        cbv
        refine m_drawT tab_ok hX [] [] (.one 1 0 (.one 2 0 (.one 6 0 (.one 7 0 (.one 0 1 (.one 3 1 (.one 5 1 (.one 8 1 (.one 4 2 (.one 9 2 (.one 10 2 (.one 11 0 .fin)))))))))))) (by kernel_rfl) (by simp) ?_
        cbv
        refine ⟨by subst hX; exact ⟨by decide, by decide⟩, by subst hX; exact ⟨by decide, by decide⟩, by subst hX; show 0 + 0 < 2; omega, by subst hX; show 0 + 1 < 2; omega, ?_⟩
        have e0 : G (X.nadd 0 (X.toN 0)) = rectC la lb n ld := by subst hX; exact hG.1
        have e1 : G (X.nadd 0 (X.toN 1)) = rectC n lb lc ld := by subst hX; exact hG.2
        rw [e0, e1]
        cbv
        refine m_callq hX [] bodied_53 (fun k2 hk2 => LPart_c W0 t X0 Y0 x0 y0 x1 y1 la lb n ld ht (hX0.up hK) (hY0.up hK) j0 j1 (hat.up hK) j3 k2 hk2) ?_ rfl rfl ?_ ?_
        · (first | (simp [MH, MB, MT, MV, MV.MVs, MC.MCs, MC, renC.renCs, renC, up]; done) | (simp [MH, MB, MT, MV, MV.MVs, MC.MCs, MC, renC.renCs, renC, up]; omega) | (simp [MH, MB, MT, MV, MV.MVs, MC.MCs, MC, renC.renCs, renC, up] <;> omega))
        · simp [MV, MV.MVs, MC, MC.MCs]
        intro b hbc
        obtain ⟨c0, c1, c2, c3⟩ := b
        replace hbc : IsPart t X0 Y0 la lb n ld c0 c1 c2 c3 := hbc
        cbv
        refine m_callq hX [] bodied_53 (fun k2 hk2 => LPart_c W0 t X0 Y0 x0 y0 x1 y1 n lb lc ld ht (hX0.up hK) (hY0.up hK) (hat.up hK) j1 j2 j3 k2 hk2) ?_ rfl rfl ?_ ?_
        · (first | (simp [MH, MB, MT, MV, MV.MVs, MC.MCs, MC, renC.renCs, renC, up]; done) | (simp [MH, MB, MT, MV, MV.MVs, MC.MCs, MC, renC.renCs, renC, up]; omega) | (simp [MH, MB, MT, MV, MV.MVs, MC.MCs, MC, renC.renCs, renC, up] <;> omega))
        · simp [MV, MV.MVs, MC, MC.MCs]
        intro b hbd
        obtain ⟨d0, d1, d2, d3⟩ := b
        replace hbd : IsPart t X0 Y0 n lb lc ld d0 d1 d2 d3 := hbd
        cbv
        obtain ⟨G2, ⟨g0, g1⟩, hk3⟩ := hk2 hne hth c0 c1 c2 c3 d0 d1 d2 d3 hbc hbd
        refine ⟨_, _, [some 2], ?_, rfl, rfl, ?_, hk3⟩
        · simp [MH, MB]
          intro i hi
          match i, hi with
          | 0, _ => rw [g0]; simp [MC.MCs, MC]
          | 1, _ => rw [g1]; simp [MC.MCs, MC]
          | i + 2, hi => omega
        · simp [MV, MC, up]
      | false =>
        refine m_callq hX [] bodied_52 (fun k2 hk2 => SplitG_c W0 false n la lb lc ld hpos.1 hpos.2 hth k2 hk2) ?_ rfl rfl ?_ ?_
        · (first | (simp [MH, MB, MT, MV, MV.MVs, MC.MCs, MC, renC.renCs, renC, up]; done) | (simp [MH, MB, MT, MV, MV.MVs, MC.MCs, MC, renC.renCs, renC, up]; omega) | (simp [MH, MB, MT, MV, MV.MVs, MC.MCs, MC, renC.renCs, renC, up] <;> omega))
        · simp [MV, MV.MVs, MC, MC.MCs]
        intro G hG
        cbv
        refine m_cond_f hX (by subst hX; rfl) ?_
        cbv
        refine m_drawT tab_ok hX [] [] (.one 1 0 (.one 2 0 (.one 6 0 (.one 7 0 (.one 0 1 (.one 3 1 (.one 5 1 (.one 8 1 (.one 4 2 (.one 9 2 (.one 10 2 (.one 11 0 .fin)))))))))))) (by kernel_rfl) (by simp) ?_
        cbv
        refine ⟨by subst hX; exact ⟨by decide, by decide⟩, by subst hX; exact ⟨by decide, by decide⟩, by subst hX; show 0 + 0 < 2; omega, by subst hX; show 0 + 1 < 2; omega, ?_⟩
        have e0 : G (X.nadd 0 (X.toN 0)) = rectC la lb lc n := by subst hX; exact hG.1
        have e1 : G (X.nadd 0 (X.toN 1)) = rectC la n lc ld := by subst hX; exact hG.2
        rw [e0, e1]
        cbv
        refine m_callq hX [] bodied_53 (fun k2 hk2 => LPart_c W0 t X0 Y0 x0 y0 x1 y1 la lb lc n ht (hX0.up hK) (hY0.up hK) j0 j1 j2 (hat.up hK) k2 hk2) ?_ rfl rfl ?_ ?_
        · (first | (simp [MH, MB, MT, MV, MV.MVs, MC.MCs, MC, renC.renCs, renC, up]; done) | (simp [MH, MB, MT, MV, MV.MVs, MC.MCs, MC, renC.renCs, renC, up]; omega) | (simp [MH, MB, MT, MV, MV.MVs, MC.MCs, MC, renC.renCs, renC, up] <;> omega))
        · simp [MV, MV.MVs, MC, MC.MCs]
        intro b hbc
        obtain ⟨c0, c1, c2, c3⟩ := b
        replace hbc : IsPart t X0 Y0 la lb lc n c0 c1 c2 c3 := hbc
        cbv
        refine m_callq hX [] bodied_53 (fun k2 hk2 => LPart_c W0 t X0 Y0 x0 y0 x1 y1 la n lc ld ht (hX0.up hK) (hY0.up hK) j0 (hat.up hK) j2 j3 k2 hk2) ?_ rfl rfl ?_ ?_
        · (first | (simp [MH, MB, MT, MV, MV.MVs, MC.MCs, MC, renC.renCs, renC, up]; done) | (simp [MH, MB, MT, MV, MV.MVs, MC.MCs, MC, renC.renCs, renC, up]; omega) | (simp [MH, MB, MT, MV, MV.MVs, MC.MCs, MC, renC.renCs, renC, up] <;> omega))
        · simp [MV, MV.MVs, MC, MC.MCs]
        intro b hbd
        obtain ⟨d0, d1, d2, d3⟩ := b
        replace hbd : IsPart t X0 Y0 la n lc ld d0 d1 d2 d3 := hbd
        cbv
        obtain ⟨G2, ⟨g0, g1⟩, hk3⟩ := hk2 hne hth c0 c1 c2 c3 d0 d1 d2 d3 hbc hbd
        refine ⟨_, _, [some 2], ?_, rfl, rfl, ?_, hk3⟩
        · simp [MH, MB]
          intro i hi
          match i, hi with
          | 0, _ => rw [g0]; simp [MC.MCs, MC]
          | 1, _ => rw [g1]; simp [MC.MCs, MC]
          | i + 2, hi => omega
        · simp [MV, MC, up]
    ·
      refine m_callf hX [] bodied_52 (fun k2 hk2 => (fun k h => Split_c W0 upr n la lb lc ld hpos.1 hpos.2 k (fun _ => h) (fun hn => absurd hn hth)) k2 hk2) ?_ rfl rfl ?_ ?_
      · (first | (simp [MH, MB, MT, MV, MV.MVs, MC.MCs, MC, renC.renCs, renC, up]; done) | (simp [MH, MB, MT, MV, MV.MVs, MC.MCs, MC, renC.renCs, renC, up]; omega) | (simp [MH, MB, MT, MV, MV.MVs, MC.MCs, MC, renC.renCs, renC, up] <;> omega))
      · simp [MV, MV.MVs, MC, MC.MCs]
      cbv
      refine m_cond_t hX (by subst hX; rfl) ?_
      cbv
      obtain ⟨G2, g0, hk3⟩ := hk1 hne hth
      refine ⟨_, _, [some 2], ?_, rfl, rfl, ?_, hk3⟩
      · simp [MH, MB, g0, MC.MCs, MC]
      · simp [MV, MC, up]
end Go.Proofs.YtdijdlkljeibjaaDoor.AM
namespace Go.Proofs.YtdijdlkljeibjaaDoor.AM
open Go Go.RowKit
set_option cbv.warning false
set_option maxRecDepth 100000
set_option linter.unusedVariables false
set_option linter.unusedSimpArgs false
theorem bodied_37 : Bodied Tryd.prog 37 := ⟨Tryd.f37, by kernel_rfl, by kernel_rfl, by kernel_rfl⟩
structure La where
  x0 : Int
  y0 : Int
  x1 : Int
  y1 : Int
  t : Int
  X : Int
  Y : Int
def lc (l : La) : List C := [.int .i64 l.x0, .int .i64 l.y0, .int .i64 l.x1, .int .i64 l.y1, .int .i64 l.t, .int .i64 l.X, .int .i64 l.Y]
def La.zero : La := ⟨0, 0, 0, 0, 0, 0, 0⟩
/-- A row of layers. -/
abbrev lays (rw : Bool) (n : Nat) (f : Nat → La) : Option B := some (.row rw 43 7 n fun q => lc (f q))
def rev7 (n a : Nat) (f : Nat → La) (q : Nat) : La := if q < a ∨ n - 1 - a < q then f (n - 1 - q) else f q
structure Rev7I (n : Nat) (f : Nat → La) (a : Nat) (i j : Int) (g : Nat → La) : Prop where
  h1 : 2 * a ≤ n
  h2 : i = a
  h3 : j = (n - 1 - a : Int)
  h4 : ∀ q, q < n → g q = rev7 n a f q
theorem lc_MC (σ : Sg) (l : La) : MC.MCs σ (lc l) (lc l) := by simp [lc, MC.MCs, MC]
theorem Reverse7_c (W0 : World) (n : Nat) (c : Option Nat) (f : Nat → La) (hn : n ≤ 17592186044416) (k : V → Heap → Prop) (hk : k (.tup []) [lays true n fun q => f (n - 1 - q)]) : ACall Tryd.prog W0 37 [.one (.sl 0 0 n c)] [lays true n f] k := by
  refine m_body tab_ok (fn := Tryd.f37) (by kernel_rfl) rfl ?_
  intro X hX
  cbv
  refine m_loop tab_ok hX (fun b : Nat × Int × Int × (Nat → La) => Rev7I n f b.1 b.2.1 b.2.2.1 b.2.2.2) (fun b => ([.one (.sl 0 0 n c), .one .undef, .one (.int .i64 b.2.1), .one (.int .i64 b.2.2.1)] ++ List.replicate 24 (.one .undef), [lays true n b.2.2.2])) (fun b => n - b.1) ?_ ?_
  · refine ⟨⟨0, 0, n - 1, f⟩, ⟨by omega, rfl, by simp, fun q hq => ?_⟩, [some 0], ?_, rfl, rfl, ?_⟩
    · simp only [rev7]
      rw [if_neg (by omega)]
    · simp [MH, MB, MC.MCs, MC, lc]
    · subst hX
      simp [MT, MV.MVs, MV, MC, std, binS]
      exact (wrap_eq (by omega) (by omega)).symm
  · rintro ⟨a, i, j, g⟩ hb
    replace hb : Rev7I n f a i j g := hb
    cbv
    refine m_cond hX (fun h => ?_) (fun h => ?_) <;> cbv
    · refine m_draw tab_ok hX [] [13, 15] [(0,0),(1,0),(2,0),(3,0),(4,0),(5,0),(6,0),(7,1),(8,0),(9,0),(10,0),(11,1),(12,0),(13,3),(14,0),(15,3)] (by kernel_rfl) (by simp) ?_
      cbv
      subst hX
      obtain ⟨h1, h2, h3, h4⟩ := hb
      have hlt : i < j := by simpa [std, cmpS] using h
      simp only [std, binS]
      have ea : i.toNat = a := by omega
      have eb : j.toNat = n - 1 - a := by omega
      simp only [show ∀ x, Nat.add 0 x = x from Nat.zero_add, ea, eb]
      refine ⟨⟨by omega, by omega⟩, by omega, ⟨by omega, by omega⟩, by omega, ⟨by omega, by omega⟩, by omega, ⟨by omega, by omega⟩, by omega, ⟨a + 1, i + 1, j - 1, rev7 n (a + 1) f⟩, ⟨by omega, by simp [h2], by simp [h3]; omega, fun _ _ => rfl⟩, by simp; omega, [some 0], ?_, rfl, rfl, ?_⟩
      · simp only [MH, MB]
        refine ⟨⟨by simp, by simp, by simp, by simp, fun q hq => ?_⟩, trivial⟩
        have e1 : ∀ (c : Prop) [Decidable c] (x y : La), (if c then splice (lc x) 0 (lc y) else lc x) = lc (if c then y else x) := by
          intro c _ x y
          split <;> rfl
        have e2 := e1 (q = a) (g q) (g (n - 1 - a))
        have e3 := e1 (q = n - 1 - a) (if q = a then g (n - 1 - a) else g q) (g a)
        have e4 : lc (rev7 n (a + 1) f q) = lc (if q = n - 1 - a then g a else if q = a then g (n - 1 - a) else g q) := by
          rw [h4 a (by omega), h4 (n - 1 - a) (by omega), h4 q hq]
          simp only [rev7]
          congr 1
          (repeat' split) <;> first | rfl | omega | (exfalso; omega) | (congr 1; omega)
        refine Eq.mp (congrArg (MC.MCs _ (lc (rev7 n (a + 1) f q))) ?_) (lc_MC _ _)
        rw [e4, ← e3, ← e2]
        rfl
      · simp [MT, MV.MVs, MV, MC]
        exact ⟨(wrap_eq (by omega) (by omega)).symm, (wrap_eq (by omega) (by omega)).symm⟩
    · obtain ⟨h1, h2, h3, h4⟩ := hb
      have hlt : ¬ i < j := by subst hX; simpa [std, cmpS] using h
      refine ⟨_, _, [some 0], ?_, rfl, rfl, ?_, hk⟩
      · simp only [MH, MB]
        refine ⟨⟨by simp, by simp, by simp, by simp, fun q hq => ?_⟩, trivial⟩
        have : f (n - 1 - q) = g q := by
          rw [h4 q hq]
          simp only [rev7]
          split
          · rfl
          · congr 1
            omega
        show MC.MCs _ (lc (f (n - 1 - q))) (lc (g q))
        rw [this]
        exact lc_MC _ _
      · simp [MV, MV.MVs]
end Go.Proofs.YtdijdlkljeibjaaDoor.AM
namespace Go.Proofs.YtdijdlkljeibjaaDoor.AM
open Go Go.RowKit
set_option cbv.warning false
set_option maxRecDepth 100000
set_option linter.unusedVariables false
set_option linter.unusedSimpArgs false
/-- Nothing is there of a layer. -/
def La.emp (l : La) : Prop := l.x1 ≤ l.x0 ∨ l.y1 ≤ l.y0
instance (l : La) : Decidable l.emp := by unfold La.emp; exact inferInstance
def La.a (l : La) : Int := bA l.t l.X l.Y l.x0 l.y0 l.x1 l.y1
def La.b (l : La) : Int := bB l.t l.X l.Y l.x0 l.y0 l.x1 l.y1
def La.c (l : La) : Int := bC l.t l.X l.Y l.x0 l.y0 l.x1 l.y1
def La.d (l : La) : Int := bD l.t l.X l.Y l.x0 l.y0 l.x1 l.y1
theorem La.box (l : La) : IsBox l.t l.X l.Y l.x0 l.y0 l.x1 l.y1 l.a l.b l.c l.d := ⟨rfl, rfl, rfl, rfl⟩
/-- A layer whose numbers are near. -/
structure La.Near (K : Int) (l : La) : Prop where
  t : Tu l.t
  X : Nr K l.X
  Y : Nr K l.Y
  x0 : Nr K l.x0
  y0 : Nr K l.y0
  x1 : Nr K l.x1
  y1 : Nr K l.y1
instance (upr : Bool) (n a b c d : Int) : Decidable (thru upr n a b c d) := by unfold thru; exact inferInstance
/-- A layer's part. -/
def La.part (l : La) (r0 r1 r2 r3 : Int) : La := ⟨bA (tBack l.t) (-dX (tBack l.t) l.X l.Y) (-dY (tBack l.t) l.X l.Y) r0 r1 r2 r3, bB (tBack l.t) (-dX (tBack l.t) l.X l.Y) (-dY (tBack l.t) l.X l.Y) r0 r1 r2 r3,
  bC (tBack l.t) (-dX (tBack l.t) l.X l.Y) (-dY (tBack l.t) l.X l.Y) r0 r1 r2 r3, bD (tBack l.t) (-dX (tBack l.t) l.X l.Y) (-dY (tBack l.t) l.X l.Y) r0 r1 r2 r3, l.t, l.X, l.Y⟩
theorem IsPart.eq {l : La} {r0 r1 r2 r3 c0 c1 c2 c3 : Int} (h : IsPart l.t l.X l.Y r0 r1 r2 r3 c0 c1 c2 c3) : (⟨c0, c1, c2, c3, l.t, l.X, l.Y⟩ : La) = l.part r0 r1 r2 r3 := by
  obtain ⟨rfl, rfl, rfl, rfl⟩ := h
  rfl
def cutL (upr : Bool) (n : Int) (l : La) : List La :=
  if l.emp then [] else if thru upr n l.a l.b l.c l.d then [l.part l.a l.b (if upr then n else l.c) (if upr then l.d else n), l.part (if upr then n else l.a) (if upr then l.b else n) l.c l.d] else [l]
/-- It lies on the side that is turned over. -/
def mvB (upr low : Bool) (n : Int) (l : La) : Bool := decide (eE upr l.c l.d ≤ n) == low
/-- Turned over. -/
def layF (upr : Bool) (n : Int) (l : La) : La := ⟨l.x0, l.y0, l.x1, l.y1, tThen l.t (fT upr), dX (fT upr) l.X l.Y + fX upr n, dY (fT upr) l.X l.Y + fY upr n⟩
abbrev rowL (rw : Bool) (M : List La) : Option B := lays rw M.length fun q => M.getD q La.zero
/-- A row tells a list. -/
structure Tells (u : Nat) (f : Nat → La) (M : List La) : Prop where
  n : u = M.length
  f : ∀ q, q < u → f q = M.getD q La.zero
theorem Tells.mk' (M : List La) : Tells M.length (fun q => M.getD q La.zero) M := ⟨rfl, fun _ _ => rfl⟩
theorem CutG_c (W0 : World) (upr : Bool) (n : Int) (l : La) (hl : l.Near 576460752303423488) (hat : Nr 576460752303423488 n) (he : ¬ l.emp) (k : V → Heap → Prop)
    (hk : ∀ b : Nat × (Nat → La), Tells b.1 b.2 (cutL upr n l) → k (.one (.sl 0 0 b.1 (some b.1))) [lays true b.1 b.2]) : ACall Tryd.prog W0 34 [.agg (lc l), .one (.bool upr), .one (.int .i64 n)] [] k := by
  refine Cut_c W0 upr n l.t l.X l.Y l.x0 l.y0 l.x1 l.y1 l.a l.b l.c l.d l.box hl.t hl.X hl.Y hl.x0 hl.y0 hl.x1 hl.y1 hat k (fun h => absurd h he) (fun _ ht => ?_) (fun _ ht c0 c1 c2 c3 d0 d1 d2 d3 hc hd => ?_)
  · have e : cutL upr n l = [l] := by unfold cutL; rw [if_neg he, if_neg ht]
    rw [e] at hk
    exact ⟨_, rfl, hk (1, fun q => [l].getD q La.zero) ⟨rfl, fun _ _ => rfl⟩⟩
  · have e : cutL upr n l = [⟨c0, c1, c2, c3, l.t, l.X, l.Y⟩, ⟨d0, d1, d2, d3, l.t, l.X, l.Y⟩] := by unfold cutL; rw [if_neg he, if_pos ht, IsPart.eq hc, IsPart.eq hd]
    rw [e] at hk
    exact ⟨_, ⟨rfl, rfl⟩, hk (2, fun q => ([⟨c0, c1, c2, c3, l.t, l.X, l.Y⟩, ⟨d0, d1, d2, d3, l.t, l.X, l.Y⟩] : List La).getD q La.zero) ⟨rfl, fun _ _ => rfl⟩⟩
end Go.Proofs.YtdijdlkljeibjaaDoor.AM
namespace Go.Proofs.YtdijdlkljeibjaaDoor.AM
open Go Go.RowKit
set_option cbv.warning false
set_option maxRecDepth 100000
set_option linter.unusedVariables false
set_option linter.unusedSimpArgs false
theorem bodied_19 : Bodied Tryd.prog 19 := ⟨Tryd.f19, by kernel_rfl, by kernel_rfl, by kernel_rfl⟩
theorem bodied_34 : Bodied Tryd.prog 34 := ⟨Tryd.f34, by kernel_rfl, by kernel_rfl, by kernel_rfl⟩
def mvL (upr low : Bool) (n : Int) (ps : List La) : List La := (ps.filter (mvB upr low n)).map (layF upr n)
def rsL (upr low : Bool) (n : Int) (ps : List La) : List La := ps.filter fun z => !mvB upr low n z
def oneL (upr low under : Bool) (n : Int) (xs : List La) : List La :=
  if under then rsL upr low n (xs.flatMap (cutL upr n)) ++ (mvL upr low n (xs.flatMap (cutL upr n))).reverse else (mvL upr low n (xs.flatMap (cutL upr n))).reverse ++ rsL upr low n (xs.flatMap (cutL upr n))
theorem La.Near.up {K L : Int} {l : La} (h : l.Near K) (hl : K ≤ L) : l.Near L := ⟨h.t, h.X.up hl, h.Y.up hl, h.x0.up hl, h.y0.up hl, h.x1.up hl, h.y1.up hl⟩
theorem La.Near.part {K : Int} {l : La} (h : l.Near K) {r0 r1 r2 r3 : Int} (h0 : Nr (2 * K) r0) (h1 : Nr (2 * K) r1) (h2 : Nr (2 * K) r2) (h3 : Nr (2 * K) r3) : (l.part r0 r1 r2 r3).Near (4 * K) := by
  have hK : 0 ≤ K := by obtain ⟨p, q⟩ := h.X; omega
  obtain ⟨q1, q2⟩ := Nr.dX h.t.back h.X h.Y
  obtain ⟨p0, p1, p2, p3⟩ := (IsBox.nr (L := 4 * K) (K := 2 * K) ⟨rfl, rfl, rfl, rfl⟩ h.t.back (q1.neg.up (by omega)) (q2.neg.up (by omega)) h0 h1 h2 h3 (by omega))
  exact ⟨h.t, h.X.up (by omega), h.Y.up (by omega), p0, p1, p2, p3⟩
theorem cutL_near {K : Int} {upr : Bool} {n : Int} {l z : La} (h : l.Near K) (hn : Nr K n) (hz : z ∈ cutL upr n l) : z.Near (4 * K) := by
  have hK : 0 ≤ K := by obtain ⟨p, q⟩ := hn; omega
  obtain ⟨p0, p1, p2, p3⟩ := l.box.nr (L := 2 * K) h.t h.X h.Y h.x0 h.y0 h.x1 h.y1 (by omega)
  have hn' : Nr (2 * K) n := hn.up (by omega)
  unfold cutL at hz
  split at hz
  · cases hz
  · split at hz
    · simp only [List.mem_cons, List.not_mem_nil, or_false] at hz
      rcases hz with rfl | rfl <;> cases upr <;> exact h.part (by assumption) (by assumption) (by assumption) (by assumption)
    · simp only [List.mem_cons, List.not_mem_nil, or_false] at hz
      subst hz
      exact h.up (by omega)
theorem cutL_len (upr : Bool) (n : Int) (l : La) : (cutL upr n l).length ≤ 2 := by
  unfold cutL
  split
  · simp
  · split <;> simp
structure OneI (upr low : Bool) (n : Int) (xs : List La) (a : Nat) (i : Int) (u : Nat) (f : Nat → La) (v : Nat) (g : Nat → La) : Prop where
  h : a ≤ xs.length
  ei : i = a
  eM : Tells u f (mvL upr low n ((xs.take a).flatMap (cutL upr n)))
  eR : Tells v g (rsL upr low n ((xs.take a).flatMap (cutL upr n)))
  len : u + v ≤ 2 * a
structure OneJ (upr low : Bool) (n : Int) (xs : List La) (a : Nat) (P : List La) (b : Nat) (j : Int) (u : Nat) (f : Nat → La) (v : Nat) (g : Nat → La) : Prop where
  h : b ≤ P.length
  ej : j = b
  eM : Tells u f (mvL upr low n ((xs.take a).flatMap (cutL upr n) ++ P.take b))
  eR : Tells v g (rsL upr low n ((xs.take a).flatMap (cutL upr n) ++ P.take b))
  len : u + v ≤ 2 * a + b
theorem mvL_snoc (upr low : Bool) (n : Int) (A : List La) (z : La) : mvL upr low n (A ++ [z]) = mvL upr low n A ++ (if mvB upr low n z then [layF upr n z] else []) := by
  unfold mvL
  rw [List.filter_append, List.map_append]
  congr 1
  cases h : mvB upr low n z <;> simp [h]
theorem rsL_snoc (upr low : Bool) (n : Int) (A : List La) (z : La) : rsL upr low n (A ++ [z]) = rsL upr low n A ++ (if mvB upr low n z then [] else [z]) := by
  unfold rsL
  rw [List.filter_append]
  congr 1
  cases h : mvB upr low n z <;> simp [h]
theorem mvB_of {upr low : Bool} {n : Int} {z : La} {b : Bool} (h : b = true ↔ (eE upr z.c z.d ≤ n ↔ low = true)) : b = mvB upr low n z := by
  unfold mvB
  by_cases hd : eE upr z.c z.d ≤ n <;> cases low <;> cases b <;> simp [hd] at h ⊢
theorem getD_take_succ (xs : List La) (a : Nat) (h : a < xs.length) : xs.take (a + 1) = xs.take a ++ [xs.getD a La.zero] := by
  rw [List.take_succ_eq_append_getElem h]
  congr 2
  simp [h]
theorem Tells.snoc {v : Nat} {g : Nat → La} {A : List La} (h : Tells v g A) (z : La) : ∃ g' : Nat → La, Tells (v + 1) g' (A ++ [z]) ∧ (∀ q, q < v → g' q = g q) ∧ g' v = z := by
  have hn := h.n
  refine ⟨fun q => (A ++ [z]).getD q La.zero, ⟨by simp [hn], fun _ _ => rfl⟩, fun q hq => ?_, ?_⟩
  · rw [h.f q hq]
    simp only [List.getD_eq_getElem?_getD]
    rw [List.getElem?_append_left (by omega)]
  · simp only [List.getD_eq_getElem?_getD]
    rw [hn, List.getElem?_append_right (by omega)]
    simp
theorem IsThen.layF {upr : Bool} {n a b c q0 q1 q2 : Int} {z : La} (hf : IsFlip upr n a b c) (h : IsThen z.t z.X z.Y a b c q0 q1 q2) : (⟨z.x0, z.y0, z.x1, z.y1, q0, q1, q2⟩ : La) = AM.layF upr n z := by
  obtain ⟨rfl, rfl, rfl⟩ := hf
  obtain ⟨rfl, rfl, rfl⟩ := h
  rfl
theorem fT_tu (upr : Bool) : Tu (fT upr) := by cases upr <;> exact ⟨by decide, by decide⟩
theorem fX_nr {K n : Int} {upr : Bool} (h : Nr K n) : Nr (2 * K) (fX upr n) := by
  obtain ⟨h1, h2⟩ := h
  cases upr <;> constructor <;> simp [fX] <;> omega
theorem fY_nr {K n : Int} {upr : Bool} (h : Nr K n) : Nr (2 * K) (fY upr n) := by
  obtain ⟨h1, h2⟩ := h
  cases upr <;> constructor <;> simp [fY] <;> omega
theorem Tells.rev {u : Nat} {f : Nat → La} {B : List La} (h : Tells u f B) : Tells u (fun q => f (u - 1 - q)) B.reverse := by
  have hn := h.n
  refine ⟨by simp [hn], fun q hq => ?_⟩
  show f (u - 1 - q) = _
  rw [h.f _ (by omega)]
  simp only [List.getD_eq_getElem?_getD]
  rw [List.getElem?_reverse (by omega), hn]
theorem Tells.app {v u : Nat} {g f : Nat → La} {A B : List La} (h : Tells v g A) (k : Tells u f B) : (A ++ B).length = v + u ∧ (∀ q, q < v → (A ++ B).getD q La.zero = g q) ∧ ∀ q, q < u → (A ++ B).getD (v + q) La.zero = f q := by
  have h1 := h.n
  have h2 := k.n
  refine ⟨by simp [h1, h2], fun q hq => ?_, fun q hq => ?_⟩
  · rw [h.f q hq]
    simp only [List.getD_eq_getElem?_getD]
    rw [List.getElem?_append_left (by omega)]
  · rw [k.f q hq]
    simp only [List.getD_eq_getElem?_getD]
    rw [List.getElem?_append_right (by omega), h1]
    congr 2
    omega
theorem allOk_lc (z : La) : allOk (lc z) = true := rfl
end Go.Proofs.YtdijdlkljeibjaaDoor.AM
