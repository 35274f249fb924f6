/- The reference's Half, as a contract on the abstract machine. No condition but that the numbers are near. -/
import Derived.Test.YtnfoibgafmeenaaFo8
namespace Go.Proofs.Ytnfoibgafmeenaa.AM
open Go Go.RowKit
set_option cbv.warning false
set_option maxRecDepth 100000
set_option linter.unusedVariables false
set_option linter.unusedSimpArgs false
theorem m_gen4 {A : (Nat → Nat → List V → Heap → Prop) → Prop} {k : Nat → Nat → List V → Heap → Prop} (h : ∀ K : Nat → Nat → List V → Heap → Prop, (∀ e n T H, k e n T H → K e n T H) → A K) : A k := h k fun _ _ _ _ h => h
/-- One side of a rectangle at a line. -/
def hA (up low : Bool) (at_ a : Int) : Int := if up = true ∧ low = false then max a at_ else a
def hB (up low : Bool) (at_ a : Int) : Int := if up = false ∧ low = false then max a at_ else a
def hC (up low : Bool) (at_ a : Int) : Int := if up = true ∧ low = true then min a at_ else a
def hD (up low : Bool) (at_ a : Int) : Int := if up = false ∧ low = true then min a at_ else a
/-- What is kept of a layer on one side of a line. -/
structure HalfR (x0 y0 x1 y1 t X Y : Int) (up : Bool) (at_ : Int) (low : Bool) (e : Bool) (c0 c1 c2 c3 c4 c5 c6 : Int) : Prop where
  h : ∃ la lb lc ld, IsBox t X Y x0 y0 x1 y1 la lb lc ld ∧ KeepR x0 y0 x1 y1 t X Y (hA up low at_ la) (hB up low at_ lb) (hC up low at_ lc) (hD up low at_ ld) e c0 c1 c2 c3 c4 c5 c6
set_option maxHeartbeats 2000000 in
theorem RHalf_c (W0 : World) (t X0 Y0 x0 y0 x1 y1 at_ : Int) (upr low : Bool) (ht : Tu t) (hX0 : Nr 576460752303423488 X0) (hY0 : Nr 576460752303423488 Y0) (hx0 : Nr 576460752303423488 x0) (hy0 : Nr 576460752303423488 y0) (hx1 : Nr 576460752303423488 x1) (hy1 : Nr 576460752303423488 y1) (hat : Nr 576460752303423488 at_)
    (k : V → Heap → Prop) (hk : ∀ b : Bool × Int × Int × Int × Int × Int × Int × Int, HalfR x0 y0 x1 y1 t X0 Y0 upr at_ low b.1 b.2.1 b.2.2.1 b.2.2.2.1 b.2.2.2.2.1 b.2.2.2.2.2.1 b.2.2.2.2.2.2.1 b.2.2.2.2.2.2.2 → k (.tup [.agg [.int .i64 b.2.1, .int .i64 b.2.2.1, .int .i64 b.2.2.2.1, .int .i64 b.2.2.2.2.1, .int .i64 b.2.2.2.2.2.1, .int .i64 b.2.2.2.2.2.2.1, .int .i64 b.2.2.2.2.2.2.2], .one (.bool b.1)]) []) :
    ACall Try.prog W0 61 [.agg [.int .i64 x0, .int .i64 y0, .int .i64 x1, .int .i64 y1, .int .i64 t, .int .i64 X0, .int .i64 Y0], .one (.bool upr), .one (.int .i64 at_), .one (.bool low)] [] k := by
  have hK : (576460752303423488 : Int) ≤ 1152921504606846976 := by decide
  refine m_body tab_ok (fn := Try.f61) (by kernel_rfl) rfl ?_
  intro X hX
  cbv
  refine m_callq hX [] bodied_45 (fun k2 hk2 => RLies_c W0 t X0 Y0 x0 y0 x1 y1 ht (hX0.up hK) (hY0.up hK) (hx0.up hK) (hy0.up hK) (hx1.up hK) (hy1.up hK) k2 hk2) ?_ rfl rfl ?_ ?_
  · (first | (simp [MH, MB, MT, MV, MV.MVs, MC.MCs, MC, renC.renCs, renC, up]; done) | (simp [MH, MB, MT, MV, MV.MVs, MC.MCs, MC, renC.renCs, renC, up]; omega) | (simp [MH, MB, MT, MV, MV.MVs, MC.MCs, MC, renC.renCs, renC, up] <;> omega))
  · simp [MV, MV.MVs, MC, MC.MCs]
  intro b hb
  obtain ⟨la, lb, lc, ld⟩ := b
  replace hb : IsBox t X0 Y0 x0 y0 x1 y1 la lb lc ld := hb
  obtain ⟨j0, j1, j2, j3⟩ := hb.nr (L := 1152921504606846976) ht hX0 hY0 hx0 hy0 hx1 hy1 (by decide)
  cbv
  cases upr with
  | true =>
    cases low with
    | true =>
      by_cases hc : at_ < lc
      · have hc : at_ < lc := hc
        repeat' (first | (refine m_cond_t hX (by first | rfl | assumption | (subst hX; rfl)) ?_; cbv) | (refine m_cond_f hX (by first | rfl | assumption | (subst hX; rfl)) ?_; cbv) | fail)
        refine m_cond_t hX (by subst hX; simp [std, cmpS, binS]; try omega) ?_
        cbv
        refine m_callq hX [] bodied_74 (fun k2 hk2 => RKeep_c W0 t X0 Y0 x0 y0 x1 y1 la lb at_ ld ht hX0 hY0 hx0 hy0 hx1 hy1 j0 j1 (hat.up hK) j3 k2 hk2) ?_ rfl rfl ?_ ?_
        · (first | (simp [MH, MB, MT, MV, MV.MVs, MC.MCs, MC, renC.renCs, renC, up]; done) | (simp [MH, MB, MT, MV, MV.MVs, MC.MCs, MC, renC.renCs, renC, up]; omega) | (simp [MH, MB, MT, MV, MV.MVs, MC.MCs, MC, renC.renCs, renC, up] <;> omega))
        · simp [MV, MV.MVs, MC, MC.MCs]
        intro b hb2
        obtain ⟨e, c0, c1, c2, c3, c4, c5, c6⟩ := b
        replace hb2 : KeepR x0 y0 x1 y1 t X0 Y0 la lb at_ ld e c0 c1 c2 c3 c4 c5 c6 := hb2
        cbv
        refine ⟨_, _, [], by simp [MH], rfl, rfl, ?_, hk (e, c0, c1, c2, c3, c4, c5, c6) ⟨la, lb, lc, ld, hb, ?_⟩⟩
        · simp [MV, MV.MVs, MC, MC.MCs]
        · show KeepR x0 y0 x1 y1 t X0 Y0 (hA true true at_ la) (hB true true at_ lb) (hC true true at_ lc) (hD true true at_ ld) e c0 c1 c2 c3 c4 c5 c6
          have e1 : hC true true at_ lc = at_ := by simp [hC]; omega
          rw [e1]
          exact hb2
      · have hc : ¬ at_ < lc := hc
        repeat' (first | (refine m_cond_t hX (by first | rfl | assumption | (subst hX; rfl)) ?_; cbv) | (refine m_cond_f hX (by first | rfl | assumption | (subst hX; rfl)) ?_; cbv) | fail)
        refine m_cond_f hX (by subst hX; simp [std, cmpS, binS]; try omega) ?_
        cbv
        repeat' (first | (refine m_cond_t hX (by first | rfl | assumption | (subst hX; rfl)) ?_; cbv) | (refine m_cond_f hX (by first | rfl | assumption | (subst hX; rfl)) ?_; cbv) | fail)
        refine m_callq hX [] bodied_74 (fun k2 hk2 => RKeep_c W0 t X0 Y0 x0 y0 x1 y1 la lb lc ld ht hX0 hY0 hx0 hy0 hx1 hy1 j0 j1 j2 j3 k2 hk2) ?_ rfl rfl ?_ ?_
        · (first | (simp [MH, MB, MT, MV, MV.MVs, MC.MCs, MC, renC.renCs, renC, up]; done) | (simp [MH, MB, MT, MV, MV.MVs, MC.MCs, MC, renC.renCs, renC, up]; omega) | (simp [MH, MB, MT, MV, MV.MVs, MC.MCs, MC, renC.renCs, renC, up] <;> omega))
        · simp [MV, MV.MVs, MC, MC.MCs]
        intro b hb2
        obtain ⟨e, c0, c1, c2, c3, c4, c5, c6⟩ := b
        replace hb2 : KeepR x0 y0 x1 y1 t X0 Y0 la lb lc ld e c0 c1 c2 c3 c4 c5 c6 := hb2
        cbv
        refine ⟨_, _, [], by simp [MH], rfl, rfl, ?_, hk (e, c0, c1, c2, c3, c4, c5, c6) ⟨la, lb, lc, ld, hb, ?_⟩⟩
        · simp [MV, MV.MVs, MC, MC.MCs]
        · show KeepR x0 y0 x1 y1 t X0 Y0 (hA true true at_ la) (hB true true at_ lb) (hC true true at_ lc) (hD true true at_ ld) e c0 c1 c2 c3 c4 c5 c6
          have e1 : hC true true at_ lc = lc := by simp [hC]; omega
          rw [e1]
          exact hb2
    | false =>
      by_cases hc : la < at_
      · have hc : la < at_ := hc
        repeat' (first | (refine m_cond_t hX (by first | rfl | assumption | (subst hX; rfl)) ?_; cbv) | (refine m_cond_f hX (by first | rfl | assumption | (subst hX; rfl)) ?_; cbv) | fail)
        refine m_cond_t hX (by subst hX; simp [std, cmpS, binS]; try omega) ?_
        cbv
        refine m_callq hX [] bodied_74 (fun k2 hk2 => RKeep_c W0 t X0 Y0 x0 y0 x1 y1 at_ lb lc ld ht hX0 hY0 hx0 hy0 hx1 hy1 (hat.up hK) j1 j2 j3 k2 hk2) ?_ rfl rfl ?_ ?_
        · (first | (simp [MH, MB, MT, MV, MV.MVs, MC.MCs, MC, renC.renCs, renC, up]; done) | (simp [MH, MB, MT, MV, MV.MVs, MC.MCs, MC, renC.renCs, renC, up]; omega) | (simp [MH, MB, MT, MV, MV.MVs, MC.MCs, MC, renC.renCs, renC, up] <;> omega))
        · simp [MV, MV.MVs, MC, MC.MCs]
        intro b hb2
        obtain ⟨e, c0, c1, c2, c3, c4, c5, c6⟩ := b
        replace hb2 : KeepR x0 y0 x1 y1 t X0 Y0 at_ lb lc ld e c0 c1 c2 c3 c4 c5 c6 := hb2
        cbv
        refine ⟨_, _, [], by simp [MH], rfl, rfl, ?_, hk (e, c0, c1, c2, c3, c4, c5, c6) ⟨la, lb, lc, ld, hb, ?_⟩⟩
        · simp [MV, MV.MVs, MC, MC.MCs]
        · show KeepR x0 y0 x1 y1 t X0 Y0 (hA true false at_ la) (hB true false at_ lb) (hC true false at_ lc) (hD true false at_ ld) e c0 c1 c2 c3 c4 c5 c6
          have e1 : hA true false at_ la = at_ := by simp [hA]; omega
          rw [e1]
          exact hb2
      · have hc : ¬ la < at_ := hc
        repeat' (first | (refine m_cond_t hX (by first | rfl | assumption | (subst hX; rfl)) ?_; cbv) | (refine m_cond_f hX (by first | rfl | assumption | (subst hX; rfl)) ?_; cbv) | fail)
        refine m_cond_f hX (by subst hX; simp [std, cmpS, binS]; try omega) ?_
        cbv
        repeat' (first | (refine m_cond_t hX (by first | rfl | assumption | (subst hX; rfl)) ?_; cbv) | (refine m_cond_f hX (by first | rfl | assumption | (subst hX; rfl)) ?_; cbv) | fail)
        refine m_callq hX [] bodied_74 (fun k2 hk2 => RKeep_c W0 t X0 Y0 x0 y0 x1 y1 la lb lc ld ht hX0 hY0 hx0 hy0 hx1 hy1 j0 j1 j2 j3 k2 hk2) ?_ rfl rfl ?_ ?_
        · (first | (simp [MH, MB, MT, MV, MV.MVs, MC.MCs, MC, renC.renCs, renC, up]; done) | (simp [MH, MB, MT, MV, MV.MVs, MC.MCs, MC, renC.renCs, renC, up]; omega) | (simp [MH, MB, MT, MV, MV.MVs, MC.MCs, MC, renC.renCs, renC, up] <;> omega))
        · simp [MV, MV.MVs, MC, MC.MCs]
        intro b hb2
        obtain ⟨e, c0, c1, c2, c3, c4, c5, c6⟩ := b
        replace hb2 : KeepR x0 y0 x1 y1 t X0 Y0 la lb lc ld e c0 c1 c2 c3 c4 c5 c6 := hb2
        cbv
        refine ⟨_, _, [], by simp [MH], rfl, rfl, ?_, hk (e, c0, c1, c2, c3, c4, c5, c6) ⟨la, lb, lc, ld, hb, ?_⟩⟩
        · simp [MV, MV.MVs, MC, MC.MCs]
        · show KeepR x0 y0 x1 y1 t X0 Y0 (hA true false at_ la) (hB true false at_ lb) (hC true false at_ lc) (hD true false at_ ld) e c0 c1 c2 c3 c4 c5 c6
          have e1 : hA true false at_ la = la := by simp [hA]; omega
          rw [e1]
          exact hb2
  | false =>
    cases low with
    | true =>
      by_cases hc : at_ < ld
      · have hc : at_ < ld := hc
        repeat' (first | (refine m_cond_t hX (by first | rfl | assumption | (subst hX; rfl)) ?_; cbv) | (refine m_cond_f hX (by first | rfl | assumption | (subst hX; rfl)) ?_; cbv) | fail)
        refine m_cond_t hX (by subst hX; simp [std, cmpS, binS]; try omega) ?_
        cbv
        refine m_callq hX [] bodied_74 (fun k2 hk2 => RKeep_c W0 t X0 Y0 x0 y0 x1 y1 la lb lc at_ ht hX0 hY0 hx0 hy0 hx1 hy1 j0 j1 j2 (hat.up hK) k2 hk2) ?_ rfl rfl ?_ ?_
        · (first | (simp [MH, MB, MT, MV, MV.MVs, MC.MCs, MC, renC.renCs, renC, up]; done) | (simp [MH, MB, MT, MV, MV.MVs, MC.MCs, MC, renC.renCs, renC, up]; omega) | (simp [MH, MB, MT, MV, MV.MVs, MC.MCs, MC, renC.renCs, renC, up] <;> omega))
        · simp [MV, MV.MVs, MC, MC.MCs]
        intro b hb2
        obtain ⟨e, c0, c1, c2, c3, c4, c5, c6⟩ := b
        replace hb2 : KeepR x0 y0 x1 y1 t X0 Y0 la lb lc at_ e c0 c1 c2 c3 c4 c5 c6 := hb2
        cbv
        refine ⟨_, _, [], by simp [MH], rfl, rfl, ?_, hk (e, c0, c1, c2, c3, c4, c5, c6) ⟨la, lb, lc, ld, hb, ?_⟩⟩
        · simp [MV, MV.MVs, MC, MC.MCs]
        · show KeepR x0 y0 x1 y1 t X0 Y0 (hA false true at_ la) (hB false true at_ lb) (hC false true at_ lc) (hD false true at_ ld) e c0 c1 c2 c3 c4 c5 c6
          have e1 : hD false true at_ ld = at_ := by simp [hD]; omega
          rw [e1]
          exact hb2
      · have hc : ¬ at_ < ld := hc
        repeat' (first | (refine m_cond_t hX (by first | rfl | assumption | (subst hX; rfl)) ?_; cbv) | (refine m_cond_f hX (by first | rfl | assumption | (subst hX; rfl)) ?_; cbv) | fail)
        refine m_cond_f hX (by subst hX; simp [std, cmpS, binS]; try omega) ?_
        cbv
        repeat' (first | (refine m_cond_t hX (by first | rfl | assumption | (subst hX; rfl)) ?_; cbv) | (refine m_cond_f hX (by first | rfl | assumption | (subst hX; rfl)) ?_; cbv) | fail)
        refine m_callq hX [] bodied_74 (fun k2 hk2 => RKeep_c W0 t X0 Y0 x0 y0 x1 y1 la lb lc ld ht hX0 hY0 hx0 hy0 hx1 hy1 j0 j1 j2 j3 k2 hk2) ?_ rfl rfl ?_ ?_
        · (first | (simp [MH, MB, MT, MV, MV.MVs, MC.MCs, MC, renC.renCs, renC, up]; done) | (simp [MH, MB, MT, MV, MV.MVs, MC.MCs, MC, renC.renCs, renC, up]; omega) | (simp [MH, MB, MT, MV, MV.MVs, MC.MCs, MC, renC.renCs, renC, up] <;> omega))
        · simp [MV, MV.MVs, MC, MC.MCs]
        intro b hb2
        obtain ⟨e, c0, c1, c2, c3, c4, c5, c6⟩ := b
        replace hb2 : KeepR x0 y0 x1 y1 t X0 Y0 la lb lc ld e c0 c1 c2 c3 c4 c5 c6 := hb2
        cbv
        refine ⟨_, _, [], by simp [MH], rfl, rfl, ?_, hk (e, c0, c1, c2, c3, c4, c5, c6) ⟨la, lb, lc, ld, hb, ?_⟩⟩
        · simp [MV, MV.MVs, MC, MC.MCs]
        · show KeepR x0 y0 x1 y1 t X0 Y0 (hA false true at_ la) (hB false true at_ lb) (hC false true at_ lc) (hD false true at_ ld) e c0 c1 c2 c3 c4 c5 c6
          have e1 : hD false true at_ ld = ld := by simp [hD]; omega
          rw [e1]
          exact hb2
    | false =>
      by_cases hc : lb < at_
      · have hc : lb < at_ := hc
        repeat' (first | (refine m_cond_t hX (by first | rfl | assumption | (subst hX; rfl)) ?_; cbv) | (refine m_cond_f hX (by first | rfl | assumption | (subst hX; rfl)) ?_; cbv) | fail)
        refine m_cond_t hX (by subst hX; simp [std, cmpS, binS]; try omega) ?_
        cbv
        refine m_callq hX [] bodied_74 (fun k2 hk2 => RKeep_c W0 t X0 Y0 x0 y0 x1 y1 la at_ lc ld ht hX0 hY0 hx0 hy0 hx1 hy1 j0 (hat.up hK) j2 j3 k2 hk2) ?_ rfl rfl ?_ ?_
        · (first | (simp [MH, MB, MT, MV, MV.MVs, MC.MCs, MC, renC.renCs, renC, up]; done) | (simp [MH, MB, MT, MV, MV.MVs, MC.MCs, MC, renC.renCs, renC, up]; omega) | (simp [MH, MB, MT, MV, MV.MVs, MC.MCs, MC, renC.renCs, renC, up] <;> omega))
        · simp [MV, MV.MVs, MC, MC.MCs]
        intro b hb2
        obtain ⟨e, c0, c1, c2, c3, c4, c5, c6⟩ := b
        replace hb2 : KeepR x0 y0 x1 y1 t X0 Y0 la at_ lc ld e c0 c1 c2 c3 c4 c5 c6 := hb2
        cbv
        refine ⟨_, _, [], by simp [MH], rfl, rfl, ?_, hk (e, c0, c1, c2, c3, c4, c5, c6) ⟨la, lb, lc, ld, hb, ?_⟩⟩
        · simp [MV, MV.MVs, MC, MC.MCs]
        · show KeepR x0 y0 x1 y1 t X0 Y0 (hA false false at_ la) (hB false false at_ lb) (hC false false at_ lc) (hD false false at_ ld) e c0 c1 c2 c3 c4 c5 c6
          have e1 : hB false false at_ lb = at_ := by simp [hB]; omega
          rw [e1]
          exact hb2
      · have hc : ¬ lb < at_ := hc
        repeat' (first | (refine m_cond_t hX (by first | rfl | assumption | (subst hX; rfl)) ?_; cbv) | (refine m_cond_f hX (by first | rfl | assumption | (subst hX; rfl)) ?_; cbv) | fail)
        refine m_cond_f hX (by subst hX; simp [std, cmpS, binS]; try omega) ?_
        cbv
        repeat' (first | (refine m_cond_t hX (by first | rfl | assumption | (subst hX; rfl)) ?_; cbv) | (refine m_cond_f hX (by first | rfl | assumption | (subst hX; rfl)) ?_; cbv) | fail)
        refine m_callq hX [] bodied_74 (fun k2 hk2 => RKeep_c W0 t X0 Y0 x0 y0 x1 y1 la lb lc ld ht hX0 hY0 hx0 hy0 hx1 hy1 j0 j1 j2 j3 k2 hk2) ?_ rfl rfl ?_ ?_
        · (first | (simp [MH, MB, MT, MV, MV.MVs, MC.MCs, MC, renC.renCs, renC, up]; done) | (simp [MH, MB, MT, MV, MV.MVs, MC.MCs, MC, renC.renCs, renC, up]; omega) | (simp [MH, MB, MT, MV, MV.MVs, MC.MCs, MC, renC.renCs, renC, up] <;> omega))
        · simp [MV, MV.MVs, MC, MC.MCs]
        intro b hb2
        obtain ⟨e, c0, c1, c2, c3, c4, c5, c6⟩ := b
        replace hb2 : KeepR x0 y0 x1 y1 t X0 Y0 la lb lc ld e c0 c1 c2 c3 c4 c5 c6 := hb2
        cbv
        refine ⟨_, _, [], by simp [MH], rfl, rfl, ?_, hk (e, c0, c1, c2, c3, c4, c5, c6) ⟨la, lb, lc, ld, hb, ?_⟩⟩
        · simp [MV, MV.MVs, MC, MC.MCs]
        · show KeepR x0 y0 x1 y1 t X0 Y0 (hA false false at_ la) (hB false false at_ lb) (hC false false at_ lc) (hD false false at_ ld) e c0 c1 c2 c3 c4 c5 c6
          have e1 : hB false false at_ lb = lb := by simp [hB]; omega
          rw [e1]
          exact hb2
end Go.Proofs.Ytnfoibgafmeenaa.AM
