/- Layers that are cut and laid, as contracts on the abstract machine. No condition but that the numbers are near. -/
import Derived.Test.YtnfoibgafmeenaaFo3
namespace Go.Proofs.Ytnfoibgafmeenaa.AM
open Go Go.RowKit
set_option cbv.warning false
set_option maxRecDepth 100000
set_option linter.unusedVariables false
set_option linter.unusedSimpArgs false
theorem Nr.neg {K x : Int} (h : Nr K x) : Nr K (-x) := by
  obtain ⟨h1, h2⟩ := h
  exact ⟨by omega, by omega⟩
theorem Tu.back {t : Int} (h : Tu t) : Tu (tBack t) := by
  rcases h.cases with rfl | rfl | rfl | rfl | rfl | rfl | rfl | rfl <;> exact ⟨by decide, by decide⟩
/-- The place that undoes one. -/
structure IsBack (t X Y a b c : Int) : Prop where
  a : a = tBack t
  b : b = -dX (tBack t) X Y
  c : c = -dY (tBack t) X Y
/-- place.Back -/
theorem PBack_c (W0 : World) (t X0 Y0 : Int) (ht : Tu t) (hX0 : Nr 1152921504606846976 X0) (hY0 : Nr 1152921504606846976 Y0) (k : V → Heap → Prop) (hk : ∀ b : Int × Int × Int, IsBack t X0 Y0 b.1 b.2.1 b.2.2 → k (.agg [.int .i64 b.1, .int .i64 b.2.1, .int .i64 b.2.2]) []) : ACall Try.prog W0 82 [.agg [.int .i64 t, .int .i64 X0, .int .i64 Y0]] [] k := by
  refine m_body tab_ok (fn := Try.f82) (by kernel_rfl) rfl ?_
  intro X hX
  cbv
  refine m_callq hX [] bodied_88 (fun k2 hk2 => TBack_c W0 t ht k2 hk2) ?_ rfl rfl ?_ ?_
  · (first | (simp [MH, MB, MT, MV, MV.MVs, MC.MCs, MC, renC.renCs, renC, up]; done) | (simp [MH, MB, MT, MV, MV.MVs, MC.MCs, MC, renC.renCs, renC, up]; omega) | (simp [MH, MB, MT, MV, MV.MVs, MC.MCs, MC, renC.renCs, renC, up] <;> omega))
  · simp [MV, MV.MVs, MC, MC.MCs]
  intro z hz
  cbv
  replace hz : z = tBack t := hz
  have hzt : Tu z := hz ▸ ht.back
  refine m_callq hX [] bodied_89 (fun k2 hk2 => Do_c W0 z X0 Y0 hzt (hX0.up (by omega)) (hY0.up (by omega)) k2 hk2) ?_ rfl rfl ?_ ?_
  · (first | (simp [MH, MB, MT, MV, MV.MVs, MC.MCs, MC, renC.renCs, renC, up]; done) | (simp [MH, MB, MT, MV, MV.MVs, MC.MCs, MC, renC.renCs, renC, up]; omega) | (simp [MH, MB, MT, MV, MV.MVs, MC.MCs, MC, renC.renCs, renC, up] <;> omega))
  · simp [MV, MV.MVs, MC, MC.MCs]
  intro b hb
  obtain ⟨u, v⟩ := b
  have hu : u = dX z X0 Y0 := hb.1
  have hv : v = dY z X0 Y0 := hb.2
  clear hb
  cbv
  obtain ⟨n1, n2⟩ := Nr.dX hzt hX0 hY0
  rw [← hu] at n1
  rw [← hv] at n2
  have e1 := negN n1 (by omega) hX
  have e2 := negN n2 (by omega) hX
  refine ⟨_, _, [], by simp [MH], rfl, rfl, ?_, hk (z, -u, -v) ⟨hz, by rw [← hz, hu], by rw [← hz, hv]⟩⟩
  show MV _ (.agg [.int .i64 z, .int .i64 (-u), .int .i64 (-v)]) (.agg [.int .i64 z, .int .i64 (X.bin .sub .i64 0 u), .int .i64 (X.bin .sub .i64 0 v)])
  rw [e1, e2]
  simp [MV, MC, MC.MCs]
/-- The one place, then the other one. -/
structure IsThen (t X Y t' X' Y' a b c : Int) : Prop where
  a : a = tThen t t'
  b : b = dX t' X Y + X'
  c : c = dY t' X Y + Y'
/-- place.Then -/
theorem PThen_c (W0 : World) (t X0 Y0 t' X1 Y1 : Int) (ht : Tu t) (ht' : Tu t') (hX0 : Nr 1152921504606846976 X0) (hY0 : Nr 1152921504606846976 Y0) (hX1 : Nr 1152921504606846976 X1) (hY1 : Nr 1152921504606846976 Y1) (k : V → Heap → Prop) (hk : ∀ b : Int × Int × Int, IsThen t X0 Y0 t' X1 Y1 b.1 b.2.1 b.2.2 → k (.agg [.int .i64 b.1, .int .i64 b.2.1, .int .i64 b.2.2]) []) : ACall Try.prog W0 71 [.agg [.int .i64 t, .int .i64 X0, .int .i64 Y0], .agg [.int .i64 t', .int .i64 X1, .int .i64 Y1]] [] k := by
  refine m_body tab_ok (fn := Try.f71) (by kernel_rfl) rfl ?_
  intro X hX
  cbv
  refine m_callq hX [] bodied_83 (fun k2 hk2 => PDo_c W0 t' X1 Y1 X0 Y0 ht' hX1 hY1 hX0 hY0 k2 hk2) ?_ rfl rfl ?_ ?_
  · (first | (simp [MH, MB, MT, MV, MV.MVs, MC.MCs, MC, renC.renCs, renC, up]; done) | (simp [MH, MB, MT, MV, MV.MVs, MC.MCs, MC, renC.renCs, renC, up]; omega) | (simp [MH, MB, MT, MV, MV.MVs, MC.MCs, MC, renC.renCs, renC, up] <;> omega))
  · simp [MV, MV.MVs, MC, MC.MCs]
  intro b hb
  obtain ⟨u, v⟩ := b
  have hu : u = dX t' X0 Y0 + X1 := hb.1
  have hv : v = dY t' X0 Y0 + Y1 := hb.2
  clear hb
  cbv
  refine m_drawT tab_ok hX [] [10] (.one 0 0 (.one 2 0 (.one 5 0 (.one 7 0 (.one 1 1 (.one 3 1 (.one 6 1 (.one 8 1 (.one 4 2 (.one 9 0 (.one 10 3 .fin))))))))))) (by kernel_rfl) (by simp) ?_
  cbv
  refine m_callq hX [] bodied_84 (fun k2 hk2 => TThen_c W0 t t' ht ht' k2 hk2) ?_ rfl rfl ?_ ?_
  · (first | (simp [MH, MB, MT, MV, MV.MVs, MC.MCs, MC, renC.renCs, renC, up]; done) | (simp [MH, MB, MT, MV, MV.MVs, MC.MCs, MC, renC.renCs, renC, up]; omega) | (simp [MH, MB, MT, MV, MV.MVs, MC.MCs, MC, renC.renCs, renC, up] <;> omega))
  · simp [MV, MV.MVs, MC, MC.MCs]
  intro z hz
  cbv
  refine ⟨_, _, [], by simp [MH], rfl, rfl, ?_, hk (z, u, v) ⟨hz, hu, hv⟩⟩
  simp [MV, MC, MC.MCs]
/-- layer.Lies -/
theorem LLies_c (W0 : World) (t X0 Y0 x0 y0 x1 y1 : Int) (ht : Tu t) (hX0 : Nr 1152921504606846976 X0) (hY0 : Nr 1152921504606846976 Y0) (hx0 : Nr 1152921504606846976 x0) (hy0 : Nr 1152921504606846976 y0) (hx1 : Nr 1152921504606846976 x1) (hy1 : Nr 1152921504606846976 y1)
    (k : V → Heap → Prop) (hk : ∀ b : Int × Int × Int × Int, IsBox t X0 Y0 x0 y0 x1 y1 b.1 b.2.1 b.2.2.1 b.2.2.2 → k (.agg [.int .i64 b.1, .int .i64 b.2.1, .int .i64 b.2.2.1, .int .i64 b.2.2.2]) []) : ACall Try.prog W0 69 [.agg [.int .i64 x0, .int .i64 y0, .int .i64 x1, .int .i64 y1, .int .i64 t, .int .i64 X0, .int .i64 Y0]] [] k := by
  refine m_body tab_ok (fn := Try.f69) (by kernel_rfl) rfl ?_
  intro X hX
  cbv
  refine m_callq hX [] bodied_81 (fun k2 hk2 => PBox_c W0 t X0 Y0 x0 y0 x1 y1 ht hX0 hY0 hx0 hy0 hx1 hy1 k2 hk2) ?_ rfl rfl ?_ ?_
  · (first | (simp [MH, MB, MT, MV, MV.MVs, MC.MCs, MC, renC.renCs, renC, up]; done) | (simp [MH, MB, MT, MV, MV.MVs, MC.MCs, MC, renC.renCs, renC, up]; omega) | (simp [MH, MB, MT, MV, MV.MVs, MC.MCs, MC, renC.renCs, renC, up] <;> omega))
  · simp [MV, MV.MVs, MC, MC.MCs]
  intro b hb
  obtain ⟨a, b, c, d⟩ := b
  replace hb : IsBox t X0 Y0 x0 y0 x1 y1 a b c d := hb
  cbv
  refine ⟨_, _, [], by simp [MH], rfl, rfl, ?_, hk (a, b, c, d) hb⟩
  simp [MV, MC, MC.MCs]
/-- layer.Lay -/
theorem LLay_c (W0 : World) (t X0 Y0 x0 y0 x1 y1 t' X1 Y1 : Int) (ht : Tu t) (ht' : Tu t') (hX0 : Nr 1152921504606846976 X0) (hY0 : Nr 1152921504606846976 Y0) (hX1 : Nr 1152921504606846976 X1) (hY1 : Nr 1152921504606846976 Y1) (k : V → Heap → Prop) (hk : ∀ b : Int × Int × Int, IsThen t X0 Y0 t' X1 Y1 b.1 b.2.1 b.2.2 → k (.agg [.int .i64 x0, .int .i64 y0, .int .i64 x1, .int .i64 y1, .int .i64 b.1, .int .i64 b.2.1, .int .i64 b.2.2]) []) : ACall Try.prog W0 58 [.agg [.int .i64 x0, .int .i64 y0, .int .i64 x1, .int .i64 y1, .int .i64 t, .int .i64 X0, .int .i64 Y0], .agg [.int .i64 t', .int .i64 X1, .int .i64 Y1]] [] k := by
  refine m_body tab_ok (fn := Try.f58) (by kernel_rfl) rfl ?_
  intro X hX
  cbv
  refine m_callq hX [] bodied_71 (fun k2 hk2 => PThen_c W0 t X0 Y0 t' X1 Y1 ht ht' hX0 hY0 hX1 hY1 k2 hk2) ?_ rfl rfl ?_ ?_
  · (first | (simp [MH, MB, MT, MV, MV.MVs, MC.MCs, MC, renC.renCs, renC, up]; done) | (simp [MH, MB, MT, MV, MV.MVs, MC.MCs, MC, renC.renCs, renC, up]; omega) | (simp [MH, MB, MT, MV, MV.MVs, MC.MCs, MC, renC.renCs, renC, up] <;> omega))
  · simp [MV, MV.MVs, MC, MC.MCs]
  intro b hb
  obtain ⟨a, b, c⟩ := b
  replace hb : IsThen t X0 Y0 t' X1 Y1 a b c := hb
  cbv
  refine ⟨_, _, [], by simp [MH], rfl, rfl, ?_, hk (a, b, c) hb⟩
  simp [MV, MC, MC.MCs]
/-- layer.part -/
theorem LPart_c (W0 : World) (t X0 Y0 x0 y0 x1 y1 r0 r1 r2 r3 : Int) (ht : Tu t) (hX0 : Nr 1152921504606846976 X0) (hY0 : Nr 1152921504606846976 Y0) (h0 : Nr 1152921504606846976 r0) (h1 : Nr 1152921504606846976 r1) (h2 : Nr 1152921504606846976 r2) (h3 : Nr 1152921504606846976 r3)
    (k : V → Heap → Prop) (hk : ∀ b : Int × Int × Int × Int, IsBox (tBack t) (-dX (tBack t) X0 Y0) (-dY (tBack t) X0 Y0) r0 r1 r2 r3 b.1 b.2.1 b.2.2.1 b.2.2.2 → k (.agg [.int .i64 b.1, .int .i64 b.2.1, .int .i64 b.2.2.1, .int .i64 b.2.2.2, .int .i64 t, .int .i64 X0, .int .i64 Y0]) []) : ACall Try.prog W0 70 [.agg [.int .i64 x0, .int .i64 y0, .int .i64 x1, .int .i64 y1, .int .i64 t, .int .i64 X0, .int .i64 Y0], .agg [.int .i64 r0, .int .i64 r1, .int .i64 r2, .int .i64 r3]] [] k := by
  refine m_body tab_ok (fn := Try.f70) (by kernel_rfl) rfl ?_
  intro X hX
  cbv
  refine m_drawT tab_ok hX [] [6] (.one 0 0 (.one 1 1 (.one 3 1 (.one 2 2 (.one 4 2 (.one 5 0 (.one 6 3 .fin))))))) (by kernel_rfl) (by simp) ?_
  cbv
  refine m_callq hX [] bodied_82 (fun k2 hk2 => PBack_c W0 t X0 Y0 ht hX0 hY0 k2 hk2) ?_ rfl rfl ?_ ?_
  · (first | (simp [MH, MB, MT, MV, MV.MVs, MC.MCs, MC, renC.renCs, renC, up]; done) | (simp [MH, MB, MT, MV, MV.MVs, MC.MCs, MC, renC.renCs, renC, up]; omega) | (simp [MH, MB, MT, MV, MV.MVs, MC.MCs, MC, renC.renCs, renC, up] <;> omega))
  · simp [MV, MV.MVs, MC, MC.MCs]
  intro b hb
  obtain ⟨z, u, v⟩ := b
  replace hb : IsBack t X0 Y0 z u v := hb
  cbv
  obtain ⟨hz, hu, hv⟩ := hb
  obtain ⟨n1, n2⟩ := Nr.dX ht.back hX0 hY0
  refine m_callq hX [] bodied_81 (fun k2 hk2 => PBox_c W0 z u v r0 r1 r2 r3 (hz ▸ ht.back) (hu ▸ n1.neg) (hv ▸ n2.neg) h0 h1 h2 h3 k2 hk2) ?_ rfl rfl ?_ ?_
  · (first | (simp [MH, MB, MT, MV, MV.MVs, MC.MCs, MC, renC.renCs, renC, up]; done) | (simp [MH, MB, MT, MV, MV.MVs, MC.MCs, MC, renC.renCs, renC, up]; omega) | (simp [MH, MB, MT, MV, MV.MVs, MC.MCs, MC, renC.renCs, renC, up] <;> omega))
  · simp [MV, MV.MVs, MC, MC.MCs]
  intro b hb
  obtain ⟨a, b, c, d⟩ := b
  replace hb : IsBox z u v r0 r1 r2 r3 a b c d := hb
  cbv
  rw [hz, hu, hv] at hb
  refine ⟨_, _, [], by simp [MH], rfl, rfl, ?_, hk (a, b, c, d) hb⟩
  simp [MV, MC, MC.MCs]
end Go.Proofs.Ytnfoibgafmeenaa.AM
