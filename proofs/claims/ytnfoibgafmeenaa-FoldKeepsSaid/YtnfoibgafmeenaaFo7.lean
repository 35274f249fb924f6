/- The reference's turn of a matrix, Then and Back, as contracts on the abstract machine. No condition but that the numbers are near. -/
import Derived.Test.YtnfoibgafmeenaaFo6
namespace Go.Proofs.Ytnfoibgafmeenaa.AM
open Go Go.RowKit
set_option cbv.warning false
set_option maxRecDepth 100000
set_option linter.unusedVariables false
set_option linter.unusedSimpArgs false
structure UpI (s i : Int) : Prop where
  h0 : 0 ≤ i
  h1 : i ≤ s
/-- ref03.Turn -/
theorem RTurn_c (W0 : World) (s a b c d : Int) (hs : Tu s) (hM : IsM s a b c d) (k : V → Heap → Prop) (hk : k (.one (.int .i64 s)) []) : ACall Try.prog W0 76 [.agg [.int .i64 a, .int .i64 b, .int .i64 c, .int .i64 d]] [] k := by
  have hs2 := hs.hi
  have hs1 := hs.lo
  refine m_body tab_ok (fn := Try.f76) (by kernel_rfl) rfl ?_
  intro X hX
  cbv
  refine m_loop tab_ok hX (fun i : Int => UpI s i) (fun i => ([.one .undef, .one (.ptr 0 0 0), .one .undef, .one (.int .i64 i)] ++ List.replicate 9 (.one .undef), [some (.box 115 [.int .i64 a, .int .i64 b, .int .i64 c, .int .i64 d])])) (fun i => (8 - i).toNat) ?_ ?_
  · refine ⟨0, ⟨by omega, hs1⟩, [some 0], ?_, rfl, rfl, ?_⟩
    · simp [MH, MB, MC.MCs, MC]
    · simp [MT, MV.MVs, MV, MC]
  · intro i hb
    replace hb : UpI s i := hb
    have h0 := hb.h0
    have h1 := hb.h1
    cbv
    refine m_cond_t hX (by subst hX; simp [std, cmpS]; omega) ?_
    cbv
    refine m_drawT tab_ok hX [] [] (.one 0 0 (.one 2 1 (.one 1 2 (.one 3 0 .fin)))) (by kernel_rfl) (by simp) ?_
    cbv
    refine m_callq hX [] bodied_78 (fun k2 hk2 => OfM_c W0 i ⟨by omega, by omega⟩ k2 hk2) ?_ rfl rfl ?_ ?_
    · (first | (simp [MH, MB, MT, MV, MV.MVs, MC.MCs, MC, renC.renCs, renC, up]; done) | (simp [MH, MB, MT, MV, MV.MVs, MC.MCs, MC, renC.renCs, renC, up]; omega) | (simp [MH, MB, MT, MV, MV.MVs, MC.MCs, MC, renC.renCs, renC, up] <;> omega))
    · simp [MV, MV.MVs, MC, MC.MCs]
    intro p hp
    obtain ⟨a', b', c', d'⟩ := p
    replace hp : IsM i a' b' c' d' := hp
    cbv
    refine m_eqInts hX (.inl rfl) eq115 [a', b', c', d'] [a, b, c, d] rfl rfl rfl rfl (hp.wf ⟨by omega, by omega⟩) (hM.wf hs) ?_
    intro e he
    cbv
    cases e with
    | true =>
      have h2 := he.1 rfl
      simp only [List.cons.injEq, and_true] at h2
      obtain ⟨rfl, rfl, rfl, rfl⟩ := h2
      have h3 := IsM.inj (i := i) (s := s) ⟨by omega, by omega⟩ hs hp hM
      subst h3
      refine m_cond_t hX (by subst hX; rfl) ?_
      cbv
      refine ⟨_, _, [], by simp [MH], rfl, rfl, ?_, hk⟩
      simp [MV, MC]
    | false =>
      have hne : i ≠ s := fun h => by
        subst h
        have : [a', b', c', d'] = [a, b, c, d] := by rw [hp.a, hp.b, hp.c, hp.d, hM.a, hM.b, hM.c, hM.d]
        cases he.2 this
      refine m_cond_f hX (by subst hX; rfl) ?_
      cbv
      refine ⟨i + 1, ⟨by omega, by omega⟩, by omega, [some 0], ?_, rfl, rfl, ?_⟩
      · simp [MH, MB, MC.MCs, MC]
      · subst hX
        simp [MT, MV.MVs, MV, MC, std, binS]
        exact (wrap_eq (by omega) (by omega)).symm
/-- ref04.Then -/
theorem RThen_c (W0 : World) (t X0 Y0 t' X1 Y1 : Int) (ht : Tu t) (ht' : Tu t') (hX0 : Nr 1152921504606846976 X0) (hY0 : Nr 1152921504606846976 Y0) (hX1 : Nr 1152921504606846976 X1) (hY1 : Nr 1152921504606846976 Y1) (k : V → Heap → Prop) (hk : ∀ b : Int × Int × Int, IsThen t X0 Y0 t' X1 Y1 b.1 b.2.1 b.2.2 → k (.agg [.int .i64 b.1, .int .i64 b.2.1, .int .i64 b.2.2]) []) : ACall Try.prog W0 62 [.agg [.int .i64 t, .int .i64 X0, .int .i64 Y0], .agg [.int .i64 t', .int .i64 X1, .int .i64 Y1]] [] k := by
  obtain ⟨z, hz⟩ : ∃ z, z = tThen t t' := ⟨_, rfl⟩
  have hzt : Tu z := hz ▸ (then_all ht ht').1
  refine m_body tab_ok (fn := Try.f62) (by kernel_rfl) rfl ?_
  intro X hX
  cbv
  refine m_callq hX [] bodied_75 (fun k2 hk2 => RPDo_c W0 t' X1 Y1 X0 Y0 ht' hX1 hY1 hX0 hY0 k2 hk2) ?_ rfl rfl ?_ ?_
  · (first | (simp [MH, MB, MT, MV, MV.MVs, MC.MCs, MC, renC.renCs, renC, up]; done) | (simp [MH, MB, MT, MV, MV.MVs, MC.MCs, MC, renC.renCs, renC, up]; omega) | (simp [MH, MB, MT, MV, MV.MVs, MC.MCs, MC, renC.renCs, renC, up] <;> omega))
  · simp [MV, MV.MVs, MC, MC.MCs]
  intro b hb
  obtain ⟨u, v⟩ := b
  have hu : u = dX t' X0 Y0 + X1 := hb.1
  have hv : v = dY t' X0 Y0 + Y1 := hb.2
  clear hb
  cbv
  refine m_drawT tab_ok hX [] [13] (.one 0 0 (.one 3 0 (.one 8 0 (.one 10 0 (.one 1 1 (.one 4 1 (.one 9 1 (.one 11 1 (.one 2 2 (.one 5 2 (.one 6 2 (.one 7 2 (.one 12 0 (.one 13 3 .fin)))))))))))))) (by kernel_rfl) (by simp) ?_
  cbv
  refine m_callq hX [] bodied_78 (fun k2 hk2 => OfM_c W0 t ht k2 hk2) ?_ rfl rfl ?_ ?_
  · (first | (simp [MH, MB, MT, MV, MV.MVs, MC.MCs, MC, renC.renCs, renC, up]; done) | (simp [MH, MB, MT, MV, MV.MVs, MC.MCs, MC, renC.renCs, renC, up]; omega) | (simp [MH, MB, MT, MV, MV.MVs, MC.MCs, MC, renC.renCs, renC, up] <;> omega))
  · simp [MV, MV.MVs, MC, MC.MCs]
  intro p hp
  obtain ⟨a, b, c, d⟩ := p
  replace hp : IsM t a b c d := hp
  cbv
  refine m_callq hX [] bodied_78 (fun k2 hk2 => OfM_c W0 t' ht' k2 hk2) ?_ rfl rfl ?_ ?_
  · (first | (simp [MH, MB, MT, MV, MV.MVs, MC.MCs, MC, renC.renCs, renC, up]; done) | (simp [MH, MB, MT, MV, MV.MVs, MC.MCs, MC, renC.renCs, renC, up]; omega) | (simp [MH, MB, MT, MV, MV.MVs, MC.MCs, MC, renC.renCs, renC, up] <;> omega))
  · simp [MV, MV.MVs, MC, MC.MCs]
  intro q hq
  obtain ⟨a', b', c', d'⟩ := q
  replace hq : IsM t' a' b' c' d' := hq
  cbv
  refine m_callq hX [] bodied_77 (fun k2 hk2 => RThenM_c W0 t t' a b c d a' b' c' d' ht ht' hp hq k2 hk2) ?_ rfl rfl ?_ ?_
  · (first | (simp [MH, MB, MT, MV, MV.MVs, MC.MCs, MC, renC.renCs, renC, up]; done) | (simp [MH, MB, MT, MV, MV.MVs, MC.MCs, MC, renC.renCs, renC, up]; omega) | (simp [MH, MB, MT, MV, MV.MVs, MC.MCs, MC, renC.renCs, renC, up] <;> omega))
  · simp [MV, MV.MVs, MC, MC.MCs]
  intro q2 hq2
  obtain ⟨e0, e1, e2, e3⟩ := q2
  replace hq2 : IsM (tThen t t') e0 e1 e2 e3 := hq2
  rw [← hz] at hq2
  cbv
  refine m_callf hX [] bodied_76 (fun k2 hk2 => RTurn_c W0 z e0 e1 e2 e3 hzt hq2 k2 hk2) ?_ rfl rfl ?_ ?_
  · (first | (simp [MH, MB, MT, MV, MV.MVs, MC.MCs, MC, renC.renCs, renC, up]; done) | (simp [MH, MB, MT, MV, MV.MVs, MC.MCs, MC, renC.renCs, renC, up]; omega) | (simp [MH, MB, MT, MV, MV.MVs, MC.MCs, MC, renC.renCs, renC, up] <;> omega))
  · simp [MV, MV.MVs, MC, MC.MCs]
  cbv
  refine ⟨_, _, [], by simp [MH], rfl, rfl, ?_, hk (z, u, v) ⟨hz, hu, hv⟩⟩
  simp [MV, MC, MC.MCs]
/-- ref04.Back -/
theorem RBack_c (W0 : World) (t X0 Y0 : Int) (ht : Tu t) (hX0 : Nr 1152921504606846976 X0) (hY0 : Nr 1152921504606846976 Y0) (k : V → Heap → Prop) (hk : ∀ b : Int × Int × Int, IsBack t X0 Y0 b.1 b.2.1 b.2.2 → k (.agg [.int .i64 b.1, .int .i64 b.2.1, .int .i64 b.2.2]) []) : ACall Try.prog W0 86 [.agg [.int .i64 t, .int .i64 X0, .int .i64 Y0]] [] k := by
  obtain ⟨s, hs⟩ : ∃ s, s = tBack t := ⟨_, rfl⟩
  have hst : Tu s := hs ▸ ht.back
  have hs2 := hst.hi
  have hs1 := hst.lo
  refine m_body tab_ok (fn := Try.f86) (by kernel_rfl) rfl ?_
  intro X hX
  cbv
  refine m_loop tab_ok hX (fun i : Int => UpI s i) (fun i => ([.one .undef, .one (.ptr 0 0 0), .one (.ptr 1 0 0), .one (.int .i64 i)] ++ List.replicate 31 (.one .undef), [some (.box 67 [.int .i64 t, .int .i64 X0, .int .i64 Y0]), some (.box 67 [.int .i64 0, .int .i64 0, .int .i64 0])])) (fun i => (8 - i).toNat) ?_ ?_
  · refine ⟨0, ⟨by omega, hs1⟩, [some 0, some 1], ?_, rfl, rfl, ?_⟩
    · simp [MH, MB, MC.MCs, MC, zi]
    · simp [MT, MV.MVs, MV, MC]
  · intro i hb
    replace hb : UpI s i := hb
    have h0 := hb.h0
    have h1 := hb.h1
    have hi : Tu i := ⟨by omega, by omega⟩
    cbv
    refine m_cond_t hX (by subst hX; simp [std, cmpS]; omega) ?_
    cbv
    refine m_callq hX [] bodied_78 (fun k2 hk2 => OfM_c W0 t ht k2 hk2) ?_ rfl rfl ?_ ?_
    · (first | (simp [MH, MB, MT, MV, MV.MVs, MC.MCs, MC, renC.renCs, renC, up]; done) | (simp [MH, MB, MT, MV, MV.MVs, MC.MCs, MC, renC.renCs, renC, up]; omega) | (simp [MH, MB, MT, MV, MV.MVs, MC.MCs, MC, renC.renCs, renC, up] <;> omega))
    · simp [MV, MV.MVs, MC, MC.MCs]
    intro p hp
    obtain ⟨a, b, c, d⟩ := p
    replace hp : IsM t a b c d := hp
    cbv
    refine m_callq hX [] bodied_78 (fun k2 hk2 => OfM_c W0 i hi k2 hk2) ?_ rfl rfl ?_ ?_
    · (first | (simp [MH, MB, MT, MV, MV.MVs, MC.MCs, MC, renC.renCs, renC, up]; done) | (simp [MH, MB, MT, MV, MV.MVs, MC.MCs, MC, renC.renCs, renC, up]; omega) | (simp [MH, MB, MT, MV, MV.MVs, MC.MCs, MC, renC.renCs, renC, up] <;> omega))
    · simp [MV, MV.MVs, MC, MC.MCs]
    intro q hq
    obtain ⟨a', b', c', d'⟩ := q
    replace hq : IsM i a' b' c' d' := hq
    cbv
    refine m_callq hX [] bodied_77 (fun k2 hk2 => RThenM_c W0 t i a b c d a' b' c' d' ht hi hp hq k2 hk2) ?_ rfl rfl ?_ ?_
    · (first | (simp [MH, MB, MT, MV, MV.MVs, MC.MCs, MC, renC.renCs, renC, up]; done) | (simp [MH, MB, MT, MV, MV.MVs, MC.MCs, MC, renC.renCs, renC, up]; omega) | (simp [MH, MB, MT, MV, MV.MVs, MC.MCs, MC, renC.renCs, renC, up] <;> omega))
    · simp [MV, MV.MVs, MC, MC.MCs]
    intro q2 hq2
    obtain ⟨e0, e1, e2, e3⟩ := q2
    replace hq2 : IsM (tThen t i) e0 e1 e2 e3 := hq2
    cbv
    refine m_callq hX [] bodied_78 (fun k2 hk2 => OfM_c W0 0 ⟨by omega, by omega⟩ k2 hk2) ?_ rfl rfl ?_ ?_
    · (first | (simp [MH, MB, MT, MV, MV.MVs, MC.MCs, MC, renC.renCs, renC, up]; done) | (simp [MH, MB, MT, MV, MV.MVs, MC.MCs, MC, renC.renCs, renC, up]; omega) | (simp [MH, MB, MT, MV, MV.MVs, MC.MCs, MC, renC.renCs, renC, up] <;> omega))
    · simp [MV, MV.MVs, MC, MC.MCs]
    intro q3 hq3
    obtain ⟨o0, o1, o2, o3⟩ := q3
    replace hq3 : IsM 0 o0 o1 o2 o3 := hq3
    cbv
    obtain ⟨j1, _, j3⟩ := then_all ht hi
    refine m_eqInts hX (.inl rfl) eq115 [e0, e1, e2, e3] [o0, o1, o2, o3] rfl rfl rfl rfl (hq2.wf j1) (hq3.wf ⟨by omega, by omega⟩) ?_
    intro e he
    cbv
    cases e with
    | true =>
      have h2 := he.1 rfl
      simp only [List.cons.injEq, and_true] at h2
      obtain ⟨rfl, rfl, rfl, rfl⟩ := h2
      have h3 := IsM.inj j1 ⟨by omega, by omega⟩ hq2 hq3
      have h4 := j3.1 h3
      rw [← hs] at h4
      subst h4
      refine m_cond_t hX (by subst hX; rfl) ?_
      cbv
      refine m_drawT tab_ok hX [] [] (.one 0 0 (.one 2 0 (.one 4 0 (.one 3 1 (.one 5 1 (.one 1 2 (.one 6 2 (.one 7 0 (.one 8 0 (.one 9 0 (.one 10 0 (.one 11 0 .fin)))))))))))) (by kernel_rfl) (by simp) ?_
      cbv
      refine m_callq hX [] bodied_78 (fun k2 hk2 => OfM_c W0 i hi k2 hk2) ?_ rfl rfl ?_ ?_
      · (first | (simp [MH, MB, MT, MV, MV.MVs, MC.MCs, MC, renC.renCs, renC, up]; done) | (simp [MH, MB, MT, MV, MV.MVs, MC.MCs, MC, renC.renCs, renC, up]; omega) | (simp [MH, MB, MT, MV, MV.MVs, MC.MCs, MC, renC.renCs, renC, up] <;> omega))
      · simp [MV, MV.MVs, MC, MC.MCs]
      intro q4 hq4
      obtain ⟨y0, y1, y2, y3⟩ := q4
      replace hq4 : IsM i y0 y1 y2 y3 := hq4
      cbv
      refine m_callq hX [] bodied_87 (fun k2 hk2 => RDo_c W0 i y0 y1 y2 y3 X0 Y0 hi hq4 (hX0.up (by omega)) (hY0.up (by omega)) k2 hk2) ?_ rfl rfl ?_ ?_
      · (first | (simp [MH, MB, MT, MV, MV.MVs, MC.MCs, MC, renC.renCs, renC, up]; done) | (simp [MH, MB, MT, MV, MV.MVs, MC.MCs, MC, renC.renCs, renC, up]; omega) | (simp [MH, MB, MT, MV, MV.MVs, MC.MCs, MC, renC.renCs, renC, up] <;> omega))
      · simp [MV, MV.MVs, MC, MC.MCs]
      intro q5 hq5
      obtain ⟨u, v⟩ := q5
      have hu : u = dX i X0 Y0 := hq5.1
      have hv : v = dY i X0 Y0 := hq5.2
      clear hq5
      cbv
      obtain ⟨n1, n2⟩ := Nr.dX hi hX0 hY0
      rw [← hu] at n1
      rw [← hv] at n2
      have e1 := negN n1 (by omega) hX
      have e2 := negN n2 (by omega) hX
      refine ⟨_, _, [], by simp [MH], rfl, rfl, ?_, hk (i, -u, -v) ⟨hs, by rw [← hs, hu], by rw [← hs, hv]⟩⟩
      show MV _ (.agg [.int .i64 i, .int .i64 (-u), .int .i64 (-v)]) (.agg [.int .i64 i, .int .i64 (X.bin .sub .i64 0 u), .int .i64 (X.bin .sub .i64 0 v)])
      rw [e1, e2]
      simp [MV, MC, MC.MCs]
    | false =>
      have hne : i ≠ s := fun h => by
        have h5 : tThen t i = 0 := j3.2 (h.trans hs)
        rw [h5] at hq2
        have : [e0, e1, e2, e3] = [o0, o1, o2, o3] := by rw [hq2.a, hq2.b, hq2.c, hq2.d, hq3.a, hq3.b, hq3.c, hq3.d]
        cases he.2 this
      refine m_cond_f hX (by subst hX; rfl) ?_
      cbv
      refine ⟨i + 1, ⟨by omega, by omega⟩, by omega, [some 0, some 1], ?_, rfl, rfl, ?_⟩
      · simp [MH, MB, MC.MCs, MC, zi]
      · subst hX
        simp [MT, MV.MVs, MV, MC, std, binS]
        exact (wrap_eq (by omega) (by omega)).symm
end Go.Proofs.Ytnfoibgafmeenaa.AM
