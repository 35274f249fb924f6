/- Matrices and layers that are compared; the reference's Then, Back. No condition but that the numbers are near. -/
import Derived.Test.YtnfoibgafmeenaaFo5
import Derived.Test.YtnfoibgafmeenaaAm22
import Derived.Test.YtnfoibgafmeenaaChecked
namespace Go.Proofs.Ytnfoibgafmeenaa.AM
open Go Go.RowKit
set_option cbv.warning false
set_option maxRecDepth 100000
set_option linter.unusedVariables false
set_option linter.unusedSimpArgs false
theorem eq115 : EqInts Try.prog 115 4 where
  key := ⟨3, by decide, by kernel_rfl⟩
  guard := by kernel_rfl
  formed zs hz := by
    have h1 : Try.prog.cellsOf 115 = 4 := by kernel_rfl
    unfold Value.formed
    rw [Try.underlying115]
    simp [h1, hz]
  lits := ⟨3, fun zs hz hw => by
    have h1 : Try.prog.cellsOf 115 = 4 := by kernel_rfl
    have h3 : Try.prog.cellsOf 3 = 1 := by kernel_rfl
    match zs, hz, hw with
    | [a, b, c, d], _, hw =>
      have wa := hw a (by simp)
      have wb := hw b (by simp)
      have wc := hw c (by simp)
      have wd := hw d (by simp)
      simp [Program.keyLits, Try.underlying115, Try.underlying3, h1, h3, wa, wb, wc, wd]⟩
theorem IsM.inj {i s a b c d : Int} (hi : Tu i) (hs : Tu s) (h : IsM i a b c d) (h' : IsM s a b c d) : i = s := by
  have e1 := h.a.symm.trans h'.a
  have e2 := h.b.symm.trans h'.b
  have e3 := h.c.symm.trans h'.c
  have e4 := h.d.symm.trans h'.d
  clear h h'
  rcases hi.cases with rfl | rfl | rfl | rfl | rfl | rfl | rfl | rfl <;> rcases hs.cases with rfl | rfl | rfl | rfl | rfl | rfl | rfl | rfl <;> first | rfl | (exfalso; revert e1; decide) | (exfalso; revert e2; decide) | (exfalso; revert e3; decide) | (exfalso; revert e4; decide)
theorem Nr.unit {x : Int} (h : x = -1 ∨ x = 0 ∨ x = 1) {K : Int} (hK : 1 ≤ K) : Nr K x := by
  constructor <;> omega
theorem dX_unit {t : Int} (ht : Tu t) : (dX t 1 0 = -1 ∨ dX t 1 0 = 0 ∨ dX t 1 0 = 1) ∧ (dY t 1 0 = -1 ∨ dY t 1 0 = 0 ∨ dY t 1 0 = 1) ∧ (dX t 0 1 = -1 ∨ dX t 0 1 = 0 ∨ dX t 0 1 = 1) ∧ (dY t 0 1 = -1 ∨ dY t 0 1 = 0 ∨ dY t 0 1 = 1) := by
  rcases ht.cases with rfl | rfl | rfl | rfl | rfl | rfl | rfl | rfl <;> decide
theorem Nr.wf {x : Int} (h : Nr 4611686018427387904 x) : (Lit.int .i64 x).wf = true := by
  obtain ⟨h1, h2⟩ := h
  simp [Lit.wf, IntKind.min, IntKind.max, IntKind.bits, IntKind.signed]
  omega
theorem IsM.wf {t a b c d : Int} (ht : Tu t) (h : IsM t a b c d) : ∀ z ∈ [a, b, c, d], (Lit.int .i64 z).wf = true := by
  obtain ⟨h1, h2, h3, h4⟩ := dX_unit ht
  obtain ⟨rfl, rfl, rfl, rfl⟩ := h
  intro z hz
  simp only [List.mem_cons, List.not_mem_nil, or_false] at hz
  rcases hz with rfl | rfl | rfl | rfl
  · exact (Nr.unit h1 (by decide)).wf
  · exact (Nr.unit h2 (by decide)).wf
  · exact (Nr.unit h3 (by decide)).wf
  · exact (Nr.unit h4 (by decide)).wf
theorem then_all {t s : Int} (ht : Tu t) (hs : Tu s) : Tu (tThen t s) ∧ IsM (tThen t s) (dX s (dX t 1 0) (dY t 1 0)) (dY s (dX t 1 0) (dY t 1 0)) (dX s (dX t 0 1) (dY t 0 1)) (dY s (dX t 0 1) (dY t 0 1)) ∧ (tThen t s = 0 ↔ s = tBack t) := by
  rcases ht.cases with rfl | rfl | rfl | rfl | rfl | rfl | rfl | rfl <;> rcases hs.cases with rfl | rfl | rfl | rfl | rfl | rfl | rfl | rfl <;>
    exact ⟨⟨by decide +kernel, by decide +kernel⟩, ⟨by decide +kernel, by decide +kernel, by decide +kernel, by decide +kernel⟩, by decide +kernel⟩
/-- ref03.Then -/
theorem RThenM_c (W0 : World) (t s a b c d a' b' c' d' : Int) (ht : Tu t) (hs : Tu s) (hM : IsM t a b c d) (hN : IsM s a' b' c' d') (k : V → Heap → Prop) (hk : ∀ b : Int × Int × Int × Int, IsM (tThen t s) b.1 b.2.1 b.2.2.1 b.2.2.2 → k (.agg [.int .i64 b.1, .int .i64 b.2.1, .int .i64 b.2.2.1, .int .i64 b.2.2.2]) []) : ACall Try.prog W0 77 [.agg [.int .i64 a, .int .i64 b, .int .i64 c, .int .i64 d], .agg [.int .i64 a', .int .i64 b', .int .i64 c', .int .i64 d']] [] k := by
  obtain ⟨u1, u2, u3, u4⟩ := dX_unit ht
  have hh := (then_all ht hs).2.1
  refine m_body tab_ok (fn := Try.f77) (by kernel_rfl) rfl ?_
  intro X hX
  cbv
  refine m_callq hX [] bodied_87 (fun k2 hk2 => RDo_c W0 s a' b' c' d' a b hs hN (hM.a ▸ Nr.unit u1 (by decide)) (hM.b ▸ Nr.unit u2 (by decide)) k2 hk2) ?_ rfl rfl ?_ ?_
  · (first | (simp [MH, MB, MT, MV, MV.MVs, MC.MCs, MC, renC.renCs, renC, up]; done) | (simp [MH, MB, MT, MV, MV.MVs, MC.MCs, MC, renC.renCs, renC, up]; omega) | (simp [MH, MB, MT, MV, MV.MVs, MC.MCs, MC, renC.renCs, renC, up] <;> omega))
  · simp [MV, MV.MVs, MC, MC.MCs]
  intro p hp
  obtain ⟨u, v⟩ := p
  have hu : u = dX s a b := hp.1
  have hv : v = dY s a b := hp.2
  clear hp
  cbv
  refine m_callq hX [] bodied_87 (fun k2 hk2 => RDo_c W0 s a' b' c' d' c d hs hN (hM.c ▸ Nr.unit u3 (by decide)) (hM.d ▸ Nr.unit u4 (by decide)) k2 hk2) ?_ rfl rfl ?_ ?_
  · (first | (simp [MH, MB, MT, MV, MV.MVs, MC.MCs, MC, renC.renCs, renC, up]; done) | (simp [MH, MB, MT, MV, MV.MVs, MC.MCs, MC, renC.renCs, renC, up]; omega) | (simp [MH, MB, MT, MV, MV.MVs, MC.MCs, MC, renC.renCs, renC, up] <;> omega))
  · simp [MV, MV.MVs, MC, MC.MCs]
  intro p hp
  obtain ⟨u', v'⟩ := p
  have hu' : u' = dX s c d := hp.1
  have hv' : v' = dY s c d := hp.2
  clear hp
  cbv
  refine ⟨_, _, [], by simp [MH], rfl, rfl, ?_, hk (u, v, u', v') ?_⟩
  · simp [MV, MC, MC.MCs]
  · show IsM (tThen t s) u v u' v'
    rw [hu, hv, hu', hv', hM.a, hM.b, hM.c, hM.d]
    exact hh
end Go.Proofs.Ytnfoibgafmeenaa.AM
