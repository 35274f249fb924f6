/- The reference's turns and places, as contracts on the abstract machine. No condition but that the numbers are near. -/
import Derived.Test.YtnfoibgafmeenaaFo4
namespace Go.Proofs.Ytnfoibgafmeenaa.AM
open Go Go.RowKit
set_option cbv.warning false
set_option maxRecDepth 100000
set_option linter.unusedVariables false
set_option linter.unusedSimpArgs false
theorem bodied_44 : Bodied Try.prog 44 := ⟨Try.f44, by kernel_rfl, by kernel_rfl, by kernel_rfl⟩
theorem bodied_45 : Bodied Try.prog 45 := ⟨Try.f45, by kernel_rfl, by kernel_rfl, by kernel_rfl⟩
theorem bodied_62 : Bodied Try.prog 62 := ⟨Try.f62, by kernel_rfl, by kernel_rfl, by kernel_rfl⟩
theorem bodied_63 : Bodied Try.prog 63 := ⟨Try.f63, by kernel_rfl, by kernel_rfl, by kernel_rfl⟩
theorem bodied_74 : Bodied Try.prog 74 := ⟨Try.f74, by kernel_rfl, by kernel_rfl, by kernel_rfl⟩
theorem bodied_75 : Bodied Try.prog 75 := ⟨Try.f75, by kernel_rfl, by kernel_rfl, by kernel_rfl⟩
theorem bodied_76 : Bodied Try.prog 76 := ⟨Try.f76, by kernel_rfl, by kernel_rfl, by kernel_rfl⟩
theorem bodied_77 : Bodied Try.prog 77 := ⟨Try.f77, by kernel_rfl, by kernel_rfl, by kernel_rfl⟩
theorem bodied_78 : Bodied Try.prog 78 := ⟨Try.f78, by kernel_rfl, by kernel_rfl, by kernel_rfl⟩
theorem bodied_79 : Bodied Try.prog 79 := ⟨Try.f79, by kernel_rfl, by kernel_rfl, by kernel_rfl⟩
theorem bodied_80 : Bodied Try.prog 80 := ⟨Try.f80, by kernel_rfl, by kernel_rfl, by kernel_rfl⟩
theorem bodied_85 : Bodied Try.prog 85 := ⟨Try.f85, by kernel_rfl, by kernel_rfl, by kernel_rfl⟩
theorem bodied_86 : Bodied Try.prog 86 := ⟨Try.f86, by kernel_rfl, by kernel_rfl, by kernel_rfl⟩
theorem bodied_87 : Bodied Try.prog 87 := ⟨Try.f87, by kernel_rfl, by kernel_rfl, by kernel_rfl⟩
/-- A turn's matrix. -/
structure IsM (t a b c d : Int) : Prop where
  a : a = dX t 1 0
  b : b = dY t 1 0
  c : c = dX t 0 1
  d : d = dY t 0 1
theorem OfM_0 (W0 : World) (k : V → Heap → Prop) (hk : ∀ b : Int × Int × Int × Int, IsM 0 b.1 b.2.1 b.2.2.1 b.2.2.2 → k (.agg [.int .i64 b.1, .int .i64 b.2.1, .int .i64 b.2.2.1, .int .i64 b.2.2.2]) []) : ACall Try.prog W0 78 [.one (.int .i64 0)] [] k := by
  refine m_body tab_ok (fn := Try.f78) (by kernel_rfl) rfl ?_
  intro X hX
  cbv
  refine m_cond_f hX (by subst hX; rfl) ?_
  cbv
  refine m_rounds [()] tab_ok hX ?_
  refine aloop_step fun L0 hL0 K0 hK0 => ?_
  cbv
  refine ⟨by subst hX; exact show (4 : Int) ≠ 0 from by decide, ?_⟩
  refine m_cond_f hX (by subst hX; rfl) ?_
  cbv
  refine hK0 _ _ _ _ ?_
  cbv
  refine ⟨_, _, [], by simp [MH], rfl, rfl, ?_, hk (1, 0, 0, 1) ⟨rfl, rfl, rfl, rfl⟩⟩
  subst hX
  exact ⟨⟨rfl, rfl⟩, ⟨rfl, rfl⟩, ⟨rfl, rfl⟩, ⟨rfl, rfl⟩, trivial⟩
theorem OfM_1 (W0 : World) (k : V → Heap → Prop) (hk : ∀ b : Int × Int × Int × Int, IsM 1 b.1 b.2.1 b.2.2.1 b.2.2.2 → k (.agg [.int .i64 b.1, .int .i64 b.2.1, .int .i64 b.2.2.1, .int .i64 b.2.2.2]) []) : ACall Try.prog W0 78 [.one (.int .i64 1)] [] k := by
  refine m_body tab_ok (fn := Try.f78) (by kernel_rfl) rfl ?_
  intro X hX
  cbv
  refine m_cond_f hX (by subst hX; rfl) ?_
  cbv
  refine m_rounds [(), ()] tab_ok hX ?_
  refine aloop_step fun L0 hL0 K0 hK0 => ?_
  cbv
  refine ⟨by subst hX; exact show (4 : Int) ≠ 0 from by decide, ?_⟩
  refine m_cond_t hX (by subst hX; rfl) ?_
  cbv
  refine hL0 _ _ ?_
  refine aloop_step fun L1 hL1 K1 hK1 => ?_
  cbv
  refine ⟨by subst hX; exact show (4 : Int) ≠ 0 from by decide, ?_⟩
  refine m_cond_f hX (by subst hX; rfl) ?_
  cbv
  refine hK1 _ _ _ _ ?_
  cbv
  refine ⟨_, _, [], by simp [MH], rfl, rfl, ?_, hk (0, 1, -1, 0) ⟨rfl, rfl, rfl, rfl⟩⟩
  subst hX
  exact ⟨⟨rfl, rfl⟩, ⟨rfl, rfl⟩, ⟨rfl, rfl⟩, ⟨rfl, rfl⟩, trivial⟩
theorem OfM_2 (W0 : World) (k : V → Heap → Prop) (hk : ∀ b : Int × Int × Int × Int, IsM 2 b.1 b.2.1 b.2.2.1 b.2.2.2 → k (.agg [.int .i64 b.1, .int .i64 b.2.1, .int .i64 b.2.2.1, .int .i64 b.2.2.2]) []) : ACall Try.prog W0 78 [.one (.int .i64 2)] [] k := by
  refine m_body tab_ok (fn := Try.f78) (by kernel_rfl) rfl ?_
  intro X hX
  cbv
  refine m_cond_f hX (by subst hX; rfl) ?_
  cbv
  refine m_rounds [(), (), ()] tab_ok hX ?_
  refine aloop_step fun L0 hL0 K0 hK0 => ?_
  cbv
  refine ⟨by subst hX; exact show (4 : Int) ≠ 0 from by decide, ?_⟩
  refine m_cond_t hX (by subst hX; rfl) ?_
  cbv
  refine hL0 _ _ ?_
  refine aloop_step fun L1 hL1 K1 hK1 => ?_
  cbv
  refine ⟨by subst hX; exact show (4 : Int) ≠ 0 from by decide, ?_⟩
  refine m_cond_t hX (by subst hX; rfl) ?_
  cbv
  refine hL1 _ _ ?_
  refine aloop_step fun L2 hL2 K2 hK2 => ?_
  cbv
  refine ⟨by subst hX; exact show (4 : Int) ≠ 0 from by decide, ?_⟩
  refine m_cond_f hX (by subst hX; rfl) ?_
  cbv
  refine hK2 _ _ _ _ ?_
  cbv
  refine ⟨_, _, [], by simp [MH], rfl, rfl, ?_, hk (-1, 0, 0, -1) ⟨rfl, rfl, rfl, rfl⟩⟩
  subst hX
  exact ⟨⟨rfl, rfl⟩, ⟨rfl, rfl⟩, ⟨rfl, rfl⟩, ⟨rfl, rfl⟩, trivial⟩
theorem OfM_3 (W0 : World) (k : V → Heap → Prop) (hk : ∀ b : Int × Int × Int × Int, IsM 3 b.1 b.2.1 b.2.2.1 b.2.2.2 → k (.agg [.int .i64 b.1, .int .i64 b.2.1, .int .i64 b.2.2.1, .int .i64 b.2.2.2]) []) : ACall Try.prog W0 78 [.one (.int .i64 3)] [] k := by
  refine m_body tab_ok (fn := Try.f78) (by kernel_rfl) rfl ?_
  intro X hX
  cbv
  refine m_cond_f hX (by subst hX; rfl) ?_
  cbv
  refine m_rounds [(), (), (), ()] tab_ok hX ?_
  refine aloop_step fun L0 hL0 K0 hK0 => ?_
  cbv
  refine ⟨by subst hX; exact show (4 : Int) ≠ 0 from by decide, ?_⟩
  refine m_cond_t hX (by subst hX; rfl) ?_
  cbv
  refine hL0 _ _ ?_
  refine aloop_step fun L1 hL1 K1 hK1 => ?_
  cbv
  refine ⟨by subst hX; exact show (4 : Int) ≠ 0 from by decide, ?_⟩
  refine m_cond_t hX (by subst hX; rfl) ?_
  cbv
  refine hL1 _ _ ?_
  refine aloop_step fun L2 hL2 K2 hK2 => ?_
  cbv
  refine ⟨by subst hX; exact show (4 : Int) ≠ 0 from by decide, ?_⟩
  refine m_cond_t hX (by subst hX; rfl) ?_
  cbv
  refine hL2 _ _ ?_
  refine aloop_step fun L3 hL3 K3 hK3 => ?_
  cbv
  refine ⟨by subst hX; exact show (4 : Int) ≠ 0 from by decide, ?_⟩
  refine m_cond_f hX (by subst hX; rfl) ?_
  cbv
  refine hK3 _ _ _ _ ?_
  cbv
  refine ⟨_, _, [], by simp [MH], rfl, rfl, ?_, hk (0, -1, 1, 0) ⟨rfl, rfl, rfl, rfl⟩⟩
  subst hX
  exact ⟨⟨rfl, rfl⟩, ⟨rfl, rfl⟩, ⟨rfl, rfl⟩, ⟨rfl, rfl⟩, trivial⟩
theorem OfM_4 (W0 : World) (k : V → Heap → Prop) (hk : ∀ b : Int × Int × Int × Int, IsM 4 b.1 b.2.1 b.2.2.1 b.2.2.2 → k (.agg [.int .i64 b.1, .int .i64 b.2.1, .int .i64 b.2.2.1, .int .i64 b.2.2.2]) []) : ACall Try.prog W0 78 [.one (.int .i64 4)] [] k := by
  refine m_body tab_ok (fn := Try.f78) (by kernel_rfl) rfl ?_
  intro X hX
  cbv
  refine m_cond_t hX (by subst hX; rfl) ?_
  cbv
  refine m_rounds [()] tab_ok hX ?_
  refine aloop_step fun L0 hL0 K0 hK0 => ?_
  cbv
  refine ⟨by subst hX; exact show (4 : Int) ≠ 0 from by decide, ?_⟩
  refine m_cond_f hX (by subst hX; rfl) ?_
  cbv
  refine hK0 _ _ _ _ ?_
  cbv
  refine ⟨_, _, [], by simp [MH], rfl, rfl, ?_, hk (-1, 0, 0, 1) ⟨rfl, rfl, rfl, rfl⟩⟩
  subst hX
  exact ⟨⟨rfl, rfl⟩, ⟨rfl, rfl⟩, ⟨rfl, rfl⟩, ⟨rfl, rfl⟩, trivial⟩
theorem OfM_5 (W0 : World) (k : V → Heap → Prop) (hk : ∀ b : Int × Int × Int × Int, IsM 5 b.1 b.2.1 b.2.2.1 b.2.2.2 → k (.agg [.int .i64 b.1, .int .i64 b.2.1, .int .i64 b.2.2.1, .int .i64 b.2.2.2]) []) : ACall Try.prog W0 78 [.one (.int .i64 5)] [] k := by
  refine m_body tab_ok (fn := Try.f78) (by kernel_rfl) rfl ?_
  intro X hX
  cbv
  refine m_cond_t hX (by subst hX; rfl) ?_
  cbv
  refine m_rounds [(), ()] tab_ok hX ?_
  refine aloop_step fun L0 hL0 K0 hK0 => ?_
  cbv
  refine ⟨by subst hX; exact show (4 : Int) ≠ 0 from by decide, ?_⟩
  refine m_cond_t hX (by subst hX; rfl) ?_
  cbv
  refine hL0 _ _ ?_
  refine aloop_step fun L1 hL1 K1 hK1 => ?_
  cbv
  refine ⟨by subst hX; exact show (4 : Int) ≠ 0 from by decide, ?_⟩
  refine m_cond_f hX (by subst hX; rfl) ?_
  cbv
  refine hK1 _ _ _ _ ?_
  cbv
  refine ⟨_, _, [], by simp [MH], rfl, rfl, ?_, hk (0, -1, -1, 0) ⟨rfl, rfl, rfl, rfl⟩⟩
  subst hX
  exact ⟨⟨rfl, rfl⟩, ⟨rfl, rfl⟩, ⟨rfl, rfl⟩, ⟨rfl, rfl⟩, trivial⟩
theorem OfM_6 (W0 : World) (k : V → Heap → Prop) (hk : ∀ b : Int × Int × Int × Int, IsM 6 b.1 b.2.1 b.2.2.1 b.2.2.2 → k (.agg [.int .i64 b.1, .int .i64 b.2.1, .int .i64 b.2.2.1, .int .i64 b.2.2.2]) []) : ACall Try.prog W0 78 [.one (.int .i64 6)] [] k := by
  refine m_body tab_ok (fn := Try.f78) (by kernel_rfl) rfl ?_
  intro X hX
  cbv
  refine m_cond_t hX (by subst hX; rfl) ?_
  cbv
  refine m_rounds [(), (), ()] tab_ok hX ?_
  refine aloop_step fun L0 hL0 K0 hK0 => ?_
  cbv
  refine ⟨by subst hX; exact show (4 : Int) ≠ 0 from by decide, ?_⟩
  refine m_cond_t hX (by subst hX; rfl) ?_
  cbv
  refine hL0 _ _ ?_
  refine aloop_step fun L1 hL1 K1 hK1 => ?_
  cbv
  refine ⟨by subst hX; exact show (4 : Int) ≠ 0 from by decide, ?_⟩
  refine m_cond_t hX (by subst hX; rfl) ?_
  cbv
  refine hL1 _ _ ?_
  refine aloop_step fun L2 hL2 K2 hK2 => ?_
  cbv
  refine ⟨by subst hX; exact show (4 : Int) ≠ 0 from by decide, ?_⟩
  refine m_cond_f hX (by subst hX; rfl) ?_
  cbv
  refine hK2 _ _ _ _ ?_
  cbv
  refine ⟨_, _, [], by simp [MH], rfl, rfl, ?_, hk (1, 0, 0, -1) ⟨rfl, rfl, rfl, rfl⟩⟩
  subst hX
  exact ⟨⟨rfl, rfl⟩, ⟨rfl, rfl⟩, ⟨rfl, rfl⟩, ⟨rfl, rfl⟩, trivial⟩
theorem OfM_7 (W0 : World) (k : V → Heap → Prop) (hk : ∀ b : Int × Int × Int × Int, IsM 7 b.1 b.2.1 b.2.2.1 b.2.2.2 → k (.agg [.int .i64 b.1, .int .i64 b.2.1, .int .i64 b.2.2.1, .int .i64 b.2.2.2]) []) : ACall Try.prog W0 78 [.one (.int .i64 7)] [] k := by
  refine m_body tab_ok (fn := Try.f78) (by kernel_rfl) rfl ?_
  intro X hX
  cbv
  refine m_cond_t hX (by subst hX; rfl) ?_
  cbv
  refine m_rounds [(), (), (), ()] tab_ok hX ?_
  refine aloop_step fun L0 hL0 K0 hK0 => ?_
  cbv
  refine ⟨by subst hX; exact show (4 : Int) ≠ 0 from by decide, ?_⟩
  refine m_cond_t hX (by subst hX; rfl) ?_
  cbv
  refine hL0 _ _ ?_
  refine aloop_step fun L1 hL1 K1 hK1 => ?_
  cbv
  refine ⟨by subst hX; exact show (4 : Int) ≠ 0 from by decide, ?_⟩
  refine m_cond_t hX (by subst hX; rfl) ?_
  cbv
  refine hL1 _ _ ?_
  refine aloop_step fun L2 hL2 K2 hK2 => ?_
  cbv
  refine ⟨by subst hX; exact show (4 : Int) ≠ 0 from by decide, ?_⟩
  refine m_cond_t hX (by subst hX; rfl) ?_
  cbv
  refine hL2 _ _ ?_
  refine aloop_step fun L3 hL3 K3 hK3 => ?_
  cbv
  refine ⟨by subst hX; exact show (4 : Int) ≠ 0 from by decide, ?_⟩
  refine m_cond_f hX (by subst hX; rfl) ?_
  cbv
  refine hK3 _ _ _ _ ?_
  cbv
  refine ⟨_, _, [], by simp [MH], rfl, rfl, ?_, hk (0, 1, 1, 0) ⟨rfl, rfl, rfl, rfl⟩⟩
  subst hX
  exact ⟨⟨rfl, rfl⟩, ⟨rfl, rfl⟩, ⟨rfl, rfl⟩, ⟨rfl, rfl⟩, trivial⟩
theorem OfM_c (W0 : World) (t : Int) (ht : Tu t) (k : V → Heap → Prop) (hk : ∀ b : Int × Int × Int × Int, IsM t b.1 b.2.1 b.2.2.1 b.2.2.2 → k (.agg [.int .i64 b.1, .int .i64 b.2.1, .int .i64 b.2.2.1, .int .i64 b.2.2.2]) []) : ACall Try.prog W0 78 [.one (.int .i64 t)] [] k := by
  rcases ht.cases with rfl | rfl | rfl | rfl | rfl | rfl | rfl | rfl
  · exact OfM_0 W0 k hk
  · exact OfM_1 W0 k hk
  · exact OfM_2 W0 k hk
  · exact OfM_3 W0 k hk
  · exact OfM_4 W0 k hk
  · exact OfM_5 W0 k hk
  · exact OfM_6 W0 k hk
  · exact OfM_7 W0 k hk
theorem IsM.mul {t a b c d x y : Int} (ht : Tu t) (h : IsM t a b c d) (hx : Nr 2305843009213693952 x) (hy : Nr 2305843009213693952 y) {X : Ext} {P : Program} {W0 : World} {md : Md} (hX : X = std P W0 md) :
    X.bin .add .i64 (X.bin .mul .i64 a x) (X.bin .mul .i64 c y) = dX t x y ∧ X.bin .add .i64 (X.bin .mul .i64 b x) (X.bin .mul .i64 d y) = dY t x y := by
  obtain ⟨rfl, rfl, rfl, rfl⟩ := h
  obtain ⟨h1, h2⟩ := hx
  obtain ⟨h3, h4⟩ := hy
  subst hX
  rcases ht.cases with rfl | rfl | rfl | rfl | rfl | rfl | rfl | rfl <;> simp (disch := omega) [std, binS, dX, dY, wrap_eq]
/-- ref03.Do -/
theorem RDo_c (W0 : World) (t a b c d x y : Int) (ht : Tu t) (hM : IsM t a b c d) (hx : Nr 2305843009213693952 x) (hy : Nr 2305843009213693952 y) (k : V → Heap → Prop) (hk : ∀ b : Int × Int, (b.1 = dX t x y ∧ b.2 = dY t x y) → k (.tup [.one (.int .i64 b.1), .one (.int .i64 b.2)]) []) : ACall Try.prog W0 87 [.agg [.int .i64 a, .int .i64 b, .int .i64 c, .int .i64 d], .one (.int .i64 x), .one (.int .i64 y)] [] k := by
  refine m_body tab_ok (fn := Try.f87) (by kernel_rfl) rfl ?_
  intro X hX
  cbv
  refine m_drawT tab_ok hX [] [] (.one 0 0 (.one 2 0 (.one 4 0 (.one 6 0 (.one 9 0 (.one 11 0 (.one 13 0 (.one 15 0 (.one 1 1 (.one 3 0 (.one 5 1 (.one 7 0 (.one 8 0 (.one 10 1 (.one 12 0 (.one 14 1 (.one 16 0 (.one 17 0 (.one 18 0 (.one 19 0 .fin)))))))))))))))))))) (by kernel_rfl) (by simp) ?_
  cbv
  obtain ⟨e1, e2⟩ := hM.mul ht hx hy hX
  refine ⟨_, _, [], by simp [MH], rfl, rfl, ?_, hk (dX t x y, dY t x y) ⟨rfl, rfl⟩⟩
  show MV _ (.tup [.one (.int .i64 (dX t x y)), .one (.int .i64 (dY t x y))]) (.tup [.one (.int .i64 (X.bin .add .i64 (X.bin .mul .i64 a x) (X.bin .mul .i64 c y))), .one (.int .i64 (X.bin .add .i64 (X.bin .mul .i64 b x) (X.bin .mul .i64 d y)))])
  rw [e1, e2]
  simp [MV, MV.MVs, MC]
/-- ref04.Do -/
theorem RPDo_c (W0 : World) (t X0 Y0 x y : Int) (ht : Tu t) (hX0 : Nr 1152921504606846976 X0) (hY0 : Nr 1152921504606846976 Y0) (hx : Nr 1152921504606846976 x) (hy : Nr 1152921504606846976 y) (k : V → Heap → Prop) (hk : ∀ b : Int × Int, (b.1 = dX t x y + X0 ∧ b.2 = dY t x y + Y0) → k (.agg [.int .i64 b.1, .int .i64 b.2]) []) : ACall Try.prog W0 75 [.agg [.int .i64 t, .int .i64 X0, .int .i64 Y0], .agg [.int .i64 x, .int .i64 y]] [] k := by
  refine m_body tab_ok (fn := Try.f75) (by kernel_rfl) rfl ?_
  intro X hX
  cbv
  refine m_drawT tab_ok hX [] [] (.one 0 0 (.one 3 0 (.one 5 0 (.one 1 1 (.one 4 1 (.one 6 1 (.one 2 2 (.one 7 2 (.one 8 0 (.one 9 0 (.one 10 0 (.one 11 0 (.one 12 0 .fin))))))))))))) (by kernel_rfl) (by simp) ?_
  cbv
  refine m_callq hX [] bodied_78 (fun k2 hk2 => OfM_c W0 t ht k2 hk2) ?_ rfl rfl ?_ ?_
  · (first | (simp [MH, MB, MT, MV, MV.MVs, MC.MCs, MC, renC.renCs, renC, up]; done) | (simp [MH, MB, MT, MV, MV.MVs, MC.MCs, MC, renC.renCs, renC, up]; omega) | (simp [MH, MB, MT, MV, MV.MVs, MC.MCs, MC, renC.renCs, renC, up] <;> omega))
  · simp [MV, MV.MVs, MC, MC.MCs]
  intro b hb
  obtain ⟨a, b, c, d⟩ := b
  replace hb : IsM t a b c d := hb
  cbv
  refine m_callq hX [] bodied_87 (fun k2 hk2 => RDo_c W0 t a b c d x y ht hb (hx.up (by omega)) (hy.up (by omega)) k2 hk2) ?_ rfl rfl ?_ ?_
  · (first | (simp [MH, MB, MT, MV, MV.MVs, MC.MCs, MC, renC.renCs, renC, up]; done) | (simp [MH, MB, MT, MV, MV.MVs, MC.MCs, MC, renC.renCs, renC, up]; omega) | (simp [MH, MB, MT, MV, MV.MVs, MC.MCs, MC, renC.renCs, renC, up] <;> omega))
  · simp [MV, MV.MVs, MC, MC.MCs]
  intro b hb
  obtain ⟨u, v⟩ := b
  have hu : u = dX t x y := hb.1
  have hv : v = dY t x y := hb.2
  clear hb
  cbv
  obtain ⟨n1, n2⟩ := Nr.dX ht hx hy
  rw [← hu] at n1
  rw [← hv] at n2
  have e1 := addN n1 hX0 (by omega) hX
  have e2 := addN n2 hY0 (by omega) hX
  refine ⟨_, _, [], by simp [MH], rfl, rfl, ?_, hk (u + X0, v + Y0) ⟨by rw [hu], by rw [hv]⟩⟩
  show MV _ (.agg [.int .i64 (u + X0), .int .i64 (v + Y0)]) (.agg [.int .i64 (X.bin .add .i64 u X0), .int .i64 (X.bin .add .i64 v Y0)])
  rw [e1, e2]
  simp [MV, MC, MC.MCs]
theorem low_c (W0 : World) (a b : Int) (k : V → Heap → Prop) (hk : ∀ z : Int, z = min a b → k (.one (.int .i64 z)) []) : ACall Try.prog W0 79 [.one (.int .i64 a), .one (.int .i64 b)] [] k := by
  refine m_body tab_ok (fn := Try.f79) (by kernel_rfl) rfl ?_
  intro X hX
  cbv
  refine m_cond hX (fun h => ?_) (fun h => ?_) <;> cbv
  · refine ⟨_, _, [], by simp [MH], rfl, rfl, ?_, hk a ?_⟩
    · simp [MV, MC]
    · subst hX; simp [std, cmpS] at h; omega
  · refine ⟨_, _, [], by simp [MH], rfl, rfl, ?_, hk b ?_⟩
    · simp [MV, MC]
    · subst hX; simp [std, cmpS] at h; omega
theorem high_c (W0 : World) (a b : Int) (k : V → Heap → Prop) (hk : ∀ z : Int, z = max a b → k (.one (.int .i64 z)) []) : ACall Try.prog W0 80 [.one (.int .i64 a), .one (.int .i64 b)] [] k := by
  refine m_body tab_ok (fn := Try.f80) (by kernel_rfl) rfl ?_
  intro X hX
  cbv
  refine m_cond hX (fun h => ?_) (fun h => ?_) <;> cbv
  · refine ⟨_, _, [], by simp [MH], rfl, rfl, ?_, hk a ?_⟩
    · simp [MV, MC]
    · subst hX; simp [std, cmpS] at h; omega
  · refine ⟨_, _, [], by simp [MH], rfl, rfl, ?_, hk b ?_⟩
    · simp [MV, MC]
    · subst hX; simp [std, cmpS] at h; omega
/-- ref04.Box -/
theorem RBox_c (W0 : World) (t X0 Y0 x0 y0 x1 y1 : Int) (ht : Tu t) (hX0 : Nr 1152921504606846976 X0) (hY0 : Nr 1152921504606846976 Y0) (hx0 : Nr 1152921504606846976 x0) (hy0 : Nr 1152921504606846976 y0) (hx1 : Nr 1152921504606846976 x1) (hy1 : Nr 1152921504606846976 y1)
    (k : V → Heap → Prop) (hk : ∀ b : Int × Int × Int × Int, IsBox t X0 Y0 x0 y0 x1 y1 b.1 b.2.1 b.2.2.1 b.2.2.2 → k (.agg [.int .i64 b.1, .int .i64 b.2.1, .int .i64 b.2.2.1, .int .i64 b.2.2.2]) []) : ACall Try.prog W0 63 [.agg [.int .i64 t, .int .i64 X0, .int .i64 Y0], .agg [.int .i64 x0, .int .i64 y0, .int .i64 x1, .int .i64 y1]] [] k := by
  refine m_body tab_ok (fn := Try.f63) (by kernel_rfl) rfl ?_
  intro X hX
  cbv
  refine m_callq hX [] bodied_75 (fun k2 hk2 => RPDo_c W0 t X0 Y0 x0 y0 ht hX0 hY0 hx0 hy0 k2 hk2) ?_ rfl rfl ?_ ?_
  · (first | (simp [MH, MB, MT, MV, MV.MVs, MC.MCs, MC, renC.renCs, renC, up]; done) | (simp [MH, MB, MT, MV, MV.MVs, MC.MCs, MC, renC.renCs, renC, up]; omega) | (simp [MH, MB, MT, MV, MV.MVs, MC.MCs, MC, renC.renCs, renC, up] <;> omega))
  · simp [MV, MV.MVs, MC, MC.MCs]
  intro b hb
  obtain ⟨pu, pv⟩ := b
  have hpu : pu = dX t x0 y0 + X0 := hb.1
  have hpv : pv = dY t x0 y0 + Y0 := hb.2
  clear hb
  cbv
  refine m_callq hX [] bodied_75 (fun k2 hk2 => RPDo_c W0 t X0 Y0 x1 y1 ht hX0 hY0 hx1 hy1 k2 hk2) ?_ rfl rfl ?_ ?_
  · (first | (simp [MH, MB, MT, MV, MV.MVs, MC.MCs, MC, renC.renCs, renC, up]; done) | (simp [MH, MB, MT, MV, MV.MVs, MC.MCs, MC, renC.renCs, renC, up]; omega) | (simp [MH, MB, MT, MV, MV.MVs, MC.MCs, MC, renC.renCs, renC, up] <;> omega))
  · simp [MV, MV.MVs, MC, MC.MCs]
  intro b hb
  obtain ⟨qu, qv⟩ := b
  have hqu : qu = dX t x1 y1 + X0 := hb.1
  have hqv : qv = dY t x1 y1 + Y0 := hb.2
  clear hb
  cbv
  refine m_drawT tab_ok hX [] [21] (.one 0 0 (.one 2 0 (.one 5 0 (.one 7 0 (.one 10 0 (.one 12 0 (.one 15 0 (.one 17 0 (.one 1 1 (.one 3 1 (.one 6 1 (.one 8 1 (.one 11 1 (.one 13 1 (.one 16 1 (.one 18 1 (.one 4 2 (.one 9 2 (.one 14 2 (.one 19 2 (.one 20 0 (.one 21 3 .fin)))))))))))))))))))))) (by kernel_rfl) (by simp) ?_
  cbv
  refine m_callq hX [] bodied_79 (fun k2 hk2 => low_c W0 pu qu k2 hk2) ?_ rfl rfl ?_ ?_
  · (first | (simp [MH, MB, MT, MV, MV.MVs, MC.MCs, MC, renC.renCs, renC, up]; done) | (simp [MH, MB, MT, MV, MV.MVs, MC.MCs, MC, renC.renCs, renC, up]; omega) | (simp [MH, MB, MT, MV, MV.MVs, MC.MCs, MC, renC.renCs, renC, up] <;> omega))
  · simp [MV, MV.MVs, MC, MC.MCs]
  intro a ha
  cbv
  refine m_callq hX [] bodied_79 (fun k2 hk2 => low_c W0 pv qv k2 hk2) ?_ rfl rfl ?_ ?_
  · (first | (simp [MH, MB, MT, MV, MV.MVs, MC.MCs, MC, renC.renCs, renC, up]; done) | (simp [MH, MB, MT, MV, MV.MVs, MC.MCs, MC, renC.renCs, renC, up]; omega) | (simp [MH, MB, MT, MV, MV.MVs, MC.MCs, MC, renC.renCs, renC, up] <;> omega))
  · simp [MV, MV.MVs, MC, MC.MCs]
  intro b hb
  cbv
  refine m_callq hX [] bodied_80 (fun k2 hk2 => high_c W0 pu qu k2 hk2) ?_ rfl rfl ?_ ?_
  · (first | (simp [MH, MB, MT, MV, MV.MVs, MC.MCs, MC, renC.renCs, renC, up]; done) | (simp [MH, MB, MT, MV, MV.MVs, MC.MCs, MC, renC.renCs, renC, up]; omega) | (simp [MH, MB, MT, MV, MV.MVs, MC.MCs, MC, renC.renCs, renC, up] <;> omega))
  · simp [MV, MV.MVs, MC, MC.MCs]
  intro c hc
  cbv
  refine m_callq hX [] bodied_80 (fun k2 hk2 => high_c W0 pv qv k2 hk2) ?_ rfl rfl ?_ ?_
  · (first | (simp [MH, MB, MT, MV, MV.MVs, MC.MCs, MC, renC.renCs, renC, up]; done) | (simp [MH, MB, MT, MV, MV.MVs, MC.MCs, MC, renC.renCs, renC, up]; omega) | (simp [MH, MB, MT, MV, MV.MVs, MC.MCs, MC, renC.renCs, renC, up] <;> omega))
  · simp [MV, MV.MVs, MC, MC.MCs]
  intro d hd
  cbv
  refine ⟨_, _, [], by simp [MH], rfl, rfl, ?_, hk (a, b, c, d) ⟨by rw [ha, hpu, hqu]; rfl, by rw [hb, hpv, hqv]; rfl, by rw [hc, hpu, hqu]; rfl, by rw [hd, hpv, hqv]; rfl⟩⟩
  simp [MV, MC, MC.MCs]
/-- ref38.Lies -/
theorem RLies_c (W0 : World) (t X0 Y0 x0 y0 x1 y1 : Int) (ht : Tu t) (hX0 : Nr 1152921504606846976 X0) (hY0 : Nr 1152921504606846976 Y0) (hx0 : Nr 1152921504606846976 x0) (hy0 : Nr 1152921504606846976 y0) (hx1 : Nr 1152921504606846976 x1) (hy1 : Nr 1152921504606846976 y1)
    (k : V → Heap → Prop) (hk : ∀ b : Int × Int × Int × Int, IsBox t X0 Y0 x0 y0 x1 y1 b.1 b.2.1 b.2.2.1 b.2.2.2 → k (.agg [.int .i64 b.1, .int .i64 b.2.1, .int .i64 b.2.2.1, .int .i64 b.2.2.2]) []) : ACall Try.prog W0 45 [.agg [.int .i64 x0, .int .i64 y0, .int .i64 x1, .int .i64 y1, .int .i64 t, .int .i64 X0, .int .i64 Y0]] [] k := by
  refine m_body tab_ok (fn := Try.f45) (by kernel_rfl) rfl ?_
  intro X hX
  cbv
  refine m_callq hX [] bodied_63 (fun k2 hk2 => RBox_c W0 t X0 Y0 x0 y0 x1 y1 ht hX0 hY0 hx0 hy0 hx1 hy1 k2 hk2) ?_ rfl rfl ?_ ?_
  · (first | (simp [MH, MB, MT, MV, MV.MVs, MC.MCs, MC, renC.renCs, renC, up]; done) | (simp [MH, MB, MT, MV, MV.MVs, MC.MCs, MC, renC.renCs, renC, up]; omega) | (simp [MH, MB, MT, MV, MV.MVs, MC.MCs, MC, renC.renCs, renC, up] <;> omega))
  · simp [MV, MV.MVs, MC, MC.MCs]
  intro b hb
  obtain ⟨a, b, c, d⟩ := b
  replace hb : IsBox t X0 Y0 x0 y0 x1 y1 a b c d := hb
  cbv
  refine ⟨_, _, [], by simp [MH], rfl, rfl, ?_, hk (a, b, c, d) hb⟩
  simp [MV, MC, MC.MCs]
/-- ref04.Empty -/
theorem REmpty_c (W0 : World) (x0 y0 x1 y1 : Int) (k : V → Heap → Prop) (hk : ∀ b : Bool, (b = true ↔ x1 ≤ x0 ∨ y1 ≤ y0) → k (.one (.bool b)) []) : ACall Try.prog W0 44 [.agg [.int .i64 x0, .int .i64 y0, .int .i64 x1, .int .i64 y1]] [] k := by
  refine m_body tab_ok (fn := Try.f44) (by kernel_rfl) rfl ?_
  intro X hX
  cbv
  refine m_cond hX (fun h => ?_) (fun h => ?_) <;> cbv
  ·
    repeat' (first | (refine m_cond_t hX (by first | rfl | assumption | (subst hX; rfl)) ?_; cbv) | (refine m_cond_f hX (by first | rfl | assumption | (subst hX; rfl)) ?_; cbv) | fail)
    refine ⟨_, _, [], by simp [MH], rfl, rfl, ?_, hk true ?_⟩
    · simp [MV, MC]
    · subst hX
      simp [std, cmpS] at h
      simp [h]
  ·
    repeat' (first | (refine m_cond_t hX (by first | rfl | assumption | (subst hX; rfl)) ?_; cbv) | (refine m_cond_f hX (by first | rfl | assumption | (subst hX; rfl)) ?_; cbv) | fail)
    refine ⟨_, _, [], by simp [MH], rfl, rfl, ?_, hk (decide (y1 ≤ y0)) ?_⟩
    · subst hX
      simp [std, cmpS] at h
      simp [MV, MC, std, cmpS]
      intro h2
      omega
    · subst hX
      simp [std, cmpS] at h
      simp
      omega
end Go.Proofs.Ytnfoibgafmeenaa.AM
