/- Turns and places, as contracts on the abstract machine. No condition but that the numbers are near. -/
import Derived.Test.YtnfoibgafmeenaaDk
namespace Go.Proofs.Ytnfoibgafmeenaa.AM
open Go Go.RowKit
set_option cbv.warning false
set_option maxRecDepth 100000
set_option linter.unusedVariables false
set_option linter.unusedSimpArgs false
theorem bodied_57 : Bodied Try.prog 57 := ⟨Try.f57, by kernel_rfl, by kernel_rfl, by kernel_rfl⟩
theorem bodied_58 : Bodied Try.prog 58 := ⟨Try.f58, by kernel_rfl, by kernel_rfl, by kernel_rfl⟩
theorem bodied_59 : Bodied Try.prog 59 := ⟨Try.f59, by kernel_rfl, by kernel_rfl, by kernel_rfl⟩
theorem bodied_67 : Bodied Try.prog 67 := ⟨Try.f67, by kernel_rfl, by kernel_rfl, by kernel_rfl⟩
theorem bodied_68 : Bodied Try.prog 68 := ⟨Try.f68, by kernel_rfl, by kernel_rfl, by kernel_rfl⟩
theorem bodied_69 : Bodied Try.prog 69 := ⟨Try.f69, by kernel_rfl, by kernel_rfl, by kernel_rfl⟩
theorem bodied_70 : Bodied Try.prog 70 := ⟨Try.f70, by kernel_rfl, by kernel_rfl, by kernel_rfl⟩
theorem bodied_71 : Bodied Try.prog 71 := ⟨Try.f71, by kernel_rfl, by kernel_rfl, by kernel_rfl⟩
theorem bodied_72 : Bodied Try.prog 72 := ⟨Try.f72, by kernel_rfl, by kernel_rfl, by kernel_rfl⟩
theorem bodied_73 : Bodied Try.prog 73 := ⟨Try.f73, by kernel_rfl, by kernel_rfl, by kernel_rfl⟩
theorem bodied_81 : Bodied Try.prog 81 := ⟨Try.f81, by kernel_rfl, by kernel_rfl, by kernel_rfl⟩
theorem bodied_82 : Bodied Try.prog 82 := ⟨Try.f82, by kernel_rfl, by kernel_rfl, by kernel_rfl⟩
theorem bodied_83 : Bodied Try.prog 83 := ⟨Try.f83, by kernel_rfl, by kernel_rfl, by kernel_rfl⟩
theorem bodied_84 : Bodied Try.prog 84 := ⟨Try.f84, by kernel_rfl, by kernel_rfl, by kernel_rfl⟩
theorem bodied_88 : Bodied Try.prog 88 := ⟨Try.f88, by kernel_rfl, by kernel_rfl, by kernel_rfl⟩
theorem bodied_89 : Bodied Try.prog 89 := ⟨Try.f89, by kernel_rfl, by kernel_rfl, by kernel_rfl⟩
theorem bodied_90 : Bodied Try.prog 90 := ⟨Try.f90, by kernel_rfl, by kernel_rfl, by kernel_rfl⟩
/-- A number that is near. -/
structure Nr (K x : Int) : Prop where
  lo : -K ≤ x
  hi : x ≤ K
/-- A turn. -/
structure Tu (t : Int) : Prop where
  lo : 0 ≤ t
  hi : t ≤ 7
def dX (t x y : Int) : Int := match t.toNat with | 0 => x | 1 => -y | 2 => -x | 3 => y | 4 => -x | 5 => -y | 6 => x | _ => y
def dY (t x y : Int) : Int := match t.toNat with | 0 => y | 1 => x | 2 => -y | 3 => -x | 4 => y | 5 => -x | 6 => -y | _ => x
theorem Tu.cases {t : Int} (h : Tu t) : t = 0 ∨ t = 1 ∨ t = 2 ∨ t = 3 ∨ t = 4 ∨ t = 5 ∨ t = 6 ∨ t = 7 := by
  obtain ⟨h1, h2⟩ := h
  omega
theorem Mirrors_c (W0 : World) (t : Int) (h : Tu t) (k : V → Heap → Prop) (hk : ∀ b : Bool, (b = true ↔ 4 ≤ t) → k (.one (.bool b)) []) : ACall Try.prog W0 90 [.one (.int .i64 t)] [] k := by
  refine m_body tab_ok (fn := Try.f90) (by kernel_rfl) rfl ?_
  intro X hX
  cbv
  refine ⟨_, _, [], by simp [MH], rfl, rfl, ?_, hk (decide (4 ≤ t)) (by simp)⟩
  show MV _ (.one (.bool (decide (4 ≤ t)))) (.one (.bool (X.cmp .neq (X.bin .and .i64 t 4) 0)))
  have e : X.cmp .neq (X.bin .and .i64 t 4) 0 = decide (4 ≤ t) := by
    subst hX
    rcases h.cases with rfl | rfl | rfl | rfl | rfl | rfl | rfl | rfl <;> rfl
  rw [e]
  simp [MV, MC]
theorem Do_0 (W0 : World) (x y : Int) (hx : Nr 4611686018427387904 x) (hy : Nr 4611686018427387904 y) (k : V → Heap → Prop) (hk : ∀ b : Int × Int, (b.1 = dX 0 x y ∧ b.2 = dY 0 x y) → k (.agg [.int .i64 b.1, .int .i64 b.2]) []) : ACall Try.prog W0 89 [.one (.int .i64 0), .agg [.int .i64 x, .int .i64 y]] [] k := by
  refine m_body tab_ok (fn := Try.f89) (by kernel_rfl) rfl ?_
  intro X hX
  cbv
  refine m_callq hX [] bodied_90 (fun k2 hk2 => Mirrors_c W0 0 ⟨by omega, by omega⟩ k2 hk2) ?_ rfl rfl ?_ ?_
  · (first | (simp [MH, MB, MT, MV, MV.MVs, MC.MCs, MC, renC.renCs, renC, up]; done) | (simp [MH, MB, MT, MV, MV.MVs, MC.MCs, MC, renC.renCs, renC, up]; omega) | (simp [MH, MB, MT, MV, MV.MVs, MC.MCs, MC, renC.renCs, renC, up] <;> omega))
  · simp [MV, MV.MVs, MC, MC.MCs]
  intro b hb
  cbv
  obtain rfl : b = false := by
    cases b with
    | false => rfl
    | true => exact absurd (hb.1 rfl) (by omega)
  refine m_cond_f hX (by subst hX; rfl) ?_
  cbv
  refine m_rounds [()] tab_ok hX ?_
  refine aloop_step fun L hL K hK => ?_
  cbv
  refine m_cond_f hX (by subst hX; rfl) ?_
  cbv
  refine hK _ _ _ _ ?_
  cbv
  refine ⟨_, _, [], by simp [MH], rfl, rfl, ?_, hk (dX 0 x y, dY 0 x y) ⟨rfl, rfl⟩⟩
  have h1 := hx.lo
  have h2 := hx.hi
  have h3 := hy.lo
  have h4 := hy.hi
  subst hX
  simp (disch := omega) [MV, MC, MC.MCs, std, binS, dX, dY, wrap_eq]
theorem Do_1 (W0 : World) (x y : Int) (hx : Nr 4611686018427387904 x) (hy : Nr 4611686018427387904 y) (k : V → Heap → Prop) (hk : ∀ b : Int × Int, (b.1 = dX 1 x y ∧ b.2 = dY 1 x y) → k (.agg [.int .i64 b.1, .int .i64 b.2]) []) : ACall Try.prog W0 89 [.one (.int .i64 1), .agg [.int .i64 x, .int .i64 y]] [] k := by
  refine m_body tab_ok (fn := Try.f89) (by kernel_rfl) rfl ?_
  intro X hX
  cbv
  refine m_callq hX [] bodied_90 (fun k2 hk2 => Mirrors_c W0 1 ⟨by omega, by omega⟩ k2 hk2) ?_ rfl rfl ?_ ?_
  · (first | (simp [MH, MB, MT, MV, MV.MVs, MC.MCs, MC, renC.renCs, renC, up]; done) | (simp [MH, MB, MT, MV, MV.MVs, MC.MCs, MC, renC.renCs, renC, up]; omega) | (simp [MH, MB, MT, MV, MV.MVs, MC.MCs, MC, renC.renCs, renC, up] <;> omega))
  · simp [MV, MV.MVs, MC, MC.MCs]
  intro b hb
  cbv
  obtain rfl : b = false := by
    cases b with
    | false => rfl
    | true => exact absurd (hb.1 rfl) (by omega)
  refine m_cond_f hX (by subst hX; rfl) ?_
  cbv
  refine m_rounds [(), ()] tab_ok hX ?_
  refine aloop_step fun L0 hL0 K0 hK0 => ?_
  cbv
  refine m_cond_t hX (by subst hX; rfl) ?_
  cbv
  refine hL0 _ _ ?_
  refine aloop_step fun L hL K hK => ?_
  cbv
  refine m_cond_f hX (by subst hX; rfl) ?_
  cbv
  refine hK _ _ _ _ ?_
  cbv
  refine ⟨_, _, [], by simp [MH], rfl, rfl, ?_, hk (dX 1 x y, dY 1 x y) ⟨rfl, rfl⟩⟩
  have h1 := hx.lo
  have h2 := hx.hi
  have h3 := hy.lo
  have h4 := hy.hi
  subst hX
  simp (disch := omega) [MV, MC, MC.MCs, std, binS, dX, dY, wrap_eq]
theorem Do_2 (W0 : World) (x y : Int) (hx : Nr 4611686018427387904 x) (hy : Nr 4611686018427387904 y) (k : V → Heap → Prop) (hk : ∀ b : Int × Int, (b.1 = dX 2 x y ∧ b.2 = dY 2 x y) → k (.agg [.int .i64 b.1, .int .i64 b.2]) []) : ACall Try.prog W0 89 [.one (.int .i64 2), .agg [.int .i64 x, .int .i64 y]] [] k := by
  refine m_body tab_ok (fn := Try.f89) (by kernel_rfl) rfl ?_
  intro X hX
  cbv
  refine m_callq hX [] bodied_90 (fun k2 hk2 => Mirrors_c W0 2 ⟨by omega, by omega⟩ k2 hk2) ?_ rfl rfl ?_ ?_
  · (first | (simp [MH, MB, MT, MV, MV.MVs, MC.MCs, MC, renC.renCs, renC, up]; done) | (simp [MH, MB, MT, MV, MV.MVs, MC.MCs, MC, renC.renCs, renC, up]; omega) | (simp [MH, MB, MT, MV, MV.MVs, MC.MCs, MC, renC.renCs, renC, up] <;> omega))
  · simp [MV, MV.MVs, MC, MC.MCs]
  intro b hb
  cbv
  obtain rfl : b = false := by
    cases b with
    | false => rfl
    | true => exact absurd (hb.1 rfl) (by omega)
  refine m_cond_f hX (by subst hX; rfl) ?_
  cbv
  refine m_rounds [(), (), ()] tab_ok hX ?_
  refine aloop_step fun L0 hL0 K0 hK0 => ?_
  cbv
  refine m_cond_t hX (by subst hX; rfl) ?_
  cbv
  refine hL0 _ _ ?_
  refine aloop_step fun L1 hL1 K1 hK1 => ?_
  cbv
  refine m_cond_t hX (by subst hX; rfl) ?_
  cbv
  refine hL1 _ _ ?_
  refine aloop_step fun L hL K hK => ?_
  cbv
  refine m_cond_f hX (by subst hX; rfl) ?_
  cbv
  refine hK _ _ _ _ ?_
  cbv
  refine ⟨_, _, [], by simp [MH], rfl, rfl, ?_, hk (dX 2 x y, dY 2 x y) ⟨rfl, rfl⟩⟩
  have h1 := hx.lo
  have h2 := hx.hi
  have h3 := hy.lo
  have h4 := hy.hi
  subst hX
  simp (disch := omega) [MV, MC, MC.MCs, std, binS, dX, dY, wrap_eq]
theorem Do_3 (W0 : World) (x y : Int) (hx : Nr 4611686018427387904 x) (hy : Nr 4611686018427387904 y) (k : V → Heap → Prop) (hk : ∀ b : Int × Int, (b.1 = dX 3 x y ∧ b.2 = dY 3 x y) → k (.agg [.int .i64 b.1, .int .i64 b.2]) []) : ACall Try.prog W0 89 [.one (.int .i64 3), .agg [.int .i64 x, .int .i64 y]] [] k := by
  refine m_body tab_ok (fn := Try.f89) (by kernel_rfl) rfl ?_
  intro X hX
  cbv
  refine m_callq hX [] bodied_90 (fun k2 hk2 => Mirrors_c W0 3 ⟨by omega, by omega⟩ k2 hk2) ?_ rfl rfl ?_ ?_
  · (first | (simp [MH, MB, MT, MV, MV.MVs, MC.MCs, MC, renC.renCs, renC, up]; done) | (simp [MH, MB, MT, MV, MV.MVs, MC.MCs, MC, renC.renCs, renC, up]; omega) | (simp [MH, MB, MT, MV, MV.MVs, MC.MCs, MC, renC.renCs, renC, up] <;> omega))
  · simp [MV, MV.MVs, MC, MC.MCs]
  intro b hb
  cbv
  obtain rfl : b = false := by
    cases b with
    | false => rfl
    | true => exact absurd (hb.1 rfl) (by omega)
  refine m_cond_f hX (by subst hX; rfl) ?_
  cbv
  refine m_rounds [(), (), (), ()] tab_ok hX ?_
  refine aloop_step fun L0 hL0 K0 hK0 => ?_
  cbv
  refine m_cond_t hX (by subst hX; rfl) ?_
  cbv
  refine hL0 _ _ ?_
  refine aloop_step fun L1 hL1 K1 hK1 => ?_
  cbv
  refine m_cond_t hX (by subst hX; rfl) ?_
  cbv
  refine hL1 _ _ ?_
  refine aloop_step fun L2 hL2 K2 hK2 => ?_
  cbv
  refine m_cond_t hX (by subst hX; rfl) ?_
  cbv
  refine hL2 _ _ ?_
  refine aloop_step fun L hL K hK => ?_
  cbv
  refine m_cond_f hX (by subst hX; rfl) ?_
  cbv
  refine hK _ _ _ _ ?_
  cbv
  refine ⟨_, _, [], by simp [MH], rfl, rfl, ?_, hk (dX 3 x y, dY 3 x y) ⟨rfl, rfl⟩⟩
  have h1 := hx.lo
  have h2 := hx.hi
  have h3 := hy.lo
  have h4 := hy.hi
  subst hX
  simp (disch := omega) [MV, MC, MC.MCs, std, binS, dX, dY, wrap_eq]
theorem Do_4 (W0 : World) (x y : Int) (hx : Nr 4611686018427387904 x) (hy : Nr 4611686018427387904 y) (k : V → Heap → Prop) (hk : ∀ b : Int × Int, (b.1 = dX 4 x y ∧ b.2 = dY 4 x y) → k (.agg [.int .i64 b.1, .int .i64 b.2]) []) : ACall Try.prog W0 89 [.one (.int .i64 4), .agg [.int .i64 x, .int .i64 y]] [] k := by
  refine m_body tab_ok (fn := Try.f89) (by kernel_rfl) rfl ?_
  intro X hX
  cbv
  refine m_callq hX [] bodied_90 (fun k2 hk2 => Mirrors_c W0 4 ⟨by omega, by omega⟩ k2 hk2) ?_ rfl rfl ?_ ?_
  · (first | (simp [MH, MB, MT, MV, MV.MVs, MC.MCs, MC, renC.renCs, renC, up]; done) | (simp [MH, MB, MT, MV, MV.MVs, MC.MCs, MC, renC.renCs, renC, up]; omega) | (simp [MH, MB, MT, MV, MV.MVs, MC.MCs, MC, renC.renCs, renC, up] <;> omega))
  · simp [MV, MV.MVs, MC, MC.MCs]
  intro b hb
  cbv
  obtain rfl : b = true := by
    cases b with
    | true => rfl
    | false => exact absurd (hb.2 (by omega)) (by simp)
  refine m_cond_t hX (by subst hX; rfl) ?_
  cbv
  refine m_rounds [()] tab_ok hX ?_
  refine aloop_step fun L hL K hK => ?_
  cbv
  refine m_cond_f hX (by subst hX; rfl) ?_
  cbv
  refine hK _ _ _ _ ?_
  cbv
  refine ⟨_, _, [], by simp [MH], rfl, rfl, ?_, hk (dX 4 x y, dY 4 x y) ⟨rfl, rfl⟩⟩
  have h1 := hx.lo
  have h2 := hx.hi
  have h3 := hy.lo
  have h4 := hy.hi
  subst hX
  simp (disch := omega) [MV, MC, MC.MCs, std, binS, dX, dY, wrap_eq]
theorem Do_5 (W0 : World) (x y : Int) (hx : Nr 4611686018427387904 x) (hy : Nr 4611686018427387904 y) (k : V → Heap → Prop) (hk : ∀ b : Int × Int, (b.1 = dX 5 x y ∧ b.2 = dY 5 x y) → k (.agg [.int .i64 b.1, .int .i64 b.2]) []) : ACall Try.prog W0 89 [.one (.int .i64 5), .agg [.int .i64 x, .int .i64 y]] [] k := by
  refine m_body tab_ok (fn := Try.f89) (by kernel_rfl) rfl ?_
  intro X hX
  cbv
  refine m_callq hX [] bodied_90 (fun k2 hk2 => Mirrors_c W0 5 ⟨by omega, by omega⟩ k2 hk2) ?_ rfl rfl ?_ ?_
  · (first | (simp [MH, MB, MT, MV, MV.MVs, MC.MCs, MC, renC.renCs, renC, up]; done) | (simp [MH, MB, MT, MV, MV.MVs, MC.MCs, MC, renC.renCs, renC, up]; omega) | (simp [MH, MB, MT, MV, MV.MVs, MC.MCs, MC, renC.renCs, renC, up] <;> omega))
  · simp [MV, MV.MVs, MC, MC.MCs]
  intro b hb
  cbv
  obtain rfl : b = true := by
    cases b with
    | true => rfl
    | false => exact absurd (hb.2 (by omega)) (by simp)
  refine m_cond_t hX (by subst hX; rfl) ?_
  cbv
  refine m_rounds [(), ()] tab_ok hX ?_
  refine aloop_step fun L0 hL0 K0 hK0 => ?_
  cbv
  refine m_cond_t hX (by subst hX; rfl) ?_
  cbv
  refine hL0 _ _ ?_
  refine aloop_step fun L hL K hK => ?_
  cbv
  refine m_cond_f hX (by subst hX; rfl) ?_
  cbv
  refine hK _ _ _ _ ?_
  cbv
  refine ⟨_, _, [], by simp [MH], rfl, rfl, ?_, hk (dX 5 x y, dY 5 x y) ⟨rfl, rfl⟩⟩
  have h1 := hx.lo
  have h2 := hx.hi
  have h3 := hy.lo
  have h4 := hy.hi
  subst hX
  simp (disch := omega) [MV, MC, MC.MCs, std, binS, dX, dY, wrap_eq]
theorem Do_6 (W0 : World) (x y : Int) (hx : Nr 4611686018427387904 x) (hy : Nr 4611686018427387904 y) (k : V → Heap → Prop) (hk : ∀ b : Int × Int, (b.1 = dX 6 x y ∧ b.2 = dY 6 x y) → k (.agg [.int .i64 b.1, .int .i64 b.2]) []) : ACall Try.prog W0 89 [.one (.int .i64 6), .agg [.int .i64 x, .int .i64 y]] [] k := by
  refine m_body tab_ok (fn := Try.f89) (by kernel_rfl) rfl ?_
  intro X hX
  cbv
  refine m_callq hX [] bodied_90 (fun k2 hk2 => Mirrors_c W0 6 ⟨by omega, by omega⟩ k2 hk2) ?_ rfl rfl ?_ ?_
  · (first | (simp [MH, MB, MT, MV, MV.MVs, MC.MCs, MC, renC.renCs, renC, up]; done) | (simp [MH, MB, MT, MV, MV.MVs, MC.MCs, MC, renC.renCs, renC, up]; omega) | (simp [MH, MB, MT, MV, MV.MVs, MC.MCs, MC, renC.renCs, renC, up] <;> omega))
  · simp [MV, MV.MVs, MC, MC.MCs]
  intro b hb
  cbv
  obtain rfl : b = true := by
    cases b with
    | true => rfl
    | false => exact absurd (hb.2 (by omega)) (by simp)
  refine m_cond_t hX (by subst hX; rfl) ?_
  cbv
  refine m_rounds [(), (), ()] tab_ok hX ?_
  refine aloop_step fun L0 hL0 K0 hK0 => ?_
  cbv
  refine m_cond_t hX (by subst hX; rfl) ?_
  cbv
  refine hL0 _ _ ?_
  refine aloop_step fun L1 hL1 K1 hK1 => ?_
  cbv
  refine m_cond_t hX (by subst hX; rfl) ?_
  cbv
  refine hL1 _ _ ?_
  refine aloop_step fun L hL K hK => ?_
  cbv
  refine m_cond_f hX (by subst hX; rfl) ?_
  cbv
  refine hK _ _ _ _ ?_
  cbv
  refine ⟨_, _, [], by simp [MH], rfl, rfl, ?_, hk (dX 6 x y, dY 6 x y) ⟨rfl, rfl⟩⟩
  have h1 := hx.lo
  have h2 := hx.hi
  have h3 := hy.lo
  have h4 := hy.hi
  subst hX
  simp (disch := omega) [MV, MC, MC.MCs, std, binS, dX, dY, wrap_eq]
theorem Do_7 (W0 : World) (x y : Int) (hx : Nr 4611686018427387904 x) (hy : Nr 4611686018427387904 y) (k : V → Heap → Prop) (hk : ∀ b : Int × Int, (b.1 = dX 7 x y ∧ b.2 = dY 7 x y) → k (.agg [.int .i64 b.1, .int .i64 b.2]) []) : ACall Try.prog W0 89 [.one (.int .i64 7), .agg [.int .i64 x, .int .i64 y]] [] k := by
  refine m_body tab_ok (fn := Try.f89) (by kernel_rfl) rfl ?_
  intro X hX
  cbv
  refine m_callq hX [] bodied_90 (fun k2 hk2 => Mirrors_c W0 7 ⟨by omega, by omega⟩ k2 hk2) ?_ rfl rfl ?_ ?_
  · (first | (simp [MH, MB, MT, MV, MV.MVs, MC.MCs, MC, renC.renCs, renC, up]; done) | (simp [MH, MB, MT, MV, MV.MVs, MC.MCs, MC, renC.renCs, renC, up]; omega) | (simp [MH, MB, MT, MV, MV.MVs, MC.MCs, MC, renC.renCs, renC, up] <;> omega))
  · simp [MV, MV.MVs, MC, MC.MCs]
  intro b hb
  cbv
  obtain rfl : b = true := by
    cases b with
    | true => rfl
    | false => exact absurd (hb.2 (by omega)) (by simp)
  refine m_cond_t hX (by subst hX; rfl) ?_
  cbv
  refine m_rounds [(), (), (), ()] tab_ok hX ?_
  refine aloop_step fun L0 hL0 K0 hK0 => ?_
  cbv
  refine m_cond_t hX (by subst hX; rfl) ?_
  cbv
  refine hL0 _ _ ?_
  refine aloop_step fun L1 hL1 K1 hK1 => ?_
  cbv
  refine m_cond_t hX (by subst hX; rfl) ?_
  cbv
  refine hL1 _ _ ?_
  refine aloop_step fun L2 hL2 K2 hK2 => ?_
  cbv
  refine m_cond_t hX (by subst hX; rfl) ?_
  cbv
  refine hL2 _ _ ?_
  refine aloop_step fun L hL K hK => ?_
  cbv
  refine m_cond_f hX (by subst hX; rfl) ?_
  cbv
  refine hK _ _ _ _ ?_
  cbv
  refine ⟨_, _, [], by simp [MH], rfl, rfl, ?_, hk (dX 7 x y, dY 7 x y) ⟨rfl, rfl⟩⟩
  have h1 := hx.lo
  have h2 := hx.hi
  have h3 := hy.lo
  have h4 := hy.hi
  subst hX
  simp (disch := omega) [MV, MC, MC.MCs, std, binS, dX, dY, wrap_eq]
theorem Do_c (W0 : World) (t x y : Int) (ht : Tu t) (hx : Nr 4611686018427387904 x) (hy : Nr 4611686018427387904 y) (k : V → Heap → Prop) (hk : ∀ b : Int × Int, (b.1 = dX t x y ∧ b.2 = dY t x y) → k (.agg [.int .i64 b.1, .int .i64 b.2]) []) : ACall Try.prog W0 89 [.one (.int .i64 t), .agg [.int .i64 x, .int .i64 y]] [] k := by
  rcases ht.cases with rfl | rfl | rfl | rfl | rfl | rfl | rfl | rfl
  · exact Do_0 W0 x y hx hy k hk
  · exact Do_1 W0 x y hx hy k hk
  · exact Do_2 W0 x y hx hy k hk
  · exact Do_3 W0 x y hx hy k hk
  · exact Do_4 W0 x y hx hy k hk
  · exact Do_5 W0 x y hx hy k hk
  · exact Do_6 W0 x y hx hy k hk
  · exact Do_7 W0 x y hx hy k hk
end Go.Proofs.Ytnfoibgafmeenaa.AM
