/- Turns, places, and the reference's layers, as contracts on the abstract machine. No condition but that the numbers are near. -/
import Derived.Test.YtdijdlkljeibjaaDoorDk
import Derived.Test.YtdijdlkljeibjaaDoorAm22
import Derived.Test.YtdijdlkljeibjaaDoorChecked
namespace Go.Proofs.YtdijdlkljeibjaaDoor.AM
open Go Go.RowKit
set_option cbv.warning false
set_option maxRecDepth 100000
set_option linter.unusedVariables false
set_option linter.unusedSimpArgs false
theorem bodied_35 : Bodied Tryd.prog 35 := ⟨Tryd.f35, by kernel_rfl, by kernel_rfl, by kernel_rfl⟩
theorem bodied_25 : Bodied Tryd.prog 25 := ⟨Tryd.f25, by kernel_rfl, by kernel_rfl, by kernel_rfl⟩
theorem bodied_36 : Bodied Tryd.prog 36 := ⟨Tryd.f36, by kernel_rfl, by kernel_rfl, by kernel_rfl⟩
theorem bodied_51 : Bodied Tryd.prog 51 := ⟨Tryd.f51, by kernel_rfl, by kernel_rfl, by kernel_rfl⟩
theorem bodied_52 : Bodied Tryd.prog 52 := ⟨Tryd.f52, by kernel_rfl, by kernel_rfl, by kernel_rfl⟩
theorem bodied_42 : Bodied Tryd.prog 42 := ⟨Tryd.f42, by kernel_rfl, by kernel_rfl, by kernel_rfl⟩
theorem bodied_53 : Bodied Tryd.prog 53 := ⟨Tryd.f53, by kernel_rfl, by kernel_rfl, by kernel_rfl⟩
theorem bodied_45 : Bodied Tryd.prog 45 := ⟨Tryd.f45, by kernel_rfl, by kernel_rfl, by kernel_rfl⟩
theorem bodied_54 : Bodied Tryd.prog 54 := ⟨Tryd.f54, by kernel_rfl, by kernel_rfl, by kernel_rfl⟩
theorem bodied_55 : Bodied Tryd.prog 55 := ⟨Tryd.f55, by kernel_rfl, by kernel_rfl, by kernel_rfl⟩
theorem bodied_58 : Bodied Tryd.prog 58 := ⟨Tryd.f58, by kernel_rfl, by kernel_rfl, by kernel_rfl⟩
theorem bodied_64 : Bodied Tryd.prog 64 := ⟨Tryd.f64, by kernel_rfl, by kernel_rfl, by kernel_rfl⟩
theorem bodied_60 : Bodied Tryd.prog 60 := ⟨Tryd.f60, by kernel_rfl, by kernel_rfl, by kernel_rfl⟩
theorem bodied_61 : Bodied Tryd.prog 61 := ⟨Tryd.f61, by kernel_rfl, by kernel_rfl, by kernel_rfl⟩
theorem bodied_71 : Bodied Tryd.prog 71 := ⟨Tryd.f71, by kernel_rfl, by kernel_rfl, by kernel_rfl⟩
theorem bodied_69 : Bodied Tryd.prog 69 := ⟨Tryd.f69, by kernel_rfl, by kernel_rfl, by kernel_rfl⟩
theorem bodied_70 : Bodied Tryd.prog 70 := ⟨Tryd.f70, by kernel_rfl, by kernel_rfl, by kernel_rfl⟩
/-- A number that is near. -/
structure Nr (K x : Int) : Prop where
  lo : -K ≤ x
  hi : x ≤ K
/-- A turn. -/
structure Tu (t : Int) : Prop where
  lo : 0 ≤ t
  hi : t ≤ 7
def dX (t x y : Int) : Int := match t.toNat with | 0 => x | 1 => -y | 2 => -x | 3 => y | 4 => -x | 5 => -y | 6 => x | _ => y
def dY (t x y : Int) : Int := match t.toNat with | 0 => y | 1 => x | 2 => -y | 3 => -x | 4 => y | 5 => -x | 6 => -y | _ => x
theorem Tu.cases {t : Int} (h : Tu t) : t = 0 ∨ t = 1 ∨ t = 2 ∨ t = 3 ∨ t = 4 ∨ t = 5 ∨ t = 6 ∨ t = 7 := by
  obtain ⟨h1, h2⟩ := h
  omega
theorem Mirrors_c (W0 : World) (t : Int) (h : Tu t) (k : V → Heap → Prop) (hk : ∀ b : Bool, (b = true ↔ 4 ≤ t) → k (.one (.bool b)) []) : ACall Tryd.prog W0 70 [.one (.int .i64 t)] [] k := by
  refine m_body tab_ok (fn := Tryd.f70) (by kernel_rfl) rfl ?_
  intro X hX
  cbv
  refine ⟨_, _, [], by simp [MH], rfl, rfl, ?_, hk (decide (4 ≤ t)) (by simp)⟩
  show MV _ (.one (.bool (decide (4 ≤ t)))) (.one (.bool (X.cmp .neq (X.bin .and .i64 t 4) 0)))
  have e : X.cmp .neq (X.bin .and .i64 t 4) 0 = decide (4 ≤ t) := by
    subst hX
    rcases h.cases with rfl | rfl | rfl | rfl | rfl | rfl | rfl | rfl <;> rfl
  rw [e]
  simp [MV, MC]
theorem Do_0 (W0 : World) (x y : Int) (hx : Nr 4611686018427387904 x) (hy : Nr 4611686018427387904 y) (k : V → Heap → Prop) (hk : ∀ b : Int × Int, (b.1 = dX 0 x y ∧ b.2 = dY 0 x y) → k (.agg [.int .i64 b.1, .int .i64 b.2]) []) : ACall Tryd.prog W0 69 [.one (.int .i64 0), .agg [.int .i64 x, .int .i64 y]] [] k := by
  refine m_body tab_ok (fn := Tryd.f69) (by kernel_rfl) rfl ?_
  intro X hX
  cbv
  refine m_callq hX [] bodied_70 (fun k2 hk2 => Mirrors_c W0 0 ⟨by omega, by omega⟩ k2 hk2) ?_ rfl rfl ?_ ?_
  · (first | (simp [MH, MB, MT, MV, MV.MVs, MC.MCs, MC, renC.renCs, renC, up]; done) | (simp [MH, MB, MT, MV, MV.MVs, MC.MCs, MC, renC.renCs, renC, up]; omega) | (simp [MH, MB, MT, MV, MV.MVs, MC.MCs, MC, renC.renCs, renC, up] <;> omega))
  · simp [MV, MV.MVs, MC, MC.MCs]
  intro b hb
  cbv
  obtain rfl : b = false := by
    cases b with
    | false => rfl
    | true => exact absurd (hb.1 rfl) (by omega)
  refine m_cond_f hX (by subst hX; rfl) ?_
  cbv
  refine m_rounds [()] tab_ok hX ?_
  refine aloop_step fun L hL K hK => ?_
  cbv
  refine m_cond_f hX (by subst hX; rfl) ?_
  cbv
  refine hK _ _ _ _ ?_
  cbv
  refine ⟨_, _, [], by simp [MH], rfl, rfl, ?_, hk (dX 0 x y, dY 0 x y) ⟨rfl, rfl⟩⟩
  have h1 := hx.lo
  have h2 := hx.hi
  have h3 := hy.lo
  have h4 := hy.hi
  subst hX
  simp (disch := omega) [MV, MC, MC.MCs, std, binS, dX, dY, wrap_eq]
theorem Do_1 (W0 : World) (x y : Int) (hx : Nr 4611686018427387904 x) (hy : Nr 4611686018427387904 y) (k : V → Heap → Prop) (hk : ∀ b : Int × Int, (b.1 = dX 1 x y ∧ b.2 = dY 1 x y) → k (.agg [.int .i64 b.1, .int .i64 b.2]) []) : ACall Tryd.prog W0 69 [.one (.int .i64 1), .agg [.int .i64 x, .int .i64 y]] [] k := by
  refine m_body tab_ok (fn := Tryd.f69) (by kernel_rfl) rfl ?_
  intro X hX
  cbv
  refine m_callq hX [] bodied_70 (fun k2 hk2 => Mirrors_c W0 1 ⟨by omega, by omega⟩ k2 hk2) ?_ rfl rfl ?_ ?_
  · (first | (simp [MH, MB, MT, MV, MV.MVs, MC.MCs, MC, renC.renCs, renC, up]; done) | (simp [MH, MB, MT, MV, MV.MVs, MC.MCs, MC, renC.renCs, renC, up]; omega) | (simp [MH, MB, MT, MV, MV.MVs, MC.MCs, MC, renC.renCs, renC, up] <;> omega))
  · simp [MV, MV.MVs, MC, MC.MCs]
  intro b hb
  cbv
  obtain rfl : b = false := by
    cases b with
    | false => rfl
    | true => exact absurd (hb.1 rfl) (by omega)
  refine m_cond_f hX (by subst hX; rfl) ?_
  cbv
  refine m_rounds [(), ()] tab_ok hX ?_
  refine aloop_step fun L0 hL0 K0 hK0 => ?_
  cbv
  refine m_cond_t hX (by subst hX; rfl) ?_
  cbv
  refine hL0 _ _ ?_
  refine aloop_step fun L hL K hK => ?_
  cbv
  refine m_cond_f hX (by subst hX; rfl) ?_
  cbv
  refine hK _ _ _ _ ?_
  cbv
  refine ⟨_, _, [], by simp [MH], rfl, rfl, ?_, hk (dX 1 x y, dY 1 x y) ⟨rfl, rfl⟩⟩
  have h1 := hx.lo
  have h2 := hx.hi
  have h3 := hy.lo
  have h4 := hy.hi
  subst hX
  simp (disch := omega) [MV, MC, MC.MCs, std, binS, dX, dY, wrap_eq]
theorem Do_2 (W0 : World) (x y : Int) (hx : Nr 4611686018427387904 x) (hy : Nr 4611686018427387904 y) (k : V → Heap → Prop) (hk : ∀ b : Int × Int, (b.1 = dX 2 x y ∧ b.2 = dY 2 x y) → k (.agg [.int .i64 b.1, .int .i64 b.2]) []) : ACall Tryd.prog W0 69 [.one (.int .i64 2), .agg [.int .i64 x, .int .i64 y]] [] k := by
  refine m_body tab_ok (fn := Tryd.f69) (by kernel_rfl) rfl ?_
  intro X hX
  cbv
  refine m_callq hX [] bodied_70 (fun k2 hk2 => Mirrors_c W0 2 ⟨by omega, by omega⟩ k2 hk2) ?_ rfl rfl ?_ ?_
  · (first | (simp [MH, MB, MT, MV, MV.MVs, MC.MCs, MC, renC.renCs, renC, up]; done) | (simp [MH, MB, MT, MV, MV.MVs, MC.MCs, MC, renC.renCs, renC, up]; omega) | (simp [MH, MB, MT, MV, MV.MVs, MC.MCs, MC, renC.renCs, renC, up] <;> omega))
  · simp [MV, MV.MVs, MC, MC.MCs]
  intro b hb
  cbv
  obtain rfl : b = false := by
    cases b with
    | false => rfl
    | true => exact absurd (hb.1 rfl) (by omega)
  refine m_cond_f hX (by subst hX; rfl) ?_
  cbv
  refine m_rounds [(), (), ()] tab_ok hX ?_
  refine aloop_step fun L0 hL0 K0 hK0 => ?_
  cbv
  refine m_cond_t hX (by subst hX; rfl) ?_
  cbv
  refine hL0 _ _ ?_
  refine aloop_step fun L1 hL1 K1 hK1 => ?_
  cbv
  refine m_cond_t hX (by subst hX; rfl) ?_
  cbv
  refine hL1 _ _ ?_
  refine aloop_step fun L hL K hK => ?_
  cbv
  refine m_cond_f hX (by subst hX; rfl) ?_
  cbv
  refine hK _ _ _ _ ?_
  cbv
  refine ⟨_, _, [], by simp [MH], rfl, rfl, ?_, hk (dX 2 x y, dY 2 x y) ⟨rfl, rfl⟩⟩
  have h1 := hx.lo
  have h2 := hx.hi
  have h3 := hy.lo
  have h4 := hy.hi
  subst hX
  simp (disch := omega) [MV, MC, MC.MCs, std, binS, dX, dY, wrap_eq]
theorem Do_3 (W0 : World) (x y : Int) (hx : Nr 4611686018427387904 x) (hy : Nr 4611686018427387904 y) (k : V → Heap → Prop) (hk : ∀ b : Int × Int, (b.1 = dX 3 x y ∧ b.2 = dY 3 x y) → k (.agg [.int .i64 b.1, .int .i64 b.2]) []) : ACall Tryd.prog W0 69 [.one (.int .i64 3), .agg [.int .i64 x, .int .i64 y]] [] k := by
  refine m_body tab_ok (fn := Tryd.f69) (by kernel_rfl) rfl ?_
  intro X hX
  cbv
  refine m_callq hX [] bodied_70 (fun k2 hk2 => Mirrors_c W0 3 ⟨by omega, by omega⟩ k2 hk2) ?_ rfl rfl ?_ ?_
  · (first | (simp [MH, MB, MT, MV, MV.MVs, MC.MCs, MC, renC.renCs, renC, up]; done) | (simp [MH, MB, MT, MV, MV.MVs, MC.MCs, MC, renC.renCs, renC, up]; omega) | (simp [MH, MB, MT, MV, MV.MVs, MC.MCs, MC, renC.renCs, renC, up] <;> omega))
  · simp [MV, MV.MVs, MC, MC.MCs]
  intro b hb
  cbv
  obtain rfl : b = false := by
    cases b with
    | false => rfl
    | true => exact absurd (hb.1 rfl) (by omega)
  refine m_cond_f hX (by subst hX; rfl) ?_
  cbv
  refine m_rounds [(), (), (), ()] tab_ok hX ?_
  refine aloop_step fun L0 hL0 K0 hK0 => ?_
  cbv
  refine m_cond_t hX (by subst hX; rfl) ?_
  cbv
  refine hL0 _ _ ?_
  refine aloop_step fun L1 hL1 K1 hK1 => ?_
  cbv
  refine m_cond_t hX (by subst hX; rfl) ?_
  cbv
  refine hL1 _ _ ?_
  refine aloop_step fun L2 hL2 K2 hK2 => ?_
  cbv
  refine m_cond_t hX (by subst hX; rfl) ?_
  cbv
  refine hL2 _ _ ?_
  refine aloop_step fun L hL K hK => ?_
  cbv
  refine m_cond_f hX (by subst hX; rfl) ?_
  cbv
  refine hK _ _ _ _ ?_
  cbv
  refine ⟨_, _, [], by simp [MH], rfl, rfl, ?_, hk (dX 3 x y, dY 3 x y) ⟨rfl, rfl⟩⟩
  have h1 := hx.lo
  have h2 := hx.hi
  have h3 := hy.lo
  have h4 := hy.hi
  subst hX
  simp (disch := omega) [MV, MC, MC.MCs, std, binS, dX, dY, wrap_eq]
theorem Do_4 (W0 : World) (x y : Int) (hx : Nr 4611686018427387904 x) (hy : Nr 4611686018427387904 y) (k : V → Heap → Prop) (hk : ∀ b : Int × Int, (b.1 = dX 4 x y ∧ b.2 = dY 4 x y) → k (.agg [.int .i64 b.1, .int .i64 b.2]) []) : ACall Tryd.prog W0 69 [.one (.int .i64 4), .agg [.int .i64 x, .int .i64 y]] [] k := by
  refine m_body tab_ok (fn := Tryd.f69) (by kernel_rfl) rfl ?_
  intro X hX
  cbv
  refine m_callq hX [] bodied_70 (fun k2 hk2 => Mirrors_c W0 4 ⟨by omega, by omega⟩ k2 hk2) ?_ rfl rfl ?_ ?_
  · (first | (simp [MH, MB, MT, MV, MV.MVs, MC.MCs, MC, renC.renCs, renC, up]; done) | (simp [MH, MB, MT, MV, MV.MVs, MC.MCs, MC, renC.renCs, renC, up]; omega) | (simp [MH, MB, MT, MV, MV.MVs, MC.MCs, MC, renC.renCs, renC, up] <;> omega))
  · simp [MV, MV.MVs, MC, MC.MCs]
  intro b hb
  cbv
  obtain rfl : b = true := by
    cases b with
    | true => rfl
    | false => exact absurd (hb.2 (by omega)) (by simp)
  refine m_cond_t hX (by subst hX; rfl) ?_
  cbv
  refine m_rounds [()] tab_ok hX ?_
  refine aloop_step fun L hL K hK => ?_
  cbv
  refine m_cond_f hX (by subst hX; rfl) ?_
  cbv
  refine hK _ _ _ _ ?_
  cbv
  refine ⟨_, _, [], by simp [MH], rfl, rfl, ?_, hk (dX 4 x y, dY 4 x y) ⟨rfl, rfl⟩⟩
  have h1 := hx.lo
  have h2 := hx.hi
  have h3 := hy.lo
  have h4 := hy.hi
  subst hX
  simp (disch := omega) [MV, MC, MC.MCs, std, binS, dX, dY, wrap_eq]
theorem Do_5 (W0 : World) (x y : Int) (hx : Nr 4611686018427387904 x) (hy : Nr 4611686018427387904 y) (k : V → Heap → Prop) (hk : ∀ b : Int × Int, (b.1 = dX 5 x y ∧ b.2 = dY 5 x y) → k (.agg [.int .i64 b.1, .int .i64 b.2]) []) : ACall Tryd.prog W0 69 [.one (.int .i64 5), .agg [.int .i64 x, .int .i64 y]] [] k := by
  refine m_body tab_ok (fn := Tryd.f69) (by kernel_rfl) rfl ?_
  intro X hX
  cbv
  refine m_callq hX [] bodied_70 (fun k2 hk2 => Mirrors_c W0 5 ⟨by omega, by omega⟩ k2 hk2) ?_ rfl rfl ?_ ?_
  · (first | (simp [MH, MB, MT, MV, MV.MVs, MC.MCs, MC, renC.renCs, renC, up]; done) | (simp [MH, MB, MT, MV, MV.MVs, MC.MCs, MC, renC.renCs, renC, up]; omega) | (simp [MH, MB, MT, MV, MV.MVs, MC.MCs, MC, renC.renCs, renC, up] <;> omega))
  · simp [MV, MV.MVs, MC, MC.MCs]
  intro b hb
  cbv
  obtain rfl : b = true := by
    cases b with
    | true => rfl
    | false => exact absurd (hb.2 (by omega)) (by simp)
  refine m_cond_t hX (by subst hX; rfl) ?_
  cbv
  refine m_rounds [(), ()] tab_ok hX ?_
  refine aloop_step fun L0 hL0 K0 hK0 => ?_
  cbv
  refine m_cond_t hX (by subst hX; rfl) ?_
  cbv
  refine hL0 _ _ ?_
  refine aloop_step fun L hL K hK => ?_
  cbv
  refine m_cond_f hX (by subst hX; rfl) ?_
  cbv
  refine hK _ _ _ _ ?_
  cbv
  refine ⟨_, _, [], by simp [MH], rfl, rfl, ?_, hk (dX 5 x y, dY 5 x y) ⟨rfl, rfl⟩⟩
  have h1 := hx.lo
  have h2 := hx.hi
  have h3 := hy.lo
  have h4 := hy.hi
  subst hX
  simp (disch := omega) [MV, MC, MC.MCs, std, binS, dX, dY, wrap_eq]
theorem Do_6 (W0 : World) (x y : Int) (hx : Nr 4611686018427387904 x) (hy : Nr 4611686018427387904 y) (k : V → Heap → Prop) (hk : ∀ b : Int × Int, (b.1 = dX 6 x y ∧ b.2 = dY 6 x y) → k (.agg [.int .i64 b.1, .int .i64 b.2]) []) : ACall Tryd.prog W0 69 [.one (.int .i64 6), .agg [.int .i64 x, .int .i64 y]] [] k := by
  refine m_body tab_ok (fn := Tryd.f69) (by kernel_rfl) rfl ?_
  intro X hX
  cbv
  refine m_callq hX [] bodied_70 (fun k2 hk2 => Mirrors_c W0 6 ⟨by omega, by omega⟩ k2 hk2) ?_ rfl rfl ?_ ?_
  · (first | (simp [MH, MB, MT, MV, MV.MVs, MC.MCs, MC, renC.renCs, renC, up]; done) | (simp [MH, MB, MT, MV, MV.MVs, MC.MCs, MC, renC.renCs, renC, up]; omega) | (simp [MH, MB, MT, MV, MV.MVs, MC.MCs, MC, renC.renCs, renC, up] <;> omega))
  · simp [MV, MV.MVs, MC, MC.MCs]
  intro b hb
  cbv
  obtain rfl : b = true := by
    cases b with
    | true => rfl
    | false => exact absurd (hb.2 (by omega)) (by simp)
  refine m_cond_t hX (by subst hX; rfl) ?_
  cbv
  refine m_rounds [(), (), ()] tab_ok hX ?_
  refine aloop_step fun L0 hL0 K0 hK0 => ?_
  cbv
  refine m_cond_t hX (by subst hX; rfl) ?_
  cbv
  refine hL0 _ _ ?_
  refine aloop_step fun L1 hL1 K1 hK1 => ?_
  cbv
  refine m_cond_t hX (by subst hX; rfl) ?_
  cbv
  refine hL1 _ _ ?_
  refine aloop_step fun L hL K hK => ?_
  cbv
  refine m_cond_f hX (by subst hX; rfl) ?_
  cbv
  refine hK _ _ _ _ ?_
  cbv
  refine ⟨_, _, [], by simp [MH], rfl, rfl, ?_, hk (dX 6 x y, dY 6 x y) ⟨rfl, rfl⟩⟩
  have h1 := hx.lo
  have h2 := hx.hi
  have h3 := hy.lo
  have h4 := hy.hi
  subst hX
  simp (disch := omega) [MV, MC, MC.MCs, std, binS, dX, dY, wrap_eq]
theorem Do_7 (W0 : World) (x y : Int) (hx : Nr 4611686018427387904 x) (hy : Nr 4611686018427387904 y) (k : V → Heap → Prop) (hk : ∀ b : Int × Int, (b.1 = dX 7 x y ∧ b.2 = dY 7 x y) → k (.agg [.int .i64 b.1, .int .i64 b.2]) []) : ACall Tryd.prog W0 69 [.one (.int .i64 7), .agg [.int .i64 x, .int .i64 y]] [] k := by
  refine m_body tab_ok (fn := Tryd.f69) (by kernel_rfl) rfl ?_
  intro X hX
  cbv
  refine m_callq hX [] bodied_70 (fun k2 hk2 => Mirrors_c W0 7 ⟨by omega, by omega⟩ k2 hk2) ?_ rfl rfl ?_ ?_
  · (first | (simp [MH, MB, MT, MV, MV.MVs, MC.MCs, MC, renC.renCs, renC, up]; done) | (simp [MH, MB, MT, MV, MV.MVs, MC.MCs, MC, renC.renCs, renC, up]; omega) | (simp [MH, MB, MT, MV, MV.MVs, MC.MCs, MC, renC.renCs, renC, up] <;> omega))
  · simp [MV, MV.MVs, MC, MC.MCs]
  intro b hb
  cbv
  obtain rfl : b = true := by
    cases b with
    | true => rfl
    | false => exact absurd (hb.2 (by omega)) (by simp)
  refine m_cond_t hX (by subst hX; rfl) ?_
  cbv
  refine m_rounds [(), (), (), ()] tab_ok hX ?_
  refine aloop_step fun L0 hL0 K0 hK0 => ?_
  cbv
  refine m_cond_t hX (by subst hX; rfl) ?_
  cbv
  refine hL0 _ _ ?_
  refine aloop_step fun L1 hL1 K1 hK1 => ?_
  cbv
  refine m_cond_t hX (by subst hX; rfl) ?_
  cbv
  refine hL1 _ _ ?_
  refine aloop_step fun L2 hL2 K2 hK2 => ?_
  cbv
  refine m_cond_t hX (by subst hX; rfl) ?_
  cbv
  refine hL2 _ _ ?_
  refine aloop_step fun L hL K hK => ?_
  cbv
  refine m_cond_f hX (by subst hX; rfl) ?_
  cbv
  refine hK _ _ _ _ ?_
  cbv
  refine ⟨_, _, [], by simp [MH], rfl, rfl, ?_, hk (dX 7 x y, dY 7 x y) ⟨rfl, rfl⟩⟩
  have h1 := hx.lo
  have h2 := hx.hi
  have h3 := hy.lo
  have h4 := hy.hi
  subst hX
  simp (disch := omega) [MV, MC, MC.MCs, std, binS, dX, dY, wrap_eq]
theorem Do_c (W0 : World) (t x y : Int) (ht : Tu t) (hx : Nr 4611686018427387904 x) (hy : Nr 4611686018427387904 y) (k : V → Heap → Prop) (hk : ∀ b : Int × Int, (b.1 = dX t x y ∧ b.2 = dY t x y) → k (.agg [.int .i64 b.1, .int .i64 b.2]) []) : ACall Tryd.prog W0 69 [.one (.int .i64 t), .agg [.int .i64 x, .int .i64 y]] [] k := by
  rcases ht.cases with rfl | rfl | rfl | rfl | rfl | rfl | rfl | rfl
  · exact Do_0 W0 x y hx hy k hk
  · exact Do_1 W0 x y hx hy k hk
  · exact Do_2 W0 x y hx hy k hk
  · exact Do_3 W0 x y hx hy k hk
  · exact Do_4 W0 x y hx hy k hk
  · exact Do_5 W0 x y hx hy k hk
  · exact Do_6 W0 x y hx hy k hk
  · exact Do_7 W0 x y hx hy k hk
end Go.Proofs.YtdijdlkljeibjaaDoor.AM
namespace Go.Proofs.YtdijdlkljeibjaaDoor.AM
open Go Go.RowKit
set_option cbv.warning false
set_option maxRecDepth 100000
set_option linter.unusedVariables false
set_option linter.unusedSimpArgs false
theorem Nr.up {K L x : Int} (h : Nr K x) (hl : K ≤ L) : Nr L x := by
  obtain ⟨h1, h2⟩ := h
  exact ⟨by omega, by omega⟩
theorem Nr.dX {K t x y : Int} (ht : Tu t) (hx : Nr K x) (hy : Nr K y) : Nr K (dX t x y) ∧ Nr K (dY t x y) := by
  obtain ⟨h1, h2⟩ := hx
  obtain ⟨h3, h4⟩ := hy
  rcases ht.cases with rfl | rfl | rfl | rfl | rfl | rfl | rfl | rfl <;> exact ⟨⟨by simp [AM.dX]; try omega, by simp [AM.dX]; try omega⟩, ⟨by simp [dY]; try omega, by simp [dY]; try omega⟩⟩
theorem addN {K a b : Int} (ha : Nr K a) (hb : Nr K b) (hK : K ≤ 4611686018427387000) {X : Ext} {P : Program} {W0 : World} {md : Md} (hX : X = std P W0 md) : X.bin .add .i64 a b = a + b := by
  obtain ⟨h1, h2⟩ := ha
  obtain ⟨h3, h4⟩ := hb
  subst hX
  show IntKind.i64.wrap (a + b) = a + b
  exact wrap_eq (by omega) (by omega)
theorem negN {K a : Int} (ha : Nr K a) (hK : K ≤ 4611686018427387904) {X : Ext} {P : Program} {W0 : World} {md : Md} (hX : X = std P W0 md) : X.bin .sub .i64 0 a = -a := by
  obtain ⟨h1, h2⟩ := ha
  subst hX
  show IntKind.i64.wrap (0 - a) = -a
  rw [wrap_eq (by omega) (by omega)]
  omega
/-- place.Do -/
theorem PDo_c (W0 : World) (t X0 Y0 x y : Int) (ht : Tu t) (hX0 : Nr 1152921504606846976 X0) (hY0 : Nr 1152921504606846976 Y0) (hx : Nr 1152921504606846976 x) (hy : Nr 1152921504606846976 y) (k : V → Heap → Prop) (hk : ∀ b : Int × Int, (b.1 = dX t x y + X0 ∧ b.2 = dY t x y + Y0) → k (.agg [.int .i64 b.1, .int .i64 b.2]) []) : ACall Tryd.prog W0 60 [.agg [.int .i64 t, .int .i64 X0, .int .i64 Y0], .agg [.int .i64 x, .int .i64 y]] [] k := by
  refine m_body tab_ok (fn := Tryd.f60) (by kernel_rfl) rfl ?_
  intro X hX
  cbv
  refine m_callq hX [] bodied_69 (fun k2 hk2 => Do_c W0 t x y ht (hx.up (by omega)) (hy.up (by omega)) k2 hk2) ?_ rfl rfl ?_ ?_
  · (first | (simp [MH, MB, MT, MV, MV.MVs, MC.MCs, MC, renC.renCs, renC, up]; done) | (simp [MH, MB, MT, MV, MV.MVs, MC.MCs, MC, renC.renCs, renC, up]; omega) | (simp [MH, MB, MT, MV, MV.MVs, MC.MCs, MC, renC.renCs, renC, up] <;> omega))
  · simp [MV, MV.MVs, MC, MC.MCs]
  intro b hb
  obtain ⟨u, v⟩ := b
  have hu : u = dX t x y := hb.1
  have hv : v = dY t x y := hb.2
  clear hb
  cbv
  obtain ⟨n1, n2⟩ := Nr.dX ht hx hy
  rw [← hu] at n1
  rw [← hv] at n2
  have e1 := addN n1 hX0 (by omega) hX
  have e2 := addN n2 hY0 (by omega) hX
  refine ⟨_, _, [], by simp [MH], rfl, rfl, ?_, hk (u + X0, v + Y0) ⟨by rw [hu], by rw [hv]⟩⟩
  show MV _ (.agg [.int .i64 (u + X0), .int .i64 (v + Y0)]) (.agg [.int .i64 (X.bin .add .i64 u X0), .int .i64 (X.bin .add .i64 v Y0)])
  rw [e1, e2]
  simp [MV, MC, MC.MCs]
/-- box.Empty -/
theorem Empty_c (W0 : World) (x0 y0 x1 y1 : Int) (k : V → Heap → Prop) (hk : ∀ b : Bool, (b = true ↔ x1 ≤ x0 ∨ y1 ≤ y0) → k (.one (.bool b)) []) : ACall Tryd.prog W0 51 [.agg [.int .i64 x0, .int .i64 y0, .int .i64 x1, .int .i64 y1]] [] k := by
  refine m_body tab_ok (fn := Tryd.f51) (by kernel_rfl) rfl ?_
  intro X hX
  cbv
  refine m_cond hX (fun h => ?_) (fun h => ?_) <;> cbv
  ·
    repeat' (first | (refine m_cond_t hX (by first | rfl | assumption | (subst hX; rfl)) ?_; cbv) | (refine m_cond_f hX (by first | rfl | assumption | (subst hX; rfl)) ?_; cbv) | fail)
    refine ⟨_, _, [], by simp [MH], rfl, rfl, ?_, hk true ?_⟩
    · simp [MV, MC]
    · subst hX
      simp [std, cmpS] at h
      simp [h]
  ·
    repeat' (first | (refine m_cond_t hX (by first | rfl | assumption | (subst hX; rfl)) ?_; cbv) | (refine m_cond_f hX (by first | rfl | assumption | (subst hX; rfl)) ?_; cbv) | fail)
    refine ⟨_, _, [], by simp [MH], rfl, rfl, ?_, hk (decide (y1 ≤ y0)) ?_⟩
    · subst hX
      simp [std, cmpS] at h
      simp [MV, MC, std, cmpS]
      intro h2
      omega
    · subst hX
      simp [std, cmpS] at h
      simp
      omega
/-- turn.Then, as a number. -/
def tThen (a b : Int) : Int := (IntKind.i64.wrap (BitVec.ofInt 64 (IntKind.i64.wrap (BitVec.ofInt 64 (if 4 ≤ b then IntKind.i64.wrap (b - a) else IntKind.i64.wrap (b + a)) &&& BitVec.ofInt 64 3).toNat) ||| BitVec.ofInt 64 (IntKind.i64.wrap (BitVec.ofInt 64 (IntKind.i64.wrap (BitVec.ofInt 64 a ^^^ BitVec.ofInt 64 b).toNat) &&& BitVec.ofInt 64 4).toNat)).toNat)
theorem TThen_c (W0 : World) (a b : Int) (ha : Tu a) (hb : Tu b) (k : V → Heap → Prop) (hk : ∀ z : Int, z = tThen a b → k (.one (.int .i64 z)) []) : ACall Tryd.prog W0 61 [.one (.int .i64 a), .one (.int .i64 b)] [] k := by
  refine m_body tab_ok (fn := Tryd.f61) (by kernel_rfl) rfl ?_
  intro X hX
  cbv
  refine m_callq hX [] bodied_70 (fun k2 hk2 => Mirrors_c W0 b hb k2 hk2) ?_ rfl rfl ?_ ?_
  · (first | (simp [MH, MB, MT, MV, MV.MVs, MC.MCs, MC, renC.renCs, renC, up]; done) | (simp [MH, MB, MT, MV, MV.MVs, MC.MCs, MC, renC.renCs, renC, up]; omega) | (simp [MH, MB, MT, MV, MV.MVs, MC.MCs, MC, renC.renCs, renC, up] <;> omega))
  · simp [MV, MV.MVs, MC, MC.MCs]
  intro m hm
  cbv
  cases m with
  | true =>
    have h4 := hm.1 rfl
    refine m_cond_t hX (by subst hX; rfl) ?_
    cbv
    refine ⟨_, _, [], by simp [MH], rfl, rfl, ?_, hk _ rfl⟩
    show MV _ (.one (.int .i64 (tThen a b))) (.one (.int .i64 (X.bin .or .i64 (X.bin .and .i64 (X.bin .sub .i64 b a) 3) (X.bin .and .i64 (X.bin .xor .i64 a b) 4))))
    have e : X.bin .or .i64 (X.bin .and .i64 (X.bin .sub .i64 b a) 3) (X.bin .and .i64 (X.bin .xor .i64 a b) 4) = tThen a b := by
      subst hX
      unfold tThen
      rw [if_pos h4]
      rfl
    rw [e]
    simp [MV, MC]
  | false =>
    have h4 : ¬ 4 ≤ b := fun h => by cases hm.2 h
    refine m_cond_f hX (by subst hX; rfl) ?_
    cbv
    refine ⟨_, _, [], by simp [MH], rfl, rfl, ?_, hk _ rfl⟩
    show MV _ (.one (.int .i64 (tThen a b))) (.one (.int .i64 (X.bin .or .i64 (X.bin .and .i64 (X.bin .add .i64 b a) 3) (X.bin .and .i64 (X.bin .xor .i64 a b) 4))))
    have e : X.bin .or .i64 (X.bin .and .i64 (X.bin .add .i64 b a) 3) (X.bin .and .i64 (X.bin .xor .i64 a b) 4) = tThen a b := by
      subst hX
      unfold tThen
      rw [if_neg h4]
      rfl
    rw [e]
    simp [MV, MC]
/-- turn.Back -/
def tBack (t : Int) : Int := match t.toNat with | 0 => 0 | 1 => 3 | 2 => 2 | 3 => 1 | 4 => 4 | 5 => 5 | 6 => 6 | _ => 7
theorem TBack_c (W0 : World) (t : Int) (ht : Tu t) (k : V → Heap → Prop) (hk : ∀ z : Int, z = tBack t → k (.one (.int .i64 z)) []) : ACall Tryd.prog W0 71 [.one (.int .i64 t)] [] k := by
  refine m_body tab_ok (fn := Tryd.f71) (by kernel_rfl) rfl ?_
  intro X hX
  cbv
  refine m_callq hX [] bodied_70 (fun k2 hk2 => Mirrors_c W0 t ht k2 hk2) ?_ rfl rfl ?_ ?_
  · (first | (simp [MH, MB, MT, MV, MV.MVs, MC.MCs, MC, renC.renCs, renC, up]; done) | (simp [MH, MB, MT, MV, MV.MVs, MC.MCs, MC, renC.renCs, renC, up]; omega) | (simp [MH, MB, MT, MV, MV.MVs, MC.MCs, MC, renC.renCs, renC, up] <;> omega))
  · simp [MV, MV.MVs, MC, MC.MCs]
  intro m hm
  cbv
  cases m with
  | true =>
    have h4 := hm.1 rfl
    refine m_cond_t hX (by subst hX; rfl) ?_
    cbv
    refine ⟨_, _, [], by simp [MH], rfl, rfl, ?_, hk _ rfl⟩
    show MV _ (.one (.int .i64 (tBack t))) (.one (.int .i64 (X.bin .and .i64 t 7)))
    have e : X.bin .and .i64 t 7 = tBack t := by
      subst hX
      rcases ht.cases with rfl | rfl | rfl | rfl | rfl | rfl | rfl | rfl <;> first | rfl | omega
    rw [e]
    simp [MV, MC]
  | false =>
    have h4 : ¬ 4 ≤ t := fun h => by cases hm.2 h
    refine m_cond_f hX (by subst hX; rfl) ?_
    cbv
    refine ⟨_, _, [], by simp [MH], rfl, rfl, ?_, hk _ rfl⟩
    show MV _ (.one (.int .i64 (tBack t))) (.one (.int .i64 (X.bin .and .i64 (X.bin .sub .i64 0 t) 3)))
    have e : X.bin .and .i64 (X.bin .sub .i64 0 t) 3 = tBack t := by
      subst hX
      rcases ht.cases with rfl | rfl | rfl | rfl | rfl | rfl | rfl | rfl <;> first | (exfalso; omega) | kernel_rfl
    rw [e]
    simp [MV, MC]
end Go.Proofs.YtdijdlkljeibjaaDoor.AM
namespace Go.Proofs.YtdijdlkljeibjaaDoor.AM
open Go Go.RowKit
set_option cbv.warning false
set_option maxRecDepth 100000
set_option linter.unusedVariables false
set_option linter.unusedSimpArgs false
theorem mmMin {a b : Int} {X : Ext} {P : Program} {W0 : World} {md : Md} (hX : X = std P W0 md) : X.mm .min a b = min a b := by
  subst hX
  show (if b < a then b else a) = min a b
  split <;> omega
theorem mmMax {a b : Int} {X : Ext} {P : Program} {W0 : World} {md : Md} (hX : X = std P W0 md) : X.mm .max a b = max a b := by
  subst hX
  show (if a < b then b else a) = max a b
  split <;> omega
def bA (t X Y x0 y0 x1 y1 : Int) : Int := min (dX t x0 y0 + X) (dX t x1 y1 + X)
def bB (t X Y x0 y0 x1 y1 : Int) : Int := min (dY t x0 y0 + Y) (dY t x1 y1 + Y)
def bC (t X Y x0 y0 x1 y1 : Int) : Int := max (dX t x0 y0 + X) (dX t x1 y1 + X)
def bD (t X Y x0 y0 x1 y1 : Int) : Int := max (dY t x0 y0 + Y) (dY t x1 y1 + Y)
/-- Four numbers, those of a rectangle that is brought. -/
structure IsBox (t X Y x0 y0 x1 y1 a b c d : Int) : Prop where
  a : a = bA t X Y x0 y0 x1 y1
  b : b = bB t X Y x0 y0 x1 y1
  c : c = bC t X Y x0 y0 x1 y1
  d : d = bD t X Y x0 y0 x1 y1
set_option maxHeartbeats 1000000 in
/-- place.Box -/
theorem PBox_c (W0 : World) (t X0 Y0 x0 y0 x1 y1 : Int) (ht : Tu t) (hX0 : Nr 1152921504606846976 X0) (hY0 : Nr 1152921504606846976 Y0) (hx0 : Nr 1152921504606846976 x0) (hy0 : Nr 1152921504606846976 y0) (hx1 : Nr 1152921504606846976 x1) (hy1 : Nr 1152921504606846976 y1)
    (k : V → Heap → Prop) (hk : ∀ b : Int × Int × Int × Int, IsBox t X0 Y0 x0 y0 x1 y1 b.1 b.2.1 b.2.2.1 b.2.2.2 → k (.agg [.int .i64 b.1, .int .i64 b.2.1, .int .i64 b.2.2.1, .int .i64 b.2.2.2]) []) : ACall Tryd.prog W0 58 [.agg [.int .i64 t, .int .i64 X0, .int .i64 Y0], .agg [.int .i64 x0, .int .i64 y0, .int .i64 x1, .int .i64 y1]] [] k := by
  obtain ⟨pu, hpu⟩ : ∃ pu, pu = dX t x0 y0 + X0 := ⟨_, rfl⟩
  obtain ⟨pv, hpv⟩ : ∃ pv, pv = dY t x0 y0 + Y0 := ⟨_, rfl⟩
  obtain ⟨qu, hqu⟩ : ∃ qu, qu = dX t x1 y1 + X0 := ⟨_, rfl⟩
  obtain ⟨qv, hqv⟩ : ∃ qv, qv = dY t x1 y1 + Y0 := ⟨_, rfl⟩
  refine m_body tab_ok (fn := Tryd.f58) (by kernel_rfl) rfl ?_
  intro X hX
  cbv
  refine m_drawAs hX ([.one .undef, .one .undef, .one .undef, .one .undef, .one (.ptr 2 0 0), .one (.ptr 3 0 0), .one (.ptr 4 0 0)] ++ List.replicate 35 (.one .undef)) [some (.box 41 [.int .i64 t, .int .i64 X0, .int .i64 Y0]), some (.box 39 [.int .i64 x0, .int .i64 y0, .int .i64 x1, .int .i64 y1]), some (.box 39 [.int .i64 0, .int .i64 0, .int .i64 0, .int .i64 0]), some (.box 51 [.int .i64 pu, .int .i64 pv]), some (.box 51 [.int .i64 qu, .int .i64 qv])] ?_ ?_
  ·
    refine m_drawT tab_ok hX [] [16,17] (.one 1 0 (.one 3 0 (.one 8 0 (.one 10 0 (.one 0 1 (.one 2 1 (.one 4 1 (.one 5 0 (.one 7 1 (.one 9 1 (.one 11 1 (.one 12 0 (.three 6 2 (.three 13 2 (.two 14 2 (.one 15 2 (.one 16 3 (.one 17 3 .fin))) 15 2 (.one 14 2 (.one 16 3 (.one 17 3 .fin)))) 14 2 (.two 13 2 (.one 15 2 (.one 16 3 (.one 17 3 .fin))) 15 2 (.one 13 2 (.one 16 3 (.one 17 3 .fin)))) 15 2 (.two 13 2 (.one 14 2 (.one 16 3 (.one 17 3 .fin))) 14 2 (.one 13 2 (.one 16 3 (.one 17 3 .fin))))) 14 2 (.two 6 2 (.two 13 2 (.one 15 2 (.one 16 3 (.one 17 3 .fin))) 15 2 (.one 13 2 (.one 16 3 (.one 17 3 .fin)))) 15 2 (.one 6 2 (.one 13 2 (.one 16 3 (.one 17 3 .fin))))) 15 2 (.two 6 2 (.two 13 2 (.one 14 2 (.one 16 3 (.one 17 3 .fin))) 14 2 (.one 13 2 (.one 16 3 (.one 17 3 .fin)))) 14 2 (.one 6 2 (.one 13 2 (.one 16 3 (.one 17 3 .fin)))))))))))))))))) (by kernel_rfl) (by simp) ?_
    cbv
    repeat' (first | (refine And.intro ?_ ?_) | (refine m_callq hX [] bodied_60 (fun k2 hk2 => PDo_c W0 t X0 Y0 x0 y0 ht hX0 hY0 hx0 hy0 k2 hk2) (by simp [MH]) rfl rfl ⟨⟨⟨rfl, rfl⟩, ⟨rfl, rfl⟩, ⟨rfl, rfl⟩, trivial⟩, ⟨⟨rfl, rfl⟩, ⟨rfl, rfl⟩, trivial⟩, trivial⟩ ?_; intro b hb; obtain rfl : b = (pu, pv) := Prod.ext (hb.1.trans hpu.symm) (hb.2.trans hpv.symm); cbv) | (refine m_callq hX [] bodied_60 (fun k2 hk2 => PDo_c W0 t X0 Y0 x1 y1 ht hX0 hY0 hx1 hy1 k2 hk2) (by simp [MH]) rfl rfl ⟨⟨⟨rfl, rfl⟩, ⟨rfl, rfl⟩, ⟨rfl, rfl⟩, trivial⟩, ⟨⟨rfl, rfl⟩, ⟨rfl, rfl⟩, trivial⟩, trivial⟩ ?_; intro b hb; obtain rfl : b = (qu, qv) := Prod.ext (hb.1.trans hqu.symm) (hb.2.trans hqv.symm); cbv) | fail)
    all_goals first
      | (refine ⟨[some 0, some 1, some 2, some 3, some 4], ?_, rfl, rfl, ?_⟩ <;> (simp [MH, MT, MB, MV.MVs, MV, MC.MCs, MC, renC.renCs, renC, up]; done))
      | (refine ⟨[some 0, some 1, some 2, some 4, some 3], ?_, rfl, rfl, ?_⟩ <;> (simp [MH, MT, MB, MV.MVs, MV, MC.MCs, MC, renC.renCs, renC, up]; done))
  cbv
  refine ⟨_, _, [], by simp [MH], rfl, rfl, ?_, hk (min pu qu, min pv qv, max pu qu, max pv qv) ⟨by rw [hpu, hqu]; rfl, by rw [hpv, hqv]; rfl, by rw [hpu, hqu]; rfl, by rw [hpv, hqv]; rfl⟩⟩
  show MV _ (.agg [.int .i64 (min pu qu), .int .i64 (min pv qv), .int .i64 (max pu qu), .int .i64 (max pv qv)]) (.agg [.int .i64 (X.mm .min pu qu), .int .i64 (X.mm .min pv qv), .int .i64 (X.mm .max pu qu), .int .i64 (X.mm .max pv qv)])
  rw [mmMin hX, mmMin hX, mmMax hX, mmMax hX]
  simp [MV, MC, MC.MCs]
end Go.Proofs.YtdijdlkljeibjaaDoor.AM
namespace Go.Proofs.YtdijdlkljeibjaaDoor.AM
open Go Go.RowKit
set_option cbv.warning false
set_option maxRecDepth 100000
set_option linter.unusedVariables false
set_option linter.unusedSimpArgs false
theorem Nr.neg {K x : Int} (h : Nr K x) : Nr K (-x) := by
  obtain ⟨h1, h2⟩ := h
  exact ⟨by omega, by omega⟩
theorem Tu.back {t : Int} (h : Tu t) : Tu (tBack t) := by
  rcases h.cases with rfl | rfl | rfl | rfl | rfl | rfl | rfl | rfl <;> exact ⟨by decide, by decide⟩
/-- The place that undoes one. -/
structure IsBack (t X Y a b c : Int) : Prop where
  a : a = tBack t
  b : b = -dX (tBack t) X Y
  c : c = -dY (tBack t) X Y
/-- place.Back -/
theorem PBack_c (W0 : World) (t X0 Y0 : Int) (ht : Tu t) (hX0 : Nr 1152921504606846976 X0) (hY0 : Nr 1152921504606846976 Y0) (k : V → Heap → Prop) (hk : ∀ b : Int × Int × Int, IsBack t X0 Y0 b.1 b.2.1 b.2.2 → k (.agg [.int .i64 b.1, .int .i64 b.2.1, .int .i64 b.2.2]) []) : ACall Tryd.prog W0 64 [.agg [.int .i64 t, .int .i64 X0, .int .i64 Y0]] [] k := by
  refine m_body tab_ok (fn := Tryd.f64) (by kernel_rfl) rfl ?_
  intro X hX
  cbv
  refine m_callq hX [] bodied_71 (fun k2 hk2 => TBack_c W0 t ht k2 hk2) ?_ rfl rfl ?_ ?_
  · (first | (simp [MH, MB, MT, MV, MV.MVs, MC.MCs, MC, renC.renCs, renC, up]; done) | (simp [MH, MB, MT, MV, MV.MVs, MC.MCs, MC, renC.renCs, renC, up]; omega) | (simp [MH, MB, MT, MV, MV.MVs, MC.MCs, MC, renC.renCs, renC, up] <;> omega))
  · simp [MV, MV.MVs, MC, MC.MCs]
  intro z hz
  cbv
  replace hz : z = tBack t := hz
  have hzt : Tu z := hz ▸ ht.back
  refine m_callq hX [] bodied_69 (fun k2 hk2 => Do_c W0 z X0 Y0 hzt (hX0.up (by omega)) (hY0.up (by omega)) k2 hk2) ?_ rfl rfl ?_ ?_
  · (first | (simp [MH, MB, MT, MV, MV.MVs, MC.MCs, MC, renC.renCs, renC, up]; done) | (simp [MH, MB, MT, MV, MV.MVs, MC.MCs, MC, renC.renCs, renC, up]; omega) | (simp [MH, MB, MT, MV, MV.MVs, MC.MCs, MC, renC.renCs, renC, up] <;> omega))
  · simp [MV, MV.MVs, MC, MC.MCs]
  intro b hb
  obtain ⟨u, v⟩ := b
  have hu : u = dX z X0 Y0 := hb.1
  have hv : v = dY z X0 Y0 := hb.2
  clear hb
  cbv
  obtain ⟨n1, n2⟩ := Nr.dX hzt hX0 hY0
  rw [← hu] at n1
  rw [← hv] at n2
  have e1 := negN n1 (by omega) hX
  have e2 := negN n2 (by omega) hX
  refine ⟨_, _, [], by simp [MH], rfl, rfl, ?_, hk (z, -u, -v) ⟨hz, by rw [← hz, hu], by rw [← hz, hv]⟩⟩
  show MV _ (.agg [.int .i64 z, .int .i64 (-u), .int .i64 (-v)]) (.agg [.int .i64 z, .int .i64 (X.bin .sub .i64 0 u), .int .i64 (X.bin .sub .i64 0 v)])
  rw [e1, e2]
  simp [MV, MC, MC.MCs]
/-- The one place, then the other one. -/
structure IsThen (t X Y t' X' Y' a b c : Int) : Prop where
  a : a = tThen t t'
  b : b = dX t' X Y + X'
  c : c = dY t' X Y + Y'
/-- place.Then -/
theorem PThen_c (W0 : World) (t X0 Y0 t' X1 Y1 : Int) (ht : Tu t) (ht' : Tu t') (hX0 : Nr 1152921504606846976 X0) (hY0 : Nr 1152921504606846976 Y0) (hX1 : Nr 1152921504606846976 X1) (hY1 : Nr 1152921504606846976 Y1) (k : V → Heap → Prop) (hk : ∀ b : Int × Int × Int, IsThen t X0 Y0 t' X1 Y1 b.1 b.2.1 b.2.2 → k (.agg [.int .i64 b.1, .int .i64 b.2.1, .int .i64 b.2.2]) []) : ACall Tryd.prog W0 45 [.agg [.int .i64 t, .int .i64 X0, .int .i64 Y0], .agg [.int .i64 t', .int .i64 X1, .int .i64 Y1]] [] k := by
  refine m_body tab_ok (fn := Tryd.f45) (by kernel_rfl) rfl ?_
  intro X hX
  cbv
  refine m_callq hX [] bodied_60 (fun k2 hk2 => PDo_c W0 t' X1 Y1 X0 Y0 ht' hX1 hY1 hX0 hY0 k2 hk2) ?_ rfl rfl ?_ ?_
  · (first | (simp [MH, MB, MT, MV, MV.MVs, MC.MCs, MC, renC.renCs, renC, up]; done) | (simp [MH, MB, MT, MV, MV.MVs, MC.MCs, MC, renC.renCs, renC, up]; omega) | (simp [MH, MB, MT, MV, MV.MVs, MC.MCs, MC, renC.renCs, renC, up] <;> omega))
  · simp [MV, MV.MVs, MC, MC.MCs]
  intro b hb
  obtain ⟨u, v⟩ := b
  have hu : u = dX t' X0 Y0 + X1 := hb.1
  have hv : v = dY t' X0 Y0 + Y1 := hb.2
  clear hb
  cbv
  refine m_drawT tab_ok hX [] [10] (.one 0 0 (.one 2 0 (.one 5 0 (.one 7 0 (.one 1 1 (.one 3 1 (.one 6 1 (.one 8 1 (.one 4 2 (.one 9 0 (.one 10 3 .fin))))))))))) (by kernel_rfl) (by simp) ?_
  cbv
  refine m_callq hX [] bodied_61 (fun k2 hk2 => TThen_c W0 t t' ht ht' k2 hk2) ?_ rfl rfl ?_ ?_
  · (first | (simp [MH, MB, MT, MV, MV.MVs, MC.MCs, MC, renC.renCs, renC, up]; done) | (simp [MH, MB, MT, MV, MV.MVs, MC.MCs, MC, renC.renCs, renC, up]; omega) | (simp [MH, MB, MT, MV, MV.MVs, MC.MCs, MC, renC.renCs, renC, up] <;> omega))
  · simp [MV, MV.MVs, MC, MC.MCs]
  intro z hz
  cbv
  refine ⟨_, _, [], by simp [MH], rfl, rfl, ?_, hk (z, u, v) ⟨hz, hu, hv⟩⟩
  simp [MV, MC, MC.MCs]
/-- layer.Lies -/
theorem LLies_c (W0 : World) (t X0 Y0 x0 y0 x1 y1 : Int) (ht : Tu t) (hX0 : Nr 1152921504606846976 X0) (hY0 : Nr 1152921504606846976 Y0) (hx0 : Nr 1152921504606846976 x0) (hy0 : Nr 1152921504606846976 y0) (hx1 : Nr 1152921504606846976 x1) (hy1 : Nr 1152921504606846976 y1)
    (k : V → Heap → Prop) (hk : ∀ b : Int × Int × Int × Int, IsBox t X0 Y0 x0 y0 x1 y1 b.1 b.2.1 b.2.2.1 b.2.2.2 → k (.agg [.int .i64 b.1, .int .i64 b.2.1, .int .i64 b.2.2.1, .int .i64 b.2.2.2]) []) : ACall Tryd.prog W0 42 [.agg [.int .i64 x0, .int .i64 y0, .int .i64 x1, .int .i64 y1, .int .i64 t, .int .i64 X0, .int .i64 Y0]] [] k := by
  refine m_body tab_ok (fn := Tryd.f42) (by kernel_rfl) rfl ?_
  intro X hX
  cbv
  refine m_callq hX [] bodied_58 (fun k2 hk2 => PBox_c W0 t X0 Y0 x0 y0 x1 y1 ht hX0 hY0 hx0 hy0 hx1 hy1 k2 hk2) ?_ rfl rfl ?_ ?_
  · (first | (simp [MH, MB, MT, MV, MV.MVs, MC.MCs, MC, renC.renCs, renC, up]; done) | (simp [MH, MB, MT, MV, MV.MVs, MC.MCs, MC, renC.renCs, renC, up]; omega) | (simp [MH, MB, MT, MV, MV.MVs, MC.MCs, MC, renC.renCs, renC, up] <;> omega))
  · simp [MV, MV.MVs, MC, MC.MCs]
  intro b hb
  obtain ⟨a, b, c, d⟩ := b
  replace hb : IsBox t X0 Y0 x0 y0 x1 y1 a b c d := hb
  cbv
  refine ⟨_, _, [], by simp [MH], rfl, rfl, ?_, hk (a, b, c, d) hb⟩
  simp [MV, MC, MC.MCs]
/-- layer.Lay -/
theorem LLay_c (W0 : World) (t X0 Y0 x0 y0 x1 y1 t' X1 Y1 : Int) (ht : Tu t) (ht' : Tu t') (hX0 : Nr 1152921504606846976 X0) (hY0 : Nr 1152921504606846976 Y0) (hX1 : Nr 1152921504606846976 X1) (hY1 : Nr 1152921504606846976 Y1) (k : V → Heap → Prop) (hk : ∀ b : Int × Int × Int, IsThen t X0 Y0 t' X1 Y1 b.1 b.2.1 b.2.2 → k (.agg [.int .i64 x0, .int .i64 y0, .int .i64 x1, .int .i64 y1, .int .i64 b.1, .int .i64 b.2.1, .int .i64 b.2.2]) []) : ACall Tryd.prog W0 25 [.agg [.int .i64 x0, .int .i64 y0, .int .i64 x1, .int .i64 y1, .int .i64 t, .int .i64 X0, .int .i64 Y0], .agg [.int .i64 t', .int .i64 X1, .int .i64 Y1]] [] k := by
  refine m_body tab_ok (fn := Tryd.f25) (by kernel_rfl) rfl ?_
  intro X hX
  cbv
  refine m_callq hX [] bodied_45 (fun k2 hk2 => PThen_c W0 t X0 Y0 t' X1 Y1 ht ht' hX0 hY0 hX1 hY1 k2 hk2) ?_ rfl rfl ?_ ?_
  · (first | (simp [MH, MB, MT, MV, MV.MVs, MC.MCs, MC, renC.renCs, renC, up]; done) | (simp [MH, MB, MT, MV, MV.MVs, MC.MCs, MC, renC.renCs, renC, up]; omega) | (simp [MH, MB, MT, MV, MV.MVs, MC.MCs, MC, renC.renCs, renC, up] <;> omega))
  · simp [MV, MV.MVs, MC, MC.MCs]
  intro b hb
  obtain ⟨a, b, c⟩ := b
  replace hb : IsThen t X0 Y0 t' X1 Y1 a b c := hb
  cbv
  refine ⟨_, _, [], by simp [MH], rfl, rfl, ?_, hk (a, b, c) hb⟩
  simp [MV, MC, MC.MCs]
/-- layer.part -/
theorem LPart_c (W0 : World) (t X0 Y0 x0 y0 x1 y1 r0 r1 r2 r3 : Int) (ht : Tu t) (hX0 : Nr 1152921504606846976 X0) (hY0 : Nr 1152921504606846976 Y0) (h0 : Nr 1152921504606846976 r0) (h1 : Nr 1152921504606846976 r1) (h2 : Nr 1152921504606846976 r2) (h3 : Nr 1152921504606846976 r3)
    (k : V → Heap → Prop) (hk : ∀ b : Int × Int × Int × Int, IsBox (tBack t) (-dX (tBack t) X0 Y0) (-dY (tBack t) X0 Y0) r0 r1 r2 r3 b.1 b.2.1 b.2.2.1 b.2.2.2 → k (.agg [.int .i64 b.1, .int .i64 b.2.1, .int .i64 b.2.2.1, .int .i64 b.2.2.2, .int .i64 t, .int .i64 X0, .int .i64 Y0]) []) : ACall Tryd.prog W0 53 [.agg [.int .i64 x0, .int .i64 y0, .int .i64 x1, .int .i64 y1, .int .i64 t, .int .i64 X0, .int .i64 Y0], .agg [.int .i64 r0, .int .i64 r1, .int .i64 r2, .int .i64 r3]] [] k := by
  refine m_body tab_ok (fn := Tryd.f53) (by kernel_rfl) rfl ?_
  intro X hX
  cbv
  refine m_drawT tab_ok hX [] [6] (.one 0 0 (.one 1 1 (.one 3 1 (.one 2 2 (.one 4 2 (.one 5 0 (.one 6 3 .fin))))))) (by kernel_rfl) (by simp) ?_
  cbv
  refine m_callq hX [] bodied_64 (fun k2 hk2 => PBack_c W0 t X0 Y0 ht hX0 hY0 k2 hk2) ?_ rfl rfl ?_ ?_
  · (first | (simp [MH, MB, MT, MV, MV.MVs, MC.MCs, MC, renC.renCs, renC, up]; done) | (simp [MH, MB, MT, MV, MV.MVs, MC.MCs, MC, renC.renCs, renC, up]; omega) | (simp [MH, MB, MT, MV, MV.MVs, MC.MCs, MC, renC.renCs, renC, up] <;> omega))
  · simp [MV, MV.MVs, MC, MC.MCs]
  intro b hb
  obtain ⟨z, u, v⟩ := b
  replace hb : IsBack t X0 Y0 z u v := hb
  cbv
  obtain ⟨hz, hu, hv⟩ := hb
  obtain ⟨n1, n2⟩ := Nr.dX ht.back hX0 hY0
  refine m_callq hX [] bodied_58 (fun k2 hk2 => PBox_c W0 z u v r0 r1 r2 r3 (hz ▸ ht.back) (hu ▸ n1.neg) (hv ▸ n2.neg) h0 h1 h2 h3 k2 hk2) ?_ rfl rfl ?_ ?_
  · (first | (simp [MH, MB, MT, MV, MV.MVs, MC.MCs, MC, renC.renCs, renC, up]; done) | (simp [MH, MB, MT, MV, MV.MVs, MC.MCs, MC, renC.renCs, renC, up]; omega) | (simp [MH, MB, MT, MV, MV.MVs, MC.MCs, MC, renC.renCs, renC, up] <;> omega))
  · simp [MV, MV.MVs, MC, MC.MCs]
  intro b hb
  obtain ⟨a, b, c, d⟩ := b
  replace hb : IsBox z u v r0 r1 r2 r3 a b c d := hb
  cbv
  rw [hz, hu, hv] at hb
  refine ⟨_, _, [], by simp [MH], rfl, rfl, ?_, hk (a, b, c, d) hb⟩
  simp [MV, MC, MC.MCs]
end Go.Proofs.YtdijdlkljeibjaaDoor.AM
namespace Go.Proofs.YtdijdlkljeibjaaDoor.AM
open Go Go.RowKit
set_option cbv.warning false
set_option maxRecDepth 100000
set_option linter.unusedVariables false
set_option linter.unusedSimpArgs false
theorem bodied_43 : Bodied Tryd.prog 43 := ⟨Tryd.f43, by kernel_rfl, by kernel_rfl, by kernel_rfl⟩
theorem bodied_17 : Bodied Tryd.prog 17 := ⟨Tryd.f17, by kernel_rfl, by kernel_rfl, by kernel_rfl⟩
theorem bodied_27 : Bodied Tryd.prog 27 := ⟨Tryd.f27, by kernel_rfl, by kernel_rfl, by kernel_rfl⟩
theorem bodied_31 : Bodied Tryd.prog 31 := ⟨Tryd.f31, by kernel_rfl, by kernel_rfl, by kernel_rfl⟩
theorem bodied_59 : Bodied Tryd.prog 59 := ⟨Tryd.f59, by kernel_rfl, by kernel_rfl, by kernel_rfl⟩
theorem bodied_18 : Bodied Tryd.prog 18 := ⟨Tryd.f18, by kernel_rfl, by kernel_rfl, by kernel_rfl⟩
theorem bodied_46 : Bodied Tryd.prog 46 := ⟨Tryd.f46, by kernel_rfl, by kernel_rfl, by kernel_rfl⟩
theorem bodied_47 : Bodied Tryd.prog 47 := ⟨Tryd.f47, by kernel_rfl, by kernel_rfl, by kernel_rfl⟩
theorem bodied_33 : Bodied Tryd.prog 33 := ⟨Tryd.f33, by kernel_rfl, by kernel_rfl, by kernel_rfl⟩
theorem bodied_49 : Bodied Tryd.prog 49 := ⟨Tryd.f49, by kernel_rfl, by kernel_rfl, by kernel_rfl⟩
theorem bodied_50 : Bodied Tryd.prog 50 := ⟨Tryd.f50, by kernel_rfl, by kernel_rfl, by kernel_rfl⟩
theorem bodied_67 : Bodied Tryd.prog 67 := ⟨Tryd.f67, by kernel_rfl, by kernel_rfl, by kernel_rfl⟩
theorem bodied_68 : Bodied Tryd.prog 68 := ⟨Tryd.f68, by kernel_rfl, by kernel_rfl, by kernel_rfl⟩
theorem bodied_32 : Bodied Tryd.prog 32 := ⟨Tryd.f32, by kernel_rfl, by kernel_rfl, by kernel_rfl⟩
/-- A turn's matrix. -/
structure IsM (t a b c d : Int) : Prop where
  a : a = dX t 1 0
  b : b = dY t 1 0
  c : c = dX t 0 1
  d : d = dY t 0 1
theorem OfM_0 (W0 : World) (k : V → Heap → Prop) (hk : ∀ b : Int × Int × Int × Int, IsM 0 b.1 b.2.1 b.2.2.1 b.2.2.2 → k (.agg [.int .i64 b.1, .int .i64 b.2.1, .int .i64 b.2.2.1, .int .i64 b.2.2.2]) []) : ACall Tryd.prog W0 33 [.one (.int .i64 0)] [] k := by
  refine m_body tab_ok (fn := Tryd.f33) (by kernel_rfl) rfl ?_
  intro X hX
  cbv
  refine m_cond_f hX (by subst hX; rfl) ?_
  cbv
  refine m_rounds [()] tab_ok hX ?_
  refine aloop_step fun L0 hL0 K0 hK0 => ?_
  cbv
  refine ⟨by subst hX; exact show (4 : Int) ≠ 0 from by decide, ?_⟩
  refine m_cond_f hX (by subst hX; rfl) ?_
  cbv
  refine hK0 _ _ _ _ ?_
  cbv
  refine ⟨_, _, [], by simp [MH], rfl, rfl, ?_, hk (1, 0, 0, 1) ⟨rfl, rfl, rfl, rfl⟩⟩
  subst hX
  exact ⟨⟨rfl, rfl⟩, ⟨rfl, rfl⟩, ⟨rfl, rfl⟩, ⟨rfl, rfl⟩, trivial⟩
theorem OfM_1 (W0 : World) (k : V → Heap → Prop) (hk : ∀ b : Int × Int × Int × Int, IsM 1 b.1 b.2.1 b.2.2.1 b.2.2.2 → k (.agg [.int .i64 b.1, .int .i64 b.2.1, .int .i64 b.2.2.1, .int .i64 b.2.2.2]) []) : ACall Tryd.prog W0 33 [.one (.int .i64 1)] [] k := by
  refine m_body tab_ok (fn := Tryd.f33) (by kernel_rfl) rfl ?_
  intro X hX
  cbv
  refine m_cond_f hX (by subst hX; rfl) ?_
  cbv
  refine m_rounds [(), ()] tab_ok hX ?_
  refine aloop_step fun L0 hL0 K0 hK0 => ?_
  cbv
  refine ⟨by subst hX; exact show (4 : Int) ≠ 0 from by decide, ?_⟩
  refine m_cond_t hX (by subst hX; rfl) ?_
  cbv
  refine hL0 _ _ ?_
  refine aloop_step fun L1 hL1 K1 hK1 => ?_
  cbv
  refine ⟨by subst hX; exact show (4 : Int) ≠ 0 from by decide, ?_⟩
  refine m_cond_f hX (by subst hX; rfl) ?_
  cbv
  refine hK1 _ _ _ _ ?_
  cbv
  refine ⟨_, _, [], by simp [MH], rfl, rfl, ?_, hk (0, 1, -1, 0) ⟨rfl, rfl, rfl, rfl⟩⟩
  subst hX
  exact ⟨⟨rfl, rfl⟩, ⟨rfl, rfl⟩, ⟨rfl, rfl⟩, ⟨rfl, rfl⟩, trivial⟩
theorem OfM_2 (W0 : World) (k : V → Heap → Prop) (hk : ∀ b : Int × Int × Int × Int, IsM 2 b.1 b.2.1 b.2.2.1 b.2.2.2 → k (.agg [.int .i64 b.1, .int .i64 b.2.1, .int .i64 b.2.2.1, .int .i64 b.2.2.2]) []) : ACall Tryd.prog W0 33 [.one (.int .i64 2)] [] k := by
  refine m_body tab_ok (fn := Tryd.f33) (by kernel_rfl) rfl ?_
  intro X hX
  cbv
  refine m_cond_f hX (by subst hX; rfl) ?_
  cbv
  refine m_rounds [(), (), ()] tab_ok hX ?_
  refine aloop_step fun L0 hL0 K0 hK0 => ?_
  cbv
  refine ⟨by subst hX; exact show (4 : Int) ≠ 0 from by decide, ?_⟩
  refine m_cond_t hX (by subst hX; rfl) ?_
  cbv
  refine hL0 _ _ ?_
  refine aloop_step fun L1 hL1 K1 hK1 => ?_
  cbv
  refine ⟨by subst hX; exact show (4 : Int) ≠ 0 from by decide, ?_⟩
  refine m_cond_t hX (by subst hX; rfl) ?_
  cbv
  refine hL1 _ _ ?_
  refine aloop_step fun L2 hL2 K2 hK2 => ?_
  cbv
  refine ⟨by subst hX; exact show (4 : Int) ≠ 0 from by decide, ?_⟩
  refine m_cond_f hX (by subst hX; rfl) ?_
  cbv
  refine hK2 _ _ _ _ ?_
  cbv
  refine ⟨_, _, [], by simp [MH], rfl, rfl, ?_, hk (-1, 0, 0, -1) ⟨rfl, rfl, rfl, rfl⟩⟩
  subst hX
  exact ⟨⟨rfl, rfl⟩, ⟨rfl, rfl⟩, ⟨rfl, rfl⟩, ⟨rfl, rfl⟩, trivial⟩
theorem OfM_3 (W0 : World) (k : V → Heap → Prop) (hk : ∀ b : Int × Int × Int × Int, IsM 3 b.1 b.2.1 b.2.2.1 b.2.2.2 → k (.agg [.int .i64 b.1, .int .i64 b.2.1, .int .i64 b.2.2.1, .int .i64 b.2.2.2]) []) : ACall Tryd.prog W0 33 [.one (.int .i64 3)] [] k := by
  refine m_body tab_ok (fn := Tryd.f33) (by kernel_rfl) rfl ?_
  intro X hX
  cbv
  refine m_cond_f hX (by subst hX; rfl) ?_
  cbv
  refine m_rounds [(), (), (), ()] tab_ok hX ?_
  refine aloop_step fun L0 hL0 K0 hK0 => ?_
  cbv
  refine ⟨by subst hX; exact show (4 : Int) ≠ 0 from by decide, ?_⟩
  refine m_cond_t hX (by subst hX; rfl) ?_
  cbv
  refine hL0 _ _ ?_
  refine aloop_step fun L1 hL1 K1 hK1 => ?_
  cbv
  refine ⟨by subst hX; exact show (4 : Int) ≠ 0 from by decide, ?_⟩
  refine m_cond_t hX (by subst hX; rfl) ?_
  cbv
  refine hL1 _ _ ?_
  refine aloop_step fun L2 hL2 K2 hK2 => ?_
  cbv
  refine ⟨by subst hX; exact show (4 : Int) ≠ 0 from by decide, ?_⟩
  refine m_cond_t hX (by subst hX; rfl) ?_
  cbv
  refine hL2 _ _ ?_
  refine aloop_step fun L3 hL3 K3 hK3 => ?_
  cbv
  refine ⟨by subst hX; exact show (4 : Int) ≠ 0 from by decide, ?_⟩
  refine m_cond_f hX (by subst hX; rfl) ?_
  cbv
  refine hK3 _ _ _ _ ?_
  cbv
  refine ⟨_, _, [], by simp [MH], rfl, rfl, ?_, hk (0, -1, 1, 0) ⟨rfl, rfl, rfl, rfl⟩⟩
  subst hX
  exact ⟨⟨rfl, rfl⟩, ⟨rfl, rfl⟩, ⟨rfl, rfl⟩, ⟨rfl, rfl⟩, trivial⟩
theorem OfM_4 (W0 : World) (k : V → Heap → Prop) (hk : ∀ b : Int × Int × Int × Int, IsM 4 b.1 b.2.1 b.2.2.1 b.2.2.2 → k (.agg [.int .i64 b.1, .int .i64 b.2.1, .int .i64 b.2.2.1, .int .i64 b.2.2.2]) []) : ACall Tryd.prog W0 33 [.one (.int .i64 4)] [] k := by
  refine m_body tab_ok (fn := Tryd.f33) (by kernel_rfl) rfl ?_
  intro X hX
  cbv
  refine m_cond_t hX (by subst hX; rfl) ?_
  cbv
  refine m_rounds [()] tab_ok hX ?_
  refine aloop_step fun L0 hL0 K0 hK0 => ?_
  cbv
  refine ⟨by subst hX; exact show (4 : Int) ≠ 0 from by decide, ?_⟩
  refine m_cond_f hX (by subst hX; rfl) ?_
  cbv
  refine hK0 _ _ _ _ ?_
  cbv
  refine ⟨_, _, [], by simp [MH], rfl, rfl, ?_, hk (-1, 0, 0, 1) ⟨rfl, rfl, rfl, rfl⟩⟩
  subst hX
  exact ⟨⟨rfl, rfl⟩, ⟨rfl, rfl⟩, ⟨rfl, rfl⟩, ⟨rfl, rfl⟩, trivial⟩
theorem OfM_5 (W0 : World) (k : V → Heap → Prop) (hk : ∀ b : Int × Int × Int × Int, IsM 5 b.1 b.2.1 b.2.2.1 b.2.2.2 → k (.agg [.int .i64 b.1, .int .i64 b.2.1, .int .i64 b.2.2.1, .int .i64 b.2.2.2]) []) : ACall Tryd.prog W0 33 [.one (.int .i64 5)] [] k := by
  refine m_body tab_ok (fn := Tryd.f33) (by kernel_rfl) rfl ?_
  intro X hX
  cbv
  refine m_cond_t hX (by subst hX; rfl) ?_
  cbv
  refine m_rounds [(), ()] tab_ok hX ?_
  refine aloop_step fun L0 hL0 K0 hK0 => ?_
  cbv
  refine ⟨by subst hX; exact show (4 : Int) ≠ 0 from by decide, ?_⟩
  refine m_cond_t hX (by subst hX; rfl) ?_
  cbv
  refine hL0 _ _ ?_
  refine aloop_step fun L1 hL1 K1 hK1 => ?_
  cbv
  refine ⟨by subst hX; exact show (4 : Int) ≠ 0 from by decide, ?_⟩
  refine m_cond_f hX (by subst hX; rfl) ?_
  cbv
  refine hK1 _ _ _ _ ?_
  cbv
  refine ⟨_, _, [], by simp [MH], rfl, rfl, ?_, hk (0, -1, -1, 0) ⟨rfl, rfl, rfl, rfl⟩⟩
  subst hX
  exact ⟨⟨rfl, rfl⟩, ⟨rfl, rfl⟩, ⟨rfl, rfl⟩, ⟨rfl, rfl⟩, trivial⟩
theorem OfM_6 (W0 : World) (k : V → Heap → Prop) (hk : ∀ b : Int × Int × Int × Int, IsM 6 b.1 b.2.1 b.2.2.1 b.2.2.2 → k (.agg [.int .i64 b.1, .int .i64 b.2.1, .int .i64 b.2.2.1, .int .i64 b.2.2.2]) []) : ACall Tryd.prog W0 33 [.one (.int .i64 6)] [] k := by
  refine m_body tab_ok (fn := Tryd.f33) (by kernel_rfl) rfl ?_
  intro X hX
  cbv
  refine m_cond_t hX (by subst hX; rfl) ?_
  cbv
  refine m_rounds [(), (), ()] tab_ok hX ?_
  refine aloop_step fun L0 hL0 K0 hK0 => ?_
  cbv
  refine ⟨by subst hX; exact show (4 : Int) ≠ 0 from by decide, ?_⟩
  refine m_cond_t hX (by subst hX; rfl) ?_
  cbv
  refine hL0 _ _ ?_
  refine aloop_step fun L1 hL1 K1 hK1 => ?_
  cbv
  refine ⟨by subst hX; exact show (4 : Int) ≠ 0 from by decide, ?_⟩
  refine m_cond_t hX (by subst hX; rfl) ?_
  cbv
  refine hL1 _ _ ?_
  refine aloop_step fun L2 hL2 K2 hK2 => ?_
  cbv
  refine ⟨by subst hX; exact show (4 : Int) ≠ 0 from by decide, ?_⟩
  refine m_cond_f hX (by subst hX; rfl) ?_
  cbv
  refine hK2 _ _ _ _ ?_
  cbv
  refine ⟨_, _, [], by simp [MH], rfl, rfl, ?_, hk (1, 0, 0, -1) ⟨rfl, rfl, rfl, rfl⟩⟩
  subst hX
  exact ⟨⟨rfl, rfl⟩, ⟨rfl, rfl⟩, ⟨rfl, rfl⟩, ⟨rfl, rfl⟩, trivial⟩
theorem OfM_7 (W0 : World) (k : V → Heap → Prop) (hk : ∀ b : Int × Int × Int × Int, IsM 7 b.1 b.2.1 b.2.2.1 b.2.2.2 → k (.agg [.int .i64 b.1, .int .i64 b.2.1, .int .i64 b.2.2.1, .int .i64 b.2.2.2]) []) : ACall Tryd.prog W0 33 [.one (.int .i64 7)] [] k := by
  refine m_body tab_ok (fn := Tryd.f33) (by kernel_rfl) rfl ?_
  intro X hX
  cbv
  refine m_cond_t hX (by subst hX; rfl) ?_
  cbv
  refine m_rounds [(), (), (), ()] tab_ok hX ?_
  refine aloop_step fun L0 hL0 K0 hK0 => ?_
  cbv
  refine ⟨by subst hX; exact show (4 : Int) ≠ 0 from by decide, ?_⟩
  refine m_cond_t hX (by subst hX; rfl) ?_
  cbv
  refine hL0 _ _ ?_
  refine aloop_step fun L1 hL1 K1 hK1 => ?_
  cbv
  refine ⟨by subst hX; exact show (4 : Int) ≠ 0 from by decide, ?_⟩
  refine m_cond_t hX (by subst hX; rfl) ?_
  cbv
  refine hL1 _ _ ?_
  refine aloop_step fun L2 hL2 K2 hK2 => ?_
  cbv
  refine ⟨by subst hX; exact show (4 : Int) ≠ 0 from by decide, ?_⟩
  refine m_cond_t hX (by subst hX; rfl) ?_
  cbv
  refine hL2 _ _ ?_
  refine aloop_step fun L3 hL3 K3 hK3 => ?_
  cbv
  refine ⟨by subst hX; exact show (4 : Int) ≠ 0 from by decide, ?_⟩
  refine m_cond_f hX (by subst hX; rfl) ?_
  cbv
  refine hK3 _ _ _ _ ?_
  cbv
  refine ⟨_, _, [], by simp [MH], rfl, rfl, ?_, hk (0, 1, 1, 0) ⟨rfl, rfl, rfl, rfl⟩⟩
  subst hX
  exact ⟨⟨rfl, rfl⟩, ⟨rfl, rfl⟩, ⟨rfl, rfl⟩, ⟨rfl, rfl⟩, trivial⟩
theorem OfM_c (W0 : World) (t : Int) (ht : Tu t) (k : V → Heap → Prop) (hk : ∀ b : Int × Int × Int × Int, IsM t b.1 b.2.1 b.2.2.1 b.2.2.2 → k (.agg [.int .i64 b.1, .int .i64 b.2.1, .int .i64 b.2.2.1, .int .i64 b.2.2.2]) []) : ACall Tryd.prog W0 33 [.one (.int .i64 t)] [] k := by
  rcases ht.cases with rfl | rfl | rfl | rfl | rfl | rfl | rfl | rfl
  · exact OfM_0 W0 k hk
  · exact OfM_1 W0 k hk
  · exact OfM_2 W0 k hk
  · exact OfM_3 W0 k hk
  · exact OfM_4 W0 k hk
  · exact OfM_5 W0 k hk
  · exact OfM_6 W0 k hk
  · exact OfM_7 W0 k hk
theorem IsM.mul {t a b c d x y : Int} (ht : Tu t) (h : IsM t a b c d) (hx : Nr 2305843009213693952 x) (hy : Nr 2305843009213693952 y) {X : Ext} {P : Program} {W0 : World} {md : Md} (hX : X = std P W0 md) :
    X.bin .add .i64 (X.bin .mul .i64 a x) (X.bin .mul .i64 c y) = dX t x y ∧ X.bin .add .i64 (X.bin .mul .i64 b x) (X.bin .mul .i64 d y) = dY t x y := by
  obtain ⟨rfl, rfl, rfl, rfl⟩ := h
  obtain ⟨h1, h2⟩ := hx
  obtain ⟨h3, h4⟩ := hy
  subst hX
  rcases ht.cases with rfl | rfl | rfl | rfl | rfl | rfl | rfl | rfl <;> simp (disch := omega) [std, binS, dX, dY, wrap_eq]
/-- ref03.Do -/
theorem RDo_c (W0 : World) (t a b c d x y : Int) (ht : Tu t) (hM : IsM t a b c d) (hx : Nr 2305843009213693952 x) (hy : Nr 2305843009213693952 y) (k : V → Heap → Prop) (hk : ∀ b : Int × Int, (b.1 = dX t x y ∧ b.2 = dY t x y) → k (.tup [.one (.int .i64 b.1), .one (.int .i64 b.2)]) []) : ACall Tryd.prog W0 32 [.agg [.int .i64 a, .int .i64 b, .int .i64 c, .int .i64 d], .one (.int .i64 x), .one (.int .i64 y)] [] k := by
  refine m_body tab_ok (fn := Tryd.f32) (by kernel_rfl) rfl ?_
  intro X hX
  cbv
  refine m_drawT tab_ok hX [] [] (.one 0 0 (.one 2 0 (.one 4 0 (.one 6 0 (.one 9 0 (.one 11 0 (.one 13 0 (.one 15 0 (.one 1 1 (.one 3 0 (.one 5 1 (.one 7 0 (.one 8 0 (.one 10 1 (.one 12 0 (.one 14 1 (.one 16 0 (.one 17 0 (.one 18 0 (.one 19 0 .fin)))))))))))))))))))) (by kernel_rfl) (by simp) ?_
  cbv
  obtain ⟨e1, e2⟩ := hM.mul ht hx hy hX
  refine ⟨_, _, [], by simp [MH], rfl, rfl, ?_, hk (dX t x y, dY t x y) ⟨rfl, rfl⟩⟩
  show MV _ (.tup [.one (.int .i64 (dX t x y)), .one (.int .i64 (dY t x y))]) (.tup [.one (.int .i64 (X.bin .add .i64 (X.bin .mul .i64 a x) (X.bin .mul .i64 c y))), .one (.int .i64 (X.bin .add .i64 (X.bin .mul .i64 b x) (X.bin .mul .i64 d y)))])
  rw [e1, e2]
  simp [MV, MV.MVs, MC]
/-- ref04.Do -/
theorem RPDo_c (W0 : World) (t X0 Y0 x y : Int) (ht : Tu t) (hX0 : Nr 1152921504606846976 X0) (hY0 : Nr 1152921504606846976 Y0) (hx : Nr 1152921504606846976 x) (hy : Nr 1152921504606846976 y) (k : V → Heap → Prop) (hk : ∀ b : Int × Int, (b.1 = dX t x y + X0 ∧ b.2 = dY t x y + Y0) → k (.agg [.int .i64 b.1, .int .i64 b.2]) []) : ACall Tryd.prog W0 18 [.agg [.int .i64 t, .int .i64 X0, .int .i64 Y0], .agg [.int .i64 x, .int .i64 y]] [] k := by
  refine m_body tab_ok (fn := Tryd.f18) (by kernel_rfl) rfl ?_
  intro X hX
  cbv
  refine m_drawT tab_ok hX [] [] (.one 0 0 (.one 3 0 (.one 5 0 (.one 1 1 (.one 4 1 (.one 6 1 (.one 2 2 (.one 7 2 (.one 8 0 (.one 9 0 (.one 10 0 (.one 11 0 (.one 12 0 .fin))))))))))))) (by kernel_rfl) (by simp) ?_
  cbv
  refine m_callq hX [] bodied_33 (fun k2 hk2 => OfM_c W0 t ht k2 hk2) ?_ rfl rfl ?_ ?_
  · (first | (simp [MH, MB, MT, MV, MV.MVs, MC.MCs, MC, renC.renCs, renC, up]; done) | (simp [MH, MB, MT, MV, MV.MVs, MC.MCs, MC, renC.renCs, renC, up]; omega) | (simp [MH, MB, MT, MV, MV.MVs, MC.MCs, MC, renC.renCs, renC, up] <;> omega))
  · simp [MV, MV.MVs, MC, MC.MCs]
  intro b hb
  obtain ⟨a, b, c, d⟩ := b
  replace hb : IsM t a b c d := hb
  cbv
  refine m_callq hX [] bodied_32 (fun k2 hk2 => RDo_c W0 t a b c d x y ht hb (hx.up (by omega)) (hy.up (by omega)) k2 hk2) ?_ rfl rfl ?_ ?_
  · (first | (simp [MH, MB, MT, MV, MV.MVs, MC.MCs, MC, renC.renCs, renC, up]; done) | (simp [MH, MB, MT, MV, MV.MVs, MC.MCs, MC, renC.renCs, renC, up]; omega) | (simp [MH, MB, MT, MV, MV.MVs, MC.MCs, MC, renC.renCs, renC, up] <;> omega))
  · simp [MV, MV.MVs, MC, MC.MCs]
  intro b hb
  obtain ⟨u, v⟩ := b
  have hu : u = dX t x y := hb.1
  have hv : v = dY t x y := hb.2
  clear hb
  cbv
  obtain ⟨n1, n2⟩ := Nr.dX ht hx hy
  rw [← hu] at n1
  rw [← hv] at n2
  have e1 := addN n1 hX0 (by omega) hX
  have e2 := addN n2 hY0 (by omega) hX
  refine ⟨_, _, [], by simp [MH], rfl, rfl, ?_, hk (u + X0, v + Y0) ⟨by rw [hu], by rw [hv]⟩⟩
  show MV _ (.agg [.int .i64 (u + X0), .int .i64 (v + Y0)]) (.agg [.int .i64 (X.bin .add .i64 u X0), .int .i64 (X.bin .add .i64 v Y0)])
  rw [e1, e2]
  simp [MV, MC, MC.MCs]
theorem low_c (W0 : World) (a b : Int) (k : V → Heap → Prop) (hk : ∀ z : Int, z = min a b → k (.one (.int .i64 z)) []) : ACall Tryd.prog W0 49 [.one (.int .i64 a), .one (.int .i64 b)] [] k := by
  refine m_body tab_ok (fn := Tryd.f49) (by kernel_rfl) rfl ?_
  intro X hX
  cbv
  refine m_cond hX (fun h => ?_) (fun h => ?_) <;> cbv
  · refine ⟨_, _, [], by simp [MH], rfl, rfl, ?_, hk a ?_⟩
    · simp [MV, MC]
    · subst hX; simp [std, cmpS] at h; omega
  · refine ⟨_, _, [], by simp [MH], rfl, rfl, ?_, hk b ?_⟩
    · simp [MV, MC]
    · subst hX; simp [std, cmpS] at h; omega
theorem high_c (W0 : World) (a b : Int) (k : V → Heap → Prop) (hk : ∀ z : Int, z = max a b → k (.one (.int .i64 z)) []) : ACall Tryd.prog W0 50 [.one (.int .i64 a), .one (.int .i64 b)] [] k := by
  refine m_body tab_ok (fn := Tryd.f50) (by kernel_rfl) rfl ?_
  intro X hX
  cbv
  refine m_cond hX (fun h => ?_) (fun h => ?_) <;> cbv
  · refine ⟨_, _, [], by simp [MH], rfl, rfl, ?_, hk a ?_⟩
    · simp [MV, MC]
    · subst hX; simp [std, cmpS] at h; omega
  · refine ⟨_, _, [], by simp [MH], rfl, rfl, ?_, hk b ?_⟩
    · simp [MV, MC]
    · subst hX; simp [std, cmpS] at h; omega
/-- ref04.Box -/
theorem RBox_c (W0 : World) (t X0 Y0 x0 y0 x1 y1 : Int) (ht : Tu t) (hX0 : Nr 1152921504606846976 X0) (hY0 : Nr 1152921504606846976 Y0) (hx0 : Nr 1152921504606846976 x0) (hy0 : Nr 1152921504606846976 y0) (hx1 : Nr 1152921504606846976 x1) (hy1 : Nr 1152921504606846976 y1)
    (k : V → Heap → Prop) (hk : ∀ b : Int × Int × Int × Int, IsBox t X0 Y0 x0 y0 x1 y1 b.1 b.2.1 b.2.2.1 b.2.2.2 → k (.agg [.int .i64 b.1, .int .i64 b.2.1, .int .i64 b.2.2.1, .int .i64 b.2.2.2]) []) : ACall Tryd.prog W0 31 [.agg [.int .i64 t, .int .i64 X0, .int .i64 Y0], .agg [.int .i64 x0, .int .i64 y0, .int .i64 x1, .int .i64 y1]] [] k := by
  refine m_body tab_ok (fn := Tryd.f31) (by kernel_rfl) rfl ?_
  intro X hX
  cbv
  refine m_callq hX [] bodied_18 (fun k2 hk2 => RPDo_c W0 t X0 Y0 x0 y0 ht hX0 hY0 hx0 hy0 k2 hk2) ?_ rfl rfl ?_ ?_
  · (first | (simp [MH, MB, MT, MV, MV.MVs, MC.MCs, MC, renC.renCs, renC, up]; done) | (simp [MH, MB, MT, MV, MV.MVs, MC.MCs, MC, renC.renCs, renC, up]; omega) | (simp [MH, MB, MT, MV, MV.MVs, MC.MCs, MC, renC.renCs, renC, up] <;> omega))
  · simp [MV, MV.MVs, MC, MC.MCs]
  intro b hb
  obtain ⟨pu, pv⟩ := b
  have hpu : pu = dX t x0 y0 + X0 := hb.1
  have hpv : pv = dY t x0 y0 + Y0 := hb.2
  clear hb
  cbv
  refine m_callq hX [] bodied_18 (fun k2 hk2 => RPDo_c W0 t X0 Y0 x1 y1 ht hX0 hY0 hx1 hy1 k2 hk2) ?_ rfl rfl ?_ ?_
  · (first | (simp [MH, MB, MT, MV, MV.MVs, MC.MCs, MC, renC.renCs, renC, up]; done) | (simp [MH, MB, MT, MV, MV.MVs, MC.MCs, MC, renC.renCs, renC, up]; omega) | (simp [MH, MB, MT, MV, MV.MVs, MC.MCs, MC, renC.renCs, renC, up] <;> omega))
  · simp [MV, MV.MVs, MC, MC.MCs]
  intro b hb
  obtain ⟨qu, qv⟩ := b
  have hqu : qu = dX t x1 y1 + X0 := hb.1
  have hqv : qv = dY t x1 y1 + Y0 := hb.2
  clear hb
  cbv
  refine m_drawT tab_ok hX [] [21] (.one 0 0 (.one 2 0 (.one 5 0 (.one 7 0 (.one 10 0 (.one 12 0 (.one 15 0 (.one 17 0 (.one 1 1 (.one 3 1 (.one 6 1 (.one 8 1 (.one 11 1 (.one 13 1 (.one 16 1 (.one 18 1 (.one 4 2 (.one 9 2 (.one 14 2 (.one 19 2 (.one 20 0 (.one 21 3 .fin)))))))))))))))))))))) (by kernel_rfl) (by simp) ?_
  cbv
  refine m_callq hX [] bodied_49 (fun k2 hk2 => low_c W0 pu qu k2 hk2) ?_ rfl rfl ?_ ?_
  · (first | (simp [MH, MB, MT, MV, MV.MVs, MC.MCs, MC, renC.renCs, renC, up]; done) | (simp [MH, MB, MT, MV, MV.MVs, MC.MCs, MC, renC.renCs, renC, up]; omega) | (simp [MH, MB, MT, MV, MV.MVs, MC.MCs, MC, renC.renCs, renC, up] <;> omega))
  · simp [MV, MV.MVs, MC, MC.MCs]
  intro a ha
  cbv
  refine m_callq hX [] bodied_49 (fun k2 hk2 => low_c W0 pv qv k2 hk2) ?_ rfl rfl ?_ ?_
  · (first | (simp [MH, MB, MT, MV, MV.MVs, MC.MCs, MC, renC.renCs, renC, up]; done) | (simp [MH, MB, MT, MV, MV.MVs, MC.MCs, MC, renC.renCs, renC, up]; omega) | (simp [MH, MB, MT, MV, MV.MVs, MC.MCs, MC, renC.renCs, renC, up] <;> omega))
  · simp [MV, MV.MVs, MC, MC.MCs]
  intro b hb
  cbv
  refine m_callq hX [] bodied_50 (fun k2 hk2 => high_c W0 pu qu k2 hk2) ?_ rfl rfl ?_ ?_
  · (first | (simp [MH, MB, MT, MV, MV.MVs, MC.MCs, MC, renC.renCs, renC, up]; done) | (simp [MH, MB, MT, MV, MV.MVs, MC.MCs, MC, renC.renCs, renC, up]; omega) | (simp [MH, MB, MT, MV, MV.MVs, MC.MCs, MC, renC.renCs, renC, up] <;> omega))
  · simp [MV, MV.MVs, MC, MC.MCs]
  intro c hc
  cbv
  refine m_callq hX [] bodied_50 (fun k2 hk2 => high_c W0 pv qv k2 hk2) ?_ rfl rfl ?_ ?_
  · (first | (simp [MH, MB, MT, MV, MV.MVs, MC.MCs, MC, renC.renCs, renC, up]; done) | (simp [MH, MB, MT, MV, MV.MVs, MC.MCs, MC, renC.renCs, renC, up]; omega) | (simp [MH, MB, MT, MV, MV.MVs, MC.MCs, MC, renC.renCs, renC, up] <;> omega))
  · simp [MV, MV.MVs, MC, MC.MCs]
  intro d hd
  cbv
  refine ⟨_, _, [], by simp [MH], rfl, rfl, ?_, hk (a, b, c, d) ⟨by rw [ha, hpu, hqu]; rfl, by rw [hb, hpv, hqv]; rfl, by rw [hc, hpu, hqu]; rfl, by rw [hd, hpv, hqv]; rfl⟩⟩
  simp [MV, MC, MC.MCs]
/-- ref38.Lies -/
theorem RLies_c (W0 : World) (t X0 Y0 x0 y0 x1 y1 : Int) (ht : Tu t) (hX0 : Nr 1152921504606846976 X0) (hY0 : Nr 1152921504606846976 Y0) (hx0 : Nr 1152921504606846976 x0) (hy0 : Nr 1152921504606846976 y0) (hx1 : Nr 1152921504606846976 x1) (hy1 : Nr 1152921504606846976 y1)
    (k : V → Heap → Prop) (hk : ∀ b : Int × Int × Int × Int, IsBox t X0 Y0 x0 y0 x1 y1 b.1 b.2.1 b.2.2.1 b.2.2.2 → k (.agg [.int .i64 b.1, .int .i64 b.2.1, .int .i64 b.2.2.1, .int .i64 b.2.2.2]) []) : ACall Tryd.prog W0 17 [.agg [.int .i64 x0, .int .i64 y0, .int .i64 x1, .int .i64 y1, .int .i64 t, .int .i64 X0, .int .i64 Y0]] [] k := by
  refine m_body tab_ok (fn := Tryd.f17) (by kernel_rfl) rfl ?_
  intro X hX
  cbv
  refine m_callq hX [] bodied_31 (fun k2 hk2 => RBox_c W0 t X0 Y0 x0 y0 x1 y1 ht hX0 hY0 hx0 hy0 hx1 hy1 k2 hk2) ?_ rfl rfl ?_ ?_
  · (first | (simp [MH, MB, MT, MV, MV.MVs, MC.MCs, MC, renC.renCs, renC, up]; done) | (simp [MH, MB, MT, MV, MV.MVs, MC.MCs, MC, renC.renCs, renC, up]; omega) | (simp [MH, MB, MT, MV, MV.MVs, MC.MCs, MC, renC.renCs, renC, up] <;> omega))
  · simp [MV, MV.MVs, MC, MC.MCs]
  intro b hb
  obtain ⟨a, b, c, d⟩ := b
  replace hb : IsBox t X0 Y0 x0 y0 x1 y1 a b c d := hb
  cbv
  refine ⟨_, _, [], by simp [MH], rfl, rfl, ?_, hk (a, b, c, d) hb⟩
  simp [MV, MC, MC.MCs]
/-- ref04.Empty -/
theorem REmpty_c (W0 : World) (x0 y0 x1 y1 : Int) (k : V → Heap → Prop) (hk : ∀ b : Bool, (b = true ↔ x1 ≤ x0 ∨ y1 ≤ y0) → k (.one (.bool b)) []) : ACall Tryd.prog W0 43 [.agg [.int .i64 x0, .int .i64 y0, .int .i64 x1, .int .i64 y1]] [] k := by
  refine m_body tab_ok (fn := Tryd.f43) (by kernel_rfl) rfl ?_
  intro X hX
  cbv
  refine m_cond hX (fun h => ?_) (fun h => ?_) <;> cbv
  ·
    repeat' (first | (refine m_cond_t hX (by first | rfl | assumption | (subst hX; rfl)) ?_; cbv) | (refine m_cond_f hX (by first | rfl | assumption | (subst hX; rfl)) ?_; cbv) | fail)
    refine ⟨_, _, [], by simp [MH], rfl, rfl, ?_, hk true ?_⟩
    · simp [MV, MC]
    · subst hX
      simp [std, cmpS] at h
      simp [h]
  ·
    repeat' (first | (refine m_cond_t hX (by first | rfl | assumption | (subst hX; rfl)) ?_; cbv) | (refine m_cond_f hX (by first | rfl | assumption | (subst hX; rfl)) ?_; cbv) | fail)
    refine ⟨_, _, [], by simp [MH], rfl, rfl, ?_, hk (decide (y1 ≤ y0)) ?_⟩
    · subst hX
      simp [std, cmpS] at h
      simp [MV, MC, std, cmpS]
      intro h2
      omega
    · subst hX
      simp [std, cmpS] at h
      simp
      omega
end Go.Proofs.YtdijdlkljeibjaaDoor.AM
namespace Go.Proofs.YtdijdlkljeibjaaDoor.AM
open Go Go.RowKit
set_option cbv.warning false
set_option maxRecDepth 100000
set_option linter.unusedVariables false
set_option linter.unusedSimpArgs false
theorem eq115 : EqInts Tryd.prog 73 4 where
  key := ⟨3, by decide, by kernel_rfl⟩
  guard := by kernel_rfl
  formed zs hz := by
    have h1 : Tryd.prog.cellsOf 73 = 4 := by kernel_rfl
    unfold Value.formed
    rw [Tryd.underlying73]
    simp [h1, hz]
  lits := ⟨3, fun zs hz hw => by
    have h1 : Tryd.prog.cellsOf 73 = 4 := by kernel_rfl
    have h3 : Tryd.prog.cellsOf 3 = 1 := by kernel_rfl
    match zs, hz, hw with
    | [a, b, c, d], _, hw =>
      have wa := hw a (by simp)
      have wb := hw b (by simp)
      have wc := hw c (by simp)
      have wd := hw d (by simp)
      simp [Program.keyLits, Tryd.underlying73, Tryd.underlying3, h1, h3, wa, wb, wc, wd]⟩
theorem IsM.inj {i s a b c d : Int} (hi : Tu i) (hs : Tu s) (h : IsM i a b c d) (h' : IsM s a b c d) : i = s := by
  have e1 := h.a.symm.trans h'.a
  have e2 := h.b.symm.trans h'.b
  have e3 := h.c.symm.trans h'.c
  have e4 := h.d.symm.trans h'.d
  clear h h'
  rcases hi.cases with rfl | rfl | rfl | rfl | rfl | rfl | rfl | rfl <;> rcases hs.cases with rfl | rfl | rfl | rfl | rfl | rfl | rfl | rfl <;> first | rfl | (exfalso; revert e1; decide) | (exfalso; revert e2; decide) | (exfalso; revert e3; decide) | (exfalso; revert e4; decide)
theorem Nr.unit {x : Int} (h : x = -1 ∨ x = 0 ∨ x = 1) {K : Int} (hK : 1 ≤ K) : Nr K x := by
  constructor <;> omega
theorem dX_unit {t : Int} (ht : Tu t) : (dX t 1 0 = -1 ∨ dX t 1 0 = 0 ∨ dX t 1 0 = 1) ∧ (dY t 1 0 = -1 ∨ dY t 1 0 = 0 ∨ dY t 1 0 = 1) ∧ (dX t 0 1 = -1 ∨ dX t 0 1 = 0 ∨ dX t 0 1 = 1) ∧ (dY t 0 1 = -1 ∨ dY t 0 1 = 0 ∨ dY t 0 1 = 1) := by
  rcases ht.cases with rfl | rfl | rfl | rfl | rfl | rfl | rfl | rfl <;> decide
theorem Nr.wf {x : Int} (h : Nr 4611686018427387904 x) : (Lit.int .i64 x).wf = true := by
  obtain ⟨h1, h2⟩ := h
  simp [Lit.wf, IntKind.min, IntKind.max, IntKind.bits, IntKind.signed]
  omega
theorem IsM.wf {t a b c d : Int} (ht : Tu t) (h : IsM t a b c d) : ∀ z ∈ [a, b, c, d], (Lit.int .i64 z).wf = true := by
  obtain ⟨h1, h2, h3, h4⟩ := dX_unit ht
  obtain ⟨rfl, rfl, rfl, rfl⟩ := h
  intro z hz
  simp only [List.mem_cons, List.not_mem_nil, or_false] at hz
  rcases hz with rfl | rfl | rfl | rfl
  · exact (Nr.unit h1 (by decide)).wf
  · exact (Nr.unit h2 (by decide)).wf
  · exact (Nr.unit h3 (by decide)).wf
  · exact (Nr.unit h4 (by decide)).wf
theorem then_all {t s : Int} (ht : Tu t) (hs : Tu s) : Tu (tThen t s) ∧ IsM (tThen t s) (dX s (dX t 1 0) (dY t 1 0)) (dY s (dX t 1 0) (dY t 1 0)) (dX s (dX t 0 1) (dY t 0 1)) (dY s (dX t 0 1) (dY t 0 1)) ∧ (tThen t s = 0 ↔ s = tBack t) := by
  rcases ht.cases with rfl | rfl | rfl | rfl | rfl | rfl | rfl | rfl <;> rcases hs.cases with rfl | rfl | rfl | rfl | rfl | rfl | rfl | rfl <;>
    exact ⟨⟨by decide +kernel, by decide +kernel⟩, ⟨by decide +kernel, by decide +kernel, by decide +kernel, by decide +kernel⟩, by decide +kernel⟩
/-- ref03.Then -/
theorem RThenM_c (W0 : World) (t s a b c d a' b' c' d' : Int) (ht : Tu t) (hs : Tu s) (hM : IsM t a b c d) (hN : IsM s a' b' c' d') (k : V → Heap → Prop) (hk : ∀ b : Int × Int × Int × Int, IsM (tThen t s) b.1 b.2.1 b.2.2.1 b.2.2.2 → k (.agg [.int .i64 b.1, .int .i64 b.2.1, .int .i64 b.2.2.1, .int .i64 b.2.2.2]) []) : ACall Tryd.prog W0 47 [.agg [.int .i64 a, .int .i64 b, .int .i64 c, .int .i64 d], .agg [.int .i64 a', .int .i64 b', .int .i64 c', .int .i64 d']] [] k := by
  obtain ⟨u1, u2, u3, u4⟩ := dX_unit ht
  have hh := (then_all ht hs).2.1
  refine m_body tab_ok (fn := Tryd.f47) (by kernel_rfl) rfl ?_
  intro X hX
  cbv
  refine m_callq hX [] bodied_32 (fun k2 hk2 => RDo_c W0 s a' b' c' d' a b hs hN (hM.a ▸ Nr.unit u1 (by decide)) (hM.b ▸ Nr.unit u2 (by decide)) k2 hk2) ?_ rfl rfl ?_ ?_
  · (first | (simp [MH, MB, MT, MV, MV.MVs, MC.MCs, MC, renC.renCs, renC, up]; done) | (simp [MH, MB, MT, MV, MV.MVs, MC.MCs, MC, renC.renCs, renC, up]; omega) | (simp [MH, MB, MT, MV, MV.MVs, MC.MCs, MC, renC.renCs, renC, up] <;> omega))
  · simp [MV, MV.MVs, MC, MC.MCs]
  intro p hp
  obtain ⟨u, v⟩ := p
  have hu : u = dX s a b := hp.1
  have hv : v = dY s a b := hp.2
  clear hp
  cbv
  refine m_callq hX [] bodied_32 (fun k2 hk2 => RDo_c W0 s a' b' c' d' c d hs hN (hM.c ▸ Nr.unit u3 (by decide)) (hM.d ▸ Nr.unit u4 (by decide)) k2 hk2) ?_ rfl rfl ?_ ?_
  · (first | (simp [MH, MB, MT, MV, MV.MVs, MC.MCs, MC, renC.renCs, renC, up]; done) | (simp [MH, MB, MT, MV, MV.MVs, MC.MCs, MC, renC.renCs, renC, up]; omega) | (simp [MH, MB, MT, MV, MV.MVs, MC.MCs, MC, renC.renCs, renC, up] <;> omega))
  · simp [MV, MV.MVs, MC, MC.MCs]
  intro p hp
  obtain ⟨u', v'⟩ := p
  have hu' : u' = dX s c d := hp.1
  have hv' : v' = dY s c d := hp.2
  clear hp
  cbv
  refine ⟨_, _, [], by simp [MH], rfl, rfl, ?_, hk (u, v, u', v') ?_⟩
  · simp [MV, MC, MC.MCs]
  · show IsM (tThen t s) u v u' v'
    rw [hu, hv, hu', hv', hM.a, hM.b, hM.c, hM.d]
    exact hh
end Go.Proofs.YtdijdlkljeibjaaDoor.AM
namespace Go.Proofs.YtdijdlkljeibjaaDoor.AM
open Go Go.RowKit
set_option cbv.warning false
set_option maxRecDepth 100000
set_option linter.unusedVariables false
set_option linter.unusedSimpArgs false
structure UpI (s i : Int) : Prop where
  h0 : 0 ≤ i
  h1 : i ≤ s
/-- ref03.Turn -/
theorem RTurn_c (W0 : World) (s a b c d : Int) (hs : Tu s) (hM : IsM s a b c d) (k : V → Heap → Prop) (hk : k (.one (.int .i64 s)) []) : ACall Tryd.prog W0 46 [.agg [.int .i64 a, .int .i64 b, .int .i64 c, .int .i64 d]] [] k := by
  have hs2 := hs.hi
  have hs1 := hs.lo
  refine m_body tab_ok (fn := Tryd.f46) (by kernel_rfl) rfl ?_
  intro X hX
  cbv
  refine m_loop tab_ok hX (fun i : Int => UpI s i) (fun i => ([.one .undef, .one (.ptr 0 0 0), .one .undef, .one (.int .i64 i)] ++ List.replicate 9 (.one .undef), [some (.box 73 [.int .i64 a, .int .i64 b, .int .i64 c, .int .i64 d])])) (fun i => (8 - i).toNat) ?_ ?_
  · refine ⟨0, ⟨by omega, hs1⟩, [some 0], ?_, rfl, rfl, ?_⟩
    · simp [MH, MB, MC.MCs, MC]
    · simp [MT, MV.MVs, MV, MC]
  · intro i hb
    replace hb : UpI s i := hb
    have h0 := hb.h0
    have h1 := hb.h1
    cbv
    refine m_cond_t hX (by subst hX; simp [std, cmpS]; omega) ?_
    cbv
    refine m_drawT tab_ok hX [] [] (.one 0 0 (.one 2 1 (.one 1 2 (.one 3 0 .fin)))) (by kernel_rfl) (by simp) ?_
    cbv
    refine m_callq hX [] bodied_33 (fun k2 hk2 => OfM_c W0 i ⟨by omega, by omega⟩ k2 hk2) ?_ rfl rfl ?_ ?_
    · (first | (simp [MH, MB, MT, MV, MV.MVs, MC.MCs, MC, renC.renCs, renC, up]; done) | (simp [MH, MB, MT, MV, MV.MVs, MC.MCs, MC, renC.renCs, renC, up]; omega) | (simp [MH, MB, MT, MV, MV.MVs, MC.MCs, MC, renC.renCs, renC, up] <;> omega))
    · simp [MV, MV.MVs, MC, MC.MCs]
    intro p hp
    obtain ⟨a', b', c', d'⟩ := p
    replace hp : IsM i a' b' c' d' := hp
    cbv
    refine m_eqInts hX (.inl rfl) eq115 [a', b', c', d'] [a, b, c, d] rfl rfl rfl rfl (hp.wf ⟨by omega, by omega⟩) (hM.wf hs) ?_
    intro e he
    cbv
    cases e with
    | true =>
      have h2 := he.1 rfl
      simp only [List.cons.injEq, and_true] at h2
      obtain ⟨rfl, rfl, rfl, rfl⟩ := h2
      have h3 := IsM.inj (i := i) (s := s) ⟨by omega, by omega⟩ hs hp hM
      subst h3
      refine m_cond_t hX (by subst hX; rfl) ?_
      cbv
      refine ⟨_, _, [], by simp [MH], rfl, rfl, ?_, hk⟩
      simp [MV, MC]
    | false =>
      have hne : i ≠ s := fun h => by
        subst h
        have : [a', b', c', d'] = [a, b, c, d] := by rw [hp.a, hp.b, hp.c, hp.d, hM.a, hM.b, hM.c, hM.d]
        cases he.2 this
      refine m_cond_f hX (by subst hX; rfl) ?_
      cbv
      refine ⟨i + 1, ⟨by omega, by omega⟩, by omega, [some 0], ?_, rfl, rfl, ?_⟩
      · simp [MH, MB, MC.MCs, MC]
      · subst hX
        simp [MT, MV.MVs, MV, MC, std, binS]
        exact (wrap_eq (by omega) (by omega)).symm
/-- ref04.Then -/
theorem RThen_c (W0 : World) (t X0 Y0 t' X1 Y1 : Int) (ht : Tu t) (ht' : Tu t') (hX0 : Nr 1152921504606846976 X0) (hY0 : Nr 1152921504606846976 Y0) (hX1 : Nr 1152921504606846976 X1) (hY1 : Nr 1152921504606846976 Y1) (k : V → Heap → Prop) (hk : ∀ b : Int × Int × Int, IsThen t X0 Y0 t' X1 Y1 b.1 b.2.1 b.2.2 → k (.agg [.int .i64 b.1, .int .i64 b.2.1, .int .i64 b.2.2]) []) : ACall Tryd.prog W0 27 [.agg [.int .i64 t, .int .i64 X0, .int .i64 Y0], .agg [.int .i64 t', .int .i64 X1, .int .i64 Y1]] [] k := by
  obtain ⟨z, hz⟩ : ∃ z, z = tThen t t' := ⟨_, rfl⟩
  have hzt : Tu z := hz ▸ (then_all ht ht').1
  refine m_body tab_ok (fn := Tryd.f27) (by kernel_rfl) rfl ?_
  intro X hX
  cbv
  refine m_callq hX [] bodied_18 (fun k2 hk2 => RPDo_c W0 t' X1 Y1 X0 Y0 ht' hX1 hY1 hX0 hY0 k2 hk2) ?_ rfl rfl ?_ ?_
  · (first | (simp [MH, MB, MT, MV, MV.MVs, MC.MCs, MC, renC.renCs, renC, up]; done) | (simp [MH, MB, MT, MV, MV.MVs, MC.MCs, MC, renC.renCs, renC, up]; omega) | (simp [MH, MB, MT, MV, MV.MVs, MC.MCs, MC, renC.renCs, renC, up] <;> omega))
  · simp [MV, MV.MVs, MC, MC.MCs]
  intro b hb
  obtain ⟨u, v⟩ := b
  have hu : u = dX t' X0 Y0 + X1 := hb.1
  have hv : v = dY t' X0 Y0 + Y1 := hb.2
  clear hb
  cbv
  refine m_drawT tab_ok hX [] [13] (.one 0 0 (.one 3 0 (.one 8 0 (.one 10 0 (.one 1 1 (.one 4 1 (.one 9 1 (.one 11 1 (.one 2 2 (.one 5 2 (.one 6 2 (.one 7 2 (.one 12 0 (.one 13 3 .fin)))))))))))))) (by kernel_rfl) (by simp) ?_
  cbv
  refine m_callq hX [] bodied_33 (fun k2 hk2 => OfM_c W0 t ht k2 hk2) ?_ rfl rfl ?_ ?_
  · (first | (simp [MH, MB, MT, MV, MV.MVs, MC.MCs, MC, renC.renCs, renC, up]; done) | (simp [MH, MB, MT, MV, MV.MVs, MC.MCs, MC, renC.renCs, renC, up]; omega) | (simp [MH, MB, MT, MV, MV.MVs, MC.MCs, MC, renC.renCs, renC, up] <;> omega))
  · simp [MV, MV.MVs, MC, MC.MCs]
  intro p hp
  obtain ⟨a, b, c, d⟩ := p
  replace hp : IsM t a b c d := hp
  cbv
  refine m_callq hX [] bodied_33 (fun k2 hk2 => OfM_c W0 t' ht' k2 hk2) ?_ rfl rfl ?_ ?_
  · (first | (simp [MH, MB, MT, MV, MV.MVs, MC.MCs, MC, renC.renCs, renC, up]; done) | (simp [MH, MB, MT, MV, MV.MVs, MC.MCs, MC, renC.renCs, renC, up]; omega) | (simp [MH, MB, MT, MV, MV.MVs, MC.MCs, MC, renC.renCs, renC, up] <;> omega))
  · simp [MV, MV.MVs, MC, MC.MCs]
  intro q hq
  obtain ⟨a', b', c', d'⟩ := q
  replace hq : IsM t' a' b' c' d' := hq
  cbv
  refine m_callq hX [] bodied_47 (fun k2 hk2 => RThenM_c W0 t t' a b c d a' b' c' d' ht ht' hp hq k2 hk2) ?_ rfl rfl ?_ ?_
  · (first | (simp [MH, MB, MT, MV, MV.MVs, MC.MCs, MC, renC.renCs, renC, up]; done) | (simp [MH, MB, MT, MV, MV.MVs, MC.MCs, MC, renC.renCs, renC, up]; omega) | (simp [MH, MB, MT, MV, MV.MVs, MC.MCs, MC, renC.renCs, renC, up] <;> omega))
  · simp [MV, MV.MVs, MC, MC.MCs]
  intro q2 hq2
  obtain ⟨e0, e1, e2, e3⟩ := q2
  replace hq2 : IsM (tThen t t') e0 e1 e2 e3 := hq2
  rw [← hz] at hq2
  cbv
  refine m_callf hX [] bodied_46 (fun k2 hk2 => RTurn_c W0 z e0 e1 e2 e3 hzt hq2 k2 hk2) ?_ rfl rfl ?_ ?_
  · (first | (simp [MH, MB, MT, MV, MV.MVs, MC.MCs, MC, renC.renCs, renC, up]; done) | (simp [MH, MB, MT, MV, MV.MVs, MC.MCs, MC, renC.renCs, renC, up]; omega) | (simp [MH, MB, MT, MV, MV.MVs, MC.MCs, MC, renC.renCs, renC, up] <;> omega))
  · simp [MV, MV.MVs, MC, MC.MCs]
  cbv
  refine ⟨_, _, [], by simp [MH], rfl, rfl, ?_, hk (z, u, v) ⟨hz, hu, hv⟩⟩
  simp [MV, MC, MC.MCs]
/-- ref04.Back -/
theorem RBack_c (W0 : World) (t X0 Y0 : Int) (ht : Tu t) (hX0 : Nr 1152921504606846976 X0) (hY0 : Nr 1152921504606846976 Y0) (k : V → Heap → Prop) (hk : ∀ b : Int × Int × Int, IsBack t X0 Y0 b.1 b.2.1 b.2.2 → k (.agg [.int .i64 b.1, .int .i64 b.2.1, .int .i64 b.2.2]) []) : ACall Tryd.prog W0 68 [.agg [.int .i64 t, .int .i64 X0, .int .i64 Y0]] [] k := by
  obtain ⟨s, hs⟩ : ∃ s, s = tBack t := ⟨_, rfl⟩
  have hst : Tu s := hs ▸ ht.back
  have hs2 := hst.hi
  have hs1 := hst.lo
  refine m_body tab_ok (fn := Tryd.f68) (by kernel_rfl) rfl ?_
  intro X hX
  cbv
  refine m_loop tab_ok hX (fun i : Int => UpI s i) (fun i => ([.one .undef, .one (.ptr 0 0 0), .one (.ptr 1 0 0), .one (.int .i64 i)] ++ List.replicate 31 (.one .undef), [some (.box 41 [.int .i64 t, .int .i64 X0, .int .i64 Y0]), some (.box 41 [.int .i64 0, .int .i64 0, .int .i64 0])])) (fun i => (8 - i).toNat) ?_ ?_
  · refine ⟨0, ⟨by omega, hs1⟩, [some 0, some 1], ?_, rfl, rfl, ?_⟩
    · simp [MH, MB, MC.MCs, MC, zi]
    · simp [MT, MV.MVs, MV, MC]
  · intro i hb
    replace hb : UpI s i := hb
    have h0 := hb.h0
    have h1 := hb.h1
    have hi : Tu i := ⟨by omega, by omega⟩
    cbv
    refine m_cond_t hX (by subst hX; simp [std, cmpS]; omega) ?_
    cbv
    refine m_callq hX [] bodied_33 (fun k2 hk2 => OfM_c W0 t ht k2 hk2) ?_ rfl rfl ?_ ?_
    · (first | (simp [MH, MB, MT, MV, MV.MVs, MC.MCs, MC, renC.renCs, renC, up]; done) | (simp [MH, MB, MT, MV, MV.MVs, MC.MCs, MC, renC.renCs, renC, up]; omega) | (simp [MH, MB, MT, MV, MV.MVs, MC.MCs, MC, renC.renCs, renC, up] <;> omega))
    · simp [MV, MV.MVs, MC, MC.MCs]
    intro p hp
    obtain ⟨a, b, c, d⟩ := p
    replace hp : IsM t a b c d := hp
    cbv
    refine m_callq hX [] bodied_33 (fun k2 hk2 => OfM_c W0 i hi k2 hk2) ?_ rfl rfl ?_ ?_
    · (first | (simp [MH, MB, MT, MV, MV.MVs, MC.MCs, MC, renC.renCs, renC, up]; done) | (simp [MH, MB, MT, MV, MV.MVs, MC.MCs, MC, renC.renCs, renC, up]; omega) | (simp [MH, MB, MT, MV, MV.MVs, MC.MCs, MC, renC.renCs, renC, up] <;> omega))
    · simp [MV, MV.MVs, MC, MC.MCs]
    intro q hq
    obtain ⟨a', b', c', d'⟩ := q
    replace hq : IsM i a' b' c' d' := hq
    cbv
    refine m_callq hX [] bodied_47 (fun k2 hk2 => RThenM_c W0 t i a b c d a' b' c' d' ht hi hp hq k2 hk2) ?_ rfl rfl ?_ ?_
    · (first | (simp [MH, MB, MT, MV, MV.MVs, MC.MCs, MC, renC.renCs, renC, up]; done) | (simp [MH, MB, MT, MV, MV.MVs, MC.MCs, MC, renC.renCs, renC, up]; omega) | (simp [MH, MB, MT, MV, MV.MVs, MC.MCs, MC, renC.renCs, renC, up] <;> omega))
    · simp [MV, MV.MVs, MC, MC.MCs]
    intro q2 hq2
    obtain ⟨e0, e1, e2, e3⟩ := q2
    replace hq2 : IsM (tThen t i) e0 e1 e2 e3 := hq2
    cbv
    refine m_callq hX [] bodied_33 (fun k2 hk2 => OfM_c W0 0 ⟨by omega, by omega⟩ k2 hk2) ?_ rfl rfl ?_ ?_
    · (first | (simp [MH, MB, MT, MV, MV.MVs, MC.MCs, MC, renC.renCs, renC, up]; done) | (simp [MH, MB, MT, MV, MV.MVs, MC.MCs, MC, renC.renCs, renC, up]; omega) | (simp [MH, MB, MT, MV, MV.MVs, MC.MCs, MC, renC.renCs, renC, up] <;> omega))
    · simp [MV, MV.MVs, MC, MC.MCs]
    intro q3 hq3
    obtain ⟨o0, o1, o2, o3⟩ := q3
    replace hq3 : IsM 0 o0 o1 o2 o3 := hq3
    cbv
    obtain ⟨j1, _, j3⟩ := then_all ht hi
    refine m_eqInts hX (.inl rfl) eq115 [e0, e1, e2, e3] [o0, o1, o2, o3] rfl rfl rfl rfl (hq2.wf j1) (hq3.wf ⟨by omega, by omega⟩) ?_
    intro e he
    cbv
    cases e with
    | true =>
      have h2 := he.1 rfl
      simp only [List.cons.injEq, and_true] at h2
      obtain ⟨rfl, rfl, rfl, rfl⟩ := h2
      have h3 := IsM.inj j1 ⟨by omega, by omega⟩ hq2 hq3
      have h4 := j3.1 h3
      rw [← hs] at h4
      subst h4
      refine m_cond_t hX (by subst hX; rfl) ?_
      cbv
      refine m_drawT tab_ok hX [] [] (.one 0 0 (.one 2 0 (.one 4 0 (.one 3 1 (.one 5 1 (.one 1 2 (.one 6 2 (.one 7 0 (.one 8 0 (.one 9 0 (.one 10 0 (.one 11 0 .fin)))))))))))) (by kernel_rfl) (by simp) ?_
      cbv
      refine m_callq hX [] bodied_33 (fun k2 hk2 => OfM_c W0 i hi k2 hk2) ?_ rfl rfl ?_ ?_
      · (first | (simp [MH, MB, MT, MV, MV.MVs, MC.MCs, MC, renC.renCs, renC, up]; done) | (simp [MH, MB, MT, MV, MV.MVs, MC.MCs, MC, renC.renCs, renC, up]; omega) | (simp [MH, MB, MT, MV, MV.MVs, MC.MCs, MC, renC.renCs, renC, up] <;> omega))
      · simp [MV, MV.MVs, MC, MC.MCs]
      intro q4 hq4
      obtain ⟨y0, y1, y2, y3⟩ := q4
      replace hq4 : IsM i y0 y1 y2 y3 := hq4
      cbv
      refine m_callq hX [] bodied_32 (fun k2 hk2 => RDo_c W0 i y0 y1 y2 y3 X0 Y0 hi hq4 (hX0.up (by omega)) (hY0.up (by omega)) k2 hk2) ?_ rfl rfl ?_ ?_
      · (first | (simp [MH, MB, MT, MV, MV.MVs, MC.MCs, MC, renC.renCs, renC, up]; done) | (simp [MH, MB, MT, MV, MV.MVs, MC.MCs, MC, renC.renCs, renC, up]; omega) | (simp [MH, MB, MT, MV, MV.MVs, MC.MCs, MC, renC.renCs, renC, up] <;> omega))
      · simp [MV, MV.MVs, MC, MC.MCs]
      intro q5 hq5
      obtain ⟨u, v⟩ := q5
      have hu : u = dX i X0 Y0 := hq5.1
      have hv : v = dY i X0 Y0 := hq5.2
      clear hq5
      cbv
      obtain ⟨n1, n2⟩ := Nr.dX hi hX0 hY0
      rw [← hu] at n1
      rw [← hv] at n2
      have e1 := negN n1 (by omega) hX
      have e2 := negN n2 (by omega) hX
      refine ⟨_, _, [], by simp [MH], rfl, rfl, ?_, hk (i, -u, -v) ⟨hs, by rw [← hs, hu], by rw [← hs, hv]⟩⟩
      show MV _ (.agg [.int .i64 i, .int .i64 (-u), .int .i64 (-v)]) (.agg [.int .i64 i, .int .i64 (X.bin .sub .i64 0 u), .int .i64 (X.bin .sub .i64 0 v)])
      rw [e1, e2]
      simp [MV, MC, MC.MCs]
    | false =>
      have hne : i ≠ s := fun h => by
        have h5 : tThen t i = 0 := j3.2 (h.trans hs)
        rw [h5] at hq2
        have : [e0, e1, e2, e3] = [o0, o1, o2, o3] := by rw [hq2.a, hq2.b, hq2.c, hq2.d, hq3.a, hq3.b, hq3.c, hq3.d]
        cases he.2 this
      refine m_cond_f hX (by subst hX; rfl) ?_
      cbv
      refine ⟨i + 1, ⟨by omega, by omega⟩, by omega, [some 0, some 1], ?_, rfl, rfl, ?_⟩
      · simp [MH, MB, MC.MCs, MC, zi]
      · subst hX
        simp [MT, MV.MVs, MV, MC, std, binS]
        exact (wrap_eq (by omega) (by omega)).symm
end Go.Proofs.YtdijdlkljeibjaaDoor.AM
namespace Go.Proofs.YtdijdlkljeibjaaDoor.AM
open Go Go.RowKit
set_option cbv.warning false
set_option maxRecDepth 100000
set_option linter.unusedVariables false
set_option linter.unusedSimpArgs false
theorem bodied_44 : Bodied Tryd.prog 44 := ⟨Tryd.f44, by kernel_rfl, by kernel_rfl, by kernel_rfl⟩
/-- Nothing is in both. -/
def meetP (a0 a1 a2 a3 b0 b1 b2 b3 : Int) : Prop := min a2 b2 ≤ max a0 b0 ∨ min a3 b3 ≤ max a1 b1
/-- What two rectangles have both. -/
def IsMeet (a0 a1 a2 a3 b0 b1 b2 b3 m0 m1 m2 m3 : Int) : Prop :=
  (meetP a0 a1 a2 a3 b0 b1 b2 b3 ∧ m0 = 0 ∧ m1 = 0 ∧ m2 = 0 ∧ m3 = 0) ∨ (¬ meetP a0 a1 a2 a3 b0 b1 b2 b3 ∧ m0 = max a0 b0 ∧ m1 = max a1 b1 ∧ m2 = min a2 b2 ∧ m3 = min a3 b3)
set_option maxHeartbeats 1000000 in
theorem RMeet_c (W0 : World) (a0 a1 a2 a3 b0 b1 b2 b3 : Int) (k : V → Heap → Prop) (hk : ∀ b : Int × Int × Int × Int, IsMeet a0 a1 a2 a3 b0 b1 b2 b3 b.1 b.2.1 b.2.2.1 b.2.2.2 → k (.agg [.int .i64 b.1, .int .i64 b.2.1, .int .i64 b.2.2.1, .int .i64 b.2.2.2]) []) : ACall Tryd.prog W0 67 [.agg [.int .i64 a0, .int .i64 a1, .int .i64 a2, .int .i64 a3], .agg [.int .i64 b0, .int .i64 b1, .int .i64 b2, .int .i64 b3]] [] k := by
  obtain ⟨m0, h0⟩ : ∃ m0, m0 = max a0 b0 := ⟨_, rfl⟩
  obtain ⟨m1, h1⟩ : ∃ m1, m1 = max a1 b1 := ⟨_, rfl⟩
  obtain ⟨m2, h2⟩ : ∃ m2, m2 = min a2 b2 := ⟨_, rfl⟩
  obtain ⟨m3, h3⟩ : ∃ m3, m3 = min a3 b3 := ⟨_, rfl⟩
  refine m_body tab_ok (fn := Tryd.f67) (by kernel_rfl) rfl ?_
  intro X hX
  cbv
  refine m_drawAs hX ([.one .undef, .one .undef, .one .undef, .one .undef, .one (.ptr 2 0 0), .one (.ptr 3 0 0)] ++ List.replicate 25 (.one .undef)) [some (.box 39 [.int .i64 a0, .int .i64 a1, .int .i64 a2, .int .i64 a3]), some (.box 39 [.int .i64 b0, .int .i64 b1, .int .i64 b2, .int .i64 b3]), some (.box 39 [.int .i64 0, .int .i64 0, .int .i64 0, .int .i64 0]), some (.box 39 [.int .i64 m0, .int .i64 m1, .int .i64 m2, .int .i64 m3])] ?_ ?_
  ·
    refine m_drawT tab_ok hX [] [22] (.one 0 0 (.one 2 0 (.one 5 0 (.one 7 0 (.one 10 0 (.one 12 0 (.one 15 0 (.one 17 0 (.one 1 1 (.one 3 1 (.one 6 1 (.one 8 1 (.one 11 1 (.one 13 1 (.one 16 1 (.one 18 1 (.two 4 2 (.two 9 2 (.two 14 2 (.two 19 2 (.one 20 0 (.one 21 2 (.one 22 3 .fin))) 21 2 (.one 19 2 (.one 20 0 (.one 22 3 .fin)))) 21 2 (.one 14 2 (.one 19 2 (.one 20 0 (.one 22 3 .fin))))) 21 2 (.one 9 2 (.one 14 2 (.one 19 2 (.one 20 0 (.one 22 3 .fin)))))) 21 2 (.one 4 2 (.one 9 2 (.one 14 2 (.one 19 2 (.one 20 0 (.one 22 3 .fin))))))))))))))))))))))) (by kernel_rfl) (by simp) ?_
    cbv
    repeat' (first | (refine And.intro ?_ ?_) | (refine m_callq hX [] bodied_50 (fun k2 hk2 => high_c W0 a0 b0 k2 hk2) (by simp [MH]) rfl rfl ⟨⟨rfl, rfl⟩, ⟨rfl, rfl⟩, trivial⟩ ?_; intro z hz; obtain rfl := hz.trans h0.symm; cbv) | (refine m_callq hX [] bodied_50 (fun k2 hk2 => high_c W0 a1 b1 k2 hk2) (by simp [MH]) rfl rfl ⟨⟨rfl, rfl⟩, ⟨rfl, rfl⟩, trivial⟩ ?_; intro z hz; obtain rfl := hz.trans h1.symm; cbv) | (refine m_callq hX [] bodied_49 (fun k2 hk2 => low_c W0 a2 b2 k2 hk2) (by simp [MH]) rfl rfl ⟨⟨rfl, rfl⟩, ⟨rfl, rfl⟩, trivial⟩ ?_; intro z hz; obtain rfl := hz.trans h2.symm; cbv) | (refine m_callq hX [] bodied_49 (fun k2 hk2 => low_c W0 a3 b3 k2 hk2) (by simp [MH]) rfl rfl ⟨⟨rfl, rfl⟩, ⟨rfl, rfl⟩, trivial⟩ ?_; intro z hz; obtain rfl := hz.trans h3.symm; cbv) | fail)
    all_goals
      refine ⟨[some 0, some 1, some 2, some 3], ?_, rfl, rfl, ?_⟩
      · simp [MH, MB, MC.MCs, MC, renC.renCs, renC, up, zi]
      · simp [MT, MV.MVs, MV, MC]
  cbv
  refine m_callq hX [] bodied_43 (fun k2 hk2 => REmpty_c W0 m0 m1 m2 m3 k2 hk2) ?_ rfl rfl ?_ ?_
  · (first | (simp [MH, MB, MT, MV, MV.MVs, MC.MCs, MC, renC.renCs, renC, up]; done) | (simp [MH, MB, MT, MV, MV.MVs, MC.MCs, MC, renC.renCs, renC, up]; omega) | (simp [MH, MB, MT, MV, MV.MVs, MC.MCs, MC, renC.renCs, renC, up] <;> omega))
  · simp [MV, MV.MVs, MC, MC.MCs]
  intro e he
  cbv
  cases e with
  | true =>
    refine m_cond_t hX (by subst hX; rfl) ?_
    cbv
    refine ⟨_, _, [], by simp [MH], rfl, rfl, ?_, hk (0, 0, 0, 0) (.inl ⟨?_, rfl, rfl, rfl, rfl⟩)⟩
    · simp [MV, MC, MC.MCs, zi]
    · have := he.1 rfl
      rw [h0, h1, h2, h3] at this
      exact this
  | false =>
    refine m_cond_f hX (by subst hX; rfl) ?_
    cbv
    refine ⟨_, _, [], by simp [MH], rfl, rfl, ?_, hk (m0, m1, m2, m3) (.inr ⟨?_, h0, h1, h2, h3⟩)⟩
    · simp [MV, MC, MC.MCs]
    · intro h
      cases he.2 (by unfold meetP at h; rw [h0, h1, h2, h3]; exact h)
theorem IsMeet.unique {a0 a1 a2 a3 b0 b1 b2 b3 m0 m1 m2 m3 : Int} {q : Int × Int × Int × Int} (h : IsMeet a0 a1 a2 a3 b0 b1 b2 b3 q.1 q.2.1 q.2.2.1 q.2.2.2) (h' : IsMeet a0 a1 a2 a3 b0 b1 b2 b3 m0 m1 m2 m3) : q = (m0, m1, m2, m3) := by
  obtain ⟨q0, q1, q2, q3⟩ := q
  rcases h with ⟨g, g0, g1, g2, g3⟩ | ⟨g, g0, g1, g2, g3⟩ <;> rcases h' with ⟨k, k0, k1, k2, k3⟩ | ⟨k, k0, k1, k2, k3⟩
  · exact Prod.ext (g0.trans k0.symm) (Prod.ext (g1.trans k1.symm) (Prod.ext (g2.trans k2.symm) (g3.trans k3.symm)))
  · exact absurd g k
  · exact absurd k g
  · exact Prod.ext (g0.trans k0.symm) (Prod.ext (g1.trans k1.symm) (Prod.ext (g2.trans k2.symm) (g3.trans k3.symm)))
/-- What is kept of a layer. -/
structure KeepR (x0 y0 x1 y1 t X Y r0 r1 r2 r3 : Int) (e : Bool) (c0 c1 c2 c3 c4 c5 c6 : Int) : Prop where
  h : ∃ la lb lc ld, IsBox t X Y x0 y0 x1 y1 la lb lc ld ∧
    ((e = false ∧ (x1 ≤ x0 ∨ y1 ≤ y0 ∨ meetP la lb lc ld r0 r1 r2 r3)) ∨
     (e = true ∧ x0 < x1 ∧ y0 < y1 ∧ ¬ meetP la lb lc ld r0 r1 r2 r3 ∧ c4 = t ∧ c5 = X ∧ c6 = Y ∧ IsBox (tBack t) (-dX (tBack t) X Y) (-dY (tBack t) X Y) (max la r0) (max lb r1) (min lc r2) (min ld r3) c0 c1 c2 c3))
theorem Nr.max {K a b : Int} (ha : Nr K a) (hb : Nr K b) : Nr K (max a b) := by
  obtain ⟨h1, h2⟩ := ha
  obtain ⟨h3, h4⟩ := hb
  constructor <;> omega
theorem Nr.min {K a b : Int} (ha : Nr K a) (hb : Nr K b) : Nr K (min a b) := by
  obtain ⟨h1, h2⟩ := ha
  obtain ⟨h3, h4⟩ := hb
  constructor <;> omega
theorem Nr.sum {K L a b : Int} (ha : Nr K a) (hb : Nr K b) (hL : 2 * K ≤ L) : Nr L (a + b) := by
  obtain ⟨h1, h2⟩ := ha
  obtain ⟨h3, h4⟩ := hb
  constructor <;> omega
theorem IsBox.nr {K L t X Y x0 y0 x1 y1 a b c d : Int} (h : IsBox t X Y x0 y0 x1 y1 a b c d) (ht : Tu t) (hX : Nr K X) (hY : Nr K Y) (h0 : Nr K x0) (h1 : Nr K y0) (h2 : Nr K x1) (h3 : Nr K y1) (hL : 2 * K ≤ L) : Nr L a ∧ Nr L b ∧ Nr L c ∧ Nr L d := by
  obtain ⟨p1, p2⟩ := Nr.dX ht h0 h1
  obtain ⟨q1, q2⟩ := Nr.dX ht h2 h3
  obtain ⟨rfl, rfl, rfl, rfl⟩ := h
  exact ⟨Nr.min (p1.sum hX hL) (q1.sum hX hL), Nr.min (p2.sum hY hL) (q2.sum hY hL), Nr.max (p1.sum hX hL) (q1.sum hX hL), Nr.max (p2.sum hY hL) (q2.sum hY hL)⟩
set_option maxHeartbeats 1000000 in
theorem RKeep_c (W0 : World) (t X0 Y0 x0 y0 x1 y1 r0 r1 r2 r3 : Int) (ht : Tu t) (hX0 : Nr 576460752303423488 X0) (hY0 : Nr 576460752303423488 Y0) (hx0 : Nr 576460752303423488 x0) (hy0 : Nr 576460752303423488 y0) (hx1 : Nr 576460752303423488 x1) (hy1 : Nr 576460752303423488 y1) (n0 : Nr 1152921504606846976 r0) (n1 : Nr 1152921504606846976 r1) (n2 : Nr 1152921504606846976 r2) (n3 : Nr 1152921504606846976 r3)
    (k : V → Heap → Prop) (hk : ∀ b : Bool × Int × Int × Int × Int × Int × Int × Int, KeepR x0 y0 x1 y1 t X0 Y0 r0 r1 r2 r3 b.1 b.2.1 b.2.2.1 b.2.2.2.1 b.2.2.2.2.1 b.2.2.2.2.2.1 b.2.2.2.2.2.2.1 b.2.2.2.2.2.2.2 → k (.tup [.agg [.int .i64 b.2.1, .int .i64 b.2.2.1, .int .i64 b.2.2.2.1, .int .i64 b.2.2.2.2.1, .int .i64 b.2.2.2.2.2.1, .int .i64 b.2.2.2.2.2.2.1, .int .i64 b.2.2.2.2.2.2.2], .one (.bool b.1)]) []) :
    ACall Tryd.prog W0 59 [.agg [.int .i64 x0, .int .i64 y0, .int .i64 x1, .int .i64 y1, .int .i64 t, .int .i64 X0, .int .i64 Y0], .agg [.int .i64 r0, .int .i64 r1, .int .i64 r2, .int .i64 r3]] [] k := by
  have hK : (576460752303423488 : Int) ≤ 1152921504606846976 := by decide
  obtain ⟨la, hla⟩ : ∃ la, la = bA t X0 Y0 x0 y0 x1 y1 := ⟨_, rfl⟩
  obtain ⟨lb, hlb⟩ : ∃ lb, lb = bB t X0 Y0 x0 y0 x1 y1 := ⟨_, rfl⟩
  obtain ⟨lc, hlc⟩ : ∃ lc, lc = bC t X0 Y0 x0 y0 x1 y1 := ⟨_, rfl⟩
  obtain ⟨ld, hld⟩ : ∃ ld, ld = bD t X0 Y0 x0 y0 x1 y1 := ⟨_, rfl⟩
  have hp : IsBox t X0 Y0 x0 y0 x1 y1 la lb lc ld := ⟨hla, hlb, hlc, hld⟩
  obtain ⟨j0, j1, j2, j3⟩ := hp.nr (L := 1152921504606846976) ht hX0 hY0 hx0 hy0 hx1 hy1 (by decide)
  obtain ⟨m0, m1, m2, m3, hq⟩ : ∃ m0 m1 m2 m3, IsMeet la lb lc ld r0 r1 r2 r3 m0 m1 m2 m3 := by
    by_cases h : meetP la lb lc ld r0 r1 r2 r3
    · exact ⟨0, 0, 0, 0, .inl ⟨h, rfl, rfl, rfl, rfl⟩⟩
    · exact ⟨_, _, _, _, .inr ⟨h, rfl, rfl, rfl, rfl⟩⟩
  refine m_body tab_ok (fn := Tryd.f59) (by kernel_rfl) rfl ?_
  intro X hX
  cbv
  refine m_drawAs hX ([.one .undef, .one .undef, .one (.ptr 0 0 0), .one (.ptr 1 0 0), .one (.ptr 2 0 0), .one .undef, .one (.ptr 3 0 0)] ++ List.replicate 20 (.one .undef)) [some (.box 43 [.int .i64 x0, .int .i64 y0, .int .i64 x1, .int .i64 y1, .int .i64 t, .int .i64 X0, .int .i64 Y0]), some (.box 39 [.int .i64 r0, .int .i64 r1, .int .i64 r2, .int .i64 r3]), some (.box 43 [.int .i64 0, .int .i64 0, .int .i64 0, .int .i64 0, .int .i64 0, .int .i64 0, .int .i64 0]), some (.box 39 [.int .i64 m0, .int .i64 m1, .int .i64 m2, .int .i64 m3])] ?_ ?_
  ·
    refine m_drawT tab_ok hX [] [5] (.one 0 1 (.one 2 1 (.two 1 2 (.two 3 2 (.one 4 2 (.one 5 3 .fin)) 4 2 (.one 3 2 (.one 5 3 .fin))) 4 2 (.one 1 2 (.one 3 2 (.one 5 3 .fin)))))) (by kernel_rfl) (by simp) ?_
    cbv
    refine And.intro ?_ ?_
    all_goals
      refine m_callq hX [] bodied_17 (fun k2 hk2 => RLies_c W0 t X0 Y0 x0 y0 x1 y1 ht (hX0.up hK) (hY0.up hK) (hx0.up hK) (hy0.up hK) (hx1.up hK) (hy1.up hK) k2 hk2) ?_ rfl rfl ?_ ?_
      · (first | (simp [MH, MB, MT, MV, MV.MVs, MC.MCs, MC, renC.renCs, renC, up]; done) | (simp [MH, MB, MT, MV, MV.MVs, MC.MCs, MC, renC.renCs, renC, up]; omega) | (simp [MH, MB, MT, MV, MV.MVs, MC.MCs, MC, renC.renCs, renC, up] <;> omega))
      · simp [MV, MV.MVs, MC, MC.MCs]
      intro p hp1
      obtain rfl : p = (la, lb, lc, ld) := Prod.ext (hp1.a.trans hla.symm) (Prod.ext (hp1.b.trans hlb.symm) (Prod.ext (hp1.c.trans hlc.symm) (hp1.d.trans hld.symm)))
      cbv
      try (refine And.intro ?_ ?_)
      all_goals
        refine m_callq hX [] bodied_67 (fun k2 hk2 => RMeet_c W0 la lb lc ld r0 r1 r2 r3 k2 hk2) ?_ rfl rfl ?_ ?_
        · (first | (simp [MH, MB, MT, MV, MV.MVs, MC.MCs, MC, renC.renCs, renC, up]; done) | (simp [MH, MB, MT, MV, MV.MVs, MC.MCs, MC, renC.renCs, renC, up]; omega) | (simp [MH, MB, MT, MV, MV.MVs, MC.MCs, MC, renC.renCs, renC, up] <;> omega))
        · simp [MV, MV.MVs, MC, MC.MCs]
        intro q hq1
        obtain rfl : q = (m0, m1, m2, m3) := hq1.unique hq
        cbv
        refine ⟨[some 0, some 1, some 2, some 3], ?_, rfl, rfl, ?_⟩
        · simp [MH, MB, MC.MCs, MC, renC.renCs, renC, up, zi]
        · simp [MT, MV.MVs, MV, MC]
  cbv
  refine m_callq hX [] bodied_43 (fun k2 hk2 => REmpty_c W0 x0 y0 x1 y1 k2 hk2) ?_ rfl rfl ?_ ?_
  · (first | (simp [MH, MB, MT, MV, MV.MVs, MC.MCs, MC, renC.renCs, renC, up]; done) | (simp [MH, MB, MT, MV, MV.MVs, MC.MCs, MC, renC.renCs, renC, up]; omega) | (simp [MH, MB, MT, MV, MV.MVs, MC.MCs, MC, renC.renCs, renC, up] <;> omega))
  · simp [MV, MV.MVs, MC, MC.MCs]
  intro e he
  cbv
  cases e with
  | true =>
    repeat' (first | (refine m_cond_t hX (by first | rfl | assumption | (subst hX; rfl)) ?_; cbv) | (refine m_cond_f hX (by first | rfl | assumption | (subst hX; rfl)) ?_; cbv) | fail)
    refine ⟨_, _, [], by simp [MH], rfl, rfl, ?_, hk (false, 0, 0, 0, 0, 0, 0, 0) ⟨la, lb, lc, ld, hp, .inl ⟨rfl, ?_⟩⟩⟩
    · simp [MV, MV.MVs, MC, MC.MCs, zi]
    · have := he.1 rfl
      omega
  | false =>
    have hne : ¬ (x1 ≤ x0 ∨ y1 ≤ y0) := fun h => by cases he.2 h
    repeat' (first | (refine m_cond_t hX (by first | rfl | assumption | (subst hX; rfl)) ?_; cbv) | (refine m_cond_f hX (by first | rfl | assumption | (subst hX; rfl)) ?_; cbv) | fail)
    refine m_callq hX [] bodied_43 (fun k2 hk2 => REmpty_c W0 m0 m1 m2 m3 k2 hk2) ?_ rfl rfl ?_ ?_
    · (first | (simp [MH, MB, MT, MV, MV.MVs, MC.MCs, MC, renC.renCs, renC, up]; done) | (simp [MH, MB, MT, MV, MV.MVs, MC.MCs, MC, renC.renCs, renC, up]; omega) | (simp [MH, MB, MT, MV, MV.MVs, MC.MCs, MC, renC.renCs, renC, up] <;> omega))
    · simp [MV, MV.MVs, MC, MC.MCs]
    intro e2 he2
    cbv
    cases e2 with
    | true =>
      repeat' (first | (refine m_cond_t hX (by first | rfl | assumption | (subst hX; rfl)) ?_; cbv) | (refine m_cond_f hX (by first | rfl | assumption | (subst hX; rfl)) ?_; cbv) | fail)
      refine ⟨_, _, [], by simp [MH], rfl, rfl, ?_, hk (false, 0, 0, 0, 0, 0, 0, 0) ⟨la, lb, lc, ld, hp, .inl ⟨rfl, .inr (.inr ?_)⟩⟩⟩
      · simp [MV, MV.MVs, MC, MC.MCs, zi]
      · rcases hq with ⟨h, _⟩ | ⟨_, g0, g1, g2, g3⟩
        · exact h
        · have := he2.1 rfl
          rw [g0, g1, g2, g3] at this
          exact this
    | false =>
      have hm : ¬ meetP la lb lc ld r0 r1 r2 r3 ∧ m0 = max la r0 ∧ m1 = max lb r1 ∧ m2 = min lc r2 ∧ m3 = min ld r3 := by
        rcases hq with ⟨_, g0, g1, g2, g3⟩ | h
        · exfalso
          have : m2 ≤ m0 ∨ m3 ≤ m1 := by omega
          cases he2.2 this
        · exact h
      obtain ⟨hm0, g0, g1, g2, g3⟩ := hm
      have q0 : Nr 1152921504606846976 m0 := g0 ▸ j0.max n0
      have q1 : Nr 1152921504606846976 m1 := g1 ▸ j1.max n1
      have q2 : Nr 1152921504606846976 m2 := g2 ▸ j2.min n2
      have q3 : Nr 1152921504606846976 m3 := g3 ▸ j3.min n3
      repeat' (first | (refine m_cond_t hX (by first | rfl | assumption | (subst hX; rfl)) ?_; cbv) | (refine m_cond_f hX (by first | rfl | assumption | (subst hX; rfl)) ?_; cbv) | fail)
      refine m_gen (A := X.draw _ _ _) fun K1 hK1 => ?_
      refine m_drawT tab_ok hX [] [8] (.one 0 0 (.one 5 0 (.one 1 1 (.one 3 1 (.one 6 1 (.one 2 2 (.one 4 2 (.one 7 0 (.one 8 3 (.one 9 0 .fin)))))))))) (by kernel_rfl) (by simp) ?_
      cbv
      refine m_callq hX [] bodied_68 (fun k2 hk2 => RBack_c W0 t X0 Y0 ht (hX0.up hK) (hY0.up hK) k2 hk2) ?_ rfl rfl ?_ ?_
      · (first | (simp [MH, MB, MT, MV, MV.MVs, MC.MCs, MC, renC.renCs, renC, up]; done) | (simp [MH, MB, MT, MV, MV.MVs, MC.MCs, MC, renC.renCs, renC, up]; omega) | (simp [MH, MB, MT, MV, MV.MVs, MC.MCs, MC, renC.renCs, renC, up] <;> omega))
      · simp [MV, MV.MVs, MC, MC.MCs]
      intro b hb
      obtain ⟨z, u, v⟩ := b
      replace hb : IsBack t X0 Y0 z u v := hb
      cbv
      obtain ⟨hz, hu, hv⟩ := hb
      obtain ⟨w1, w2⟩ := Nr.dX ht.back (hX0.up hK) (hY0.up hK)
      refine m_callq hX [] bodied_31 (fun k2 hk2 => RBox_c W0 z u v m0 m1 m2 m3 (hz ▸ ht.back) (hu ▸ w1.neg) (hv ▸ w2.neg) q0 q1 q2 q3 k2 hk2) ?_ rfl rfl ?_ ?_
      · (first | (simp [MH, MB, MT, MV, MV.MVs, MC.MCs, MC, renC.renCs, renC, up]; done) | (simp [MH, MB, MT, MV, MV.MVs, MC.MCs, MC, renC.renCs, renC, up]; omega) | (simp [MH, MB, MT, MV, MV.MVs, MC.MCs, MC, renC.renCs, renC, up] <;> omega))
      · simp [MV, MV.MVs, MC, MC.MCs]
      intro b hb
      obtain ⟨c0, c1, c2, c3⟩ := b
      replace hb : IsBox z u v m0 m1 m2 m3 c0 c1 c2 c3 := hb
      cbv
      rw [hz, hu, hv, g0, g1, g2, g3] at hb
      refine hK1 _ _ ?_
      cbv
      refine ⟨_, _, [], by simp [MH], rfl, rfl, ?_, hk (true, c0, c1, c2, c3, t, X0, Y0) ⟨la, lb, lc, ld, hp, .inr ⟨rfl, by omega, by omega, hm0, rfl, rfl, rfl, hb⟩⟩⟩
      simp [MV, MV.MVs, MC, MC.MCs]
end Go.Proofs.YtdijdlkljeibjaaDoor.AM
