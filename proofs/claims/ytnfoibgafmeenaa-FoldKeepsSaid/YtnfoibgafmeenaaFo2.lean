/- Places, as contracts on the abstract machine. No condition but that the numbers are near. -/
import Derived.Test.YtnfoibgafmeenaaFo
namespace Go.Proofs.Ytnfoibgafmeenaa.AM
open Go Go.RowKit
set_option cbv.warning false
set_option maxRecDepth 100000
set_option linter.unusedVariables false
set_option linter.unusedSimpArgs false
theorem Nr.up {K L x : Int} (h : Nr K x) (hl : K ≤ L) : Nr L x := by
  obtain ⟨h1, h2⟩ := h
  exact ⟨by omega, by omega⟩
theorem Nr.dX {K t x y : Int} (ht : Tu t) (hx : Nr K x) (hy : Nr K y) : Nr K (dX t x y) ∧ Nr K (dY t x y) := by
  obtain ⟨h1, h2⟩ := hx
  obtain ⟨h3, h4⟩ := hy
  rcases ht.cases with rfl | rfl | rfl | rfl | rfl | rfl | rfl | rfl <;> exact ⟨⟨by simp [AM.dX]; try omega, by simp [AM.dX]; try omega⟩, ⟨by simp [dY]; try omega, by simp [dY]; try omega⟩⟩
theorem addN {K a b : Int} (ha : Nr K a) (hb : Nr K b) (hK : K ≤ 4611686018427387000) {X : Ext} {P : Program} {W0 : World} {md : Md} (hX : X = std P W0 md) : X.bin .add .i64 a b = a + b := by
  obtain ⟨h1, h2⟩ := ha
  obtain ⟨h3, h4⟩ := hb
  subst hX
  show IntKind.i64.wrap (a + b) = a + b
  exact wrap_eq (by omega) (by omega)
theorem negN {K a : Int} (ha : Nr K a) (hK : K ≤ 4611686018427387904) {X : Ext} {P : Program} {W0 : World} {md : Md} (hX : X = std P W0 md) : X.bin .sub .i64 0 a = -a := by
  obtain ⟨h1, h2⟩ := ha
  subst hX
  show IntKind.i64.wrap (0 - a) = -a
  rw [wrap_eq (by omega) (by omega)]
  omega
/-- place.Do -/
theorem PDo_c (W0 : World) (t X0 Y0 x y : Int) (ht : Tu t) (hX0 : Nr 1152921504606846976 X0) (hY0 : Nr 1152921504606846976 Y0) (hx : Nr 1152921504606846976 x) (hy : Nr 1152921504606846976 y) (k : V → Heap → Prop) (hk : ∀ b : Int × Int, (b.1 = dX t x y + X0 ∧ b.2 = dY t x y + Y0) → k (.agg [.int .i64 b.1, .int .i64 b.2]) []) : ACall Try.prog W0 83 [.agg [.int .i64 t, .int .i64 X0, .int .i64 Y0], .agg [.int .i64 x, .int .i64 y]] [] k := by
  refine m_body tab_ok (fn := Try.f83) (by kernel_rfl) rfl ?_
  intro X hX
  cbv
  refine m_callq hX [] bodied_89 (fun k2 hk2 => Do_c W0 t x y ht (hx.up (by omega)) (hy.up (by omega)) k2 hk2) ?_ rfl rfl ?_ ?_
  · (first | (simp [MH, MB, MT, MV, MV.MVs, MC.MCs, MC, renC.renCs, renC, up]; done) | (simp [MH, MB, MT, MV, MV.MVs, MC.MCs, MC, renC.renCs, renC, up]; omega) | (simp [MH, MB, MT, MV, MV.MVs, MC.MCs, MC, renC.renCs, renC, up] <;> omega))
  · simp [MV, MV.MVs, MC, MC.MCs]
  intro b hb
  obtain ⟨u, v⟩ := b
  have hu : u = dX t x y := hb.1
  have hv : v = dY t x y := hb.2
  clear hb
  cbv
  obtain ⟨n1, n2⟩ := Nr.dX ht hx hy
  rw [← hu] at n1
  rw [← hv] at n2
  have e1 := addN n1 hX0 (by omega) hX
  have e2 := addN n2 hY0 (by omega) hX
  refine ⟨_, _, [], by simp [MH], rfl, rfl, ?_, hk (u + X0, v + Y0) ⟨by rw [hu], by rw [hv]⟩⟩
  show MV _ (.agg [.int .i64 (u + X0), .int .i64 (v + Y0)]) (.agg [.int .i64 (X.bin .add .i64 u X0), .int .i64 (X.bin .add .i64 v Y0)])
  rw [e1, e2]
  simp [MV, MC, MC.MCs]
/-- box.Empty -/
theorem Empty_c (W0 : World) (x0 y0 x1 y1 : Int) (k : V → Heap → Prop) (hk : ∀ b : Bool, (b = true ↔ x1 ≤ x0 ∨ y1 ≤ y0) → k (.one (.bool b)) []) : ACall Try.prog W0 67 [.agg [.int .i64 x0, .int .i64 y0, .int .i64 x1, .int .i64 y1]] [] k := by
  refine m_body tab_ok (fn := Try.f67) (by kernel_rfl) rfl ?_
  intro X hX
  cbv
  refine m_cond hX (fun h => ?_) (fun h => ?_) <;> cbv
  ·
    repeat' (first | (refine m_cond_t hX (by first | rfl | assumption | (subst hX; rfl)) ?_; cbv) | (refine m_cond_f hX (by first | rfl | assumption | (subst hX; rfl)) ?_; cbv) | fail)
    refine ⟨_, _, [], by simp [MH], rfl, rfl, ?_, hk true ?_⟩
    · simp [MV, MC]
    · subst hX
      simp [std, cmpS] at h
      simp [h]
  ·
    repeat' (first | (refine m_cond_t hX (by first | rfl | assumption | (subst hX; rfl)) ?_; cbv) | (refine m_cond_f hX (by first | rfl | assumption | (subst hX; rfl)) ?_; cbv) | fail)
    refine ⟨_, _, [], by simp [MH], rfl, rfl, ?_, hk (decide (y1 ≤ y0)) ?_⟩
    · subst hX
      simp [std, cmpS] at h
      simp [MV, MC, std, cmpS]
      intro h2
      omega
    · subst hX
      simp [std, cmpS] at h
      simp
      omega
/-- turn.Then, as a number. -/
def tThen (a b : Int) : Int := (IntKind.i64.wrap (BitVec.ofInt 64 (IntKind.i64.wrap (BitVec.ofInt 64 (if 4 ≤ b then IntKind.i64.wrap (b - a) else IntKind.i64.wrap (b + a)) &&& BitVec.ofInt 64 3).toNat) ||| BitVec.ofInt 64 (IntKind.i64.wrap (BitVec.ofInt 64 (IntKind.i64.wrap (BitVec.ofInt 64 a ^^^ BitVec.ofInt 64 b).toNat) &&& BitVec.ofInt 64 4).toNat)).toNat)
theorem TThen_c (W0 : World) (a b : Int) (ha : Tu a) (hb : Tu b) (k : V → Heap → Prop) (hk : ∀ z : Int, z = tThen a b → k (.one (.int .i64 z)) []) : ACall Try.prog W0 84 [.one (.int .i64 a), .one (.int .i64 b)] [] k := by
  refine m_body tab_ok (fn := Try.f84) (by kernel_rfl) rfl ?_
  intro X hX
  cbv
  refine m_callq hX [] bodied_90 (fun k2 hk2 => Mirrors_c W0 b hb k2 hk2) ?_ rfl rfl ?_ ?_
  · (first | (simp [MH, MB, MT, MV, MV.MVs, MC.MCs, MC, renC.renCs, renC, up]; done) | (simp [MH, MB, MT, MV, MV.MVs, MC.MCs, MC, renC.renCs, renC, up]; omega) | (simp [MH, MB, MT, MV, MV.MVs, MC.MCs, MC, renC.renCs, renC, up] <;> omega))
  · simp [MV, MV.MVs, MC, MC.MCs]
  intro m hm
  cbv
  cases m with
  | true =>
    have h4 := hm.1 rfl
    refine m_cond_t hX (by subst hX; rfl) ?_
    cbv
    refine ⟨_, _, [], by simp [MH], rfl, rfl, ?_, hk _ rfl⟩
    show MV _ (.one (.int .i64 (tThen a b))) (.one (.int .i64 (X.bin .or .i64 (X.bin .and .i64 (X.bin .sub .i64 b a) 3) (X.bin .and .i64 (X.bin .xor .i64 a b) 4))))
    have e : X.bin .or .i64 (X.bin .and .i64 (X.bin .sub .i64 b a) 3) (X.bin .and .i64 (X.bin .xor .i64 a b) 4) = tThen a b := by
      subst hX
      unfold tThen
      rw [if_pos h4]
      rfl
    rw [e]
    simp [MV, MC]
  | false =>
    have h4 : ¬ 4 ≤ b := fun h => by cases hm.2 h
    refine m_cond_f hX (by subst hX; rfl) ?_
    cbv
    refine ⟨_, _, [], by simp [MH], rfl, rfl, ?_, hk _ rfl⟩
    show MV _ (.one (.int .i64 (tThen a b))) (.one (.int .i64 (X.bin .or .i64 (X.bin .and .i64 (X.bin .add .i64 b a) 3) (X.bin .and .i64 (X.bin .xor .i64 a b) 4))))
    have e : X.bin .or .i64 (X.bin .and .i64 (X.bin .add .i64 b a) 3) (X.bin .and .i64 (X.bin .xor .i64 a b) 4) = tThen a b := by
      subst hX
      unfold tThen
      rw [if_neg h4]
      rfl
    rw [e]
    simp [MV, MC]
/-- turn.Back -/
def tBack (t : Int) : Int := match t.toNat with | 0 => 0 | 1 => 3 | 2 => 2 | 3 => 1 | 4 => 4 | 5 => 5 | 6 => 6 | _ => 7
theorem TBack_c (W0 : World) (t : Int) (ht : Tu t) (k : V → Heap → Prop) (hk : ∀ z : Int, z = tBack t → k (.one (.int .i64 z)) []) : ACall Try.prog W0 88 [.one (.int .i64 t)] [] k := by
  refine m_body tab_ok (fn := Try.f88) (by kernel_rfl) rfl ?_
  intro X hX
  cbv
  refine m_callq hX [] bodied_90 (fun k2 hk2 => Mirrors_c W0 t ht k2 hk2) ?_ rfl rfl ?_ ?_
  · (first | (simp [MH, MB, MT, MV, MV.MVs, MC.MCs, MC, renC.renCs, renC, up]; done) | (simp [MH, MB, MT, MV, MV.MVs, MC.MCs, MC, renC.renCs, renC, up]; omega) | (simp [MH, MB, MT, MV, MV.MVs, MC.MCs, MC, renC.renCs, renC, up] <;> omega))
  · simp [MV, MV.MVs, MC, MC.MCs]
  intro m hm
  cbv
  cases m with
  | true =>
    have h4 := hm.1 rfl
    refine m_cond_t hX (by subst hX; rfl) ?_
    cbv
    refine ⟨_, _, [], by simp [MH], rfl, rfl, ?_, hk _ rfl⟩
    show MV _ (.one (.int .i64 (tBack t))) (.one (.int .i64 (X.bin .and .i64 t 7)))
    have e : X.bin .and .i64 t 7 = tBack t := by
      subst hX
      rcases ht.cases with rfl | rfl | rfl | rfl | rfl | rfl | rfl | rfl <;> first | rfl | omega
    rw [e]
    simp [MV, MC]
  | false =>
    have h4 : ¬ 4 ≤ t := fun h => by cases hm.2 h
    refine m_cond_f hX (by subst hX; rfl) ?_
    cbv
    refine ⟨_, _, [], by simp [MH], rfl, rfl, ?_, hk _ rfl⟩
    show MV _ (.one (.int .i64 (tBack t))) (.one (.int .i64 (X.bin .and .i64 (X.bin .sub .i64 0 t) 3)))
    have e : X.bin .and .i64 (X.bin .sub .i64 0 t) 3 = tBack t := by
      subst hX
      rcases ht.cases with rfl | rfl | rfl | rfl | rfl | rfl | rfl | rfl <;> first | (exfalso; omega) | kernel_rfl
    rw [e]
    simp [MV, MC]
end Go.Proofs.Ytnfoibgafmeenaa.AM
