/- The program's flip, and which side a layer lies on, as contracts on the abstract machine. No condition but that the numbers are near. -/
import Derived.Test.YtnfoibgafmeenaaFo9
namespace Go.Proofs.Ytnfoibgafmeenaa.AM
open Go Go.RowKit
set_option cbv.warning false
set_option maxRecDepth 100000
set_option linter.unusedVariables false
set_option linter.unusedSimpArgs false
/-- Bools that are compared. -/
theorem m_eqBools {W0 : World} {md : Md} {X : Ext} (hX : X = std Try.prog W0 md) {op : BinOp} (hop : op = .eql ∨ op = .neq) {x y : Bool} {k : V → Prop} (h : k (.one (.bool (if op = .eql then x == y else x != y)))) : X.eqs op 4 (.one (.bool x)) (.one (.bool y)) k := by
  subst hX
  refine ⟨_, h, fun r x' y' ox oy hx hy => ?_⟩
  unfold VR CR at hx hy
  subst hx hy
  have hu : Try.prog.underlying 4 = some .bool := by kernel_rfl
  refine ⟨.bool (if op = .eql then x == y else x != y), fun w => ?_, by unfold VR CR; rfl⟩
  have he : ∀ w, (Op.equal 4 (.bool x) (.bool y)).run Try.prog w = .ok (x == y) w := fun w => by
    rw [equal_step, Op.equalIn]
    simp [run_underlying hu]
  rw [Sem.run_bind, guard_none op 4 ox oy _ _ w ⟨by simp, by simp⟩]
  rcases hop with rfl | rfl
  · show (do pure (.bool (← Op.equal 4 (.bool x) (.bool y))) : Sem Value).run Try.prog w = _
    simp [Sem.run_bind, he, Result.andThen]
  · show (do pure (.bool (!(← Op.equal 4 (.bool x) (.bool y)))) : Sem Value).run Try.prog w = _
    simp [Sem.run_bind, he, Result.andThen]
    cases x <;> cases y <;> rfl
theorem FlipX_c (W0 : World) (n : Int) (k : V → Heap → Prop) (hk : k (.agg [.int .i64 4, .int .i64 n, .int .i64 0]) []) : ACall Try.prog W0 72 [.one (.int .i64 n)] [] k := by
  refine m_body tab_ok (fn := Try.f72) (by kernel_rfl) rfl ?_
  intro X hX
  cbv
  refine ⟨_, _, [], by simp [MH], rfl, rfl, ?_, hk⟩
  simp [MV, MC, MC.MCs, zi]
theorem FlipY_c (W0 : World) (n : Int) (k : V → Heap → Prop) (hk : k (.agg [.int .i64 6, .int .i64 0, .int .i64 n]) []) : ACall Try.prog W0 73 [.one (.int .i64 n)] [] k := by
  refine m_body tab_ok (fn := Try.f73) (by kernel_rfl) rfl ?_
  intro X hX
  cbv
  refine ⟨_, _, [], by simp [MH], rfl, rfl, ?_, hk⟩
  simp [MV, MC, MC.MCs, zi]
theorem mul2N {K a : Int} (ha : Nr K a) (hK : K ≤ 2305843009213693952) {X : Ext} {P : Program} {W0 : World} {md : Md} (hX : X = std P W0 md) : X.bin .mul .i64 2 a = 2 * a := by
  obtain ⟨h1, h2⟩ := ha
  subst hX
  show IntKind.i64.wrap (2 * a) = 2 * a
  exact wrap_eq (by omega) (by omega)
def fT (upr : Bool) : Int := if upr then 4 else 6
def fX (upr : Bool) (n : Int) : Int := if upr then 2 * n else 0
def fY (upr : Bool) (n : Int) : Int := if upr then 0 else 2 * n
/-- What turns over at a line. -/
structure IsFlip (upr : Bool) (n a b c : Int) : Prop where
  a : a = fT upr
  b : b = fX upr n
  c : c = fY upr n
theorem flip_c (W0 : World) (upr low : Bool) (n : Int) (hn : Nr 1152921504606846976 n) (k : V → Heap → Prop) (hk : ∀ b : Int × Int × Int, IsFlip upr n b.1 b.2.1 b.2.2 → k (.agg [.int .i64 b.1, .int .i64 b.2.1, .int .i64 b.2.2]) []) : ACall Try.prog W0 59 [.agg [.bool upr, .int .i64 n, .bool low]] [] k := by
  obtain ⟨z, hz⟩ : ∃ z, z = 2 * n := ⟨_, rfl⟩
  refine m_body tab_ok (fn := Try.f59) (by kernel_rfl) rfl ?_
  intro X hX
  cbv
  have e1 := mul2N hn (by decide) hX
  rw [← hz] at e1
  cases upr with
  | true =>
    refine m_cond_t hX (by subst hX; rfl) ?_
    cbv
    refine m_callf hX [] bodied_72 (fun k2 hk2 => FlipX_c W0 (X.bin .mul .i64 2 n) k2 hk2) ?_ rfl rfl ?_ ?_
    · (first | (simp [MH, MB, MT, MV, MV.MVs, MC.MCs, MC, renC.renCs, renC, up]; done) | (simp [MH, MB, MT, MV, MV.MVs, MC.MCs, MC, renC.renCs, renC, up]; omega) | (simp [MH, MB, MT, MV, MV.MVs, MC.MCs, MC, renC.renCs, renC, up] <;> omega))
    · simp [MV, MV.MVs, MC, MC.MCs]
    cbv
    refine ⟨_, _, [], by simp [MH], rfl, rfl, ?_, hk (4, z, 0) ⟨rfl, hz, rfl⟩⟩
    show MV _ (.agg [.int .i64 4, .int .i64 z, .int .i64 0]) (.agg [.int .i64 4, .int .i64 (X.bin .mul .i64 2 n), .int .i64 0])
    rw [e1]
    simp [MV, MC, MC.MCs]
  | false =>
    refine m_cond_f hX (by subst hX; rfl) ?_
    cbv
    refine m_callf hX [] bodied_73 (fun k2 hk2 => FlipY_c W0 (X.bin .mul .i64 2 n) k2 hk2) ?_ rfl rfl ?_ ?_
    · (first | (simp [MH, MB, MT, MV, MV.MVs, MC.MCs, MC, renC.renCs, renC, up]; done) | (simp [MH, MB, MT, MV, MV.MVs, MC.MCs, MC, renC.renCs, renC, up]; omega) | (simp [MH, MB, MT, MV, MV.MVs, MC.MCs, MC, renC.renCs, renC, up] <;> omega))
    · simp [MV, MV.MVs, MC, MC.MCs]
    cbv
    refine ⟨_, _, [], by simp [MH], rfl, rfl, ?_, hk (6, 0, z) ⟨rfl, rfl, hz⟩⟩
    show MV _ (.agg [.int .i64 6, .int .i64 0, .int .i64 z]) (.agg [.int .i64 6, .int .i64 0, .int .i64 (X.bin .mul .i64 2 n)])
    rw [e1]
    simp [MV, MC, MC.MCs]
/-- A rectangle's end. -/
def eE (upr : Bool) (c d : Int) : Int := if upr then c else d
theorem moves_c (W0 : World) (upr low : Bool) (n t X0 Y0 x0 y0 x1 y1 : Int) (ht : Tu t) (hX0 : Nr 1152921504606846976 X0) (hY0 : Nr 1152921504606846976 Y0) (hx0 : Nr 1152921504606846976 x0) (hy0 : Nr 1152921504606846976 y0) (hx1 : Nr 1152921504606846976 x1) (hy1 : Nr 1152921504606846976 y1) (k : V → Heap → Prop) (hk : ∀ b : Bool, (b = true ↔ (eE upr (bC t X0 Y0 x0 y0 x1 y1) (bD t X0 Y0 x0 y0 x1 y1) ≤ n ↔ low = true)) → k (.one (.bool b)) []) : ACall Try.prog W0 57 [.agg [.bool upr, .int .i64 n, .bool low], .agg [.int .i64 x0, .int .i64 y0, .int .i64 x1, .int .i64 y1, .int .i64 t, .int .i64 X0, .int .i64 Y0]] [] k := by
  refine m_body tab_ok (fn := Try.f57) (by kernel_rfl) rfl ?_
  intro X hX
  cbv
  refine m_callq hX [] bodied_69 (fun k2 hk2 => LLies_c W0 t X0 Y0 x0 y0 x1 y1 ht hX0 hY0 hx0 hy0 hx1 hy1 k2 hk2) ?_ rfl rfl ?_ ?_
  · (first | (simp [MH, MB, MT, MV, MV.MVs, MC.MCs, MC, renC.renCs, renC, up]; done) | (simp [MH, MB, MT, MV, MV.MVs, MC.MCs, MC, renC.renCs, renC, up]; omega) | (simp [MH, MB, MT, MV, MV.MVs, MC.MCs, MC, renC.renCs, renC, up] <;> omega))
  · simp [MV, MV.MVs, MC, MC.MCs]
  intro b hb
  obtain ⟨la, lb, lc, ld⟩ := b
  replace hb : IsBox t X0 Y0 x0 y0 x1 y1 la lb lc ld := hb
  cbv
  cases upr with
  | true =>
    refine m_cond_t hX (by subst hX; rfl) ?_
    cbv
    refine m_eqBools hX (.inl rfl) ?_
    cbv
    refine ⟨_, _, [], by simp [MH], rfl, rfl, ?_, hk (decide (lc ≤ n) == low) ?_⟩
    · subst hX; simp [MV, MC, std, cmpS]
      by_cases h : lc ≤ n <;> cases low <;> simp [h] <;> rfl
    · rw [hb.c]
      by_cases h : bC t X0 Y0 x0 y0 x1 y1 ≤ n <;> cases low <;> simp [h, eE]
  | false =>
    refine m_cond_f hX (by subst hX; rfl) ?_
    cbv
    refine m_eqBools hX (.inl rfl) ?_
    cbv
    refine ⟨_, _, [], by simp [MH], rfl, rfl, ?_, hk (decide (ld ≤ n) == low) ?_⟩
    · subst hX; simp [MV, MC, std, cmpS]
      by_cases h : ld ≤ n <;> cases low <;> simp [h] <;> rfl
    · rw [hb.d]
      by_cases h : bD t X0 Y0 x0 y0 x1 y1 ≤ n <;> cases low <;> simp [h, eE]
end Go.Proofs.Ytnfoibgafmeenaa.AM
