/- A layer that is cut at a line, as a contract on the abstract machine. No condition but that the numbers are near. -/
import Derived.Test.YtnfoibgafmeenaaFo11
namespace Go.Proofs.Ytnfoibgafmeenaa.AM
open Go Go.RowKit
set_option cbv.warning false
set_option maxRecDepth 100000
set_option linter.unusedVariables false
set_option linter.unusedSimpArgs false
theorem IsBox.pos {t X Y x0 y0 x1 y1 a b c d : Int} (ht : Tu t) (h : IsBox t X Y x0 y0 x1 y1 a b c d) (h0 : x0 < x1) (h1 : y0 < y1) : a < c ∧ b < d := by
  obtain ⟨rfl, rfl, rfl, rfl⟩ := h
  unfold bA bB bC bD
  rcases ht.cases with rfl | rfl | rfl | rfl | rfl | rfl | rfl | rfl <;> simp [dX, dY] <;> omega
/-- What lies in a rectangle, as a layer's own. -/
abbrev IsPart (t X Y r0 r1 r2 r3 c0 c1 c2 c3 : Int) : Prop := IsBox (tBack t) (-dX (tBack t) X Y) (-dY (tBack t) X Y) r0 r1 r2 r3 c0 c1 c2 c3
abbrev layC (x0 y0 x1 y1 t X Y : Int) : List C := [.int .i64 x0, .int .i64 y0, .int .i64 x1, .int .i64 y1, .int .i64 t, .int .i64 X, .int .i64 Y]
theorem SplitG_c (W0 : World) (upr : Bool) (n a b c d : Int) (h1 : a < c) (h2 : b < d) (ht : thru upr n a b c d) (k : V → Heap → Prop)
    (hk : ∀ G : Nat → List C, (G 0 = (if upr then rectC a b n d else rectC a b c n) ∧ G 1 = (if upr then rectC n b c d else rectC a n c d)) → k (.one (.sl 0 0 2 (some 2))) [some (.row true 65 4 2 G)]) :
    ACall Try.prog W0 68 [.agg (rectC a b c d), .one (.bool upr), .one (.int .i64 n)] [] k :=
  Split_c W0 upr n a b c d h1 h2 k (fun h => absurd ht h) fun _ => hk _ ⟨rfl, rfl⟩
set_option maxHeartbeats 4000000 in
theorem Cut_c (W0 : World) (upr : Bool) (n t X0 Y0 x0 y0 x1 y1 la lb lc ld : Int) (hb : IsBox t X0 Y0 x0 y0 x1 y1 la lb lc ld) (ht : Tu t) (hX0 : Nr 576460752303423488 X0) (hY0 : Nr 576460752303423488 Y0) (hx0 : Nr 576460752303423488 x0) (hy0 : Nr 576460752303423488 y0) (hx1 : Nr 576460752303423488 x1) (hy1 : Nr 576460752303423488 y1) (hat : Nr 576460752303423488 n) (k : V → Heap → Prop)
    (hk0 : (x1 ≤ x0 ∨ y1 ≤ y0) → k (.one .nils) [])
    (hk1 : ¬ (x1 ≤ x0 ∨ y1 ≤ y0) → ¬ thru upr n la lb lc ld → ∃ G : Nat → List C, G 0 = layC x0 y0 x1 y1 t X0 Y0 ∧ k (.one (.sl 0 0 1 (some 1))) [some (.row true 69 7 1 G)])
    (hk2 : ¬ (x1 ≤ x0 ∨ y1 ≤ y0) → thru upr n la lb lc ld → ∀ c0 c1 c2 c3 d0 d1 d2 d3, IsPart t X0 Y0 la lb (if upr then n else lc) (if upr then ld else n) c0 c1 c2 c3 → IsPart t X0 Y0 (if upr then n else la) (if upr then lb else n) lc ld d0 d1 d2 d3 →
      ∃ G : Nat → List C, (G 0 = layC c0 c1 c2 c3 t X0 Y0 ∧ G 1 = layC d0 d1 d2 d3 t X0 Y0) ∧ k (.one (.sl 0 0 2 (some 2))) [some (.row true 69 7 2 G)]) :
    ACall Try.prog W0 56 [.agg (layC x0 y0 x1 y1 t X0 Y0), .one (.bool upr), .one (.int .i64 n)] [] k := by
  have hK : (576460752303423488 : Int) ≤ 1152921504606846976 := by decide
  obtain ⟨j0, j1, j2, j3⟩ := hb.nr (L := 1152921504606846976) ht hX0 hY0 hx0 hy0 hx1 hy1 (by decide)
  refine m_body tab_ok (fn := Try.f56) (by kernel_rfl) rfl ?_
  intro X hX
  cbv
  refine m_callq hX [] bodied_67 (fun k2 hk2 => Empty_c W0 x0 y0 x1 y1 k2 hk2) ?_ rfl rfl ?_ ?_
  · (first | (simp [MH, MB, MT, MV, MV.MVs, MC.MCs, MC, renC.renCs, renC, up]; done) | (simp [MH, MB, MT, MV, MV.MVs, MC.MCs, MC, renC.renCs, renC, up]; omega) | (simp [MH, MB, MT, MV, MV.MVs, MC.MCs, MC, renC.renCs, renC, up] <;> omega))
  · simp [MV, MV.MVs, MC, MC.MCs]
  intro e he
  cbv
  cases e with
  | true =>
    refine m_cond_t hX (by subst hX; rfl) ?_
    cbv
    refine ⟨_, _, [], by simp [MH], rfl, rfl, ?_, hk0 (he.1 rfl)⟩
    simp [MV, MC]
  | false =>
    have hne : ¬ (x1 ≤ x0 ∨ y1 ≤ y0) := fun h => by cases he.2 h
    have hpos := hb.pos ht (by omega) (by omega)
    refine m_cond_f hX (by subst hX; rfl) ?_
    cbv
    refine m_callq hX [] bodied_69 (fun k2 hk2 => LLies_c W0 t X0 Y0 x0 y0 x1 y1 ht (hX0.up hK) (hY0.up hK) (hx0.up hK) (hy0.up hK) (hx1.up hK) (hy1.up hK) k2 hk2) ?_ rfl rfl ?_ ?_
    · (first | (simp [MH, MB, MT, MV, MV.MVs, MC.MCs, MC, renC.renCs, renC, up]; done) | (simp [MH, MB, MT, MV, MV.MVs, MC.MCs, MC, renC.renCs, renC, up]; omega) | (simp [MH, MB, MT, MV, MV.MVs, MC.MCs, MC, renC.renCs, renC, up] <;> omega))
    · simp [MV, MV.MVs, MC, MC.MCs]
    intro b hb2
    obtain rfl : b = (la, lb, lc, ld) := Prod.ext (hb2.a.trans hb.a.symm) (Prod.ext (hb2.b.trans hb.b.symm) (Prod.ext (hb2.c.trans hb.c.symm) (hb2.d.trans hb.d.symm)))
    cbv
    by_cases hth : thru upr n la lb lc ld
    · cases upr with
      | true =>
        refine m_callq hX [] bodied_68 (fun k2 hk2 => SplitG_c W0 true n la lb lc ld hpos.1 hpos.2 hth k2 hk2) ?_ rfl rfl ?_ ?_
        · (first | (simp [MH, MB, MT, MV, MV.MVs, MC.MCs, MC, renC.renCs, renC, up]; done) | (simp [MH, MB, MT, MV, MV.MVs, MC.MCs, MC, renC.renCs, renC, up]; omega) | (simp [MH, MB, MT, MV, MV.MVs, MC.MCs, MC, renC.renCs, renC, up] <;> omega))
        · simp [MV, MV.MVs, MC, MC.MCs]
        intro G hG
        cbv
        refine m_cond_f hX (by subst hX; rfl) ?_
        cbv
        refine m_drawT tab_ok hX [] [] (.one 1 0 (.one 2 0 (.one 6 0 (.one 7 0 (.one 0 1 (.one 3 1 (.one 5 1 (.one 8 1 (.one 4 2 (.one 9 2 (.one 10 2 (.one 11 0 .fin)))))))))))) (by kernel_rfl) (by simp) ?_
        cbv
        refine ⟨by subst hX; exact ⟨by decide, by decide⟩, by subst hX; exact ⟨by decide, by decide⟩, by subst hX; show 0 + 0 < 2; omega, by subst hX; show 0 + 1 < 2; omega, ?_⟩
        have e0 : G (X.nadd 0 (X.toN 0)) = rectC la lb n ld := by subst hX; exact hG.1
        have e1 : G (X.nadd 0 (X.toN 1)) = rectC n lb lc ld := by subst hX; exact hG.2
        rw [e0, e1]
        cbv
        refine m_callq hX [] bodied_70 (fun k2 hk2 => LPart_c W0 t X0 Y0 x0 y0 x1 y1 la lb n ld ht (hX0.up hK) (hY0.up hK) j0 j1 (hat.up hK) j3 k2 hk2) ?_ rfl rfl ?_ ?_
        · (first | (simp [MH, MB, MT, MV, MV.MVs, MC.MCs, MC, renC.renCs, renC, up]; done) | (simp [MH, MB, MT, MV, MV.MVs, MC.MCs, MC, renC.renCs, renC, up]; omega) | (simp [MH, MB, MT, MV, MV.MVs, MC.MCs, MC, renC.renCs, renC, up] <;> omega))
        · simp [MV, MV.MVs, MC, MC.MCs]
        intro b hbc
        obtain ⟨c0, c1, c2, c3⟩ := b
        replace hbc : IsPart t X0 Y0 la lb n ld c0 c1 c2 c3 := hbc
        cbv
        refine m_callq hX [] bodied_70 (fun k2 hk2 => LPart_c W0 t X0 Y0 x0 y0 x1 y1 n lb lc ld ht (hX0.up hK) (hY0.up hK) (hat.up hK) j1 j2 j3 k2 hk2) ?_ rfl rfl ?_ ?_
        · (first | (simp [MH, MB, MT, MV, MV.MVs, MC.MCs, MC, renC.renCs, renC, up]; done) | (simp [MH, MB, MT, MV, MV.MVs, MC.MCs, MC, renC.renCs, renC, up]; omega) | (simp [MH, MB, MT, MV, MV.MVs, MC.MCs, MC, renC.renCs, renC, up] <;> omega))
        · simp [MV, MV.MVs, MC, MC.MCs]
        intro b hbd
        obtain ⟨d0, d1, d2, d3⟩ := b
        replace hbd : IsPart t X0 Y0 n lb lc ld d0 d1 d2 d3 := hbd
        cbv
        obtain ⟨G2, ⟨g0, g1⟩, hk3⟩ := hk2 hne hth c0 c1 c2 c3 d0 d1 d2 d3 hbc hbd
        refine ⟨_, _, [some 2], ?_, rfl, rfl, ?_, hk3⟩
        · simp [MH, MB]
          intro i hi
          match i, hi with
          | 0, _ => rw [g0]; simp [MC.MCs, MC]
          | 1, _ => rw [g1]; simp [MC.MCs, MC]
          | i + 2, hi => omega
        · simp [MV, MC, up]
      | false =>
        refine m_callq hX [] bodied_68 (fun k2 hk2 => SplitG_c W0 false n la lb lc ld hpos.1 hpos.2 hth k2 hk2) ?_ rfl rfl ?_ ?_
        · (first | (simp [MH, MB, MT, MV, MV.MVs, MC.MCs, MC, renC.renCs, renC, up]; done) | (simp [MH, MB, MT, MV, MV.MVs, MC.MCs, MC, renC.renCs, renC, up]; omega) | (simp [MH, MB, MT, MV, MV.MVs, MC.MCs, MC, renC.renCs, renC, up] <;> omega))
        · simp [MV, MV.MVs, MC, MC.MCs]
        intro G hG
        cbv
        refine m_cond_f hX (by subst hX; rfl) ?_
        cbv
        refine m_drawT tab_ok hX [] [] (.one 1 0 (.one 2 0 (.one 6 0 (.one 7 0 (.one 0 1 (.one 3 1 (.one 5 1 (.one 8 1 (.one 4 2 (.one 9 2 (.one 10 2 (.one 11 0 .fin)))))))))))) (by kernel_rfl) (by simp) ?_
        cbv
        refine ⟨by subst hX; exact ⟨by decide, by decide⟩, by subst hX; exact ⟨by decide, by decide⟩, by subst hX; show 0 + 0 < 2; omega, by subst hX; show 0 + 1 < 2; omega, ?_⟩
        have e0 : G (X.nadd 0 (X.toN 0)) = rectC la lb lc n := by subst hX; exact hG.1
        have e1 : G (X.nadd 0 (X.toN 1)) = rectC la n lc ld := by subst hX; exact hG.2
        rw [e0, e1]
        cbv
        refine m_callq hX [] bodied_70 (fun k2 hk2 => LPart_c W0 t X0 Y0 x0 y0 x1 y1 la lb lc n ht (hX0.up hK) (hY0.up hK) j0 j1 j2 (hat.up hK) k2 hk2) ?_ rfl rfl ?_ ?_
        · (first | (simp [MH, MB, MT, MV, MV.MVs, MC.MCs, MC, renC.renCs, renC, up]; done) | (simp [MH, MB, MT, MV, MV.MVs, MC.MCs, MC, renC.renCs, renC, up]; omega) | (simp [MH, MB, MT, MV, MV.MVs, MC.MCs, MC, renC.renCs, renC, up] <;> omega))
        · simp [MV, MV.MVs, MC, MC.MCs]
        intro b hbc
        obtain ⟨c0, c1, c2, c3⟩ := b
        replace hbc : IsPart t X0 Y0 la lb lc n c0 c1 c2 c3 := hbc
        cbv
        refine m_callq hX [] bodied_70 (fun k2 hk2 => LPart_c W0 t X0 Y0 x0 y0 x1 y1 la n lc ld ht (hX0.up hK) (hY0.up hK) j0 (hat.up hK) j2 j3 k2 hk2) ?_ rfl rfl ?_ ?_
        · (first | (simp [MH, MB, MT, MV, MV.MVs, MC.MCs, MC, renC.renCs, renC, up]; done) | (simp [MH, MB, MT, MV, MV.MVs, MC.MCs, MC, renC.renCs, renC, up]; omega) | (simp [MH, MB, MT, MV, MV.MVs, MC.MCs, MC, renC.renCs, renC, up] <;> omega))
        · simp [MV, MV.MVs, MC, MC.MCs]
        intro b hbd
        obtain ⟨d0, d1, d2, d3⟩ := b
        replace hbd : IsPart t X0 Y0 la n lc ld d0 d1 d2 d3 := hbd
        cbv
        obtain ⟨G2, ⟨g0, g1⟩, hk3⟩ := hk2 hne hth c0 c1 c2 c3 d0 d1 d2 d3 hbc hbd
        refine ⟨_, _, [some 2], ?_, rfl, rfl, ?_, hk3⟩
        · simp [MH, MB]
          intro i hi
          match i, hi with
          | 0, _ => rw [g0]; simp [MC.MCs, MC]
          | 1, _ => rw [g1]; simp [MC.MCs, MC]
          | i + 2, hi => omega
        · simp [MV, MC, up]
    ·
      refine m_callf hX [] bodied_68 (fun k2 hk2 => (fun k h => Split_c W0 upr n la lb lc ld hpos.1 hpos.2 k (fun _ => h) (fun hn => absurd hn hth)) k2 hk2) ?_ rfl rfl ?_ ?_
      · (first | (simp [MH, MB, MT, MV, MV.MVs, MC.MCs, MC, renC.renCs, renC, up]; done) | (simp [MH, MB, MT, MV, MV.MVs, MC.MCs, MC, renC.renCs, renC, up]; omega) | (simp [MH, MB, MT, MV, MV.MVs, MC.MCs, MC, renC.renCs, renC, up] <;> omega))
      · simp [MV, MV.MVs, MC, MC.MCs]
      cbv
      refine m_cond_t hX (by subst hX; rfl) ?_
      cbv
      obtain ⟨G2, g0, hk3⟩ := hk1 hne hth
      refine ⟨_, _, [some 2], ?_, rfl, rfl, ?_, hk3⟩
      · simp [MH, MB, g0, MC.MCs, MC]
      · simp [MV, MC, up]
end Go.Proofs.Ytnfoibgafmeenaa.AM
