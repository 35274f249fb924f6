/- The reference's Meet, Keep and Half, as contracts on the abstract machine. No condition but that the numbers are near. -/
import Derived.Test.YtnfoibgafmeenaaFo7
namespace Go.Proofs.Ytnfoibgafmeenaa.AM
open Go Go.RowKit
set_option cbv.warning false
set_option maxRecDepth 100000
set_option linter.unusedVariables false
set_option linter.unusedSimpArgs false
theorem bodied_61 : Bodied Try.prog 61 := ⟨Try.f61, by kernel_rfl, by kernel_rfl, by kernel_rfl⟩
/-- Nothing is in both. -/
def meetP (a0 a1 a2 a3 b0 b1 b2 b3 : Int) : Prop := min a2 b2 ≤ max a0 b0 ∨ min a3 b3 ≤ max a1 b1
/-- What two rectangles have both. -/
def IsMeet (a0 a1 a2 a3 b0 b1 b2 b3 m0 m1 m2 m3 : Int) : Prop :=
  (meetP a0 a1 a2 a3 b0 b1 b2 b3 ∧ m0 = 0 ∧ m1 = 0 ∧ m2 = 0 ∧ m3 = 0) ∨ (¬ meetP a0 a1 a2 a3 b0 b1 b2 b3 ∧ m0 = max a0 b0 ∧ m1 = max a1 b1 ∧ m2 = min a2 b2 ∧ m3 = min a3 b3)
set_option maxHeartbeats 1000000 in
theorem RMeet_c (W0 : World) (a0 a1 a2 a3 b0 b1 b2 b3 : Int) (k : V → Heap → Prop) (hk : ∀ b : Int × Int × Int × Int, IsMeet a0 a1 a2 a3 b0 b1 b2 b3 b.1 b.2.1 b.2.2.1 b.2.2.2 → k (.agg [.int .i64 b.1, .int .i64 b.2.1, .int .i64 b.2.2.1, .int .i64 b.2.2.2]) []) : ACall Try.prog W0 85 [.agg [.int .i64 a0, .int .i64 a1, .int .i64 a2, .int .i64 a3], .agg [.int .i64 b0, .int .i64 b1, .int .i64 b2, .int .i64 b3]] [] k := by
  obtain ⟨m0, h0⟩ : ∃ m0, m0 = max a0 b0 := ⟨_, rfl⟩
  obtain ⟨m1, h1⟩ : ∃ m1, m1 = max a1 b1 := ⟨_, rfl⟩
  obtain ⟨m2, h2⟩ : ∃ m2, m2 = min a2 b2 := ⟨_, rfl⟩
  obtain ⟨m3, h3⟩ : ∃ m3, m3 = min a3 b3 := ⟨_, rfl⟩
  refine m_body tab_ok (fn := Try.f85) (by kernel_rfl) rfl ?_
  intro X hX
  cbv
  refine m_drawAs hX ([.one .undef, .one .undef, .one .undef, .one .undef, .one (.ptr 2 0 0), .one (.ptr 3 0 0)] ++ List.replicate 25 (.one .undef)) [some (.box 65 [.int .i64 a0, .int .i64 a1, .int .i64 a2, .int .i64 a3]), some (.box 65 [.int .i64 b0, .int .i64 b1, .int .i64 b2, .int .i64 b3]), some (.box 65 [.int .i64 0, .int .i64 0, .int .i64 0, .int .i64 0]), some (.box 65 [.int .i64 m0, .int .i64 m1, .int .i64 m2, .int .i64 m3])] ?_ ?_
  ·
    refine m_drawT tab_ok hX [] [22] (.one 0 0 (.one 2 0 (.one 5 0 (.one 7 0 (.one 10 0 (.one 12 0 (.one 15 0 (.one 17 0 (.one 1 1 (.one 3 1 (.one 6 1 (.one 8 1 (.one 11 1 (.one 13 1 (.one 16 1 (.one 18 1 (.two 4 2 (.two 9 2 (.two 14 2 (.two 19 2 (.one 20 0 (.one 21 2 (.one 22 3 .fin))) 21 2 (.one 19 2 (.one 20 0 (.one 22 3 .fin)))) 21 2 (.one 14 2 (.one 19 2 (.one 20 0 (.one 22 3 .fin))))) 21 2 (.one 9 2 (.one 14 2 (.one 19 2 (.one 20 0 (.one 22 3 .fin)))))) 21 2 (.one 4 2 (.one 9 2 (.one 14 2 (.one 19 2 (.one 20 0 (.one 22 3 .fin))))))))))))))))))))))) (by kernel_rfl) (by simp) ?_
    cbv
    repeat' (first | (refine And.intro ?_ ?_) | (refine m_callq hX [] bodied_80 (fun k2 hk2 => high_c W0 a0 b0 k2 hk2) (by simp [MH]) rfl rfl ⟨⟨rfl, rfl⟩, ⟨rfl, rfl⟩, trivial⟩ ?_; intro z hz; obtain rfl := hz.trans h0.symm; cbv) | (refine m_callq hX [] bodied_80 (fun k2 hk2 => high_c W0 a1 b1 k2 hk2) (by simp [MH]) rfl rfl ⟨⟨rfl, rfl⟩, ⟨rfl, rfl⟩, trivial⟩ ?_; intro z hz; obtain rfl := hz.trans h1.symm; cbv) | (refine m_callq hX [] bodied_79 (fun k2 hk2 => low_c W0 a2 b2 k2 hk2) (by simp [MH]) rfl rfl ⟨⟨rfl, rfl⟩, ⟨rfl, rfl⟩, trivial⟩ ?_; intro z hz; obtain rfl := hz.trans h2.symm; cbv) | (refine m_callq hX [] bodied_79 (fun k2 hk2 => low_c W0 a3 b3 k2 hk2) (by simp [MH]) rfl rfl ⟨⟨rfl, rfl⟩, ⟨rfl, rfl⟩, trivial⟩ ?_; intro z hz; obtain rfl := hz.trans h3.symm; cbv) | fail)
    all_goals
      refine ⟨[some 0, some 1, some 2, some 3], ?_, rfl, rfl, ?_⟩
      · simp [MH, MB, MC.MCs, MC, renC.renCs, renC, up, zi]
      · simp [MT, MV.MVs, MV, MC]
  cbv
  refine m_callq hX [] bodied_44 (fun k2 hk2 => REmpty_c W0 m0 m1 m2 m3 k2 hk2) ?_ rfl rfl ?_ ?_
  · (first | (simp [MH, MB, MT, MV, MV.MVs, MC.MCs, MC, renC.renCs, renC, up]; done) | (simp [MH, MB, MT, MV, MV.MVs, MC.MCs, MC, renC.renCs, renC, up]; omega) | (simp [MH, MB, MT, MV, MV.MVs, MC.MCs, MC, renC.renCs, renC, up] <;> omega))
  · simp [MV, MV.MVs, MC, MC.MCs]
  intro e he
  cbv
  cases e with
  | true =>
    refine m_cond_t hX (by subst hX; rfl) ?_
    cbv
    refine ⟨_, _, [], by simp [MH], rfl, rfl, ?_, hk (0, 0, 0, 0) (.inl ⟨?_, rfl, rfl, rfl, rfl⟩)⟩
    · simp [MV, MC, MC.MCs, zi]
    · have := he.1 rfl
      rw [h0, h1, h2, h3] at this
      exact this
  | false =>
    refine m_cond_f hX (by subst hX; rfl) ?_
    cbv
    refine ⟨_, _, [], by simp [MH], rfl, rfl, ?_, hk (m0, m1, m2, m3) (.inr ⟨?_, h0, h1, h2, h3⟩)⟩
    · simp [MV, MC, MC.MCs]
    · intro h
      cases he.2 (by unfold meetP at h; rw [h0, h1, h2, h3]; exact h)
theorem IsMeet.unique {a0 a1 a2 a3 b0 b1 b2 b3 m0 m1 m2 m3 : Int} {q : Int × Int × Int × Int} (h : IsMeet a0 a1 a2 a3 b0 b1 b2 b3 q.1 q.2.1 q.2.2.1 q.2.2.2) (h' : IsMeet a0 a1 a2 a3 b0 b1 b2 b3 m0 m1 m2 m3) : q = (m0, m1, m2, m3) := by
  obtain ⟨q0, q1, q2, q3⟩ := q
  rcases h with ⟨g, g0, g1, g2, g3⟩ | ⟨g, g0, g1, g2, g3⟩ <;> rcases h' with ⟨k, k0, k1, k2, k3⟩ | ⟨k, k0, k1, k2, k3⟩
  · exact Prod.ext (g0.trans k0.symm) (Prod.ext (g1.trans k1.symm) (Prod.ext (g2.trans k2.symm) (g3.trans k3.symm)))
  · exact absurd g k
  · exact absurd k g
  · exact Prod.ext (g0.trans k0.symm) (Prod.ext (g1.trans k1.symm) (Prod.ext (g2.trans k2.symm) (g3.trans k3.symm)))
/-- What is kept of a layer. -/
structure KeepR (x0 y0 x1 y1 t X Y r0 r1 r2 r3 : Int) (e : Bool) (c0 c1 c2 c3 c4 c5 c6 : Int) : Prop where
  h : ∃ la lb lc ld, IsBox t X Y x0 y0 x1 y1 la lb lc ld ∧
    ((e = false ∧ (x1 ≤ x0 ∨ y1 ≤ y0 ∨ meetP la lb lc ld r0 r1 r2 r3)) ∨
     (e = true ∧ x0 < x1 ∧ y0 < y1 ∧ ¬ meetP la lb lc ld r0 r1 r2 r3 ∧ c4 = t ∧ c5 = X ∧ c6 = Y ∧ IsBox (tBack t) (-dX (tBack t) X Y) (-dY (tBack t) X Y) (max la r0) (max lb r1) (min lc r2) (min ld r3) c0 c1 c2 c3))
theorem Nr.max {K a b : Int} (ha : Nr K a) (hb : Nr K b) : Nr K (max a b) := by
  obtain ⟨h1, h2⟩ := ha
  obtain ⟨h3, h4⟩ := hb
  constructor <;> omega
theorem Nr.min {K a b : Int} (ha : Nr K a) (hb : Nr K b) : Nr K (min a b) := by
  obtain ⟨h1, h2⟩ := ha
  obtain ⟨h3, h4⟩ := hb
  constructor <;> omega
theorem Nr.sum {K L a b : Int} (ha : Nr K a) (hb : Nr K b) (hL : 2 * K ≤ L) : Nr L (a + b) := by
  obtain ⟨h1, h2⟩ := ha
  obtain ⟨h3, h4⟩ := hb
  constructor <;> omega
theorem IsBox.nr {K L t X Y x0 y0 x1 y1 a b c d : Int} (h : IsBox t X Y x0 y0 x1 y1 a b c d) (ht : Tu t) (hX : Nr K X) (hY : Nr K Y) (h0 : Nr K x0) (h1 : Nr K y0) (h2 : Nr K x1) (h3 : Nr K y1) (hL : 2 * K ≤ L) : Nr L a ∧ Nr L b ∧ Nr L c ∧ Nr L d := by
  obtain ⟨p1, p2⟩ := Nr.dX ht h0 h1
  obtain ⟨q1, q2⟩ := Nr.dX ht h2 h3
  obtain ⟨rfl, rfl, rfl, rfl⟩ := h
  exact ⟨Nr.min (p1.sum hX hL) (q1.sum hX hL), Nr.min (p2.sum hY hL) (q2.sum hY hL), Nr.max (p1.sum hX hL) (q1.sum hX hL), Nr.max (p2.sum hY hL) (q2.sum hY hL)⟩
set_option maxHeartbeats 1000000 in
theorem RKeep_c (W0 : World) (t X0 Y0 x0 y0 x1 y1 r0 r1 r2 r3 : Int) (ht : Tu t) (hX0 : Nr 576460752303423488 X0) (hY0 : Nr 576460752303423488 Y0) (hx0 : Nr 576460752303423488 x0) (hy0 : Nr 576460752303423488 y0) (hx1 : Nr 576460752303423488 x1) (hy1 : Nr 576460752303423488 y1) (n0 : Nr 1152921504606846976 r0) (n1 : Nr 1152921504606846976 r1) (n2 : Nr 1152921504606846976 r2) (n3 : Nr 1152921504606846976 r3)
    (k : V → Heap → Prop) (hk : ∀ b : Bool × Int × Int × Int × Int × Int × Int × Int, KeepR x0 y0 x1 y1 t X0 Y0 r0 r1 r2 r3 b.1 b.2.1 b.2.2.1 b.2.2.2.1 b.2.2.2.2.1 b.2.2.2.2.2.1 b.2.2.2.2.2.2.1 b.2.2.2.2.2.2.2 → k (.tup [.agg [.int .i64 b.2.1, .int .i64 b.2.2.1, .int .i64 b.2.2.2.1, .int .i64 b.2.2.2.2.1, .int .i64 b.2.2.2.2.2.1, .int .i64 b.2.2.2.2.2.2.1, .int .i64 b.2.2.2.2.2.2.2], .one (.bool b.1)]) []) :
    ACall Try.prog W0 74 [.agg [.int .i64 x0, .int .i64 y0, .int .i64 x1, .int .i64 y1, .int .i64 t, .int .i64 X0, .int .i64 Y0], .agg [.int .i64 r0, .int .i64 r1, .int .i64 r2, .int .i64 r3]] [] k := by
  have hK : (576460752303423488 : Int) ≤ 1152921504606846976 := by decide
  obtain ⟨la, hla⟩ : ∃ la, la = bA t X0 Y0 x0 y0 x1 y1 := ⟨_, rfl⟩
  obtain ⟨lb, hlb⟩ : ∃ lb, lb = bB t X0 Y0 x0 y0 x1 y1 := ⟨_, rfl⟩
  obtain ⟨lc, hlc⟩ : ∃ lc, lc = bC t X0 Y0 x0 y0 x1 y1 := ⟨_, rfl⟩
  obtain ⟨ld, hld⟩ : ∃ ld, ld = bD t X0 Y0 x0 y0 x1 y1 := ⟨_, rfl⟩
  have hp : IsBox t X0 Y0 x0 y0 x1 y1 la lb lc ld := ⟨hla, hlb, hlc, hld⟩
  obtain ⟨j0, j1, j2, j3⟩ := hp.nr (L := 1152921504606846976) ht hX0 hY0 hx0 hy0 hx1 hy1 (by decide)
  obtain ⟨m0, m1, m2, m3, hq⟩ : ∃ m0 m1 m2 m3, IsMeet la lb lc ld r0 r1 r2 r3 m0 m1 m2 m3 := by
    by_cases h : meetP la lb lc ld r0 r1 r2 r3
    · exact ⟨0, 0, 0, 0, .inl ⟨h, rfl, rfl, rfl, rfl⟩⟩
    · exact ⟨_, _, _, _, .inr ⟨h, rfl, rfl, rfl, rfl⟩⟩
  refine m_body tab_ok (fn := Try.f74) (by kernel_rfl) rfl ?_
  intro X hX
  cbv
  refine m_drawAs hX ([.one .undef, .one .undef, .one (.ptr 0 0 0), .one (.ptr 1 0 0), .one (.ptr 2 0 0), .one .undef, .one (.ptr 3 0 0)] ++ List.replicate 20 (.one .undef)) [some (.box 69 [.int .i64 x0, .int .i64 y0, .int .i64 x1, .int .i64 y1, .int .i64 t, .int .i64 X0, .int .i64 Y0]), some (.box 65 [.int .i64 r0, .int .i64 r1, .int .i64 r2, .int .i64 r3]), some (.box 69 [.int .i64 0, .int .i64 0, .int .i64 0, .int .i64 0, .int .i64 0, .int .i64 0, .int .i64 0]), some (.box 65 [.int .i64 m0, .int .i64 m1, .int .i64 m2, .int .i64 m3])] ?_ ?_
  ·
    refine m_drawT tab_ok hX [] [5] (.one 0 1 (.one 2 1 (.two 1 2 (.two 3 2 (.one 4 2 (.one 5 3 .fin)) 4 2 (.one 3 2 (.one 5 3 .fin))) 4 2 (.one 1 2 (.one 3 2 (.one 5 3 .fin)))))) (by kernel_rfl) (by simp) ?_
    cbv
    refine And.intro ?_ ?_
    all_goals
      refine m_callq hX [] bodied_45 (fun k2 hk2 => RLies_c W0 t X0 Y0 x0 y0 x1 y1 ht (hX0.up hK) (hY0.up hK) (hx0.up hK) (hy0.up hK) (hx1.up hK) (hy1.up hK) k2 hk2) ?_ rfl rfl ?_ ?_
      · (first | (simp [MH, MB, MT, MV, MV.MVs, MC.MCs, MC, renC.renCs, renC, up]; done) | (simp [MH, MB, MT, MV, MV.MVs, MC.MCs, MC, renC.renCs, renC, up]; omega) | (simp [MH, MB, MT, MV, MV.MVs, MC.MCs, MC, renC.renCs, renC, up] <;> omega))
      · simp [MV, MV.MVs, MC, MC.MCs]
      intro p hp1
      obtain rfl : p = (la, lb, lc, ld) := Prod.ext (hp1.a.trans hla.symm) (Prod.ext (hp1.b.trans hlb.symm) (Prod.ext (hp1.c.trans hlc.symm) (hp1.d.trans hld.symm)))
      cbv
      try (refine And.intro ?_ ?_)
      all_goals
        refine m_callq hX [] bodied_85 (fun k2 hk2 => RMeet_c W0 la lb lc ld r0 r1 r2 r3 k2 hk2) ?_ rfl rfl ?_ ?_
        · (first | (simp [MH, MB, MT, MV, MV.MVs, MC.MCs, MC, renC.renCs, renC, up]; done) | (simp [MH, MB, MT, MV, MV.MVs, MC.MCs, MC, renC.renCs, renC, up]; omega) | (simp [MH, MB, MT, MV, MV.MVs, MC.MCs, MC, renC.renCs, renC, up] <;> omega))
        · simp [MV, MV.MVs, MC, MC.MCs]
        intro q hq1
        obtain rfl : q = (m0, m1, m2, m3) := hq1.unique hq
        cbv
        refine ⟨[some 0, some 1, some 2, some 3], ?_, rfl, rfl, ?_⟩
        · simp [MH, MB, MC.MCs, MC, renC.renCs, renC, up, zi]
        · simp [MT, MV.MVs, MV, MC]
  cbv
  refine m_callq hX [] bodied_44 (fun k2 hk2 => REmpty_c W0 x0 y0 x1 y1 k2 hk2) ?_ rfl rfl ?_ ?_
  · (first | (simp [MH, MB, MT, MV, MV.MVs, MC.MCs, MC, renC.renCs, renC, up]; done) | (simp [MH, MB, MT, MV, MV.MVs, MC.MCs, MC, renC.renCs, renC, up]; omega) | (simp [MH, MB, MT, MV, MV.MVs, MC.MCs, MC, renC.renCs, renC, up] <;> omega))
  · simp [MV, MV.MVs, MC, MC.MCs]
  intro e he
  cbv
  cases e with
  | true =>
    repeat' (first | (refine m_cond_t hX (by first | rfl | assumption | (subst hX; rfl)) ?_; cbv) | (refine m_cond_f hX (by first | rfl | assumption | (subst hX; rfl)) ?_; cbv) | fail)
    refine ⟨_, _, [], by simp [MH], rfl, rfl, ?_, hk (false, 0, 0, 0, 0, 0, 0, 0) ⟨la, lb, lc, ld, hp, .inl ⟨rfl, ?_⟩⟩⟩
    · simp [MV, MV.MVs, MC, MC.MCs, zi]
    · have := he.1 rfl
      omega
  | false =>
    have hne : ¬ (x1 ≤ x0 ∨ y1 ≤ y0) := fun h => by cases he.2 h
    repeat' (first | (refine m_cond_t hX (by first | rfl | assumption | (subst hX; rfl)) ?_; cbv) | (refine m_cond_f hX (by first | rfl | assumption | (subst hX; rfl)) ?_; cbv) | fail)
    refine m_callq hX [] bodied_44 (fun k2 hk2 => REmpty_c W0 m0 m1 m2 m3 k2 hk2) ?_ rfl rfl ?_ ?_
    · (first | (simp [MH, MB, MT, MV, MV.MVs, MC.MCs, MC, renC.renCs, renC, up]; done) | (simp [MH, MB, MT, MV, MV.MVs, MC.MCs, MC, renC.renCs, renC, up]; omega) | (simp [MH, MB, MT, MV, MV.MVs, MC.MCs, MC, renC.renCs, renC, up] <;> omega))
    · simp [MV, MV.MVs, MC, MC.MCs]
    intro e2 he2
    cbv
    cases e2 with
    | true =>
      repeat' (first | (refine m_cond_t hX (by first | rfl | assumption | (subst hX; rfl)) ?_; cbv) | (refine m_cond_f hX (by first | rfl | assumption | (subst hX; rfl)) ?_; cbv) | fail)
      refine ⟨_, _, [], by simp [MH], rfl, rfl, ?_, hk (false, 0, 0, 0, 0, 0, 0, 0) ⟨la, lb, lc, ld, hp, .inl ⟨rfl, .inr (.inr ?_)⟩⟩⟩
      · simp [MV, MV.MVs, MC, MC.MCs, zi]
      · rcases hq with ⟨h, _⟩ | ⟨_, g0, g1, g2, g3⟩
        · exact h
        · have := he2.1 rfl
          rw [g0, g1, g2, g3] at this
          exact this
    | false =>
      have hm : ¬ meetP la lb lc ld r0 r1 r2 r3 ∧ m0 = max la r0 ∧ m1 = max lb r1 ∧ m2 = min lc r2 ∧ m3 = min ld r3 := by
        rcases hq with ⟨_, g0, g1, g2, g3⟩ | h
        · exfalso
          have : m2 ≤ m0 ∨ m3 ≤ m1 := by omega
          cases he2.2 this
        · exact h
      obtain ⟨hm0, g0, g1, g2, g3⟩ := hm
      have q0 : Nr 1152921504606846976 m0 := g0 ▸ j0.max n0
      have q1 : Nr 1152921504606846976 m1 := g1 ▸ j1.max n1
      have q2 : Nr 1152921504606846976 m2 := g2 ▸ j2.min n2
      have q3 : Nr 1152921504606846976 m3 := g3 ▸ j3.min n3
      repeat' (first | (refine m_cond_t hX (by first | rfl | assumption | (subst hX; rfl)) ?_; cbv) | (refine m_cond_f hX (by first | rfl | assumption | (subst hX; rfl)) ?_; cbv) | fail)
      refine m_gen (A := X.draw _ _ _) fun K1 hK1 => ?_
      refine m_drawT tab_ok hX [] [8] (.one 0 0 (.one 5 0 (.one 1 1 (.one 3 1 (.one 6 1 (.one 2 2 (.one 4 2 (.one 7 0 (.one 8 3 (.one 9 0 .fin)))))))))) (by kernel_rfl) (by simp) ?_
      cbv
      refine m_callq hX [] bodied_86 (fun k2 hk2 => RBack_c W0 t X0 Y0 ht (hX0.up hK) (hY0.up hK) k2 hk2) ?_ rfl rfl ?_ ?_
      · (first | (simp [MH, MB, MT, MV, MV.MVs, MC.MCs, MC, renC.renCs, renC, up]; done) | (simp [MH, MB, MT, MV, MV.MVs, MC.MCs, MC, renC.renCs, renC, up]; omega) | (simp [MH, MB, MT, MV, MV.MVs, MC.MCs, MC, renC.renCs, renC, up] <;> omega))
      · simp [MV, MV.MVs, MC, MC.MCs]
      intro b hb
      obtain ⟨z, u, v⟩ := b
      replace hb : IsBack t X0 Y0 z u v := hb
      cbv
      obtain ⟨hz, hu, hv⟩ := hb
      obtain ⟨w1, w2⟩ := Nr.dX ht.back (hX0.up hK) (hY0.up hK)
      refine m_callq hX [] bodied_63 (fun k2 hk2 => RBox_c W0 z u v m0 m1 m2 m3 (hz ▸ ht.back) (hu ▸ w1.neg) (hv ▸ w2.neg) q0 q1 q2 q3 k2 hk2) ?_ rfl rfl ?_ ?_
      · (first | (simp [MH, MB, MT, MV, MV.MVs, MC.MCs, MC, renC.renCs, renC, up]; done) | (simp [MH, MB, MT, MV, MV.MVs, MC.MCs, MC, renC.renCs, renC, up]; omega) | (simp [MH, MB, MT, MV, MV.MVs, MC.MCs, MC, renC.renCs, renC, up] <;> omega))
      · simp [MV, MV.MVs, MC, MC.MCs]
      intro b hb
      obtain ⟨c0, c1, c2, c3⟩ := b
      replace hb : IsBox z u v m0 m1 m2 m3 c0 c1 c2 c3 := hb
      cbv
      rw [hz, hu, hv, g0, g1, g2, g3] at hb
      refine hK1 _ _ ?_
      cbv
      refine ⟨_, _, [], by simp [MH], rfl, rfl, ?_, hk (true, c0, c1, c2, c3, t, X0, Y0) ⟨la, lb, lc, ld, hp, .inr ⟨rfl, by omega, by omega, hm0, rfl, rfl, rfl, hb⟩⟩⟩
      simp [MV, MV.MVs, MC, MC.MCs]
end Go.Proofs.Ytnfoibgafmeenaa.AM
