/- A grid's part, as contracts on the abstract machine. No condition but that what it reads is there. -/
import Derived.Test.YtnfoibgafmeenaaGd9
namespace Go.Proofs.Ytnfoibgafmeenaa.AM
open Go Go.RowKit
set_option cbv.warning false
set_option maxRecDepth 100000
set_option linter.unusedVariables false
set_option linter.unusedSimpArgs false
/-- Where a part's place comes from. -/
def sub (c x y w : Int) (a : Nat) : Nat := ((y + (a : Int) / w) * c + (x + (a : Int) % w)).toNat
/-- A part that is all there. -/
structure PartI (c r : Int) (N : Nat) (x y w h : Int) (M : Nat) : Prop where
  g : GI c r N
  x1 : 0 ≤ x
  y1 : 0 ≤ y
  w1 : 1 ≤ w
  h1 : 1 ≤ h
  xw : x + w ≤ c
  yh : y + h ≤ r
  hM : (M : Int) = w * h
theorem PartI.gi {c r : Int} {N : Nat} {x y w h : Int} {M : Nat} (p : PartI c r N x y w h M) : GI w h M := by
  obtain ⟨g, x1, y1, w1, h1, xw, yh, hM⟩ := p
  have := g.c2
  have := g.r2
  exact ⟨w1, by omega, h1, by omega, hM⟩
theorem PartI.cell0 {c r : Int} {N : Nat} {x y w h : Int} {M : Nat} (p : PartI c r N x y w h M) : ∃ q, CellI c r N x y q := by
  obtain ⟨g, x1, y1, w1, h1, xw, yh, hM⟩ := p
  exact g.put ⟨x1, by omega, y1, by omega⟩
theorem PartI.cell {c r : Int} {N : Nat} {x y w h : Int} {M : Nat} (p : PartI c r N x y w h M) {px py : Int} {a : Nat} (hc : CellI w h M px py a) : CellI c r N (x + px) (y + py) (sub c x y w a) := by
  obtain ⟨d1, d2⟩ := hc.dm
  obtain ⟨g, x1, y1, w1, h1, xw, yh, hM⟩ := p
  obtain ⟨_, p1, p2, p3, p4, _⟩ := hc
  refine ⟨g, by omega, by omega, by omega, by omega, ?_⟩
  have := (idx_lt (c := c) (r := r) (x := x + px) (y := y + py) (by omega) (by omega) (by omega) (by omega)).1
  simp only [sub, d1, d2]
  omega
structure PartL (M : Nat) (c x y w : Int) (f : Nat → Int) (a : Nat) (i : Int) (g : Nat → Int) : Prop where
  h1 : a ≤ M
  h2 : i = (a : Int)
  h3 : ∀ b, b < a → g b = f (sub c x y w b)
theorem addw {a b : Int} (h1 : 0 ≤ a) (h2 : a ≤ 1000000) (h3 : 0 ≤ b) (h4 : b ≤ 1000000) {X : Ext} {P : Program} {W0 : World} {md : Md} (hX : X = std P W0 md) : X.bin .add .i64 a b = a + b := by
  subst hX
  show IntKind.i64.wrap (a + b) = a + b
  exact wrap_eq (by omega) (by omega)
theorem sub2w {a b : Int} (h1 : 0 ≤ a) (h2 : a ≤ 1000000) (h3 : 0 ≤ b) (h4 : b ≤ 1000000) {X : Ext} {P : Program} {W0 : World} {md : Md} (hX : X = std P W0 md) : X.bin .sub .i64 a b = a - b := by
  subst hX
  show IntKind.i64.wrap (a - b) = a - b
  exact wrap_eq (by omega) (by omega)
set_option maxHeartbeats 1000000
/-- No part, where its first place is not there. -/
theorem Part_out1 (W0 : World) (c r : Int) (N : Nat) (x y w h : Int) (f : Nat → Int) (hO : OutI c r N x y) (k : V → Heap → Prop) (hk : k (.one .nilp) [grid c r 1 N, ints true N f]) : ACall Try.prog W0 32 [.one (.ptr 0 0 0), .one (.int .i64 x), .one (.int .i64 y), .one (.int .i64 w), .one (.int .i64 h)] [grid c r 1 N, ints true N f] k := by
  refine m_body tab_ok (fn := Try.f32) (by kernel_rfl) rfl ?_
  intro X hX
  cbv
  refine m_drawAs hX ([.one (.ptr 0 0 0)] ++ List.replicate 38 (.one .undef) ++ [.one (.bool true)] ++ List.replicate 26 (.one .undef)) [grid c r 1 N, ints true N f, some (.box 36 [.ptr 0 0 0]), some (.box 3 [.int .i64 x]), some (.box 3 [.int .i64 y])] ?_ ?_
  ·
    refine m_drawT tab_ok hX [] [3,7,10,11,18,21,22] (.one 0 1 (.one 1 1 (.one 2 1 (.one 3 3 (.one 4 0 (.one 5 0 (.one 6 0 (.two 7 3 (.one 8 0 (.one 9 0 (.two 10 3 (.one 11 3 (.one 12 0 (.one 13 2 (.one 14 0 (.one 15 0 (.one 16 0 (.one 17 0 (.two 18 3 (.one 19 0 (.one 20 0 (.two 21 3 (.one 22 3 (.one 23 0 (.one 24 2 (.one 25 0 (.one 26 0 .fin))))) 22 3 (.one 21 3 (.one 23 0 (.one 24 2 (.one 25 0 (.one 26 0 .fin)))))))) 22 3 (.one 18 3 (.one 19 0 (.one 20 0 (.one 21 3 (.one 23 0 (.one 24 2 (.one 25 0 (.one 26 0 .fin)))))))))))))))) 11 3 (.one 10 3 (.one 12 0 (.one 13 2 (.one 14 0 (.one 15 0 (.one 16 0 (.one 17 0 (.two 18 3 (.one 19 0 (.one 20 0 (.two 21 3 (.one 22 3 (.one 23 0 (.one 24 2 (.one 25 0 (.one 26 0 .fin))))) 22 3 (.one 21 3 (.one 23 0 (.one 24 2 (.one 25 0 (.one 26 0 .fin)))))))) 22 3 (.one 18 3 (.one 19 0 (.one 20 0 (.one 21 3 (.one 23 0 (.one 24 2 (.one 25 0 (.one 26 0 .fin))))))))))))))))))) 11 3 (.one 7 3 (.one 8 0 (.one 9 0 (.one 10 3 (.one 12 0 (.one 13 2 (.one 14 0 (.one 15 0 (.one 16 0 (.one 17 0 (.two 18 3 (.one 19 0 (.one 20 0 (.two 21 3 (.one 22 3 (.one 23 0 (.one 24 2 (.one 25 0 (.one 26 0 .fin))))) 22 3 (.one 21 3 (.one 23 0 (.one 24 2 (.one 25 0 (.one 26 0 .fin)))))))) 22 3 (.one 18 3 (.one 19 0 (.one 20 0 (.one 21 3 (.one 23 0 (.one 24 2 (.one 25 0 (.one 26 0 .fin))))))))))))))))))))))))))) (by kernel_rfl) (by simp) ?_
    cbv
    refine m_callf hX [0, 1] bodied_54 (fun k2 hk2 => cell_out W0 c r N x y f hO k2 hk2) ?_ rfl rfl ?_ ?_
    · (first | (simp [MH, MB, MT, MV, MV.MVs, MC.MCs, MC, renC.renCs, renC, up]; done) | (simp [MH, MB, MT, MV, MV.MVs, MC.MCs, MC, renC.renCs, renC, up]; omega) | (simp [MH, MB, MT, MV, MV.MVs, MC.MCs, MC, renC.renCs, renC, up] <;> omega))
    · simp [MV, MV.MVs, MC]
    cbv
    repeat' (first | (refine m_cond_t hX (by first | rfl | assumption | (subst hX; rfl)) ?_; cbv) | (refine m_cond_f hX (by first | rfl | assumption | (subst hX; rfl)) ?_; cbv) | (refine And.intro ?_ ?_) | fail)
    all_goals
      refine ⟨[some 0, some 1, some 2, some 3, some 4], ?_, rfl, rfl, ?_⟩
      · simp [MH, MB, MC.MCs, MC, renC.renCs, renC, up]
      · simp [MT, MV.MVs, MV, MC]
        try (subst hX; rfl)
  cbv
  repeat' (first | (refine m_cond_t hX (by first | rfl | assumption | (subst hX; rfl)) ?_; cbv) | (refine m_cond_f hX (by first | rfl | assumption | (subst hX; rfl)) ?_; cbv) | fail)
  refine ⟨_, _, [some 0, some 1], ?_, rfl, rfl, ?_, hk⟩
  · simp [MH, MB, MC.MCs, MC, renC.renCs, renC, up]
  · simp [MV, MC]
/-- No part, where it is too wide or too high, or has no place. -/
theorem Part_out2 (W0 : World) (c r : Int) (N : Nat) (x y w h : Int) (q : Nat) (f : Nat → Int) (hC : CellI c r N x y q) (hO : ¬ (1 ≤ w ∧ w ≤ c - x) ∨ ¬ (1 ≤ h ∧ h ≤ r - y)) (k : V → Heap → Prop) (hk : k (.one .nilp) [grid c r 1 N, ints true N f]) : ACall Try.prog W0 32 [.one (.ptr 0 0 0), .one (.int .i64 x), .one (.int .i64 y), .one (.int .i64 w), .one (.int .i64 h)] [grid c r 1 N, ints true N f] k := by
  refine m_body tab_ok (fn := Try.f32) (by kernel_rfl) rfl ?_
  intro X hX
  cbv
  have e1 : X.bin .sub .i64 c x = c - x := sub2w (by have := hC.g.c1; omega) (by have := hC.g.c2; omega) hC.x1 (by have := hC.x2; have := hC.g.c2; omega) hX
  have e2 : X.bin .sub .i64 r y = r - y := sub2w (by have := hC.g.r1; omega) (by have := hC.g.r2; omega) hC.y1 (by have := hC.y2; have := hC.g.r2; omega) hX
  refine m_drawAs hX ([.one (.ptr 0 0 0)] ++ List.replicate 38 (.one .undef) ++ [.one (.bool true)] ++ List.replicate 26 (.one .undef)) [grid c r 1 N, ints true N f, some (.box 36 [.ptr 0 0 0]), some (.box 3 [.int .i64 x]), some (.box 3 [.int .i64 y])] ?_ ?_
  ·
    refine m_drawT tab_ok hX [] [3,7,10,11,18,21,22] (.one 0 1 (.one 1 1 (.one 2 1 (.one 3 3 (.one 4 0 (.one 5 0 (.one 6 0 (.two 7 3 (.one 8 0 (.one 9 0 (.two 10 3 (.one 11 3 (.one 12 0 (.one 13 2 (.one 14 0 (.one 15 0 (.one 16 0 (.one 17 0 (.two 18 3 (.one 19 0 (.one 20 0 (.two 21 3 (.one 22 3 (.one 23 0 (.one 24 2 (.one 25 0 (.one 26 0 .fin))))) 22 3 (.one 21 3 (.one 23 0 (.one 24 2 (.one 25 0 (.one 26 0 .fin)))))))) 22 3 (.one 18 3 (.one 19 0 (.one 20 0 (.one 21 3 (.one 23 0 (.one 24 2 (.one 25 0 (.one 26 0 .fin)))))))))))))))) 11 3 (.one 10 3 (.one 12 0 (.one 13 2 (.one 14 0 (.one 15 0 (.one 16 0 (.one 17 0 (.two 18 3 (.one 19 0 (.one 20 0 (.two 21 3 (.one 22 3 (.one 23 0 (.one 24 2 (.one 25 0 (.one 26 0 .fin))))) 22 3 (.one 21 3 (.one 23 0 (.one 24 2 (.one 25 0 (.one 26 0 .fin)))))))) 22 3 (.one 18 3 (.one 19 0 (.one 20 0 (.one 21 3 (.one 23 0 (.one 24 2 (.one 25 0 (.one 26 0 .fin))))))))))))))))))) 11 3 (.one 7 3 (.one 8 0 (.one 9 0 (.one 10 3 (.one 12 0 (.one 13 2 (.one 14 0 (.one 15 0 (.one 16 0 (.one 17 0 (.two 18 3 (.one 19 0 (.one 20 0 (.two 21 3 (.one 22 3 (.one 23 0 (.one 24 2 (.one 25 0 (.one 26 0 .fin))))) 22 3 (.one 21 3 (.one 23 0 (.one 24 2 (.one 25 0 (.one 26 0 .fin)))))))) 22 3 (.one 18 3 (.one 19 0 (.one 20 0 (.one 21 3 (.one 23 0 (.one 24 2 (.one 25 0 (.one 26 0 .fin))))))))))))))))))))))))))) (by kernel_rfl) (by simp) ?_
    cbv
    refine m_callf hX [0, 1] bodied_54 (fun k2 hk2 => cell_in W0 c r N x y q f hC k2 hk2) ?_ rfl rfl ?_ ?_
    · (first | (simp [MH, MB, MT, MV, MV.MVs, MC.MCs, MC, renC.renCs, renC, up]; done) | (simp [MH, MB, MT, MV, MV.MVs, MC.MCs, MC, renC.renCs, renC, up]; omega) | (simp [MH, MB, MT, MV, MV.MVs, MC.MCs, MC, renC.renCs, renC, up] <;> omega))
    · simp [MV, MV.MVs, MC]
    cbv
    repeat' (first | (refine m_cond_t hX (by first | rfl | assumption | (subst hX; rfl)) ?_; cbv) | (refine m_cond_f hX (by first | rfl | assumption | (subst hX; rfl)) ?_; cbv) | (refine And.intro ?_ ?_) | fail)
    all_goals
      refine m_callq hX [] bodied_50 (fun k2 hk2 => In50 W0 w 1 (X.bin .sub .i64 c x) k2 hk2) ?_ rfl rfl ?_ ?_
      · (first | (simp [MH, MB, MT, MV, MV.MVs, MC.MCs, MC, renC.renCs, renC, up]; done) | (simp [MH, MB, MT, MV, MV.MVs, MC.MCs, MC, renC.renCs, renC, up]; omega) | (simp [MH, MB, MT, MV, MV.MVs, MC.MCs, MC, renC.renCs, renC, up] <;> omega))
      · simp [MV, MV.MVs, MC]
      intro b hb
      cbv
      cases b with
      | false =>
        repeat' (first | (refine m_cond_t hX (by first | rfl | assumption | (subst hX; rfl)) ?_; cbv) | (refine m_cond_f hX (by first | rfl | assumption | (subst hX; rfl)) ?_; cbv) | (refine And.intro ?_ ?_) | fail)
        all_goals
          refine ⟨[some 0, some 1, some 2, some 3, some 4], ?_, rfl, rfl, ?_⟩
          · simp [MH, MB, MC.MCs, MC, renC.renCs, renC, up]
          · simp [MT, MV.MVs, MV, MC]
            try (subst hX; rfl)
      | true =>
        repeat' (first | (refine m_cond_t hX (by first | rfl | assumption | (subst hX; rfl)) ?_; cbv) | (refine m_cond_f hX (by first | rfl | assumption | (subst hX; rfl)) ?_; cbv) | (refine And.intro ?_ ?_) | fail)
        all_goals
          refine m_callq hX [] bodied_50 (fun k2 hk2 => In50 W0 h 1 (X.bin .sub .i64 r y) k2 hk2) ?_ rfl rfl ?_ ?_
          · (first | (simp [MH, MB, MT, MV, MV.MVs, MC.MCs, MC, renC.renCs, renC, up]; done) | (simp [MH, MB, MT, MV, MV.MVs, MC.MCs, MC, renC.renCs, renC, up]; omega) | (simp [MH, MB, MT, MV, MV.MVs, MC.MCs, MC, renC.renCs, renC, up] <;> omega))
          · simp [MV, MV.MVs, MC]
          intro b2 hb2
          cbv
          cases b2 with
          | true =>
            exfalso
            have g1 := hb.1 rfl
            have g2 := hb2.1 rfl
            rw [e1] at g1
            rw [e2] at g2
            omega
          | false =>
            repeat' (first | (refine m_cond_t hX (by first | rfl | assumption | (subst hX; rfl)) ?_; cbv) | (refine m_cond_f hX (by first | rfl | assumption | (subst hX; rfl)) ?_; cbv) | (refine And.intro ?_ ?_) | fail)
            all_goals
              refine ⟨[some 0, some 1, some 2, some 3, some 4], ?_, rfl, rfl, ?_⟩
              · simp [MH, MB, MC.MCs, MC, renC.renCs, renC, up]
              · simp [MT, MV.MVs, MV, MC]
                try (subst hX; rfl)
  cbv
  repeat' (first | (refine m_cond_t hX (by first | rfl | assumption | (subst hX; rfl)) ?_; cbv) | (refine m_cond_f hX (by first | rfl | assumption | (subst hX; rfl)) ?_; cbv) | fail)
  refine ⟨_, _, [some 0, some 1], ?_, rfl, rfl, ?_, hk⟩
  · simp [MH, MB, MC.MCs, MC, renC.renCs, renC, up]
  · simp [MV, MC]
theorem Part_in (W0 : World) (c r : Int) (N M : Nat) (x y w h : Int) (f : Nat → Int) (hP : PartI c r N x y w h M) (k : V → Heap → Prop) (hk : ∀ g : Nat → Int, (∀ b, b < M → g b = f (sub c x y w b)) → k (.one (.ptr 2 0 0)) [grid c r 1 N, ints true N f, grid w h 3 M, ints true M g]) : ACall Try.prog W0 32 [.one (.ptr 0 0 0), .one (.int .i64 x), .one (.int .i64 y), .one (.int .i64 w), .one (.int .i64 h)] [grid c r 1 N, ints true N f] k := by
  obtain ⟨q, hC⟩ := hP.cell0
  have hI := hP.gi
  have hbd := hI.bound
  refine m_body tab_ok (fn := Try.f32) (by kernel_rfl) rfl ?_
  intro X hX
  cbv
  have e1 : X.bin .sub .i64 c x = c - x := sub2w (by have := hC.g.c1; omega) (by have := hC.g.c2; omega) hC.x1 (by have := hC.x2; have := hC.g.c2; omega) hX
  have e2 : X.bin .sub .i64 r y = r - y := sub2w (by have := hC.g.r1; omega) (by have := hC.g.r2; omega) hC.y1 (by have := hC.y2; have := hC.g.r2; omega) hX
  refine m_drawAs hX ([.one (.ptr 0 0 0), .one .undef, .one .undef, .one (.int .i64 w), .one (.int .i64 h), .one (.ptr 2 0 0), .one (.ptr 3 0 0), .one (.ptr 4 0 0)] ++ List.replicate 31 (.one .undef) ++ [.one (.bool false)] ++ List.replicate 26 (.one .undef)) [grid c r 1 N, ints true N f, some (.box 36 [.ptr 0 0 0]), some (.box 3 [.int .i64 x]), some (.box 3 [.int .i64 y])] ?_ ?_
  ·
    refine m_drawT tab_ok hX [] [3,7,10,11,18,21,22] (.one 0 1 (.one 1 1 (.one 2 1 (.one 3 3 (.one 4 0 (.one 5 0 (.one 6 0 (.two 7 3 (.one 8 0 (.one 9 0 (.two 10 3 (.one 11 3 (.one 12 0 (.one 13 2 (.one 14 0 (.one 15 0 (.one 16 0 (.one 17 0 (.two 18 3 (.one 19 0 (.one 20 0 (.two 21 3 (.one 22 3 (.one 23 0 (.one 24 2 (.one 25 0 (.one 26 0 .fin))))) 22 3 (.one 21 3 (.one 23 0 (.one 24 2 (.one 25 0 (.one 26 0 .fin)))))))) 22 3 (.one 18 3 (.one 19 0 (.one 20 0 (.one 21 3 (.one 23 0 (.one 24 2 (.one 25 0 (.one 26 0 .fin)))))))))))))))) 11 3 (.one 10 3 (.one 12 0 (.one 13 2 (.one 14 0 (.one 15 0 (.one 16 0 (.one 17 0 (.two 18 3 (.one 19 0 (.one 20 0 (.two 21 3 (.one 22 3 (.one 23 0 (.one 24 2 (.one 25 0 (.one 26 0 .fin))))) 22 3 (.one 21 3 (.one 23 0 (.one 24 2 (.one 25 0 (.one 26 0 .fin)))))))) 22 3 (.one 18 3 (.one 19 0 (.one 20 0 (.one 21 3 (.one 23 0 (.one 24 2 (.one 25 0 (.one 26 0 .fin))))))))))))))))))) 11 3 (.one 7 3 (.one 8 0 (.one 9 0 (.one 10 3 (.one 12 0 (.one 13 2 (.one 14 0 (.one 15 0 (.one 16 0 (.one 17 0 (.two 18 3 (.one 19 0 (.one 20 0 (.two 21 3 (.one 22 3 (.one 23 0 (.one 24 2 (.one 25 0 (.one 26 0 .fin))))) 22 3 (.one 21 3 (.one 23 0 (.one 24 2 (.one 25 0 (.one 26 0 .fin)))))))) 22 3 (.one 18 3 (.one 19 0 (.one 20 0 (.one 21 3 (.one 23 0 (.one 24 2 (.one 25 0 (.one 26 0 .fin))))))))))))))))))))))))))) (by kernel_rfl) (by simp) ?_
    cbv
    refine m_callf hX [0, 1] bodied_54 (fun k2 hk2 => cell_in W0 c r N x y q f hC k2 hk2) ?_ rfl rfl ?_ ?_
    · (first | (simp [MH, MB, MT, MV, MV.MVs, MC.MCs, MC, renC.renCs, renC, up]; done) | (simp [MH, MB, MT, MV, MV.MVs, MC.MCs, MC, renC.renCs, renC, up]; omega) | (simp [MH, MB, MT, MV, MV.MVs, MC.MCs, MC, renC.renCs, renC, up] <;> omega))
    · simp [MV, MV.MVs, MC]
    cbv
    repeat' (first | (refine m_cond_t hX (by first | rfl | assumption | (subst hX; rfl)) ?_; cbv) | (refine m_cond_f hX (by first | rfl | assumption | (subst hX; rfl)) ?_; cbv) | (refine And.intro ?_ ?_) | fail)
    all_goals
      refine m_callq hX [] bodied_50 (fun k2 hk2 => In50 W0 w 1 (X.bin .sub .i64 c x) k2 hk2) ?_ rfl rfl ?_ ?_
      · (first | (simp [MH, MB, MT, MV, MV.MVs, MC.MCs, MC, renC.renCs, renC, up]; done) | (simp [MH, MB, MT, MV, MV.MVs, MC.MCs, MC, renC.renCs, renC, up]; omega) | (simp [MH, MB, MT, MV, MV.MVs, MC.MCs, MC, renC.renCs, renC, up] <;> omega))
      · simp [MV, MV.MVs, MC]
      intro b hb
      cbv
      obtain rfl : b = true := hb.2 ⟨hP.w1, by rw [e1]; have := hP.xw; omega⟩
      repeat' (first | (refine m_cond_t hX (by first | rfl | assumption | (subst hX; rfl)) ?_; cbv) | (refine m_cond_f hX (by first | rfl | assumption | (subst hX; rfl)) ?_; cbv) | (refine And.intro ?_ ?_) | fail)
      all_goals
        refine m_callq hX [] bodied_50 (fun k2 hk2 => In50 W0 h 1 (X.bin .sub .i64 r y) k2 hk2) ?_ rfl rfl ?_ ?_
        · (first | (simp [MH, MB, MT, MV, MV.MVs, MC.MCs, MC, renC.renCs, renC, up]; done) | (simp [MH, MB, MT, MV, MV.MVs, MC.MCs, MC, renC.renCs, renC, up]; omega) | (simp [MH, MB, MT, MV, MV.MVs, MC.MCs, MC, renC.renCs, renC, up] <;> omega))
        · simp [MV, MV.MVs, MC]
        intro b2 hb2
        cbv
        obtain rfl : b2 = true := hb2.2 ⟨hP.h1, by rw [e2]; have := hP.yh; omega⟩
        repeat' (first | (refine m_cond_t hX (by first | rfl | assumption | (subst hX; rfl)) ?_; cbv) | (refine m_cond_f hX (by first | rfl | assumption | (subst hX; rfl)) ?_; cbv) | (refine And.intro ?_ ?_) | fail)
        all_goals
          refine ⟨[some 0, some 1, some 2, some 3, some 4], ?_, rfl, rfl, ?_⟩
          · simp [MH, MB, MC.MCs, MC, renC.renCs, renC, up]
          · simp [MT, MV.MVs, MV, MC]
            try (subst hX; rfl)
  cbv
  repeat' (first | (refine m_cond_t hX (by first | rfl | assumption | (subst hX; rfl)) ?_; cbv) | (refine m_cond_f hX (by first | rfl | assumption | (subst hX; rfl)) ?_; cbv) | fail)
  refine m_callf hX [] bodied_24 (fun k2 hk2 => New_in W0 w h M (fun _ => 0) hI (by intros; rfl) k2 hk2) ?_ rfl rfl ?_ ?_
  · (first | (simp [MH, MB, MT, MV, MV.MVs, MC.MCs, MC, renC.renCs, renC, up]; done) | (simp [MH, MB, MT, MV, MV.MVs, MC.MCs, MC, renC.renCs, renC, up]; omega) | (simp [MH, MB, MT, MV, MV.MVs, MC.MCs, MC, renC.renCs, renC, up] <;> omega))
  · simp [MV, MV.MVs, MC]
  cbv
  refine m_callf hX [5, 6] bodied_52 (fun k2 hk2 => GAll_c W0 w h M (fun _ => 0) k2 hk2) ?_ rfl rfl ?_ ?_
  · (first | (simp [MH, MB, MT, MV, MV.MVs, MC.MCs, MC, renC.renCs, renC, up]; done) | (simp [MH, MB, MT, MV, MV.MVs, MC.MCs, MC, renC.renCs, renC, up]; omega) | (simp [MH, MB, MT, MV, MV.MVs, MC.MCs, MC, renC.renCs, renC, up] <;> omega))
  · simp [MV, MV.MVs, MC]
  cbv
  refine m_rangef tab_ok hX rfl bodied_64 (fn := Try.f64) (by kernel_rfl) rfl rfl ?_
  intro X1 X2 md1 md2 L yv KF hKF h1 h2 hmd hy
  have hX0 := hX
  replace hX := h1
  cbv
  repeat' (first | (refine m_cond_t hX (by first | rfl | assumption | (subst hX; rfl)) ?_; cbv) | (refine m_cond_f hX (by first | rfl | assumption | (subst hX; rfl)) ?_; cbv) | fail)
  refine m_callf hX [6] bodied_46 (fun k2 hk2 => Clone_c W0 true M 0 M none (fun _ => 0) (by simp) (by omega) k2 hk2) ?_ rfl rfl ?_ ?_
  · (first | (simp [MH, MB, MT, MV, MV.MVs, MC.MCs, MC, renC.renCs, renC, up]; done) | (simp [MH, MB, MT, MV, MV.MVs, MC.MCs, MC, renC.renCs, renC, up]; omega) | (simp [MH, MB, MT, MV, MV.MVs, MC.MCs, MC, renC.renCs, renC, up] <;> omega))
  · simp [MV, MV.MVs, MC]
  cbv
  refine m_loop tab_ok hX (fun b : Nat × Int × (Nat → Int) => PartL M c x y w f b.1 b.2.1 b.2.2) (fun b => ([.one (.raw yv), .one (.ptr 8 0 0), .one .undef, .one .undef, .one .undef] ++ List.replicate 6 (.one .undef) ++ [.one (.sl 10 0 M none), .one (.int .i64 M), .one (.int .i64 b.2.1)] ++ List.replicate 22 (.one .undef), [grid c r 1 N, ints true N f, some (.box 36 [.ptr 0 0 0]), some (.box 3 [.int .i64 x]), some (.box 3 [.int .i64 y]), grid w h 6 M, ints true M b.2.2, some (.box 36 [.ptr 5 0 0]), some (.box 36 [.ptr 5 0 0]), some (.obj (L 0 0)), ints true M (fun _ => 0)])) (fun b => M - b.1) ?_ ?_
  · refine ⟨⟨0, 0, fun _ => 0⟩, ⟨by omega, rfl, fun b hb => by omega⟩, [some 0, some 1, some 2, some 3, some 4, some 5, some 6, some 7, some 8, some 9, some 10], ?_, rfl, rfl, ?_⟩
    · simp [MH, MB, MT, MV, MV.MVs, MC.MCs, MC, renC.renCs, renC, up]
    · subst hX
      simp [MT, MV.MVs, MV, MC, std, binS]
  · rintro ⟨a, i, g⟩ hb
    replace hb : PartL M c x y w f a i g := hb
    cbv
    refine m_cond hX (fun hl => ?_) (fun hl => ?_) <;> cbv
    · have hh : (0 ≤ i ∧ i < M) ∧ i.toNat = a ∧ a < M := by
        obtain ⟨g1, g2, g3⟩ := hb
        have : i < M := by subst hX; simpa [std, cmpS] using hl
        omega
      obtain ⟨hh1, hh2, hh3⟩ := hh
      refine ⟨by subst hX; exact hh1, by subst hX; show 0 + i.toNat < M; omega, ?_⟩
      have hD := hI.at hh3 hX hb.h2
      refine m_draw tab_ok hX [] [15] [(0,0),(1,0),(2,1),(3,0),(4,0),(5,1),(6,0),(7,0),(8,1),(9,0),(10,0),(11,1),(12,0),(13,0),(14,0),(15,3),(16,0)] (by kernel_rfl) (by simp) ?_
      cbv
      refine ⟨by subst hX; have := hI.c1; show w ≠ 0; omega, by subst hX; have := hI.c1; show w ≠ 0; omega, ?_⟩
      refine hy rfl rfl rfl rfl rfl rfl fun K hK => ?_
      have hX1 := hX
      replace hX := h2
      cbv
      have a1 : X2.bin .add .i64 x (X1.bin .rem .i64 i w) = x + X1.bin .rem .i64 i w := addw hP.x1 (by have := hC.x2; have := hC.g.c2; omega) hD.x1 (by have := hD.x2; have := hI.c2; omega) h2
      have a2 : X2.bin .add .i64 y (X1.bin .quo .i64 i w) = y + X1.bin .quo .i64 i w := addw hP.y1 (by have := hC.y2; have := hC.g.r2; omega) hD.y1 (by have := hD.y2; have := hI.r2; omega) h2
      have hM : CellI c r N (X2.bin .add .i64 x (X1.bin .rem .i64 i w)) (X2.bin .add .i64 y (X1.bin .quo .i64 i w)) (sub c x y w a) := by rw [a1, a2]; exact hP.cell hD
      obtain ⟨s, hsd⟩ : ∃ s, s = sub c x y w a := ⟨_, rfl⟩
      rw [← hsd] at hM
      have hlq := hM.lt
      obtain ⟨g', hg'⟩ : ∃ g' : Nat → Int, ∀ j, g' j = if j = a then f s else g j := ⟨_, fun _ => rfl⟩
      refine m_gen (A := X2.draw _ _ _) fun K1 hK1 => ?_
      refine m_drawT tab_ok hX [0, 1] [17] (.one 1 0 (.one 3 0 (.one 7 0 (.one 11 0 (.one 0 1 (.one 2 1 (.one 4 1 (.one 5 1 (.one 6 1 (.one 8 1 (.one 9 0 (.one 10 1 (.one 12 1 (.one 13 0 (.one 14 2 (.one 15 0 (.one 16 2 (.one 17 3 .fin)))))))))))))))))) (by kernel_rfl) (by simp) ?_
      cbv
      refine m_callf hX [0, 1] bodied_54 (fun k2 hk2 => cell_in W0 c r N (X2.bin .add .i64 x (X1.bin .rem .i64 i w)) (X2.bin .add .i64 y (X1.bin .quo .i64 i w)) s f hM k2 hk2) ?_ rfl rfl ?_ ?_
      · (first | (simp [MH, MB, MT, MV, MV.MVs, MC.MCs, MC, renC.renCs, renC, up]; done) | (simp [MH, MB, MT, MV, MV.MVs, MC.MCs, MC, renC.renCs, renC, up]; omega) | (simp [MH, MB, MT, MV, MV.MVs, MC.MCs, MC, renC.renCs, renC, up] <;> omega))
      · simp [MV, MV.MVs, MC]
      cbv
      refine ⟨by subst hX; exact hlq, ?_⟩
      refine m_callf hX [5, 6] bodied_33 (fun k2 hk2 => Set_in W0 w h M (X1.bin .rem .i64 i w) (X1.bin .quo .i64 i w) (f s) a g g' hD (fun j _ => hg' j) k2 hk2) ?_ rfl rfl ?_ ?_
      · (first | (simp [MH, MB, MT, MV, MV.MVs, MC.MCs, MC, renC.renCs, renC, up]; done) | (simp [MH, MB, MT, MV, MV.MVs, MC.MCs, MC, renC.renCs, renC, up]; omega) | (simp [MH, MB, MT, MV, MV.MVs, MC.MCs, MC, renC.renCs, renC, up] <;> omega))
      · simp [MV, MV.MVs, MC]
      cbv
      refine hK1 _ _ ?_
      cbv
      refine hK _ _ ?_
      cbv
      replace hX := hX1
      refine m_cond_f hX (by subst hX; rfl) ?_
      cbv
      refine ⟨⟨a + 1, i + 1, g'⟩, ?_, ?_, [some 0, some 1, some 2, some 3, some 4, some 5, some 6, some 7, some 8, some 9, some 10], ?_, rfl, rfl, ?_⟩
      · obtain ⟨g1, g2, g3⟩ := hb
        show PartL M c x y w f (a + 1) (i + 1) g'
        refine ⟨by omega, by omega, fun b hb => ?_⟩
        rw [hg' b]
        by_cases he : b = a
        · subst he; rw [if_pos rfl, hsd]
        · rw [if_neg he]; exact g3 b (by omega)
      · show M - (a + 1) < M - a; omega
      · simp [MH, MB, MC.MCs, MC, renC.renCs, renC, up]
      · have g2 := hb.h2
        subst hX
        simp [MT, MV.MVs, MV, MC, std, binS]
        exact (wrap_eq (by omega) (by omega)).symm
    · refine ⟨0, 0, by omega, rfl, ?_⟩
      refine hKF _ _ _ ?_
      have hm : a = M := by
        obtain ⟨g1, g2, g3⟩ := hb
        have : ¬ i < M := by subst hX; simpa [std, cmpS] using hl
        omega
      subst hm
      cbv
      refine ⟨_, _, [some 0, some 1, some 5, some 6], ?_, rfl, rfl, ?_, hk g hb.h3⟩
      · simp [MH, MB, MC.MCs, MC, renC.renCs, renC, up]
      · simp [MV, MC]
end Go.Proofs.Ytnfoibgafmeenaa.AM
