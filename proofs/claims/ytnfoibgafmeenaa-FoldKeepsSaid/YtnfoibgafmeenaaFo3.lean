/- Rectangles that are brought, as contracts on the abstract machine. No condition but that the numbers are near. -/
import Derived.Test.YtnfoibgafmeenaaFo2
namespace Go.Proofs.Ytnfoibgafmeenaa.AM
open Go Go.RowKit
set_option cbv.warning false
set_option maxRecDepth 100000
set_option linter.unusedVariables false
set_option linter.unusedSimpArgs false
theorem mmMin {a b : Int} {X : Ext} {P : Program} {W0 : World} {md : Md} (hX : X = std P W0 md) : X.mm .min a b = min a b := by
  subst hX
  show (if b < a then b else a) = min a b
  split <;> omega
theorem mmMax {a b : Int} {X : Ext} {P : Program} {W0 : World} {md : Md} (hX : X = std P W0 md) : X.mm .max a b = max a b := by
  subst hX
  show (if a < b then b else a) = max a b
  split <;> omega
def bA (t X Y x0 y0 x1 y1 : Int) : Int := min (dX t x0 y0 + X) (dX t x1 y1 + X)
def bB (t X Y x0 y0 x1 y1 : Int) : Int := min (dY t x0 y0 + Y) (dY t x1 y1 + Y)
def bC (t X Y x0 y0 x1 y1 : Int) : Int := max (dX t x0 y0 + X) (dX t x1 y1 + X)
def bD (t X Y x0 y0 x1 y1 : Int) : Int := max (dY t x0 y0 + Y) (dY t x1 y1 + Y)
/-- Four numbers, those of a rectangle that is brought. -/
structure IsBox (t X Y x0 y0 x1 y1 a b c d : Int) : Prop where
  a : a = bA t X Y x0 y0 x1 y1
  b : b = bB t X Y x0 y0 x1 y1
  c : c = bC t X Y x0 y0 x1 y1
  d : d = bD t X Y x0 y0 x1 y1
set_option maxHeartbeats 1000000 in
/-- place.Box -/
theorem PBox_c (W0 : World) (t X0 Y0 x0 y0 x1 y1 : Int) (ht : Tu t) (hX0 : Nr 1152921504606846976 X0) (hY0 : Nr 1152921504606846976 Y0) (hx0 : Nr 1152921504606846976 x0) (hy0 : Nr 1152921504606846976 y0) (hx1 : Nr 1152921504606846976 x1) (hy1 : Nr 1152921504606846976 y1)
    (k : V → Heap → Prop) (hk : ∀ b : Int × Int × Int × Int, IsBox t X0 Y0 x0 y0 x1 y1 b.1 b.2.1 b.2.2.1 b.2.2.2 → k (.agg [.int .i64 b.1, .int .i64 b.2.1, .int .i64 b.2.2.1, .int .i64 b.2.2.2]) []) : ACall Try.prog W0 81 [.agg [.int .i64 t, .int .i64 X0, .int .i64 Y0], .agg [.int .i64 x0, .int .i64 y0, .int .i64 x1, .int .i64 y1]] [] k := by
  obtain ⟨pu, hpu⟩ : ∃ pu, pu = dX t x0 y0 + X0 := ⟨_, rfl⟩
  obtain ⟨pv, hpv⟩ : ∃ pv, pv = dY t x0 y0 + Y0 := ⟨_, rfl⟩
  obtain ⟨qu, hqu⟩ : ∃ qu, qu = dX t x1 y1 + X0 := ⟨_, rfl⟩
  obtain ⟨qv, hqv⟩ : ∃ qv, qv = dY t x1 y1 + Y0 := ⟨_, rfl⟩
  refine m_body tab_ok (fn := Try.f81) (by kernel_rfl) rfl ?_
  intro X hX
  cbv
  refine m_drawAs hX ([.one .undef, .one .undef, .one .undef, .one .undef, .one (.ptr 2 0 0), .one (.ptr 3 0 0), .one (.ptr 4 0 0)] ++ List.replicate 35 (.one .undef)) [some (.box 67 [.int .i64 t, .int .i64 X0, .int .i64 Y0]), some (.box 65 [.int .i64 x0, .int .i64 y0, .int .i64 x1, .int .i64 y1]), some (.box 65 [.int .i64 0, .int .i64 0, .int .i64 0, .int .i64 0]), some (.box 85 [.int .i64 pu, .int .i64 pv]), some (.box 85 [.int .i64 qu, .int .i64 qv])] ?_ ?_
  ·
    refine m_drawT tab_ok hX [] [16,17] (.one 1 0 (.one 3 0 (.one 8 0 (.one 10 0 (.one 0 1 (.one 2 1 (.one 4 1 (.one 5 0 (.one 7 1 (.one 9 1 (.one 11 1 (.one 12 0 (.three 6 2 (.three 13 2 (.two 14 2 (.one 15 2 (.one 16 3 (.one 17 3 .fin))) 15 2 (.one 14 2 (.one 16 3 (.one 17 3 .fin)))) 14 2 (.two 13 2 (.one 15 2 (.one 16 3 (.one 17 3 .fin))) 15 2 (.one 13 2 (.one 16 3 (.one 17 3 .fin)))) 15 2 (.two 13 2 (.one 14 2 (.one 16 3 (.one 17 3 .fin))) 14 2 (.one 13 2 (.one 16 3 (.one 17 3 .fin))))) 14 2 (.two 6 2 (.two 13 2 (.one 15 2 (.one 16 3 (.one 17 3 .fin))) 15 2 (.one 13 2 (.one 16 3 (.one 17 3 .fin)))) 15 2 (.one 6 2 (.one 13 2 (.one 16 3 (.one 17 3 .fin))))) 15 2 (.two 6 2 (.two 13 2 (.one 14 2 (.one 16 3 (.one 17 3 .fin))) 14 2 (.one 13 2 (.one 16 3 (.one 17 3 .fin)))) 14 2 (.one 6 2 (.one 13 2 (.one 16 3 (.one 17 3 .fin)))))))))))))))))) (by kernel_rfl) (by simp) ?_
    cbv
    repeat' (first | (refine And.intro ?_ ?_) | (refine m_callq hX [] bodied_83 (fun k2 hk2 => PDo_c W0 t X0 Y0 x0 y0 ht hX0 hY0 hx0 hy0 k2 hk2) (by simp [MH]) rfl rfl ⟨⟨⟨rfl, rfl⟩, ⟨rfl, rfl⟩, ⟨rfl, rfl⟩, trivial⟩, ⟨⟨rfl, rfl⟩, ⟨rfl, rfl⟩, trivial⟩, trivial⟩ ?_; intro b hb; obtain rfl : b = (pu, pv) := Prod.ext (hb.1.trans hpu.symm) (hb.2.trans hpv.symm); cbv) | (refine m_callq hX [] bodied_83 (fun k2 hk2 => PDo_c W0 t X0 Y0 x1 y1 ht hX0 hY0 hx1 hy1 k2 hk2) (by simp [MH]) rfl rfl ⟨⟨⟨rfl, rfl⟩, ⟨rfl, rfl⟩, ⟨rfl, rfl⟩, trivial⟩, ⟨⟨rfl, rfl⟩, ⟨rfl, rfl⟩, trivial⟩, trivial⟩ ?_; intro b hb; obtain rfl : b = (qu, qv) := Prod.ext (hb.1.trans hqu.symm) (hb.2.trans hqv.symm); cbv) | fail)
    all_goals first
      | (refine ⟨[some 0, some 1, some 2, some 3, some 4], ?_, rfl, rfl, ?_⟩ <;> (simp [MH, MT, MB, MV.MVs, MV, MC.MCs, MC, renC.renCs, renC, up]; done))
      | (refine ⟨[some 0, some 1, some 2, some 4, some 3], ?_, rfl, rfl, ?_⟩ <;> (simp [MH, MT, MB, MV.MVs, MV, MC.MCs, MC, renC.renCs, renC, up]; done))
  cbv
  refine ⟨_, _, [], by simp [MH], rfl, rfl, ?_, hk (min pu qu, min pv qv, max pu qu, max pv qv) ⟨by rw [hpu, hqu]; rfl, by rw [hpv, hqv]; rfl, by rw [hpu, hqu]; rfl, by rw [hpv, hqv]; rfl⟩⟩
  show MV _ (.agg [.int .i64 (min pu qu), .int .i64 (min pv qv), .int .i64 (max pu qu), .int .i64 (max pv qv)]) (.agg [.int .i64 (X.mm .min pu qu), .int .i64 (X.mm .min pv qv), .int .i64 (X.mm .max pu qu), .int .i64 (X.mm .max pv qv)])
  rw [mmMin hX, mmMin hX, mmMax hX, mmMax hX]
  simp [MV, MC, MC.MCs]
end Go.Proofs.Ytnfoibgafmeenaa.AM
