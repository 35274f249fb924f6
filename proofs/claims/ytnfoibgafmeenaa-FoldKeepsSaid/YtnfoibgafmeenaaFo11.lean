/- A rectangle that is split at a line, as a contract on the abstract machine. No condition. -/
import Derived.Test.YtnfoibgafmeenaaFo10
namespace Go.Proofs.Ytnfoibgafmeenaa.AM
open Go Go.RowKit
set_option cbv.warning false
set_option maxRecDepth 100000
set_option linter.unusedVariables false
set_option linter.unusedSimpArgs false
/-- The line goes through the rectangle. -/
def thru (upr : Bool) (n a b c d : Int) : Prop := if upr then a < n ∧ n < c else b < n ∧ n < d
abbrev rectC (a b c d : Int) : List C := [.int .i64 a, .int .i64 b, .int .i64 c, .int .i64 d]
set_option maxHeartbeats 2000000 in
theorem Split_c (W0 : World) (upr : Bool) (n a b c d : Int) (h1 : a < c) (h2 : b < d) (k : V → Heap → Prop)
    (hk1 : ¬ thru upr n a b c d → k (.one (.sl 0 0 1 (some 1))) [some (.row true 65 4 1 fun _ => rectC a b c d)])
    (hk2 : thru upr n a b c d → k (.one (.sl 0 0 2 (some 2))) [some (.row true 65 4 2 fun q => match q with | 0 => (if upr then rectC a b n d else rectC a b c n) | _ => (if upr then rectC n b c d else rectC a n c d))]) :
    ACall Try.prog W0 68 [.agg (rectC a b c d), .one (.bool upr), .one (.int .i64 n)] [] k := by
  refine m_body tab_ok (fn := Try.f68) (by kernel_rfl) rfl ?_
  intro X hX
  cbv
  refine m_drawAs hX ([.one .undef, .one (.bool upr), .one (.int .i64 n), .one (.ptr 0 0 0), .one .undef, .one .undef, .one .nils, .one (.ptr 1 0 0), .one (.ptr 2 0 0)] ++ List.replicate 47 (.one .undef)) [some (.box 65 [.int .i64 a, .int .i64 b, .int .i64 c, .int .i64 d]), some (.box 65 [.int .i64 a, .int .i64 b, .int .i64 c, .int .i64 d]), some (.box 65 [.int .i64 a, .int .i64 b, .int .i64 c, .int .i64 d])] ?_ ?_
  ·
    refine m_drawT tab_ok hX [] [] (.one 0 1 (.one 1 1 (.two 2 2 (.one 3 2 (.one 4 4 (.one 5 4 .fin))) 3 2 (.one 2 2 (.one 4 4 (.one 5 4 .fin)))))) (by kernel_rfl) (by simp) ?_
    cbv
    refine And.intro ?_ ?_
    · refine ⟨[some 0, some 1, some 2], ?_, rfl, rfl, ?_⟩
      · simp [MH, MB, MC.MCs, MC, renC.renCs, renC, up, zi]
      · simp [MT, MV.MVs, MV, MC]
    · refine ⟨[some 0, some 2, some 1], ?_, rfl, rfl, ?_⟩
      · simp [MH, MB, MC.MCs, MC, renC.renCs, renC, up, zi]
      · simp [MT, MV.MVs, MV, MC]
  cbv
  refine m_callq hX [] bodied_67 (fun k2 hk2 => Empty_c W0 a b c d k2 hk2) ?_ rfl rfl ?_ ?_
  · (first | (simp [MH, MB, MT, MV, MV.MVs, MC.MCs, MC, renC.renCs, renC, up]; done) | (simp [MH, MB, MT, MV, MV.MVs, MC.MCs, MC, renC.renCs, renC, up]; omega) | (simp [MH, MB, MT, MV, MV.MVs, MC.MCs, MC, renC.renCs, renC, up] <;> omega))
  · simp [MV, MV.MVs, MC, MC.MCs]
  intro e he
  cbv
  obtain rfl : e = false := by
    cases e with
    | false => rfl
    | true => have := he.1 rfl; omega
  refine m_cond_f hX (by subst hX; rfl) ?_
  cbv
  cases upr with
  | true =>
    by_cases c1 : a < n
    · have c1 : a < n := c1
      by_cases c2 : n < c
      · have c2 : n < c := c2
        repeat' (first | (refine m_cond_t hX (by first | rfl | assumption | (subst_vars; simp [std, cmpS, binS, c1, c2]; done) | fail) ?_; cbv) | (refine m_cond_f hX (by first | rfl | assumption | (subst_vars; simp [std, cmpS, binS, c1, c2]; done) | fail) ?_; cbv) | (refine And.intro (by first | rfl | assumption | (subst_vars; simp [std, cmpS, binS, c1, c2]; done) | fail) ?_) | fail)
        refine ⟨_, _, [some 3], ?_, rfl, rfl, ?_, hk2 ?_⟩
        · simp [MH, MB]
          intro i hi
          match i, hi with
          | 0, _ => simp [MC.MCs, MC]
          | 1, _ => simp [MC.MCs, MC]
          | i + 2, hi => omega
        · simp [MV, MC, up]
        · simp [thru]; omega
      · have c2 : ¬ n < c := c2
        repeat' (first | (refine m_cond_t hX (by first | rfl | assumption | (subst_vars; simp [std, cmpS, binS, c1, c2]; done) | fail) ?_; cbv) | (refine m_cond_f hX (by first | rfl | assumption | (subst_vars; simp [std, cmpS, binS, c1, c2]; done) | fail) ?_; cbv) | (refine And.intro (by first | rfl | assumption | (subst_vars; simp [std, cmpS, binS, c1, c2]; done) | fail) ?_) | fail)
        refine ⟨_, _, [some 3], ?_, rfl, rfl, ?_, hk1 ?_⟩
        · simp [MH, MB, MC.MCs, MC]
        · simp [MV, MC, up]
        · simp [thru]; omega
    · have c1 : ¬ a < n := c1
      repeat' (first | (refine m_cond_t hX (by first | rfl | assumption | (subst_vars; simp [std, cmpS, binS, c1]; done) | fail) ?_; cbv) | (refine m_cond_f hX (by first | rfl | assumption | (subst_vars; simp [std, cmpS, binS, c1]; done) | fail) ?_; cbv) | (refine And.intro (by first | rfl | assumption | (subst_vars; simp [std, cmpS, binS, c1]; done) | fail) ?_) | fail)
      refine ⟨_, _, [some 3], ?_, rfl, rfl, ?_, hk1 ?_⟩
      · simp [MH, MB, MC.MCs, MC]
      · simp [MV, MC, up]
      · simp [thru]; omega
  | false =>
    by_cases c1 : b < n
    · have c1 : b < n := c1
      by_cases c2 : n < d
      · have c2 : n < d := c2
        repeat' (first | (refine m_cond_t hX (by first | rfl | assumption | (subst_vars; simp [std, cmpS, binS, c1, c2]; done) | fail) ?_; cbv) | (refine m_cond_f hX (by first | rfl | assumption | (subst_vars; simp [std, cmpS, binS, c1, c2]; done) | fail) ?_; cbv) | (refine And.intro (by first | rfl | assumption | (subst_vars; simp [std, cmpS, binS, c1, c2]; done) | fail) ?_) | fail)
        refine ⟨_, _, [some 3], ?_, rfl, rfl, ?_, hk2 ?_⟩
        · simp [MH, MB]
          intro i hi
          match i, hi with
          | 0, _ => simp [MC.MCs, MC]
          | 1, _ => simp [MC.MCs, MC]
          | i + 2, hi => omega
        · simp [MV, MC, up]
        · simp [thru]; omega
      · have c2 : ¬ n < d := c2
        repeat' (first | (refine m_cond_t hX (by first | rfl | assumption | (subst_vars; simp [std, cmpS, binS, c1, c2]; done) | fail) ?_; cbv) | (refine m_cond_f hX (by first | rfl | assumption | (subst_vars; simp [std, cmpS, binS, c1, c2]; done) | fail) ?_; cbv) | (refine And.intro (by first | rfl | assumption | (subst_vars; simp [std, cmpS, binS, c1, c2]; done) | fail) ?_) | fail)
        refine ⟨_, _, [some 3], ?_, rfl, rfl, ?_, hk1 ?_⟩
        · simp [MH, MB, MC.MCs, MC]
        · simp [MV, MC, up]
        · simp [thru]; omega
    · have c1 : ¬ b < n := c1
      repeat' (first | (refine m_cond_t hX (by first | rfl | assumption | (subst_vars; simp [std, cmpS, binS, c1]; done) | fail) ?_; cbv) | (refine m_cond_f hX (by first | rfl | assumption | (subst_vars; simp [std, cmpS, binS, c1]; done) | fail) ?_; cbv) | (refine And.intro (by first | rfl | assumption | (subst_vars; simp [std, cmpS, binS, c1]; done) | fail) ?_) | fail)
      refine ⟨_, _, [some 3], ?_, rfl, rfl, ?_, hk1 ?_⟩
      · simp [MH, MB, MC.MCs, MC]
      · simp [MV, MC, up]
      · simp [thru]; omega
end Go.Proofs.Ytnfoibgafmeenaa.AM
