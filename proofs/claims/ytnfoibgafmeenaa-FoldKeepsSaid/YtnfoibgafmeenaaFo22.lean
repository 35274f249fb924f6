/- The chapter's example; the law FoldOne's own function, as contracts on the abstract machine. No condition. -/
import Derived.Test.YtnfoibgafmeenaaFo21
import Derived.Test.YtnfoibgafmeenaaAm24
namespace Go.Proofs.Ytnfoibgafmeenaa.AM
open Go Go.RowKit
set_option cbv.warning false
set_option maxRecDepth 100000
set_option linter.unusedVariables false
set_option linter.unusedSimpArgs false
theorem flat3 : Flat Try.prog 3 [.int .i64] := Flat.int Try.underlying3 (by kernel_rfl)
theorem flat4 : Flat Try.prog 4 [.bool] := Flat.bool Try.underlying4 (by kernel_rfl)
theorem flat65 : Flat Try.prog 65 [.int .i64, .int .i64, .int .i64, .int .i64] := Flat.struct (fun j => match j with | 0 => [.int .i64] | 1 => [.int .i64] | 2 => [.int .i64] | _ => [.int .i64]) Try.underlying65 (by kernel_rfl)
  (fun j f hf => by match j, hf with | 0, hf => (cases hf; exact flat3) | 1, hf => (cases hf; exact flat3) | 2, hf => (cases hf; exact flat3) | 3, hf => (cases hf; exact flat3) | j + 4, hf => (simp at hf))
  (fun i k hi => by match i, hi with | 0, hi => (cases hi; exact ⟨0, _, 0, rfl, rfl, rfl⟩) | 1, hi => (cases hi; exact ⟨1, _, 0, rfl, rfl, rfl⟩) | 2, hi => (cases hi; exact ⟨2, _, 0, rfl, rfl, rfl⟩) | 3, hi => (cases hi; exact ⟨3, _, 0, rfl, rfl, rfl⟩) | i + 4, hi => (simp at hi))
theorem flat67 : Flat Try.prog 67 [.int .i64, .int .i64, .int .i64] := Flat.struct (fun j => match j with | 0 => [.int .i64] | 1 => [.int .i64] | _ => [.int .i64]) Try.underlying67 (by kernel_rfl)
  (fun j f hf => by match j, hf with | 0, hf => (cases hf; exact flat3) | 1, hf => (cases hf; exact flat3) | 2, hf => (cases hf; exact flat3) | j + 3, hf => (simp at hf))
  (fun i k hi => by match i, hi with | 0, hi => (cases hi; exact ⟨0, _, 0, rfl, rfl, rfl⟩) | 1, hi => (cases hi; exact ⟨1, _, 0, rfl, rfl, rfl⟩) | 2, hi => (cases hi; exact ⟨2, _, 0, rfl, rfl, rfl⟩) | i + 3, hi => (simp at hi))
theorem flat69 : Flat Try.prog 69 [.int .i64, .int .i64, .int .i64, .int .i64, .int .i64, .int .i64, .int .i64] := Flat.struct (fun j => match j with | 0 => [.int .i64, .int .i64, .int .i64, .int .i64] | _ => [.int .i64, .int .i64, .int .i64]) Try.underlying69 (by kernel_rfl)
  (fun j f hf => by match j, hf with | 0, hf => (cases hf; exact flat65) | 1, hf => (cases hf; exact flat67) | j + 2, hf => (simp at hf))
  (fun i k hi => by match i, hi with | 0, hi => (cases hi; exact ⟨0, _, 0, rfl, rfl, rfl⟩) | 1, hi => (cases hi; exact ⟨0, _, 1, rfl, rfl, rfl⟩) | 2, hi => (cases hi; exact ⟨0, _, 2, rfl, rfl, rfl⟩) | 3, hi => (cases hi; exact ⟨0, _, 3, rfl, rfl, rfl⟩) | 4, hi => (cases hi; exact ⟨1, _, 0, rfl, rfl, rfl⟩) | 5, hi => (cases hi; exact ⟨1, _, 1, rfl, rfl, rfl⟩) | 6, hi => (cases hi; exact ⟨1, _, 2, rfl, rfl, rfl⟩) | i + 7, hi => (simp at hi))
theorem flat58 : Flat Try.prog 58 [.bool, .bool, .bool] := Flat.array Try.underlying58 flat4 (by kernel_rfl)
  (fun i k hi => by match i, hi with | 0, hi => (cases hi; exact ⟨0, 0, by decide, rfl, rfl⟩) | 1, hi => (cases hi; exact ⟨1, 0, by decide, rfl, rfl⟩) | 2, hi => (cases hi; exact ⟨2, 0, by decide, rfl, rfl⟩) | i + 3, hi => (simp at hi))
theorem alive_c (W0 : World) (k : V → Heap → Prop) (hk : k (.one (.bool true)) []) : ACall Try.prog W0 39 [] [] k := by
  obtain ⟨F0, hF0⟩ : ∃ F0 : Nat → La, F0 = fun q => [exL].getD q La.zero := ⟨_, rfl⟩
  refine m_body tab_ok (fn := Try.f39) (by kernel_rfl) rfl ?_
  intro X hX
  cbv
  refine m_callq hX [0] bodied_41 (fun k2 hk2 => OneG_c W0 true [exL] (some 1) true true false 2 (fun l hl => by simp at hl; subst hl; exact ex_near) (by simp) ⟨by decide, by decide⟩ 1 (fun q => [exL].getD q La.zero) ⟨rfl, fun _ _ => rfl⟩ k2 hk2) ?_ rfl rfl (by simp [MV, MV.MVs, MC]) ?_
  · simp [MH, MB]
    simp [lc, exL, MC.MCs, MC, zi]
  rintro ⟨p, G⟩ hp
  rw [ex_one] at hp
  obtain rfl : p = 2 := hp.n
  have g0 : G 0 = ⟨0, 0, 2, 2, 4, 4, 0⟩ := hp.f 0 (by show 0 < 2; decide)
  have g1 : G 1 = ⟨2, 0, 4, 2, 0, 0, 0⟩ := hp.f 1 (by show 1 < 2; decide)
  clear hp
  cbv
  have e0 : G (X.nadd 0 (X.toN 0)) = ⟨0, 0, 2, 2, 4, 4, 0⟩ := by subst hX; exact g0
  have e1 : G (X.nadd 0 (X.toN 1)) = ⟨2, 0, 4, 2, 0, 0, 0⟩ := by subst hX; exact g1
  repeat' (first | (refine m_cond_t hX (by first | rfl | assumption | (subst hX; rfl)) ?_; cbv) | (refine m_cond_f hX (by first | rfl | assumption | (subst hX; rfl)) ?_; cbv) | (refine And.intro (by subst hX; exact ⟨by decide, by decide⟩) ?_) | (refine And.intro (by subst hX; exact (by decide : 0 + 0 < 2)) ?_) | (refine And.intro (by subst hX; exact (by decide : 0 + 1 < 2)) ?_) | (rw [e0]; cbv) | (rw [e1]; cbv) | fail)
  refine ⟨_, _, [], by simp [MH], rfl, rfl, ?_, hk⟩
  simp [MV, MC]
  subst hX
  rfl
set_option maxHeartbeats 4000000 in
theorem FoldOne_c (W0 : World) (rw : Bool) (xs : List La) (N : Nat) (c : Option Nat) (G : Nat → La) (hG : Tells N G xs) (hN : N ≤ 9223372036854775807) (n : Int) (b0 b1 b2 : Bool) (k : V → Heap → Prop) (hk : ∀ H', k (.one (.bool true)) H') :
    ACall Try.prog W0 11 [.one (.sl 0 0 N c), .one (.int .i64 n), .agg [.bool b0, .bool b1, .bool b2]] [lays rw N G] k := by
  refine m_body tab_ok (fn := Try.f11) (by kernel_rfl) rfl ?_
  intro X hX
  cbv
  refine m_callf hX [] bodied_39 (fun k2 hk2 => alive_c W0 k2 hk2) ?_ rfl rfl ?_ ?_
  · (first | (simp [MH, MB, MT, MV, MV.MVs, MC.MCs, MC, renC.renCs, renC, up]; done) | (simp [MH, MB, MT, MV, MV.MVs, MC.MCs, MC, renC.renCs, renC, up]; omega) | (simp [MH, MB, MT, MV, MV.MVs, MC.MCs, MC, renC.renCs, renC, up] <;> omega))
  · simp [MV, MV.MVs, MC, MC.MCs]
  cbv
  refine m_cond_f hX (by subst hX; rfl) ?_
  cbv
  refine m_callq hX [0] bodied_40 (fun k2 hk2 => near_c W0 rw N c G hN k2 hk2) (by simp [MH, MB, MC.MCs, MC, lc]) rfl rfl (by simp [MV, MV.MVs, MC]) ?_
  intro b hb
  cbv
  cases b with
  | false =>
    repeat' (first | (refine m_cond_t hX (by first | rfl | assumption | (subst hX; rfl)) ?_; cbv) | (refine m_cond_f hX (by first | rfl | assumption | (subst hX; rfl)) ?_; cbv) | fail)
    refine ⟨_, [lays rw N G], [some 0], ?_, rfl, rfl, ?_, hk _⟩
    · simp [MH, MB, MC.MCs, MC, lc, renC.renCs, renC]
    · simp [MV, MC]
  | true =>
    obtain ⟨hn1, hn2⟩ := hb rfl
    repeat' (first | (refine m_cond_t hX (by first | rfl | assumption | (subst hX; rfl)) ?_; cbv) | (refine m_cond_f hX (by first | rfl | assumption | (subst hX; rfl)) ?_; cbv) | fail)
    refine m_callq hX [] bodied_25 (fun k2 hk2 => In_c W0 n (-1099511627776) 1099511627776 k2 hk2) ?_ rfl rfl ?_ ?_
    · (first | (simp [MH, MB, MT, MV, MV.MVs, MC.MCs, MC, renC.renCs, renC, up]; done) | (simp [MH, MB, MT, MV, MV.MVs, MC.MCs, MC, renC.renCs, renC, up]; omega) | (simp [MH, MB, MT, MV, MV.MVs, MC.MCs, MC, renC.renCs, renC, up] <;> omega))
    · simp [MV, MV.MVs, MC, MC.MCs]
    intro b hb
    cbv
    cases b with
    | false =>
      repeat' (first | (refine m_cond_t hX (by first | rfl | assumption | (subst hX; rfl)) ?_; cbv) | (refine m_cond_f hX (by first | rfl | assumption | (subst hX; rfl)) ?_; cbv) | fail)
      refine ⟨_, [lays rw N G], [some 0], ?_, rfl, rfl, ?_, hk _⟩
      · simp [MH, MB, MC.MCs, MC, lc, renC.renCs, renC]
      · simp [MV, MC]
    | true =>
      have hnn : Nr 144115188075855872 n := ⟨by have := (hb.1 rfl).1; omega, by have := (hb.1 rfl).2; omega⟩
      have hx : ∀ l ∈ xs, l.Near 144115188075855872 := fun l hl => by
        obtain ⟨q, hq, rfl⟩ := List.mem_iff_getElem.1 hl
        have := hn1 q (by rw [hG.n]; exact hq)
        rw [hG.f q (by rw [hG.n]; exact hq), List.getD_eq_getElem?_getD, List.getElem?_eq_getElem hq] at this
        exact this.up (by decide)
      repeat' (first | (refine m_cond_t hX (by first | rfl | assumption | (subst hX; rfl)) ?_; cbv) | (refine m_cond_f hX (by first | rfl | assumption | (subst hX; rfl)) ?_; cbv) | fail)
      repeat' (refine And.intro (by subst hX; exact ⟨by decide, by decide⟩) ?_)
      have hxl : xs.length ≤ 1000000 := by have := hG.n; omega
      refine m_callq hX [0] bodied_41 (fun k2 hk2 => OneG_c W0 rw xs c b0 b1 b2 n hx hxl hnn N G hG k2 hk2) (by simp [MH, MB, MC.MCs, MC, lc, renC.renCs, renC]) rfl rfl (by simp [MV, MV.MVs, MC]) ?_
      rintro ⟨p, f⟩ hp
      replace hp : Tells p f (oneL b0 b1 b2 n xs) := hp
      cbv
      repeat' (refine And.intro (by subst hX; exact ⟨by decide, by decide⟩) ?_)
      refine m_callq hX [0] bodied_43 (fun k2 hk2 => RFoldG_c W0 rw xs c b0 b1 b2 n hx hxl hnn N G hG k2 hk2) (by simp [MH, MB, MC.MCs, MC, lc, renC.renCs, renC]) rfl rfl (by simp [MV, MV.MVs, MC]) ?_
      rintro ⟨p2, g⟩ hp2
      replace hp2 : Tells p2 g (foldL b0 b1 b2 n xs) := hp2
      rw [← one_fold b0 b1 b2 n xs fun l hl => (hx l hl).t] at hp2
      obtain rfl : p2 = p := hp2.n.trans hp.n.symm
      have hfg : ∀ q, q < p2 → f q = g q := fun q hq => (hp.f q hq).trans (hp2.f q hq).symm
      have hpl : p2 ≤ 10000000 ∧ ∀ q, q < p2 → (f q).Near 2305843009213693952 := by
        refine ⟨?_, hp.all fun z hz => (oneL_near hx hnn z hz).up (by decide)⟩
        have h1 := foldL_len b0 b1 b2 n xs
        rw [← one_fold b0 b1 b2 n xs fun l hl => (hx l hl).t] at h1
        have := hp.n
        omega
      cbv
      refine m_callf hX [2, 3] bodied_42 (fun k2 hk2 => Same_c W0 true true p2 none none f g hfg hpl.2 hpl.1 k2 hk2) (by simp [MH, MB, MC.MCs, MC, lc, renC.renCs, renC]) rfl rfl (by simp [MV, MV.MVs, MC]) ?_
      cbv
      refine ⟨_, [lays rw N G], [some 0], ?_, rfl, rfl, ?_, hk _⟩
      · simp [MH, MB, MC.MCs, MC, lc, renC.renCs, renC]
      · simp [MV, MC]
end Go.Proofs.Ytnfoibgafmeenaa.AM
