/- Layers that are folded at a line, as the reference does it, as a contract on the abstract machine. No condition but that the numbers are near and the layers few. -/
import Derived.Test.YtnfoibgafmeenaaFo17
import Derived.Test.YtnfoibgafmeenaaAm23
namespace Go.Proofs.Ytnfoibgafmeenaa.AM
open Go Go.RowKit
set_option cbv.warning false
set_option maxRecDepth 100000
set_option linter.unusedVariables false
set_option linter.unusedSimpArgs false
theorem bodied_43 : Bodied Try.prog 43 := ⟨Try.f43, by kernel_rfl, by kernel_rfl, by kernel_rfl⟩
set_option maxHeartbeats 8000000 in
theorem RFold_c (W0 : World) (rw : Bool) (xs : List La) (m : Nat) (F : Nat → List C) (hm : m = xs.length) (hF : ∀ q, q < m → F q = lc (xs.getD q La.zero)) (hFm : ∀ σ q, MC.MCs σ (F q) (F q)) (c : Option Nat) (upr low under : Bool) (n : Int) (hx : ∀ l ∈ xs, l.Near 144115188075855872) (hlen : xs.length ≤ 1000000) (hn : Nr 144115188075855872 n) (k : V → Heap → Prop)
    (hk : ∀ Z : List La, Z = foldL upr low under n xs → k (.one (.sl 1 0 Z.length none)) [some (.row rw 69 7 m F), rowL true Z]) :
    ACall Try.prog W0 43 [.one (.sl 0 0 m c), .one (.bool upr), .one (.int .i64 n), .one (.bool low), .one (.bool under)] [some (.row rw 69 7 m F)] k := by
  obtain ⟨A0, hA0⟩ : ∃ A0 : List La, A0 = (if under then xs.filterMap (halfL upr n (!low)) else []) := ⟨_, rfl⟩
  have hA0n : A0.length ≤ 1000000 := by
    rw [hA0]
    cases under
    · simp
    · exact Nat.le_trans (List.length_filterMap_le _ _) hlen
  obtain ⟨A1, hA1⟩ : ∃ A1 : List La, A1 = A0 ++ xs.reverse.filterMap (fun l => (halfL upr n low l).map (layF upr n)) := ⟨_, rfl⟩
  have hA1n : A1.length ≤ 2000000 := by
    rw [hA1, List.length_append]
    have := List.length_filterMap_le (fun l => (halfL upr n low l).map (layF upr n)) xs.reverse
    rw [List.length_reverse] at this
    omega
  obtain ⟨fa, hfa⟩ : ∃ fa, fa = fT upr := ⟨_, rfl⟩
  obtain ⟨fb, hfb⟩ : ∃ fb, fb = fX upr n := ⟨_, rfl⟩
  obtain ⟨fc, hfc⟩ : ∃ fc, fc = fY upr n := ⟨_, rfl⟩
  refine m_body tab_ok (fn := Try.f43) (by kernel_rfl) rfl ?_
  intro X hX
  cbv
  have e2n := mul2N (hn.up (L := 2305843009213693952) (by decide)) (by decide) hX

  refine m_join (X := X) (c := ?cc) (k := ?kk) (fun T H => H.length = 2 ∧ ∃ b : Nat × Int × Nat × (Nat → La), FI under [] (halfL upr n (!low)) xs b.1 b.2.1 b.2.2.1 b.2.2.2 ∧ As 2 T H (([.one (.sl 0 0 m c), .one (.bool upr), .one (.int .i64 n), .one (.bool low), .one (.bool under)] ++ List.replicate 5 (.one .undef) ++ [.one .nils, .one (.ptr 1 0 0), .one (.sl 2 0 b.2.2.1 none)] ++ [.one (.int .i64 b.2.1)] ++ List.replicate 98 (.one .undef), [some (.row rw 69 7 m F), some (.box 67 [.int .i64 fa, .int .i64 fb, .int .i64 fc]), lays true b.2.2.1 b.2.2.2]) : List V × Heap).1 (([.one (.sl 0 0 m c), .one (.bool upr), .one (.int .i64 n), .one (.bool low), .one (.bool under)] ++ List.replicate 5 (.one .undef) ++ [.one .nils, .one (.ptr 1 0 0), .one (.sl 2 0 b.2.2.1 none)] ++ [.one (.int .i64 b.2.1)] ++ List.replicate 98 (.one .undef), [some (.row rw 69 7 m F), some (.box 67 [.int .i64 fa, .int .i64 fb, .int .i64 fc]), lays true b.2.2.1 b.2.2.2]) : List V × Heap).2) (fun key => ?g1) ?g2
  case g1 =>
    refine m_cond hX (fun hu => ?_) (fun hu => ?_) <;> cbv
    all_goals
      refine key _ _ ?_
      refine ⟨rfl, ⟨0, 0, 0, fun _ => La.zero⟩, ⟨by omega, rfl, fun _ => rfl, ⟨by simp, fun q hq => absurd hq (by simp)⟩, by simp⟩, [some 0, some 1, none], ?_, rfl, rfl, ?_⟩
      · rw [hfa, hfb, hfc, hu]
        simp [MH, MB, MC.MCs, MC, hFm, fT, fX, fY]
        try exact e2n.symm
      · simp [MT, MV.MVs, MV, MC]
  rintro T H ⟨hN, hTH⟩
  refine m_loopX tab_ok hX 0 (fun b : Nat × Int × Nat × (Nat → La) => FI under [] (halfL upr n (!low)) xs b.1 b.2.1 b.2.2.1 b.2.2.2) (fun b => ([.one (.sl 0 0 m c), .one (.bool upr), .one (.int .i64 n), .one (.bool low), .one (.bool under)] ++ List.replicate 5 (.one .undef) ++ [.one .nils, .one (.ptr 1 0 0), .one (.sl 2 0 b.2.2.1 none)] ++ [.one (.int .i64 b.2.1)] ++ List.replicate 98 (.one .undef), [some (.row rw 69 7 m F), some (.box 67 [.int .i64 fa, .int .i64 fb, .int .i64 fc]), lays true b.2.2.1 b.2.2.2])) (fun b => m - b.1) (fun b : Nat × (Nat → La) => Tells b.1 b.2 (A0)) (fun b => ([.one (.sl 0 0 m c), .one (.bool upr), .one (.int .i64 n), .one (.bool low), .one (.bool under)] ++ List.replicate 5 (.one .undef) ++ [.one .nils, .one (.ptr 1 0 0), .one (.sl 2 0 b.1 none)] ++ [.one .undef] ++ List.replicate 98 (.one .undef), [some (.row rw 69 7 m F), some (.box 67 [.int .i64 fa, .int .i64 fb, .int .i64 fc]), lays true b.1 b.2])) hN hTH ?_ ?_
  ·
    rintro ⟨a, i, u, f⟩ hb
    replace hb : FI under [] (halfL upr n (!low)) xs a i u f := hb
    cbv
    refine m_cond hX (fun h => ?_) (fun h => ?_) <;> cbv
    ·
      refine m_cond hX (fun h2 => ?_) (fun h2 => ?_) <;> cbv
      · have hun : under = true := by
          subst hX
          have h3 : cmpS .lss i ↑m = true ∧ under = true := by simpa [std] using h2
          exact h3.2
        have hon : under = true := by exact hun
        have hh : (0 ≤ i ∧ i < m) ∧ i.toNat = a ∧ a < m ∧ i.toNat < m := by
          obtain ⟨g1, g2, g5, g3, g4⟩ := hb
          have him : i < m := by subst hX; simpa [std, cmpS] using h
          omega
        obtain ⟨hh1, hh2, hh3, hh4⟩ := hh
        refine ⟨by subst hX; exact hh1, by subst hX; show 0 + i.toNat < m; omega, ?_⟩
        obtain ⟨l, hl⟩ : ∃ l, l = xs.getD i.toNat La.zero := ⟨_, rfl⟩
        have hln : l.Near 144115188075855872 := hx l (by
          rw [hl, List.getD_eq_getElem?_getD, List.getElem?_eq_getElem (by omega)]
          exact List.getElem_mem _)
        have e : F (X.nadd 0 (X.toN i)) = lc l := by
          subst hX
          show F (0 + i.toNat) = _
          rw [hF _ (by omega), hl, Nat.zero_add]
        rw [e]
        cbv
        refine m_callq hX [] bodied_61 (fun k2 hk2 => RHalfG_c W0 upr (!low) n l (hln.up (by decide)) (hn.up (by decide)) k2 hk2) (by simp [MH]) rfl rfl (by simp [MV, MV.MVs, MC.MCs, MC, lc] <;> (subst hX; cases low <;> rfl)) ?_
        rintro ⟨e2, z⟩ hz
        replace hz : IsHalf upr n (!low) l e2 z := hz
        cbv
        obtain ⟨hz⟩ := hz
        cases e2 with
        | false =>
          replace hz : halfL upr n (!low) l = none := hz.elim (fun h => h.2) (fun h => by cases h.1)
          refine m_cond_f hX (by subst hX; rfl) ?_
          cbv
          have hl2 : l = xs.getD a La.zero := by rw [hl, hh2]
          have hs : [] ++ (xs.take (a + 1)).filterMap (halfL upr n (!low)) = _ := filterMap_none (by omega) hl2 hz
          obtain ⟨g1, g2, g5, g3, g4⟩ := hb
          refine ⟨⟨a + 1, i + 1, u, f⟩, ?_, ?_, [some 0, some 1, some 2], ?_, rfl, rfl, ?_⟩
          · exact ⟨by omega, by show i + 1 = ((a + 1 : Nat) : Int); omega, fun h => absurd (hon.symm.trans h) (by decide), by rw [hs]; exact g3, by show u ≤ ([] : List La).length + (a + 1); omega⟩
          · show m - (a + 1) < m - a; omega
          · simp [MH, MB, MC.MCs, MC, hFm, lc]
          · subst hX
            simp [MT, MV.MVs, MV, MC, std, binS]
            exact (wrap_eq (by omega) (by omega)).symm
        | true =>
          replace hz : halfL upr n (!low) l = some z := hz.elim (fun h => by cases h.1) (fun h => h.2)
          refine m_cond_t hX (by subst hX; rfl) ?_
          cbv
          have hl2 : l = xs.getD a La.zero := by rw [hl, hh2]
          have hs : [] ++ (xs.take (a + 1)).filterMap (halfL upr n (!low)) = _ := filterMap_some (by omega) hl2 hz
          obtain ⟨f', k1, k2, k3⟩ := hb.eO.snoc z
          obtain ⟨g1, g2, g5, g3, g4⟩ := hb
          have hAl : u ≤ 3000000 := by simp at g4; omega
          refine m_append tab_ok hX (u + 1) (fun q => lc (f' q)) rfl rfl rfl rfl rfl rfl (by decide) rfl rfl rfl ?_ ?_
          · refine ⟨by omega, by omega, by omega, by show (u + 1) * 56 ≤ _; omega, by omega, fun q hq => ?_, fun q hq => by simp only [Nat.zero_add, k2 q hq], fun q hq => ?_⟩
            · obtain rfl : q = 0 := by omega
              rfl
            · obtain rfl : q = 0 := by omega
              show lc (f' (u + 0)) = _
              rw [Nat.add_zero, k3]
              rfl
          cbv
          refine ⟨⟨a + 1, i + 1, u + 1, f'⟩, ?_, ?_, [some 0, some 1, some 5], ?_, rfl, rfl, ?_⟩
          · exact ⟨by omega, by show i + 1 = ((a + 1 : Nat) : Int); omega, fun h => absurd (hon.symm.trans h) (by decide), by rw [hs]; exact k1, by show u + 1 ≤ ([] : List La).length + (a + 1); omega⟩
          · show m - (a + 1) < m - a; omega
          · simp [MH, MB, MC.MCs, MC, hFm, lc]
          · subst hX
            simp [MT, MV.MVs, MV, MC, std, binS]
            exact (wrap_eq (by omega) (by omega)).symm
      · have hun : ¬ under = true := by
          subst hX
          have h3 : cmpS .lss i ↑m = true → ¬ under = true := by simpa [std] using h2
          exact h3 (by simpa [std] using h)
        have hE : Tells u f (A0) := by
          obtain ⟨g1, g2, g5, g3, g4⟩ := hb
          have a0 : a = 0 := g5 (by simpa using hun)
          subst a0
          rw [hA0, if_neg hun]
          simpa using g3
        refine ⟨⟨u, f⟩, hE, [some 0, some 1, some 2], ?_, rfl, rfl, ?_⟩
        · simp [MH, MB, MC.MCs, MC, hFm, lc]
        · simp [MT, MV.MVs, MV, MC]
    ·
      refine m_cond_f hX h ?_
      cbv
      refine m_cond_f hX (by subst hX; rfl) ?_
      cbv
      have him : ¬ i < m := by subst hX; simpa [std, cmpS] using h
      have hE : Tells u f (A0) := by
        obtain ⟨g1, g2, g5, g3, g4⟩ := hb
        have e0 : xs.take a = xs := List.take_of_length_le (by omega)
        rw [e0] at g3
        cases under with
        | true => rw [hA0]; simpa using g3
        | false =>
          have a0 := g5 rfl
          have : xs = [] := List.eq_nil_of_length_eq_zero (by omega)
          rw [hA0, this]
          rw [this] at g3
          simpa using g3
      refine ⟨⟨u, f⟩, hE, [some 0, some 1, some 2], ?_, rfl, rfl, ?_⟩
      · simp [MH, MB, MC.MCs, MC, hFm, lc]
      · simp [MT, MV.MVs, MV, MC]
  rintro ⟨u, f⟩ hE
  replace hE : Tells u f (A0) := hE
  cbv
  refine m_loopX tab_ok hX 2 (fun b : Nat × Int × Nat × (Nat → La) => FD A0 (fun l => (halfL upr n low l).map (layF upr n)) xs b.1 b.2.1 b.2.2.1 b.2.2.2) (fun b => ([.one (.sl 0 0 m c), .one (.bool upr), .one (.int .i64 n), .one (.bool low), .one (.bool under)] ++ List.replicate 5 (.one .undef) ++ [.one .nils, .one (.ptr 1 0 0), .one (.sl 3 0 b.2.2.1 none)] ++ List.replicate 3 (.one .undef) ++ [.one (.int .i64 b.2.1)] ++ List.replicate 95 (.one .undef), [some (.row rw 69 7 m F), some (.box 67 [.int .i64 fa, .int .i64 fb, .int .i64 fc]), none, lays true b.2.2.1 b.2.2.2])) (fun b => m - b.1) (fun b : Nat × (Nat → La) => Tells b.1 b.2 (A1)) (fun b => ([.one (.sl 0 0 m c), .one (.bool upr), .one (.int .i64 n), .one (.bool low), .one (.bool under)] ++ List.replicate 5 (.one .undef) ++ [.one .nils, .one (.ptr 1 0 0), .one (.sl 3 0 b.1 none)] ++ List.replicate 3 (.one .undef) ++ [.one .undef] ++ List.replicate 95 (.one .undef), [some (.row rw 69 7 m F), some (.box 67 [.int .i64 fa, .int .i64 fb, .int .i64 fc]), none, lays true b.1 b.2])) rfl ?_ ?_ ?_
  ·
    refine ⟨⟨0, (m : Int) - 1, u, f⟩, ⟨by omega, by show (m : Int) - 1 = (xs.length : Int) - 1 - ((0 : Nat) : Int); omega, by simpa using hE, by have := hE.n; show u ≤ A0.length + 0; omega⟩, [some 0, some 1, some 2, some 2], ?_, rfl, rfl, ?_⟩
    · simp [MH, MB, MC.MCs, MC, hFm, lc]
    · subst hX
      simp [MT, MV.MVs, MV, MC, std, binS]
      exact (wrap_eq (by omega) (by omega)).symm
  ·
    rintro ⟨a, i, u, f⟩ hb
    replace hb : FD A0 (fun l => (halfL upr n low l).map (layF upr n)) xs a i u f := hb
    cbv
    refine m_cond hX (fun h => ?_) (fun h => ?_) <;> cbv
    · have hh : (0 ≤ i ∧ i < m) ∧ i.toNat = m - 1 - a ∧ a < m ∧ i.toNat < m := by
        obtain ⟨g1, g2, g3, g4⟩ := hb
        have : 0 ≤ i := by subst hX; simpa [std, cmpS] using h
        omega
      obtain ⟨hh1, hh2, hh3, hh4⟩ := hh
      refine ⟨by subst hX; exact hh1, by subst hX; show 0 + i.toNat < m; omega, ?_⟩
      obtain ⟨l, hl⟩ : ∃ l, l = xs.getD i.toNat La.zero := ⟨_, rfl⟩
      have hln : l.Near 144115188075855872 := hx l (by
        rw [hl, List.getD_eq_getElem?_getD, List.getElem?_eq_getElem (by omega)]
        exact List.getElem_mem _)
      have e : F (X.nadd 0 (X.toN i)) = lc l := by
        subst hX
        show F (0 + i.toNat) = _
        rw [hF _ (by omega), hl, Nat.zero_add]
      rw [e]
      cbv
      refine m_callq hX [] bodied_61 (fun k2 hk2 => RHalfG_c W0 upr low n l (hln.up (by decide)) (hn.up (by decide)) k2 hk2) (by simp [MH]) rfl rfl (by simp [MV, MV.MVs, MC.MCs, MC, lc] <;> (subst hX; cases low <;> rfl)) ?_
      rintro ⟨e2, z⟩ hz
      replace hz : IsHalf upr n low l e2 z := hz
      cbv
      obtain ⟨hz⟩ := hz
      cases e2 with
      | false =>
        replace hz : halfL upr n low l = none := hz.elim (fun h => h.2) (fun h => by cases h.1)
        refine m_cond_f hX (by subst hX; rfl) ?_
        cbv
        have hl2 : l = xs.reverse.getD a La.zero := by rw [getD_reverse (by omega), hl]; congr 1; omega
        have hs : A0 ++ (xs.reverse.take (a + 1)).filterMap (fun l => (halfL upr n low l).map (layF upr n)) = _ := filterMap_none (by rw [List.length_reverse]; omega) hl2 (by rw [hz]; rfl)
        obtain ⟨g1, g2, g3, g4⟩ := hb
        refine ⟨⟨a + 1, i - 1, u, f⟩, ?_, ?_, [some 0, some 1, some 2, some 3], ?_, rfl, rfl, ?_⟩
        · exact ⟨by omega, by show i - 1 = (xs.length : Int) - 1 - ((a + 1 : Nat) : Int); omega, by rw [hs]; exact g3, by show u ≤ A0.length + (a + 1); omega⟩
        · show m - (a + 1) < m - a; omega
        · simp [MH, MB, MC.MCs, MC, hFm, lc]
        · subst hX
          simp [MT, MV.MVs, MV, MC, std, binS]
          exact (wrap_eq (by omega) (by omega)).symm
      | true =>
        replace hz : halfL upr n low l = some z := hz.elim (fun h => by cases h.1) (fun h => h.2)
        refine m_cond_t hX (by subst hX; rfl) ?_
        cbv
        have hl2 : l = xs.reverse.getD a La.zero := by rw [getD_reverse (by omega), hl]; congr 1; omega
        have hs : A0 ++ (xs.reverse.take (a + 1)).filterMap (fun l => (halfL upr n low l).map (layF upr n)) = _ := filterMap_some (by rw [List.length_reverse]; omega) hl2 (by rw [hz]; rfl)
        have hzn : z.Near 576460752303423488 := halfL_near hln hn hz
        obtain ⟨f', k1, k2, k3⟩ := hb.eO.snoc (layF upr n z)
        obtain ⟨g1, g2, g3, g4⟩ := hb
        refine m_gen (A := X.draw _ _ _) fun K1 hK1 => ?_
        refine m_drawT tab_ok hX [] [9] (.one 0 0 (.one 1 0 (.one 3 0 (.one 2 1 (.one 4 1 (.one 5 1 (.one 6 2 (.one 7 0 (.one 8 2 (.one 9 3 (.one 10 0 .fin))))))))))) (by kernel_rfl) (by simp) ?_
        cbv
        refine m_callq hX [] bodied_62 (fun k2 hk2 => RThen_c W0 z.t z.X z.Y fa fb fc hzn.t (hfa ▸ fT_tu upr) (hzn.X.up (by decide)) (hzn.Y.up (by decide)) (hfb ▸ (fX_nr hn).up (by decide)) (hfc ▸ (fY_nr hn).up (by decide)) k2 hk2) (by simp [MH]) rfl rfl (by simp [MV, MV.MVs, MC.MCs, MC]) ?_
        intro q hq
        obtain ⟨q0, q1, q2⟩ := q
        replace hq : IsThen z.t z.X z.Y fa fb fc q0 q1 q2 := hq
        have hy := hq.layF ⟨hfa, hfb, hfc⟩
        cbv
        have hAl : u ≤ 3000000 := by omega
        refine m_append tab_ok hX (u + 1) (fun q => lc (f' q)) rfl rfl rfl rfl rfl rfl (by decide) rfl rfl rfl ?_ ?_
        · refine ⟨by omega, by omega, by omega, by show (u + 1) * 56 ≤ _; omega, by omega, fun q hq => ?_, fun q hq => by simp only [Nat.zero_add, k2 q hq], fun q hq => ?_⟩
          · obtain rfl : q = 0 := by omega
            rfl
          · obtain rfl : q = 0 := by omega
            show lc (f' (u + 0)) = _
            rw [Nat.add_zero, k3, ← hy]
            rfl
        cbv
        refine hK1 _ _ ?_
        cbv
        refine ⟨⟨a + 1, i - 1, u + 1, f'⟩, ?_, ?_, [some 0, some 1, some 2, some 6], ?_, rfl, rfl, ?_⟩
        · exact ⟨by omega, by show i - 1 = (xs.length : Int) - 1 - ((a + 1 : Nat) : Int); omega, by rw [hs]; exact k1, by show u + 1 ≤ A0.length + (a + 1); omega⟩
        · show m - (a + 1) < m - a; omega
        · simp [MH, MB, MC.MCs, MC, hFm, lc]
        · subst hX
          simp [MT, MV.MVs, MV, MC, std, binS]
          exact (wrap_eq (by omega) (by omega)).symm
    · have hE : Tells u f A1 := by
        obtain ⟨g1, g2, g3, g4⟩ := hb
        have : ¬ 0 ≤ i := by subst hX; simpa [std, cmpS] using h
        have e0 : xs.reverse.take a = xs.reverse := List.take_of_length_le (by rw [List.length_reverse]; omega)
        rw [e0, ← hA1] at g3
        exact g3
      refine ⟨⟨u, f⟩, hE, [some 0, some 1, some 2, some 3], ?_, rfl, rfl, ?_⟩
      · simp [MH, MB, MC.MCs, MC, hFm, lc]
      · simp [MT, MV.MVs, MV, MC]
  rintro ⟨u, f⟩ hE
  replace hE : Tells u f (A1) := hE
  cbv
  refine m_loopX tab_ok hX 4 (fun b : Nat × Int × Nat × (Nat → La) => FI (!under) A1 (halfL upr n (!low)) xs b.1 b.2.1 b.2.2.1 b.2.2.2) (fun b => ([.one (.sl 0 0 m c), .one (.bool upr), .one (.int .i64 n), .one (.bool low), .one (.bool under)] ++ List.replicate 5 (.one .undef) ++ [.one .nils, .one (.ptr 1 0 0), .one (.sl 4 0 b.2.2.1 none)] ++ List.replicate 6 (.one .undef) ++ [.one (.int .i64 b.2.1)] ++ List.replicate 92 (.one .undef), [some (.row rw 69 7 m F), some (.box 67 [.int .i64 fa, .int .i64 fb, .int .i64 fc]), none, none, lays true b.2.2.1 b.2.2.2])) (fun b => m - b.1) (fun b : Nat × (Nat → La) => Tells b.1 b.2 (A1 ++ (if under then [] else xs.filterMap (halfL upr n (!low))))) (fun b => ([.one (.sl 0 0 m c), .one (.bool upr), .one (.int .i64 n), .one (.bool low), .one (.bool under)] ++ List.replicate 5 (.one .undef) ++ [.one .nils, .one (.ptr 1 0 0), .one (.sl 4 0 b.1 none)] ++ List.replicate 6 (.one .undef) ++ [.one .undef] ++ List.replicate 92 (.one .undef), [some (.row rw 69 7 m F), some (.box 67 [.int .i64 fa, .int .i64 fb, .int .i64 fc]), none, none, lays true b.1 b.2])) rfl ?_ ?_ ?_
  ·
    refine ⟨⟨0, 0, u, f⟩, ⟨by omega, rfl, fun _ => rfl, by simpa using hE, by have := hE.n; show u ≤ A1.length + 0; omega⟩, [some 0, some 1, some 2, some 3, some 3], ?_, rfl, rfl, ?_⟩
    · simp [MH, MB, MC.MCs, MC, hFm, lc]
    · simp [MT, MV.MVs, MV, MC]
  ·
    rintro ⟨a, i, u, f⟩ hb
    replace hb : FI (!under) A1 (halfL upr n (!low)) xs a i u f := hb
    cbv
    refine m_cond hX (fun h => ?_) (fun h => ?_) <;> cbv
    ·
      refine m_cond_t hX h ?_
      cbv
      refine m_cond hX (fun h2 => ?_) (fun h2 => ?_) <;> cbv
      · have hun : under = false := by
          subst hX
          have h3 : cmpS .lss i ↑m = true ∧ under = false := by simpa [std] using h2
          exact h3.2
        have hon : (!under) = true := by rw [hun]; rfl
        have hh : (0 ≤ i ∧ i < m) ∧ i.toNat = a ∧ a < m ∧ i.toNat < m := by
          obtain ⟨g1, g2, g5, g3, g4⟩ := hb
          have him : i < m := by subst hX; simpa [std, cmpS] using h
          omega
        obtain ⟨hh1, hh2, hh3, hh4⟩ := hh
        refine ⟨by subst hX; exact hh1, by subst hX; show 0 + i.toNat < m; omega, ?_⟩
        obtain ⟨l, hl⟩ : ∃ l, l = xs.getD i.toNat La.zero := ⟨_, rfl⟩
        have hln : l.Near 144115188075855872 := hx l (by
          rw [hl, List.getD_eq_getElem?_getD, List.getElem?_eq_getElem (by omega)]
          exact List.getElem_mem _)
        have e : F (X.nadd 0 (X.toN i)) = lc l := by
          subst hX
          show F (0 + i.toNat) = _
          rw [hF _ (by omega), hl, Nat.zero_add]
        rw [e]
        cbv
        refine m_callq hX [] bodied_61 (fun k2 hk2 => RHalfG_c W0 upr (!low) n l (hln.up (by decide)) (hn.up (by decide)) k2 hk2) (by simp [MH]) rfl rfl (by simp [MV, MV.MVs, MC.MCs, MC, lc] <;> (subst hX; cases low <;> rfl)) ?_
        rintro ⟨e2, z⟩ hz
        replace hz : IsHalf upr n (!low) l e2 z := hz
        cbv
        obtain ⟨hz⟩ := hz
        cases e2 with
        | false =>
          replace hz : halfL upr n (!low) l = none := hz.elim (fun h => h.2) (fun h => by cases h.1)
          refine m_cond_f hX (by subst hX; rfl) ?_
          cbv
          have hl2 : l = xs.getD a La.zero := by rw [hl, hh2]
          have hs : A1 ++ (xs.take (a + 1)).filterMap (halfL upr n (!low)) = _ := filterMap_none (by omega) hl2 hz
          obtain ⟨g1, g2, g5, g3, g4⟩ := hb
          refine ⟨⟨a + 1, i + 1, u, f⟩, ?_, ?_, [some 0, some 1, some 2, some 3, some 4], ?_, rfl, rfl, ?_⟩
          · exact ⟨by omega, by show i + 1 = ((a + 1 : Nat) : Int); omega, fun h => absurd (hon.symm.trans h) (by decide), by rw [hs]; exact g3, by show u ≤ A1.length + (a + 1); omega⟩
          · show m - (a + 1) < m - a; omega
          · simp [MH, MB, MC.MCs, MC, hFm, lc]
          · subst hX
            simp [MT, MV.MVs, MV, MC, std, binS]
            exact (wrap_eq (by omega) (by omega)).symm
        | true =>
          replace hz : halfL upr n (!low) l = some z := hz.elim (fun h => by cases h.1) (fun h => h.2)
          refine m_cond_t hX (by subst hX; rfl) ?_
          cbv
          have hl2 : l = xs.getD a La.zero := by rw [hl, hh2]
          have hs : A1 ++ (xs.take (a + 1)).filterMap (halfL upr n (!low)) = _ := filterMap_some (by omega) hl2 hz
          obtain ⟨f', k1, k2, k3⟩ := hb.eO.snoc z
          obtain ⟨g1, g2, g5, g3, g4⟩ := hb
          have hAl : u ≤ 3000000 := by omega
          refine m_append tab_ok hX (u + 1) (fun q => lc (f' q)) rfl rfl rfl rfl rfl rfl (by decide) rfl rfl rfl ?_ ?_
          · refine ⟨by omega, by omega, by omega, by show (u + 1) * 56 ≤ _; omega, by omega, fun q hq => ?_, fun q hq => by simp only [Nat.zero_add, k2 q hq], fun q hq => ?_⟩
            · obtain rfl : q = 0 := by omega
              rfl
            · obtain rfl : q = 0 := by omega
              show lc (f' (u + 0)) = _
              rw [Nat.add_zero, k3]
              rfl
          cbv
          refine ⟨⟨a + 1, i + 1, u + 1, f'⟩, ?_, ?_, [some 0, some 1, some 2, some 3, some 7], ?_, rfl, rfl, ?_⟩
          · exact ⟨by omega, by show i + 1 = ((a + 1 : Nat) : Int); omega, fun h => absurd (hon.symm.trans h) (by decide), by rw [hs]; exact k1, by show u + 1 ≤ A1.length + (a + 1); omega⟩
          · show m - (a + 1) < m - a; omega
          · simp [MH, MB, MC.MCs, MC, hFm, lc]
          · subst hX
            simp [MT, MV.MVs, MV, MC, std, binS]
            exact (wrap_eq (by omega) (by omega)).symm
      · have hun : ¬ under = false := by
          subst hX
          have h3 : cmpS .lss i ↑m = true → ¬ under = false := by simpa [std] using h2
          exact h3 (by simpa [std] using h)
        have hE : Tells u f (A1 ++ (if under then [] else xs.filterMap (halfL upr n (!low)))) := by
          obtain ⟨g1, g2, g5, g3, g4⟩ := hb
          have a0 : a = 0 := g5 (by simpa using hun)
          subst a0
          have hun2 : under = true := by simpa using hun
          rw [if_pos hun2]
          simpa using g3
        refine ⟨⟨u, f⟩, hE, [some 0, some 1, some 2, some 3, some 4], ?_, rfl, rfl, ?_⟩
        · simp [MH, MB, MC.MCs, MC, hFm, lc]
        · simp [MT, MV.MVs, MV, MC]
    ·
      refine m_cond_f hX h ?_
      cbv
      refine m_cond_f hX h ?_
      cbv
      refine m_cond_f hX (by subst hX; rfl) ?_
      cbv
      have him : ¬ i < m := by subst hX; simpa [std, cmpS] using h
      have hE : Tells u f (A1 ++ (if under then [] else xs.filterMap (halfL upr n (!low)))) := by
        obtain ⟨g1, g2, g5, g3, g4⟩ := hb
        have e0 : xs.take a = xs := List.take_of_length_le (by omega)
        rw [e0] at g3
        cases under with
        | false => simpa using g3
        | true =>
          have a0 := g5 rfl
          have : xs = [] := List.eq_nil_of_length_eq_zero (by omega)
          rw [this] at g3
          simpa using g3
      refine ⟨⟨u, f⟩, hE, [some 0, some 1, some 2, some 3, some 4], ?_, rfl, rfl, ?_⟩
      · simp [MH, MB, MC.MCs, MC, hFm, lc]
      · simp [MT, MV.MVs, MV, MC]
  rintro ⟨u, f⟩ hE
  replace hE : Tells u f (A1 ++ (if under then [] else xs.filterMap (halfL upr n (!low)))) := hE
  cbv
  have hZ2 : foldL upr low under n xs = A1 ++ (if under then [] else xs.filterMap (halfL upr n (!low))) := by unfold foldL; rw [hA1, hA0]
  obtain ⟨Z, hZ⟩ : ∃ Z, Z = foldL upr low under n xs := ⟨_, rfl⟩
  have hk2 := hk Z hZ
  rw [← hZ2, ← hZ] at hE
  have hEn := hE.n
  rw [← hEn] at hk2
  refine ⟨_, _, [some 0, some 4], ?_, rfl, rfl, ?_, hk2⟩
  · have hEf := hE.f
    simp [MH, MB, MC.MCs, MC, hFm]
    intro q hq
    have := hEf q hq
    simp only [List.getD_eq_getElem?_getD] at this
    rw [← this]
    simp [MC.MCs, MC, lc]
  · simp [MV, MC]
end Go.Proofs.Ytnfoibgafmeenaa.AM
