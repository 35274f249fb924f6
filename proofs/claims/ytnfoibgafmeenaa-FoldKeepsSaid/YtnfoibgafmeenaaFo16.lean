/- Layers that are folded at a line, as the program does it, as a contract on the abstract machine. No condition but that the numbers are near and the layers few. -/
import Derived.Test.YtnfoibgafmeenaaFo15
namespace Go.Proofs.Ytnfoibgafmeenaa.AM
open Go Go.RowKit
set_option cbv.warning false
set_option maxRecDepth 100000
set_option linter.unusedVariables false
set_option linter.unusedSimpArgs false
theorem CutE_c (W0 : World) (upr : Bool) (n : Int) (l : La) (hl : l.Near 576460752303423488) (hat : Nr 576460752303423488 n) (he : l.emp) (k : V → Heap → Prop) (hk : k (.one .nils) []) : ACall Try.prog W0 56 [.agg (lc l), .one (.bool upr), .one (.int .i64 n)] [] k :=
  Cut_c W0 upr n l.t l.X l.Y l.x0 l.y0 l.x1 l.y1 l.a l.b l.c l.d l.box hl.t hl.X hl.Y hl.x0 hl.y0 hl.x1 hl.y1 hat k (fun _ => hk) (fun h _ => absurd he h) (fun h _ => absurd he h)
set_option maxHeartbeats 4000000 in
theorem One_c (W0 : World) (rw : Bool) (xs : List La) (m : Nat) (F : Nat → List C) (hm : m = xs.length) (hF : ∀ q, q < m → F q = lc (xs.getD q La.zero)) (hFm : ∀ σ q, MC.MCs σ (F q) (F q)) (c : Option Nat) (upr low under : Bool) (n : Int) (hx : ∀ l ∈ xs, l.Near 144115188075855872) (hlen : xs.length ≤ 1000000) (hn : Nr 144115188075855872 n) (k : V → Heap → Prop)
    (hk : ∀ Z : List La, Z = oneL upr low under n xs → k (.one (.sl 1 0 Z.length none)) [some (.row rw 69 7 m F), rowL true Z]) :
    ACall Try.prog W0 41 [.one (.sl 0 0 m c), .one (.bool upr), .one (.int .i64 n), .one (.bool low), .one (.bool under)] [some (.row rw 69 7 m F)] k := by
  refine m_body tab_ok (fn := Try.f41) (by kernel_rfl) rfl ?_
  intro X hX
  cbv
  refine m_loop tab_ok hX (fun b : Nat × Int × Nat × (Nat → La) × Nat × (Nat → La) => OneI upr low n xs b.1 b.2.1 b.2.2.1 b.2.2.2.1 b.2.2.2.2.1 b.2.2.2.2.2) (fun b => ([.one (.sl 0 0 m c), .one (.bool upr), .one (.int .i64 n), .one (.bool low), .one (.bool under)] ++ List.replicate 5 (.one .undef) ++ [.one .nils, .one (.ptr 1 0 0), .one (.sl 2 0 b.2.2.1 none), .one (.sl 3 0 b.2.2.2.2.1 none)] ++ List.replicate 8 (.one .undef) ++ [.one (.sl 0 0 m c), .one (.int .i64 m), .one (.int .i64 b.2.1)] ++ List.replicate 37 (.one .undef), [some (.row rw 69 7 m F), some (.box 93 [.bool upr, .int .i64 n, .bool low]), lays true b.2.2.1 b.2.2.2.1, lays true b.2.2.2.2.1 b.2.2.2.2.2])) (fun b => m - b.1) ?_ ?_
  · refine ⟨⟨0, 0, 0, fun _ => La.zero, 0, fun _ => La.zero⟩, ⟨by omega, rfl, ⟨by simp [mvL], fun q hq => absurd hq (by simp)⟩, ⟨by simp [rsL], fun q hq => absurd hq (by simp)⟩, by simp⟩, [some 0, some 1, none, none], ?_, rfl, rfl, ?_⟩
    · simp [MH, MB, MC.MCs, MC, hFm]
    · simp [MT, MV.MVs, MV, MC]
      subst hX; rfl
  · rintro ⟨a, i, u, f, v, g⟩ hb
    replace hb : OneI upr low n xs a i u f v g := hb
    cbv
    refine m_cond hX (fun h => ?_) (fun h => ?_) <;> cbv
    · have hh : (0 ≤ i ∧ i < m) ∧ i.toNat = a ∧ a < m := by
        obtain ⟨g1, g2, g3, g4, g5⟩ := hb
        have : i < m := by subst hX; simpa [std, cmpS] using h
        omega
      obtain ⟨hh1, hh2, hh3⟩ := hh
      refine ⟨by subst hX; exact hh1, by subst hX; show 0 + i.toNat < m; omega, ?_⟩
      obtain ⟨l, hl⟩ : ∃ l, l = xs.getD a La.zero := ⟨_, rfl⟩
      have hln : l.Near 144115188075855872 := hx l (by
        rw [hl, List.getD_eq_getElem?_getD, List.getElem?_eq_getElem (by omega)]
        exact List.getElem_mem _)
      have e : F (X.nadd 0 (X.toN i)) = lc l := by
        subst hX
        show F (0 + i.toNat) = _
        rw [hF _ (by omega), hl, hh2, Nat.zero_add]
      rw [e]
      cbv
      by_cases he : l.emp
      ·
        refine m_callf hX [] bodied_56 (fun k2 hk2 => CutE_c W0 upr n l (hln.up (by decide)) (hn.up (by decide)) he k2 hk2) (by simp [MH]) rfl rfl (by simp only [MV, MV.MVs, MC, and_true, true_and]; exact lc_MC _ _) ?_
        cbv
        refine m_rounds [()] tab_ok hX ?_
        refine aloop_step fun L0 hL0 K0 hK0 => ?_
        cbv
        refine m_cond_f hX (by subst hX; rfl) ?_
        cbv
        refine hK0 _ _ _ _ ?_
        cbv
        refine ⟨⟨a + 1, i + 1, u, f, v, g⟩, ?_, ?_, [some 0, some 1, some 2, some 3], ?_, rfl, rfl, ?_⟩
        · obtain ⟨g1, g2, g3, g4, g5⟩ := hb
          have e1 : cutL upr n l = [] := by unfold cutL; rw [if_pos he]
          have e2 : (xs.take (a + 1)).flatMap (cutL upr n) = (xs.take a).flatMap (cutL upr n) := by
            rw [getD_take_succ xs a (by omega), List.flatMap_append, ← hl]
            simp [e1]
          exact ⟨by omega, by show i + 1 = ((a + 1 : Nat) : Int); omega, by rw [e2]; exact g3, by rw [e2]; exact g4, by show u + v ≤ 2 * (a + 1); omega⟩
        · show m - (a + 1) < m - a; omega
        · simp [MH, MB, MC.MCs, MC, hFm, lc_MC]
        · subst hX
          simp [MT, MV.MVs, MV, MC, std, binS]
          exact (wrap_eq (by omega) (by omega)).symm
      ·
        refine m_callq hX [] bodied_56 (fun k2 hk2 => CutG_c W0 upr n l (hln.up (by decide)) (hn.up (by decide)) he k2 hk2) (by simp [MH]) rfl rfl (by simp only [MV, MV.MVs, MC, and_true, true_and]; exact lc_MC _ _) ?_
        rintro ⟨p, F2⟩ hP
        replace hP : Tells p F2 (cutL upr n l) := hP
        cbv
        refine m_loop tab_ok hX (fun b : Nat × Int × Nat × (Nat → La) × Nat × (Nat → La) => OneJ upr low n xs a (cutL upr n l) b.1 b.2.1 b.2.2.1 b.2.2.2.1 b.2.2.2.2.1 b.2.2.2.2.2) (fun b => ([.one (.sl 0 0 m c), .one (.bool upr), .one (.int .i64 n), .one (.bool low), .one (.bool under)] ++ List.replicate 5 (.one .undef) ++ [.one .nils, .one (.ptr 1 0 0), .one (.sl 6 0 b.2.2.1 none), .one (.sl 7 0 b.2.2.2.2.1 none)] ++ List.replicate 8 (.one .undef) ++ [.one (.sl 0 0 m c), .one (.int .i64 m), .one (.int .i64 i)] ++ List.replicate 6 (.one .undef) ++ [.one (.sl 5 0 p (some p)), .one (.int .i64 p), .one (.int .i64 b.2.1)] ++ List.replicate 28 (.one .undef), [some (.row rw 69 7 m F), some (.box 93 [.bool upr, .int .i64 n, .bool low]), none, none, some (.box 69 (lc l)), lays true p F2, lays true b.2.2.1 b.2.2.2.1, lays true b.2.2.2.2.1 b.2.2.2.2.2])) (fun b => p - b.1) ?_ ?_
        · obtain ⟨g1, g2, g3, g4, g5⟩ := hb
          refine ⟨⟨0, 0, u, f, v, g⟩, ⟨by simp, rfl, by simpa using g3, by simpa using g4, by simpa using g5⟩, [some 0, some 1, some 2, some 3, some 4, some 5, some 2, some 3], ?_, rfl, rfl, ?_⟩
          · simp [MH, MB, MC.MCs, MC, hFm, lc, renC.renCs, renC]
          · simp [MT, MV.MVs, MV, MC]
            subst hX; rfl
        · clear hb
          rintro ⟨b, j, u, f, v, g⟩ hb
          replace hb : OneJ upr low n xs a (cutL upr n l) b j u f v g := hb
          have hpn : p = (cutL upr n l).length := hP.n
          cbv
          refine m_cond hX (fun h2 => ?_) (fun h2 => ?_) <;> cbv
          · have hh4 : (0 ≤ j ∧ j < p) ∧ j.toNat = b ∧ b < p := by
              obtain ⟨g1, g2, g3, g4, g5⟩ := hb
              have : j < p := by subst hX; simpa [std, cmpS] using h2
              omega
            obtain ⟨hh4, hh5, hh6⟩ := hh4
            refine ⟨by subst hX; exact hh4, by subst hX; show 0 + j.toNat < p; omega, ?_⟩
            obtain ⟨z, hz⟩ : ∃ z, z = F2 b := ⟨_, rfl⟩
            have hz2 : z = (cutL upr n l).getD b La.zero := hz.trans (hP.f b hh6)
            have hzn : z.Near 576460752303423488 := by
              have := cutL_near (upr := upr) (n := n) (z := z) hln hn (by
                rw [hz2, List.getD_eq_getElem?_getD, List.getElem?_eq_getElem (by omega)]
                exact List.getElem_mem _)
              exact this.up (by decide)
            have e2 : F2 (X.nadd 0 (X.toN j)) = z := by
              subst hX
              rw [hz]
              show F2 (0 + j.toNat) = _
              rw [hh5, Nat.zero_add]
            rw [e2]
            cbv
            refine m_callq hX [] bodied_57 (fun k2 hk2 => moves_c W0 upr low n z.t z.X z.Y z.x0 z.y0 z.x1 z.y1 hzn.t (hzn.X.up (by decide)) (hzn.Y.up (by decide)) (hzn.x0.up (by decide)) (hzn.y0.up (by decide)) (hzn.x1.up (by decide)) (hzn.y1.up (by decide)) k2 hk2) (by simp [MH]) rfl rfl (by simp [MV, MV.MVs, MC.MCs, MC]) ?_
            intro mb hmb
            replace hmb : mb = mvB upr low n z := mvB_of hmb
            cbv
            cases mb with
            | true =>
              refine m_cond_t hX (by subst hX; rfl) ?_
              cbv
              have hs1 : mvL upr low n ((xs.take a).flatMap (cutL upr n) ++ (cutL upr n l).take (b + 1)) = mvL upr low n ((xs.take a).flatMap (cutL upr n) ++ (cutL upr n l).take b) ++ [layF upr n z] := by
                rw [getD_take_succ _ b (by omega), ← List.append_assoc, mvL_snoc, ← hz2, ← hmb]
                rfl
              have hs2 : rsL upr low n ((xs.take a).flatMap (cutL upr n) ++ (cutL upr n l).take (b + 1)) = rsL upr low n ((xs.take a).flatMap (cutL upr n) ++ (cutL upr n l).take b) := by
                rw [getD_take_succ _ b (by omega), ← List.append_assoc, rsL_snoc, ← hz2, ← hmb]
                simp
              obtain ⟨f', k1, k2, k3⟩ := hb.eM.snoc (layF upr n z)
              have hlen2 : u + v ≤ 2000003 := by have := hb.len; have := cutL_len upr n l; omega
              refine m_gen (A := X.draw _ _ _) fun K1 hK1 => ?_
              refine m_drawT tab_ok hX [] [6] (.one 0 0 (.one 1 1 (.one 2 1 (.one 3 2 (.one 4 2 (.one 5 2 (.one 6 3 (.one 7 0 .fin)))))))) (by kernel_rfl) (by simp) ?_
              cbv
              refine m_callq hX [] bodied_59 (fun k2 hk2 => flip_c W0 upr low n (hn.up (by decide)) k2 hk2) ?_ rfl rfl ?_ ?_
              · (first | (simp [MH, MB, MT, MV, MV.MVs, MC.MCs, MC, renC.renCs, renC, up]; done) | (simp [MH, MB, MT, MV, MV.MVs, MC.MCs, MC, renC.renCs, renC, up]; omega) | (simp [MH, MB, MT, MV, MV.MVs, MC.MCs, MC, renC.renCs, renC, up] <;> omega))
              · simp [MV, MV.MVs, MC, MC.MCs]
              intro fl hfl
              obtain ⟨fa, fb, fc⟩ := fl
              replace hfl : IsFlip upr n fa fb fc := hfl
              cbv
              have t1 : Tu fa := hfl.a ▸ fT_tu upr
              have t2 : Nr 1152921504606846976 fb := hfl.b ▸ (fX_nr hn).up (by decide)
              have t3 : Nr 1152921504606846976 fc := hfl.c ▸ (fY_nr hn).up (by decide)
              refine m_callq hX [] bodied_58 (fun k2 hk2 => LLay_c W0 z.t z.X z.Y z.x0 z.y0 z.x1 z.y1 fa fb fc hzn.t t1 (hzn.X.up (by decide)) (hzn.Y.up (by decide)) t2 t3 k2 hk2) (by simp [MH]) rfl rfl (by simp [MV, MV.MVs, MC.MCs, MC]) ?_
              intro q hq
              obtain ⟨q0, q1, q2⟩ := q
              replace hq : IsThen z.t z.X z.Y fa fb fc q0 q1 q2 := hq
              have hy := hq.layF hfl
              cbv
              refine m_append tab_ok hX (u + 1) (fun q => lc (f' q)) rfl rfl rfl rfl rfl rfl (by decide) rfl rfl rfl ?_ ?_
              · refine ⟨by omega, by omega, by omega, by show (u + 1) * 56 ≤ _; omega, by omega, fun q hq => ?_, fun q hq => by simp only [Nat.zero_add, k2 q hq], fun q hq => ?_⟩
                · obtain rfl : q = 0 := by omega
                  rfl
                · obtain rfl : q = 0 := by omega
                  show lc (f' (u + 0)) = _
                  rw [Nat.add_zero, k3, ← hy]
                  rfl
              cbv
              refine hK1 _ _ ?_
              cbv
              refine ⟨⟨b + 1, j + 1, u + 1, f', v, g⟩, ?_, ?_, [some 0, some 1, some 2, some 3, some 4, some 5, some 10, some 7], ?_, rfl, rfl, ?_⟩
              · obtain ⟨q1, q2, q3, q4, q5⟩ := hb
                exact ⟨by omega, by show j + 1 = ((b + 1 : Nat) : Int); omega, by rw [hs1]; exact k1, by rw [hs2]; exact q4, by show u + 1 + v ≤ 2 * a + (b + 1); omega⟩
              · show p - (b + 1) < p - b; omega
              · simp [MH, MB, MC.MCs, MC, hFm, lc]
              · have hjp : j + 1 ≤ 100 := by have := cutL_len upr n l; omega
                subst hX
                simp [MT, MV.MVs, MV, MC, std, binS]
                exact (wrap_eq (by omega) (by omega)).symm
            | false =>
              refine m_cond_f hX (by subst hX; rfl) ?_
              cbv
              have hs1 : mvL upr low n ((xs.take a).flatMap (cutL upr n) ++ (cutL upr n l).take (b + 1)) = mvL upr low n ((xs.take a).flatMap (cutL upr n) ++ (cutL upr n l).take b) := by
                rw [getD_take_succ _ b (by omega), ← List.append_assoc, mvL_snoc, ← hz2, ← hmb]
                simp
              have hs2 : rsL upr low n ((xs.take a).flatMap (cutL upr n) ++ (cutL upr n l).take (b + 1)) = rsL upr low n ((xs.take a).flatMap (cutL upr n) ++ (cutL upr n l).take b) ++ [z] := by
                rw [getD_take_succ _ b (by omega), ← List.append_assoc, rsL_snoc, ← hz2, ← hmb]
                rfl
              obtain ⟨g', k1, k2, k3⟩ := hb.eR.snoc z
              have hlen2 : u + v ≤ 2000003 := by have := hb.len; have := cutL_len upr n l; omega
              refine m_append tab_ok hX (v + 1) (fun q => lc (g' q)) rfl rfl rfl rfl rfl rfl (by decide) rfl rfl rfl ?_ ?_
              · refine ⟨by omega, by omega, by omega, by show (v + 1) * 56 ≤ _; omega, by omega, fun q hq => ?_, fun q hq => by simp only [Nat.zero_add, k2 q hq], fun q hq => ?_⟩
                · obtain rfl : q = 0 := by omega
                  rfl
                · obtain rfl : q = 0 := by omega
                  show lc (g' (v + 0)) = _
                  rw [Nat.add_zero, k3]
                  rfl
              cbv
              refine ⟨⟨b + 1, j + 1, u, f, v + 1, g'⟩, ?_, ?_, [some 0, some 1, some 2, some 3, some 4, some 5, some 6, some 10], ?_, rfl, rfl, ?_⟩
              · obtain ⟨q1, q2, q3, q4, q5⟩ := hb
                exact ⟨by omega, by show j + 1 = ((b + 1 : Nat) : Int); omega, by rw [hs1]; exact q3, by rw [hs2]; exact k1, by show u + (v + 1) ≤ 2 * a + (b + 1); omega⟩
              · show p - (b + 1) < p - b; omega
              · simp [MH, MB, MC.MCs, MC, hFm, lc]
              · have hjp : j + 1 ≤ 100 := by have := cutL_len upr n l; omega
                subst hX
                simp [MT, MV.MVs, MV, MC, std, binS]
                exact (wrap_eq (by omega) (by omega)).symm
          · have hbp : b = p := by
              obtain ⟨g1, g2, g3, g4, g5⟩ := hb
              have : ¬ j < p := by subst hX; simpa [std, cmpS] using h2
              omega
            have e1 : (xs.take (a + 1)).flatMap (cutL upr n) = (xs.take a).flatMap (cutL upr n) ++ (cutL upr n l).take b := by
              have e0 : (cutL upr n l).take b = cutL upr n l := List.take_of_length_le (by have := hP.n; omega)
              rw [getD_take_succ xs a (by omega), List.flatMap_append, ← hl, e0]
              simp
            refine ⟨⟨a + 1, i + 1, u, f, v, g⟩, ?_, ?_, [some 0, some 1, some 6, some 7], ?_, rfl, rfl, ?_⟩
            · obtain ⟨q1, q2, q3, q4, q5⟩ := hb
              have := cutL_len upr n l
              exact ⟨by omega, by show i + 1 = ((a + 1 : Nat) : Int); omega, by rw [e1]; exact q3, by rw [e1]; exact q4, by show u + v ≤ 2 * (a + 1); omega⟩
            · show m - (a + 1) < m - a; omega
            · simp [MH, MB, MC.MCs, MC, hFm, lc]
            · subst hX
              simp [MT, MV.MVs, MV, MC, std, binS]
              exact (wrap_eq (by omega) (by omega)).symm
    · have ham : a = m := by
        obtain ⟨g1, g2, g3, g4, g5⟩ := hb
        have : ¬ i < m := by subst hX; simpa [std, cmpS] using h
        omega
      have hta : xs.take a = xs := List.take_of_length_le (by omega)
      have hM := hb.eM.rev
      have hR := hb.eR
      rw [hta] at hM hR
      have huv : u + v ≤ 2000000 := by have := hb.len; omega
      refine m_callf hX [2] bodied_60 (fun k2 hk2 => Reverse7_c W0 u none f (by omega) k2 hk2) (by simp [MH, MB, MC.MCs, MC, lc]) rfl rfl (by simp [MV, MV.MVs, MC]) ?_
      cbv
      cases under with
      | true =>
        refine m_cond_t hX (by subst hX; rfl) ?_
        cbv
        obtain ⟨Z, hZ⟩ : ∃ Z, Z = oneL upr low true n xs := ⟨_, rfl⟩
        have hk2 := hk Z hZ
        obtain ⟨z1, z2, z3⟩ := hR.app hM
        have hZ2 : Z = rsL upr low n (xs.flatMap (cutL upr n)) ++ (mvL upr low n (xs.flatMap (cutL upr n))).reverse := hZ
        rw [← hZ2] at z1 z2 z3
        obtain ⟨s, hs⟩ : ∃ s, s = v + u := ⟨_, rfl⟩
        rw [z1, ← hs] at hk2
        refine m_append tab_ok hX s (fun q => lc (Z.getD q La.zero)) rfl rfl rfl rfl rfl rfl (by decide) rfl rfl rfl ?_ ?_
        · refine ⟨by omega, by omega, by omega, by show s * 56 ≤ _; omega, by omega, fun q hq => rfl, fun q hq => ?_, fun q hq => ?_⟩
          · show lc (Z.getD q La.zero) = _
            rw [z2 q hq, Nat.zero_add]
            try rfl
          · show lc (Z.getD (v + q) La.zero) = _
            rw [z3 q hq, Nat.zero_add]
            try rfl
        cbv
        refine ⟨_, _, [some 0, some 4], ?_, rfl, rfl, ?_, hk2⟩
        · simp [MH, MB, MC.MCs, MC, hFm, lc]
        · simp [MV, MC]
      | false =>
        refine m_cond_f hX (by subst hX; rfl) ?_
        cbv
        obtain ⟨Z, hZ⟩ : ∃ Z, Z = oneL upr low false n xs := ⟨_, rfl⟩
        have hk2 := hk Z hZ
        obtain ⟨z1, z2, z3⟩ := hM.app hR
        have hZ2 : Z = (mvL upr low n (xs.flatMap (cutL upr n))).reverse ++ rsL upr low n (xs.flatMap (cutL upr n)) := hZ
        rw [← hZ2] at z1 z2 z3
        obtain ⟨s, hs⟩ : ∃ s, s = u + v := ⟨_, rfl⟩
        rw [z1, ← hs] at hk2
        refine m_append tab_ok hX s (fun q => lc (Z.getD q La.zero)) rfl rfl rfl rfl rfl rfl (by decide) rfl rfl rfl ?_ ?_
        · refine ⟨by omega, by omega, by omega, by show s * 56 ≤ _; omega, by omega, fun q hq => rfl, fun q hq => ?_, fun q hq => ?_⟩
          · show lc (Z.getD q La.zero) = _
            rw [z2 q hq, Nat.zero_add]
            try rfl
          · show lc (Z.getD (u + q) La.zero) = _
            rw [z3 q hq, Nat.zero_add]
            try rfl
        cbv
        refine ⟨_, _, [some 0, some 4], ?_, rfl, rfl, ?_, hk2⟩
        · simp [MH, MB, MC.MCs, MC, hFm, lc]
        · simp [MV, MC]
end Go.Proofs.Ytnfoibgafmeenaa.AM
