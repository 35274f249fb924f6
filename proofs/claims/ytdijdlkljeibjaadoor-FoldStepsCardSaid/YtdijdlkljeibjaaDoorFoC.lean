/- Layers that are folded at a line: the program's and the reference's are the same, as contracts on the abstract machine. No condition but that the numbers are near. -/
import Derived.Test.YtdijdlkljeibjaaDoorFoB
import Derived.Test.YtdijdlkljeibjaaDoorAm23
import Derived.Test.YtdijdlkljeibjaaDoorAm24
namespace Go.Proofs.YtdijdlkljeibjaaDoor.AM
open Go Go.RowKit
set_option cbv.warning false
set_option maxRecDepth 100000
set_option linter.unusedVariables false
set_option linter.unusedSimpArgs false
theorem CutE_c (W0 : World) (upr : Bool) (n : Int) (l : La) (hl : l.Near 576460752303423488) (hat : Nr 576460752303423488 n) (he : l.emp) (k : V → Heap → Prop) (hk : k (.one .nils) []) : ACall Tryd.prog W0 34 [.agg (lc l), .one (.bool upr), .one (.int .i64 n)] [] k :=
  Cut_c W0 upr n l.t l.X l.Y l.x0 l.y0 l.x1 l.y1 l.a l.b l.c l.d l.box hl.t hl.X hl.Y hl.x0 hl.y0 hl.x1 hl.y1 hat k (fun _ => hk) (fun h _ => absurd he h) (fun h _ => absurd he h)
set_option maxHeartbeats 4000000 in
theorem One_c (W0 : World) (rw : Bool) (xs : List La) (m : Nat) (F : Nat → List C) (hm : m = xs.length) (hF : ∀ q, q < m → F q = lc (xs.getD q La.zero)) (hFm : ∀ σ q, MC.MCs σ (F q) (F q)) (c : Option Nat) (upr low under : Bool) (n : Int) (hx : ∀ l ∈ xs, l.Near 144115188075855872) (hlen : xs.length ≤ 1000000) (hn : Nr 144115188075855872 n) (k : V → Heap → Prop)
    (hk : ∀ Z : List La, Z = oneL upr low under n xs → k (.one (.sl 1 0 Z.length none)) [some (.row rw 43 7 m F), rowL true Z]) :
    ACall Tryd.prog W0 19 [.one (.sl 0 0 m c), .one (.bool upr), .one (.int .i64 n), .one (.bool low), .one (.bool under)] [some (.row rw 43 7 m F)] k := by
  refine m_body tab_ok (fn := Tryd.f19) (by kernel_rfl) rfl ?_
  intro X hX
  cbv
  refine m_loop tab_ok hX (fun b : Nat × Int × Nat × (Nat → La) × Nat × (Nat → La) => OneI upr low n xs b.1 b.2.1 b.2.2.1 b.2.2.2.1 b.2.2.2.2.1 b.2.2.2.2.2) (fun b => ([.one (.sl 0 0 m c), .one (.bool upr), .one (.int .i64 n), .one (.bool low), .one (.bool under)] ++ List.replicate 5 (.one .undef) ++ [.one .nils, .one (.ptr 1 0 0), .one (.sl 2 0 b.2.2.1 none), .one (.sl 3 0 b.2.2.2.2.1 none)] ++ List.replicate 8 (.one .undef) ++ [.one (.sl 0 0 m c), .one (.int .i64 m), .one (.int .i64 b.2.1)] ++ List.replicate 37 (.one .undef), [some (.row rw 43 7 m F), some (.box 76 [.bool upr, .int .i64 n, .bool low]), lays true b.2.2.1 b.2.2.2.1, lays true b.2.2.2.2.1 b.2.2.2.2.2])) (fun b => m - b.1) ?_ ?_
  · refine ⟨⟨0, 0, 0, fun _ => La.zero, 0, fun _ => La.zero⟩, ⟨by omega, rfl, ⟨by simp [mvL], fun q hq => absurd hq (by simp)⟩, ⟨by simp [rsL], fun q hq => absurd hq (by simp)⟩, by simp⟩, [some 0, some 1, none, none], ?_, rfl, rfl, ?_⟩
    · simp [MH, MB, MC.MCs, MC, hFm]
    · simp [MT, MV.MVs, MV, MC]
      subst hX; rfl
  · rintro ⟨a, i, u, f, v, g⟩ hb
    replace hb : OneI upr low n xs a i u f v g := hb
    cbv
    refine m_cond hX (fun h => ?_) (fun h => ?_) <;> cbv
    · have hh : (0 ≤ i ∧ i < m) ∧ i.toNat = a ∧ a < m := by
        obtain ⟨g1, g2, g3, g4, g5⟩ := hb
        have : i < m := by subst hX; simpa [std, cmpS] using h
        omega
      obtain ⟨hh1, hh2, hh3⟩ := hh
      refine ⟨by subst hX; exact hh1, by subst hX; show 0 + i.toNat < m; omega, ?_⟩
      obtain ⟨l, hl⟩ : ∃ l, l = xs.getD a La.zero := ⟨_, rfl⟩
      have hln : l.Near 144115188075855872 := hx l (by
        rw [hl, List.getD_eq_getElem?_getD, List.getElem?_eq_getElem (by omega)]
        exact List.getElem_mem _)
      have e : F (X.nadd 0 (X.toN i)) = lc l := by
        subst hX
        show F (0 + i.toNat) = _
        rw [hF _ (by omega), hl, hh2, Nat.zero_add]
      rw [e]
      cbv
      by_cases he : l.emp
      ·
        refine m_callf hX [] bodied_34 (fun k2 hk2 => CutE_c W0 upr n l (hln.up (by decide)) (hn.up (by decide)) he k2 hk2) (by simp [MH]) rfl rfl (by simp only [MV, MV.MVs, MC, and_true, true_and]; exact lc_MC _ _) ?_
        cbv
        refine m_rounds [()] tab_ok hX ?_
        refine aloop_step fun L0 hL0 K0 hK0 => ?_
        cbv
        refine m_cond_f hX (by subst hX; rfl) ?_
        cbv
        refine hK0 _ _ _ _ ?_
        cbv
        refine ⟨⟨a + 1, i + 1, u, f, v, g⟩, ?_, ?_, [some 0, some 1, some 2, some 3], ?_, rfl, rfl, ?_⟩
        · obtain ⟨g1, g2, g3, g4, g5⟩ := hb
          have e1 : cutL upr n l = [] := by unfold cutL; rw [if_pos he]
          have e2 : (xs.take (a + 1)).flatMap (cutL upr n) = (xs.take a).flatMap (cutL upr n) := by
            rw [getD_take_succ xs a (by omega), List.flatMap_append, ← hl]
            simp [e1]
          exact ⟨by omega, by show i + 1 = ((a + 1 : Nat) : Int); omega, by rw [e2]; exact g3, by rw [e2]; exact g4, by show u + v ≤ 2 * (a + 1); omega⟩
        · show m - (a + 1) < m - a; omega
        · simp [MH, MB, MC.MCs, MC, hFm, lc_MC]
        · subst hX
          simp [MT, MV.MVs, MV, MC, std, binS]
          exact (wrap_eq (by omega) (by omega)).symm
      ·
        refine m_callq hX [] bodied_34 (fun k2 hk2 => CutG_c W0 upr n l (hln.up (by decide)) (hn.up (by decide)) he k2 hk2) (by simp [MH]) rfl rfl (by simp only [MV, MV.MVs, MC, and_true, true_and]; exact lc_MC _ _) ?_
        rintro ⟨p, F2⟩ hP
        replace hP : Tells p F2 (cutL upr n l) := hP
        cbv
        refine m_loop tab_ok hX (fun b : Nat × Int × Nat × (Nat → La) × Nat × (Nat → La) => OneJ upr low n xs a (cutL upr n l) b.1 b.2.1 b.2.2.1 b.2.2.2.1 b.2.2.2.2.1 b.2.2.2.2.2) (fun b => ([.one (.sl 0 0 m c), .one (.bool upr), .one (.int .i64 n), .one (.bool low), .one (.bool under)] ++ List.replicate 5 (.one .undef) ++ [.one .nils, .one (.ptr 1 0 0), .one (.sl 6 0 b.2.2.1 none), .one (.sl 7 0 b.2.2.2.2.1 none)] ++ List.replicate 8 (.one .undef) ++ [.one (.sl 0 0 m c), .one (.int .i64 m), .one (.int .i64 i)] ++ List.replicate 6 (.one .undef) ++ [.one (.sl 5 0 p (some p)), .one (.int .i64 p), .one (.int .i64 b.2.1)] ++ List.replicate 28 (.one .undef), [some (.row rw 43 7 m F), some (.box 76 [.bool upr, .int .i64 n, .bool low]), none, none, some (.box 43 (lc l)), lays true p F2, lays true b.2.2.1 b.2.2.2.1, lays true b.2.2.2.2.1 b.2.2.2.2.2])) (fun b => p - b.1) ?_ ?_
        · obtain ⟨g1, g2, g3, g4, g5⟩ := hb
          refine ⟨⟨0, 0, u, f, v, g⟩, ⟨by simp, rfl, by simpa using g3, by simpa using g4, by simpa using g5⟩, [some 0, some 1, some 2, some 3, some 4, some 5, some 2, some 3], ?_, rfl, rfl, ?_⟩
          · simp [MH, MB, MC.MCs, MC, hFm, lc, renC.renCs, renC]
          · simp [MT, MV.MVs, MV, MC]
            subst hX; rfl
        · clear hb
          rintro ⟨b, j, u, f, v, g⟩ hb
          replace hb : OneJ upr low n xs a (cutL upr n l) b j u f v g := hb
          have hpn : p = (cutL upr n l).length := hP.n
          cbv
          refine m_cond hX (fun h2 => ?_) (fun h2 => ?_) <;> cbv
          · have hh4 : (0 ≤ j ∧ j < p) ∧ j.toNat = b ∧ b < p := by
              obtain ⟨g1, g2, g3, g4, g5⟩ := hb
              have : j < p := by subst hX; simpa [std, cmpS] using h2
              omega
            obtain ⟨hh4, hh5, hh6⟩ := hh4
            refine ⟨by subst hX; exact hh4, by subst hX; show 0 + j.toNat < p; omega, ?_⟩
            obtain ⟨z, hz⟩ : ∃ z, z = F2 b := ⟨_, rfl⟩
            have hz2 : z = (cutL upr n l).getD b La.zero := hz.trans (hP.f b hh6)
            have hzn : z.Near 576460752303423488 := by
              have := cutL_near (upr := upr) (n := n) (z := z) hln hn (by
                rw [hz2, List.getD_eq_getElem?_getD, List.getElem?_eq_getElem (by omega)]
                exact List.getElem_mem _)
              exact this.up (by decide)
            have e2 : F2 (X.nadd 0 (X.toN j)) = z := by
              subst hX
              rw [hz]
              show F2 (0 + j.toNat) = _
              rw [hh5, Nat.zero_add]
            rw [e2]
            cbv
            refine m_callq hX [] bodied_35 (fun k2 hk2 => moves_c W0 upr low n z.t z.X z.Y z.x0 z.y0 z.x1 z.y1 hzn.t (hzn.X.up (by decide)) (hzn.Y.up (by decide)) (hzn.x0.up (by decide)) (hzn.y0.up (by decide)) (hzn.x1.up (by decide)) (hzn.y1.up (by decide)) k2 hk2) (by simp [MH]) rfl rfl (by simp [MV, MV.MVs, MC.MCs, MC]) ?_
            intro mb hmb
            replace hmb : mb = mvB upr low n z := mvB_of hmb
            cbv
            cases mb with
            | true =>
              refine m_cond_t hX (by subst hX; rfl) ?_
              cbv
              have hs1 : mvL upr low n ((xs.take a).flatMap (cutL upr n) ++ (cutL upr n l).take (b + 1)) = mvL upr low n ((xs.take a).flatMap (cutL upr n) ++ (cutL upr n l).take b) ++ [layF upr n z] := by
                rw [getD_take_succ _ b (by omega), ← List.append_assoc, mvL_snoc, ← hz2, ← hmb]
                rfl
              have hs2 : rsL upr low n ((xs.take a).flatMap (cutL upr n) ++ (cutL upr n l).take (b + 1)) = rsL upr low n ((xs.take a).flatMap (cutL upr n) ++ (cutL upr n l).take b) := by
                rw [getD_take_succ _ b (by omega), ← List.append_assoc, rsL_snoc, ← hz2, ← hmb]
                simp
              obtain ⟨f', k1, k2, k3⟩ := hb.eM.snoc (layF upr n z)
              have hlen2 : u + v ≤ 2000003 := by have := hb.len; have := cutL_len upr n l; omega
              refine m_gen (A := X.draw _ _ _) fun K1 hK1 => ?_
              refine m_drawT tab_ok hX [] [6] (.one 0 0 (.one 1 1 (.one 2 1 (.one 3 2 (.one 4 2 (.one 5 2 (.one 6 3 (.one 7 0 .fin)))))))) (by kernel_rfl) (by simp) ?_
              cbv
              refine m_callq hX [] bodied_36 (fun k2 hk2 => flip_c W0 upr low n (hn.up (by decide)) k2 hk2) ?_ rfl rfl ?_ ?_
              · (first | (simp [MH, MB, MT, MV, MV.MVs, MC.MCs, MC, renC.renCs, renC, up]; done) | (simp [MH, MB, MT, MV, MV.MVs, MC.MCs, MC, renC.renCs, renC, up]; omega) | (simp [MH, MB, MT, MV, MV.MVs, MC.MCs, MC, renC.renCs, renC, up] <;> omega))
              · simp [MV, MV.MVs, MC, MC.MCs]
              intro fl hfl
              obtain ⟨fa, fb, fc⟩ := fl
              replace hfl : IsFlip upr n fa fb fc := hfl
              cbv
              have t1 : Tu fa := hfl.a ▸ fT_tu upr
              have t2 : Nr 1152921504606846976 fb := hfl.b ▸ (fX_nr hn).up (by decide)
              have t3 : Nr 1152921504606846976 fc := hfl.c ▸ (fY_nr hn).up (by decide)
              refine m_callq hX [] bodied_25 (fun k2 hk2 => LLay_c W0 z.t z.X z.Y z.x0 z.y0 z.x1 z.y1 fa fb fc hzn.t t1 (hzn.X.up (by decide)) (hzn.Y.up (by decide)) t2 t3 k2 hk2) (by simp [MH]) rfl rfl (by simp [MV, MV.MVs, MC.MCs, MC]) ?_
              intro q hq
              obtain ⟨q0, q1, q2⟩ := q
              replace hq : IsThen z.t z.X z.Y fa fb fc q0 q1 q2 := hq
              have hy := hq.layF hfl
              cbv
              refine m_append tab_ok hX (u + 1) (fun q => lc (f' q)) rfl rfl rfl rfl rfl rfl (by decide) rfl rfl rfl ?_ ?_
              · refine ⟨by omega, by omega, by omega, by show (u + 1) * 56 ≤ _; omega, by omega, fun q hq => ?_, fun q hq => by simp only [Nat.zero_add, k2 q hq], fun q hq => ?_⟩
                · obtain rfl : q = 0 := by omega
                  rfl
                · obtain rfl : q = 0 := by omega
                  show lc (f' (u + 0)) = _
                  rw [Nat.add_zero, k3, ← hy]
                  rfl
              cbv
              refine hK1 _ _ ?_
              cbv
              refine ⟨⟨b + 1, j + 1, u + 1, f', v, g⟩, ?_, ?_, [some 0, some 1, some 2, some 3, some 4, some 5, some 10, some 7], ?_, rfl, rfl, ?_⟩
              · obtain ⟨q1, q2, q3, q4, q5⟩ := hb
                exact ⟨by omega, by show j + 1 = ((b + 1 : Nat) : Int); omega, by rw [hs1]; exact k1, by rw [hs2]; exact q4, by show u + 1 + v ≤ 2 * a + (b + 1); omega⟩
              · show p - (b + 1) < p - b; omega
              · simp [MH, MB, MC.MCs, MC, hFm, lc]
              · have hjp : j + 1 ≤ 100 := by have := cutL_len upr n l; omega
                subst hX
                simp [MT, MV.MVs, MV, MC, std, binS]
                exact (wrap_eq (by omega) (by omega)).symm
            | false =>
              refine m_cond_f hX (by subst hX; rfl) ?_
              cbv
              have hs1 : mvL upr low n ((xs.take a).flatMap (cutL upr n) ++ (cutL upr n l).take (b + 1)) = mvL upr low n ((xs.take a).flatMap (cutL upr n) ++ (cutL upr n l).take b) := by
                rw [getD_take_succ _ b (by omega), ← List.append_assoc, mvL_snoc, ← hz2, ← hmb]
                simp
              have hs2 : rsL upr low n ((xs.take a).flatMap (cutL upr n) ++ (cutL upr n l).take (b + 1)) = rsL upr low n ((xs.take a).flatMap (cutL upr n) ++ (cutL upr n l).take b) ++ [z] := by
                rw [getD_take_succ _ b (by omega), ← List.append_assoc, rsL_snoc, ← hz2, ← hmb]
                rfl
              obtain ⟨g', k1, k2, k3⟩ := hb.eR.snoc z
              have hlen2 : u + v ≤ 2000003 := by have := hb.len; have := cutL_len upr n l; omega
              refine m_append tab_ok hX (v + 1) (fun q => lc (g' q)) rfl rfl rfl rfl rfl rfl (by decide) rfl rfl rfl ?_ ?_
              · refine ⟨by omega, by omega, by omega, by show (v + 1) * 56 ≤ _; omega, by omega, fun q hq => ?_, fun q hq => by simp only [Nat.zero_add, k2 q hq], fun q hq => ?_⟩
                · obtain rfl : q = 0 := by omega
                  rfl
                · obtain rfl : q = 0 := by omega
                  show lc (g' (v + 0)) = _
                  rw [Nat.add_zero, k3]
                  rfl
              cbv
              refine ⟨⟨b + 1, j + 1, u, f, v + 1, g'⟩, ?_, ?_, [some 0, some 1, some 2, some 3, some 4, some 5, some 6, some 10], ?_, rfl, rfl, ?_⟩
              · obtain ⟨q1, q2, q3, q4, q5⟩ := hb
                exact ⟨by omega, by show j + 1 = ((b + 1 : Nat) : Int); omega, by rw [hs1]; exact q3, by rw [hs2]; exact k1, by show u + (v + 1) ≤ 2 * a + (b + 1); omega⟩
              · show p - (b + 1) < p - b; omega
              · simp [MH, MB, MC.MCs, MC, hFm, lc]
              · have hjp : j + 1 ≤ 100 := by have := cutL_len upr n l; omega
                subst hX
                simp [MT, MV.MVs, MV, MC, std, binS]
                exact (wrap_eq (by omega) (by omega)).symm
          · have hbp : b = p := by
              obtain ⟨g1, g2, g3, g4, g5⟩ := hb
              have : ¬ j < p := by subst hX; simpa [std, cmpS] using h2
              omega
            have e1 : (xs.take (a + 1)).flatMap (cutL upr n) = (xs.take a).flatMap (cutL upr n) ++ (cutL upr n l).take b := by
              have e0 : (cutL upr n l).take b = cutL upr n l := List.take_of_length_le (by have := hP.n; omega)
              rw [getD_take_succ xs a (by omega), List.flatMap_append, ← hl, e0]
              simp
            refine ⟨⟨a + 1, i + 1, u, f, v, g⟩, ?_, ?_, [some 0, some 1, some 6, some 7], ?_, rfl, rfl, ?_⟩
            · obtain ⟨q1, q2, q3, q4, q5⟩ := hb
              have := cutL_len upr n l
              exact ⟨by omega, by show i + 1 = ((a + 1 : Nat) : Int); omega, by rw [e1]; exact q3, by rw [e1]; exact q4, by show u + v ≤ 2 * (a + 1); omega⟩
            · show m - (a + 1) < m - a; omega
            · simp [MH, MB, MC.MCs, MC, hFm, lc]
            · subst hX
              simp [MT, MV.MVs, MV, MC, std, binS]
              exact (wrap_eq (by omega) (by omega)).symm
    · have ham : a = m := by
        obtain ⟨g1, g2, g3, g4, g5⟩ := hb
        have : ¬ i < m := by subst hX; simpa [std, cmpS] using h
        omega
      have hta : xs.take a = xs := List.take_of_length_le (by omega)
      have hM := hb.eM.rev
      have hR := hb.eR
      rw [hta] at hM hR
      have huv : u + v ≤ 2000000 := by have := hb.len; omega
      refine m_callf hX [2] bodied_37 (fun k2 hk2 => Reverse7_c W0 u none f (by omega) k2 hk2) (by simp [MH, MB, MC.MCs, MC, lc]) rfl rfl (by simp [MV, MV.MVs, MC]) ?_
      cbv
      cases under with
      | true =>
        refine m_cond_t hX (by subst hX; rfl) ?_
        cbv
        obtain ⟨Z, hZ⟩ : ∃ Z, Z = oneL upr low true n xs := ⟨_, rfl⟩
        have hk2 := hk Z hZ
        obtain ⟨z1, z2, z3⟩ := hR.app hM
        have hZ2 : Z = rsL upr low n (xs.flatMap (cutL upr n)) ++ (mvL upr low n (xs.flatMap (cutL upr n))).reverse := hZ
        rw [← hZ2] at z1 z2 z3
        obtain ⟨s, hs⟩ : ∃ s, s = v + u := ⟨_, rfl⟩
        rw [z1, ← hs] at hk2
        refine m_append tab_ok hX s (fun q => lc (Z.getD q La.zero)) rfl rfl rfl rfl rfl rfl (by decide) rfl rfl rfl ?_ ?_
        · refine ⟨by omega, by omega, by omega, by show s * 56 ≤ _; omega, by omega, fun q hq => rfl, fun q hq => ?_, fun q hq => ?_⟩
          · show lc (Z.getD q La.zero) = _
            rw [z2 q hq, Nat.zero_add]
            try rfl
          · show lc (Z.getD (v + q) La.zero) = _
            rw [z3 q hq, Nat.zero_add]
            try rfl
        cbv
        refine ⟨_, _, [some 0, some 4], ?_, rfl, rfl, ?_, hk2⟩
        · simp [MH, MB, MC.MCs, MC, hFm, lc]
        · simp [MV, MC]
      | false =>
        refine m_cond_f hX (by subst hX; rfl) ?_
        cbv
        obtain ⟨Z, hZ⟩ : ∃ Z, Z = oneL upr low false n xs := ⟨_, rfl⟩
        have hk2 := hk Z hZ
        obtain ⟨z1, z2, z3⟩ := hM.app hR
        have hZ2 : Z = (mvL upr low n (xs.flatMap (cutL upr n))).reverse ++ rsL upr low n (xs.flatMap (cutL upr n)) := hZ
        rw [← hZ2] at z1 z2 z3
        obtain ⟨s, hs⟩ : ∃ s, s = u + v := ⟨_, rfl⟩
        rw [z1, ← hs] at hk2
        refine m_append tab_ok hX s (fun q => lc (Z.getD q La.zero)) rfl rfl rfl rfl rfl rfl (by decide) rfl rfl rfl ?_ ?_
        · refine ⟨by omega, by omega, by omega, by show s * 56 ≤ _; omega, by omega, fun q hq => rfl, fun q hq => ?_, fun q hq => ?_⟩
          · show lc (Z.getD q La.zero) = _
            rw [z2 q hq, Nat.zero_add]
            try rfl
          · show lc (Z.getD (u + q) La.zero) = _
            rw [z3 q hq, Nat.zero_add]
            try rfl
        cbv
        refine ⟨_, _, [some 0, some 4], ?_, rfl, rfl, ?_, hk2⟩
        · simp [MH, MB, MC.MCs, MC, hFm, lc]
        · simp [MV, MC]
end Go.Proofs.YtdijdlkljeibjaaDoor.AM
namespace Go.Proofs.YtdijdlkljeibjaaDoor.AM
open Go Go.RowKit
set_option cbv.warning false
set_option maxRecDepth 100000
set_option linter.unusedVariables false
set_option linter.unusedSimpArgs false
instance (a0 a1 a2 a3 b0 b1 b2 b3 : Int) : Decidable (meetP a0 a1 a2 a3 b0 b1 b2 b3) := by unfold meetP; exact inferInstance
def halfL (upr : Bool) (n : Int) (low : Bool) (l : La) : Option La :=
  if l.emp ∨ meetP l.a l.b l.c l.d (hA upr low n l.a) (hB upr low n l.b) (hC upr low n l.c) (hD upr low n l.d) then none
  else some (l.part (max l.a (hA upr low n l.a)) (max l.b (hB upr low n l.b)) (min l.c (hC upr low n l.c)) (min l.d (hD upr low n l.d)))
structure IsHalf (upr : Bool) (n : Int) (low : Bool) (l : La) (e : Bool) (z : La) : Prop where
  h : (e = false ∧ halfL upr n low l = none) ∨ (e = true ∧ halfL upr n low l = some z)
theorem RHalfG_c (W0 : World) (upr low : Bool) (n : Int) (l : La) (hl : l.Near 576460752303423488) (hn : Nr 576460752303423488 n) (k : V → Heap → Prop)
    (hk : ∀ b : Bool × La, IsHalf upr n low l b.1 b.2 → k (.tup [.agg (lc b.2), .one (.bool b.1)]) []) : ACall Tryd.prog W0 44 [.agg (lc l), .one (.bool upr), .one (.int .i64 n), .one (.bool low)] [] k := by
  refine RHalf_c W0 l.t l.X l.Y l.x0 l.y0 l.x1 l.y1 n upr low hl.t hl.X hl.Y hl.x0 hl.y0 hl.x1 hl.y1 hn k fun b hb => ?_
  obtain ⟨e, c0, c1, c2, c3, c4, c5, c6⟩ := b
  refine hk (e, ⟨c0, c1, c2, c3, c4, c5, c6⟩) ⟨?_⟩
  obtain ⟨la, lb, lc, ld, hB, ⟨la', lb', lc', ld', hB', h⟩⟩ := hb
  obtain ⟨rfl, rfl, rfl, rfl⟩ := hB
  obtain ⟨rfl, rfl, rfl, rfl⟩ := hB'
  rcases h with ⟨rfl, h⟩ | ⟨rfl, h1, h2, h3, h4, h5, h6, h7⟩
  · refine .inl ⟨rfl, ?_⟩
    unfold halfL
    rw [if_pos]
    unfold La.emp
    rcases h with h | h | h
    · exact .inl (.inl h)
    · exact .inl (.inr h)
    · exact .inr h
  · refine .inr ⟨rfl, ?_⟩
    unfold halfL
    rw [if_neg]
    · replace h4 : c4 = l.t := h4
      replace h5 : c5 = l.X := h5
      replace h6 : c6 = l.Y := h6
      show some (l.part _ _ _ _) = some (⟨c0, c1, c2, c3, c4, c5, c6⟩ : La)
      rw [h4, h5, h6]
      exact (congrArg some (IsPart.eq h7)).symm
    · rintro (h | h)
      · unfold La.emp at h; omega
      · exact h3 h
theorem halfL_near {K : Int} {upr low : Bool} {n : Int} {l z : La} (h : l.Near K) (hn : Nr K n) (hz : halfL upr n low l = some z) : z.Near (4 * K) := by
  have hK : 0 ≤ K := by obtain ⟨p, q⟩ := hn; omega
  obtain ⟨p0, p1, p2, p3⟩ := l.box.nr (L := 2 * K) h.t h.X h.Y h.x0 h.y0 h.x1 h.y1 (by omega)
  have hn' : Nr (2 * K) n := hn.up (by omega)
  unfold halfL at hz
  split at hz
  · cases hz
  · cases hz
    refine h.part (p0.max ?_) (p1.max ?_) (p2.min ?_) (p3.min ?_)
    · unfold hA
      split
      · exact p0.max hn'
      · exact p0
    · unfold hB
      split
      · exact p1.max hn'
      · exact p1
    · unfold hC
      split
      · exact p2.min hn'
      · exact p2
    · unfold hD
      split
      · exact p3.min hn'
      · exact p3
def foldL (upr low under : Bool) (n : Int) (xs : List La) : List La :=
  (if under then xs.filterMap (halfL upr n (!low)) else []) ++ xs.reverse.filterMap (fun l => (halfL upr n low l).map (layF upr n)) ++ (if under then [] else xs.filterMap (halfL upr n (!low)))
/-- A part of a loop: what came of the first ones. -/
structure FI (on : Bool) (A : List La) (hf : La → Option La) (xs : List La) (a : Nat) (i : Int) (u : Nat) (f : Nat → La) : Prop where
  h : a ≤ xs.length
  ei : i = a
  on : on = false → a = 0
  eO : Tells u f (A ++ (xs.take a).filterMap hf)
  len : u ≤ A.length + a
structure FD (A : List La) (hf : La → Option La) (xs : List La) (a : Nat) (i : Int) (u : Nat) (f : Nat → La) : Prop where
  h : a ≤ xs.length
  ei : i = (xs.length : Int) - 1 - a
  eO : Tells u f (A ++ (xs.reverse.take a).filterMap hf)
  len : u ≤ A.length + a
theorem filterMap_none {A xs : List La} {h : La → Option La} {a : Nat} (ha : a < xs.length) {l : La} (hl : l = xs.getD a La.zero) (e : h l = none) : A ++ (xs.take (a + 1)).filterMap h = A ++ (xs.take a).filterMap h := by
  rw [getD_take_succ xs a ha, List.filterMap_append, ← hl]
  simp [e]
theorem filterMap_some {A xs : List La} {h : La → Option La} {a : Nat} (ha : a < xs.length) {l z : La} (hl : l = xs.getD a La.zero) (e : h l = some z) : A ++ (xs.take (a + 1)).filterMap h = (A ++ (xs.take a).filterMap h) ++ [z] := by
  rw [getD_take_succ xs a ha, List.filterMap_append, ← hl, ← List.append_assoc]
  simp [e]
theorem getD_reverse {xs : List La} {a : Nat} (h : a < xs.length) : xs.reverse.getD a La.zero = xs.getD (xs.length - 1 - a) La.zero := by
  simp only [List.getD_eq_getElem?_getD]
  rw [List.getElem?_reverse h]
end Go.Proofs.YtdijdlkljeibjaaDoor.AM
namespace Go.Proofs.YtdijdlkljeibjaaDoor.AM
open Go Go.RowKit
set_option cbv.warning false
set_option maxRecDepth 100000
set_option linter.unusedVariables false
set_option linter.unusedSimpArgs false
theorem bodied_24 : Bodied Tryd.prog 24 := ⟨Tryd.f24, by kernel_rfl, by kernel_rfl, by kernel_rfl⟩
set_option maxHeartbeats 8000000 in
theorem RFold_c (W0 : World) (rw : Bool) (xs : List La) (m : Nat) (F : Nat → List C) (hm : m = xs.length) (hF : ∀ q, q < m → F q = lc (xs.getD q La.zero)) (hFm : ∀ σ q, MC.MCs σ (F q) (F q)) (c : Option Nat) (upr low under : Bool) (n : Int) (hx : ∀ l ∈ xs, l.Near 144115188075855872) (hlen : xs.length ≤ 1000000) (hn : Nr 144115188075855872 n) (k : V → Heap → Prop)
    (hk : ∀ Z : List La, Z = foldL upr low under n xs → k (.one (.sl 1 0 Z.length none)) [some (.row rw 43 7 m F), rowL true Z]) :
    ACall Tryd.prog W0 24 [.one (.sl 0 0 m c), .one (.bool upr), .one (.int .i64 n), .one (.bool low), .one (.bool under)] [some (.row rw 43 7 m F)] k := by
  obtain ⟨A0, hA0⟩ : ∃ A0 : List La, A0 = (if under then xs.filterMap (halfL upr n (!low)) else []) := ⟨_, rfl⟩
  have hA0n : A0.length ≤ 1000000 := by
    rw [hA0]
    cases under
    · simp
    · exact Nat.le_trans (List.length_filterMap_le _ _) hlen
  obtain ⟨A1, hA1⟩ : ∃ A1 : List La, A1 = A0 ++ xs.reverse.filterMap (fun l => (halfL upr n low l).map (layF upr n)) := ⟨_, rfl⟩
  have hA1n : A1.length ≤ 2000000 := by
    rw [hA1, List.length_append]
    have := List.length_filterMap_le (fun l => (halfL upr n low l).map (layF upr n)) xs.reverse
    rw [List.length_reverse] at this
    omega
  obtain ⟨fa, hfa⟩ : ∃ fa, fa = fT upr := ⟨_, rfl⟩
  obtain ⟨fb, hfb⟩ : ∃ fb, fb = fX upr n := ⟨_, rfl⟩
  obtain ⟨fc, hfc⟩ : ∃ fc, fc = fY upr n := ⟨_, rfl⟩
  refine m_body tab_ok (fn := Tryd.f24) (by kernel_rfl) rfl ?_
  intro X hX
  cbv
  have e2n := mul2N (hn.up (L := 2305843009213693952) (by decide)) (by decide) hX

  refine m_join (X := X) (c := ?cc) (k := ?kk) (fun T H => H.length = 2 ∧ ∃ b : Nat × Int × Nat × (Nat → La), FI under [] (halfL upr n (!low)) xs b.1 b.2.1 b.2.2.1 b.2.2.2 ∧ As 2 T H (([.one (.sl 0 0 m c), .one (.bool upr), .one (.int .i64 n), .one (.bool low), .one (.bool under)] ++ List.replicate 5 (.one .undef) ++ [.one .nils, .one (.ptr 1 0 0), .one (.sl 2 0 b.2.2.1 none)] ++ [.one (.int .i64 b.2.1)] ++ List.replicate 98 (.one .undef), [some (.row rw 43 7 m F), some (.box 41 [.int .i64 fa, .int .i64 fb, .int .i64 fc]), lays true b.2.2.1 b.2.2.2]) : List V × Heap).1 (([.one (.sl 0 0 m c), .one (.bool upr), .one (.int .i64 n), .one (.bool low), .one (.bool under)] ++ List.replicate 5 (.one .undef) ++ [.one .nils, .one (.ptr 1 0 0), .one (.sl 2 0 b.2.2.1 none)] ++ [.one (.int .i64 b.2.1)] ++ List.replicate 98 (.one .undef), [some (.row rw 43 7 m F), some (.box 41 [.int .i64 fa, .int .i64 fb, .int .i64 fc]), lays true b.2.2.1 b.2.2.2]) : List V × Heap).2) (fun key => ?g1) ?g2
  case g1 =>
    refine m_cond hX (fun hu => ?_) (fun hu => ?_) <;> cbv
    all_goals
      refine key _ _ ?_
      refine ⟨rfl, ⟨0, 0, 0, fun _ => La.zero⟩, ⟨by omega, rfl, fun _ => rfl, ⟨by simp, fun q hq => absurd hq (by simp)⟩, by simp⟩, [some 0, some 1, none], ?_, rfl, rfl, ?_⟩
      · rw [hfa, hfb, hfc, hu]
        simp [MH, MB, MC.MCs, MC, hFm, fT, fX, fY]
        try exact e2n.symm
      · simp [MT, MV.MVs, MV, MC]
  rintro T H ⟨hN, hTH⟩
  refine m_loopX tab_ok hX 0 (fun b : Nat × Int × Nat × (Nat → La) => FI under [] (halfL upr n (!low)) xs b.1 b.2.1 b.2.2.1 b.2.2.2) (fun b => ([.one (.sl 0 0 m c), .one (.bool upr), .one (.int .i64 n), .one (.bool low), .one (.bool under)] ++ List.replicate 5 (.one .undef) ++ [.one .nils, .one (.ptr 1 0 0), .one (.sl 2 0 b.2.2.1 none)] ++ [.one (.int .i64 b.2.1)] ++ List.replicate 98 (.one .undef), [some (.row rw 43 7 m F), some (.box 41 [.int .i64 fa, .int .i64 fb, .int .i64 fc]), lays true b.2.2.1 b.2.2.2])) (fun b => m - b.1) (fun b : Nat × (Nat → La) => Tells b.1 b.2 (A0)) (fun b => ([.one (.sl 0 0 m c), .one (.bool upr), .one (.int .i64 n), .one (.bool low), .one (.bool under)] ++ List.replicate 5 (.one .undef) ++ [.one .nils, .one (.ptr 1 0 0), .one (.sl 2 0 b.1 none)] ++ [.one .undef] ++ List.replicate 98 (.one .undef), [some (.row rw 43 7 m F), some (.box 41 [.int .i64 fa, .int .i64 fb, .int .i64 fc]), lays true b.1 b.2])) hN hTH ?_ ?_
  ·
    rintro ⟨a, i, u, f⟩ hb
    replace hb : FI under [] (halfL upr n (!low)) xs a i u f := hb
    cbv
    refine m_cond hX (fun h => ?_) (fun h => ?_) <;> cbv
    ·
      refine m_cond hX (fun h2 => ?_) (fun h2 => ?_) <;> cbv
      · have hun : under = true := by
          subst hX
          have h3 : cmpS .lss i ↑m = true ∧ under = true := by simpa [std] using h2
          exact h3.2
        have hon : under = true := by exact hun
        have hh : (0 ≤ i ∧ i < m) ∧ i.toNat = a ∧ a < m ∧ i.toNat < m := by
          obtain ⟨g1, g2, g5, g3, g4⟩ := hb
          have him : i < m := by subst hX; simpa [std, cmpS] using h
          omega
        obtain ⟨hh1, hh2, hh3, hh4⟩ := hh
        refine ⟨by subst hX; exact hh1, by subst hX; show 0 + i.toNat < m; omega, ?_⟩
        obtain ⟨l, hl⟩ : ∃ l, l = xs.getD i.toNat La.zero := ⟨_, rfl⟩
        have hln : l.Near 144115188075855872 := hx l (by
          rw [hl, List.getD_eq_getElem?_getD, List.getElem?_eq_getElem (by omega)]
          exact List.getElem_mem _)
        have e : F (X.nadd 0 (X.toN i)) = lc l := by
          subst hX
          show F (0 + i.toNat) = _
          rw [hF _ (by omega), hl, Nat.zero_add]
        rw [e]
        cbv
        refine m_callq hX [] bodied_44 (fun k2 hk2 => RHalfG_c W0 upr (!low) n l (hln.up (by decide)) (hn.up (by decide)) k2 hk2) (by simp [MH]) rfl rfl (by simp [MV, MV.MVs, MC.MCs, MC, lc] <;> (subst hX; cases low <;> rfl)) ?_
        rintro ⟨e2, z⟩ hz
        replace hz : IsHalf upr n (!low) l e2 z := hz
        cbv
        obtain ⟨hz⟩ := hz
        cases e2 with
        | false =>
          replace hz : halfL upr n (!low) l = none := hz.elim (fun h => h.2) (fun h => by cases h.1)
          refine m_cond_f hX (by subst hX; rfl) ?_
          cbv
          have hl2 : l = xs.getD a La.zero := by rw [hl, hh2]
          have hs : [] ++ (xs.take (a + 1)).filterMap (halfL upr n (!low)) = _ := filterMap_none (by omega) hl2 hz
          obtain ⟨g1, g2, g5, g3, g4⟩ := hb
          refine ⟨⟨a + 1, i + 1, u, f⟩, ?_, ?_, [some 0, some 1, some 2], ?_, rfl, rfl, ?_⟩
          · exact ⟨by omega, by show i + 1 = ((a + 1 : Nat) : Int); omega, fun h => absurd (hon.symm.trans h) (by decide), by rw [hs]; exact g3, by show u ≤ ([] : List La).length + (a + 1); omega⟩
          · show m - (a + 1) < m - a; omega
          · simp [MH, MB, MC.MCs, MC, hFm, lc]
          · subst hX
            simp [MT, MV.MVs, MV, MC, std, binS]
            exact (wrap_eq (by omega) (by omega)).symm
        | true =>
          replace hz : halfL upr n (!low) l = some z := hz.elim (fun h => by cases h.1) (fun h => h.2)
          refine m_cond_t hX (by subst hX; rfl) ?_
          cbv
          have hl2 : l = xs.getD a La.zero := by rw [hl, hh2]
          have hs : [] ++ (xs.take (a + 1)).filterMap (halfL upr n (!low)) = _ := filterMap_some (by omega) hl2 hz
          obtain ⟨f', k1, k2, k3⟩ := hb.eO.snoc z
          obtain ⟨g1, g2, g5, g3, g4⟩ := hb
          have hAl : u ≤ 3000000 := by simp at g4; omega
          refine m_append tab_ok hX (u + 1) (fun q => lc (f' q)) rfl rfl rfl rfl rfl rfl (by decide) rfl rfl rfl ?_ ?_
          · refine ⟨by omega, by omega, by omega, by show (u + 1) * 56 ≤ _; omega, by omega, fun q hq => ?_, fun q hq => by simp only [Nat.zero_add, k2 q hq], fun q hq => ?_⟩
            · obtain rfl : q = 0 := by omega
              rfl
            · obtain rfl : q = 0 := by omega
              show lc (f' (u + 0)) = _
              rw [Nat.add_zero, k3]
              rfl
          cbv
          refine ⟨⟨a + 1, i + 1, u + 1, f'⟩, ?_, ?_, [some 0, some 1, some 5], ?_, rfl, rfl, ?_⟩
          · exact ⟨by omega, by show i + 1 = ((a + 1 : Nat) : Int); omega, fun h => absurd (hon.symm.trans h) (by decide), by rw [hs]; exact k1, by show u + 1 ≤ ([] : List La).length + (a + 1); omega⟩
          · show m - (a + 1) < m - a; omega
          · simp [MH, MB, MC.MCs, MC, hFm, lc]
          · subst hX
            simp [MT, MV.MVs, MV, MC, std, binS]
            exact (wrap_eq (by omega) (by omega)).symm
      · have hun : ¬ under = true := by
          subst hX
          have h3 : cmpS .lss i ↑m = true → ¬ under = true := by simpa [std] using h2
          exact h3 (by simpa [std] using h)
        have hE : Tells u f (A0) := by
          obtain ⟨g1, g2, g5, g3, g4⟩ := hb
          have a0 : a = 0 := g5 (by simpa using hun)
          subst a0
          rw [hA0, if_neg hun]
          simpa using g3
        refine ⟨⟨u, f⟩, hE, [some 0, some 1, some 2], ?_, rfl, rfl, ?_⟩
        · simp [MH, MB, MC.MCs, MC, hFm, lc]
        · simp [MT, MV.MVs, MV, MC]
    ·
      refine m_cond_f hX h ?_
      cbv
      refine m_cond_f hX (by subst hX; rfl) ?_
      cbv
      have him : ¬ i < m := by subst hX; simpa [std, cmpS] using h
      have hE : Tells u f (A0) := by
        obtain ⟨g1, g2, g5, g3, g4⟩ := hb
        have e0 : xs.take a = xs := List.take_of_length_le (by omega)
        rw [e0] at g3
        cases under with
        | true => rw [hA0]; simpa using g3
        | false =>
          have a0 := g5 rfl
          have : xs = [] := List.eq_nil_of_length_eq_zero (by omega)
          rw [hA0, this]
          rw [this] at g3
          simpa using g3
      refine ⟨⟨u, f⟩, hE, [some 0, some 1, some 2], ?_, rfl, rfl, ?_⟩
      · simp [MH, MB, MC.MCs, MC, hFm, lc]
      · simp [MT, MV.MVs, MV, MC]
  rintro ⟨u, f⟩ hE
  replace hE : Tells u f (A0) := hE
  cbv
  refine m_loopX tab_ok hX 2 (fun b : Nat × Int × Nat × (Nat → La) => FD A0 (fun l => (halfL upr n low l).map (layF upr n)) xs b.1 b.2.1 b.2.2.1 b.2.2.2) (fun b => ([.one (.sl 0 0 m c), .one (.bool upr), .one (.int .i64 n), .one (.bool low), .one (.bool under)] ++ List.replicate 5 (.one .undef) ++ [.one .nils, .one (.ptr 1 0 0), .one (.sl 3 0 b.2.2.1 none)] ++ List.replicate 3 (.one .undef) ++ [.one (.int .i64 b.2.1)] ++ List.replicate 95 (.one .undef), [some (.row rw 43 7 m F), some (.box 41 [.int .i64 fa, .int .i64 fb, .int .i64 fc]), none, lays true b.2.2.1 b.2.2.2])) (fun b => m - b.1) (fun b : Nat × (Nat → La) => Tells b.1 b.2 (A1)) (fun b => ([.one (.sl 0 0 m c), .one (.bool upr), .one (.int .i64 n), .one (.bool low), .one (.bool under)] ++ List.replicate 5 (.one .undef) ++ [.one .nils, .one (.ptr 1 0 0), .one (.sl 3 0 b.1 none)] ++ List.replicate 3 (.one .undef) ++ [.one .undef] ++ List.replicate 95 (.one .undef), [some (.row rw 43 7 m F), some (.box 41 [.int .i64 fa, .int .i64 fb, .int .i64 fc]), none, lays true b.1 b.2])) rfl ?_ ?_ ?_
  ·
    refine ⟨⟨0, (m : Int) - 1, u, f⟩, ⟨by omega, by show (m : Int) - 1 = (xs.length : Int) - 1 - ((0 : Nat) : Int); omega, by simpa using hE, by have := hE.n; show u ≤ A0.length + 0; omega⟩, [some 0, some 1, some 2, some 2], ?_, rfl, rfl, ?_⟩
    · simp [MH, MB, MC.MCs, MC, hFm, lc]
    · subst hX
      simp [MT, MV.MVs, MV, MC, std, binS]
      exact (wrap_eq (by omega) (by omega)).symm
  ·
    rintro ⟨a, i, u, f⟩ hb
    replace hb : FD A0 (fun l => (halfL upr n low l).map (layF upr n)) xs a i u f := hb
    cbv
    refine m_cond hX (fun h => ?_) (fun h => ?_) <;> cbv
    · have hh : (0 ≤ i ∧ i < m) ∧ i.toNat = m - 1 - a ∧ a < m ∧ i.toNat < m := by
        obtain ⟨g1, g2, g3, g4⟩ := hb
        have : 0 ≤ i := by subst hX; simpa [std, cmpS] using h
        omega
      obtain ⟨hh1, hh2, hh3, hh4⟩ := hh
      refine ⟨by subst hX; exact hh1, by subst hX; show 0 + i.toNat < m; omega, ?_⟩
      obtain ⟨l, hl⟩ : ∃ l, l = xs.getD i.toNat La.zero := ⟨_, rfl⟩
      have hln : l.Near 144115188075855872 := hx l (by
        rw [hl, List.getD_eq_getElem?_getD, List.getElem?_eq_getElem (by omega)]
        exact List.getElem_mem _)
      have e : F (X.nadd 0 (X.toN i)) = lc l := by
        subst hX
        show F (0 + i.toNat) = _
        rw [hF _ (by omega), hl, Nat.zero_add]
      rw [e]
      cbv
      refine m_callq hX [] bodied_44 (fun k2 hk2 => RHalfG_c W0 upr low n l (hln.up (by decide)) (hn.up (by decide)) k2 hk2) (by simp [MH]) rfl rfl (by simp [MV, MV.MVs, MC.MCs, MC, lc] <;> (subst hX; cases low <;> rfl)) ?_
      rintro ⟨e2, z⟩ hz
      replace hz : IsHalf upr n low l e2 z := hz
      cbv
      obtain ⟨hz⟩ := hz
      cases e2 with
      | false =>
        replace hz : halfL upr n low l = none := hz.elim (fun h => h.2) (fun h => by cases h.1)
        refine m_cond_f hX (by subst hX; rfl) ?_
        cbv
        have hl2 : l = xs.reverse.getD a La.zero := by rw [getD_reverse (by omega), hl]; congr 1; omega
        have hs : A0 ++ (xs.reverse.take (a + 1)).filterMap (fun l => (halfL upr n low l).map (layF upr n)) = _ := filterMap_none (by rw [List.length_reverse]; omega) hl2 (by rw [hz]; rfl)
        obtain ⟨g1, g2, g3, g4⟩ := hb
        refine ⟨⟨a + 1, i - 1, u, f⟩, ?_, ?_, [some 0, some 1, some 2, some 3], ?_, rfl, rfl, ?_⟩
        · exact ⟨by omega, by show i - 1 = (xs.length : Int) - 1 - ((a + 1 : Nat) : Int); omega, by rw [hs]; exact g3, by show u ≤ A0.length + (a + 1); omega⟩
        · show m - (a + 1) < m - a; omega
        · simp [MH, MB, MC.MCs, MC, hFm, lc]
        · subst hX
          simp [MT, MV.MVs, MV, MC, std, binS]
          exact (wrap_eq (by omega) (by omega)).symm
      | true =>
        replace hz : halfL upr n low l = some z := hz.elim (fun h => by cases h.1) (fun h => h.2)
        refine m_cond_t hX (by subst hX; rfl) ?_
        cbv
        have hl2 : l = xs.reverse.getD a La.zero := by rw [getD_reverse (by omega), hl]; congr 1; omega
        have hs : A0 ++ (xs.reverse.take (a + 1)).filterMap (fun l => (halfL upr n low l).map (layF upr n)) = _ := filterMap_some (by rw [List.length_reverse]; omega) hl2 (by rw [hz]; rfl)
        have hzn : z.Near 576460752303423488 := halfL_near hln hn hz
        obtain ⟨f', k1, k2, k3⟩ := hb.eO.snoc (layF upr n z)
        obtain ⟨g1, g2, g3, g4⟩ := hb
        refine m_gen (A := X.draw _ _ _) fun K1 hK1 => ?_
        refine m_drawT tab_ok hX [] [9] (.one 0 0 (.one 1 0 (.one 3 0 (.one 2 1 (.one 4 1 (.one 5 1 (.one 6 2 (.one 7 0 (.one 8 2 (.one 9 3 (.one 10 0 .fin))))))))))) (by kernel_rfl) (by simp) ?_
        cbv
        refine m_callq hX [] bodied_27 (fun k2 hk2 => RThen_c W0 z.t z.X z.Y fa fb fc hzn.t (hfa ▸ fT_tu upr) (hzn.X.up (by decide)) (hzn.Y.up (by decide)) (hfb ▸ (fX_nr hn).up (by decide)) (hfc ▸ (fY_nr hn).up (by decide)) k2 hk2) (by simp [MH]) rfl rfl (by simp [MV, MV.MVs, MC.MCs, MC]) ?_
        intro q hq
        obtain ⟨q0, q1, q2⟩ := q
        replace hq : IsThen z.t z.X z.Y fa fb fc q0 q1 q2 := hq
        have hy := hq.layF ⟨hfa, hfb, hfc⟩
        cbv
        have hAl : u ≤ 3000000 := by omega
        refine m_append tab_ok hX (u + 1) (fun q => lc (f' q)) rfl rfl rfl rfl rfl rfl (by decide) rfl rfl rfl ?_ ?_
        · refine ⟨by omega, by omega, by omega, by show (u + 1) * 56 ≤ _; omega, by omega, fun q hq => ?_, fun q hq => by simp only [Nat.zero_add, k2 q hq], fun q hq => ?_⟩
          · obtain rfl : q = 0 := by omega
            rfl
          · obtain rfl : q = 0 := by omega
            show lc (f' (u + 0)) = _
            rw [Nat.add_zero, k3, ← hy]
            rfl
        cbv
        refine hK1 _ _ ?_
        cbv
        refine ⟨⟨a + 1, i - 1, u + 1, f'⟩, ?_, ?_, [some 0, some 1, some 2, some 6], ?_, rfl, rfl, ?_⟩
        · exact ⟨by omega, by show i - 1 = (xs.length : Int) - 1 - ((a + 1 : Nat) : Int); omega, by rw [hs]; exact k1, by show u + 1 ≤ A0.length + (a + 1); omega⟩
        · show m - (a + 1) < m - a; omega
        · simp [MH, MB, MC.MCs, MC, hFm, lc]
        · subst hX
          simp [MT, MV.MVs, MV, MC, std, binS]
          exact (wrap_eq (by omega) (by omega)).symm
    · have hE : Tells u f A1 := by
        obtain ⟨g1, g2, g3, g4⟩ := hb
        have : ¬ 0 ≤ i := by subst hX; simpa [std, cmpS] using h
        have e0 : xs.reverse.take a = xs.reverse := List.take_of_length_le (by rw [List.length_reverse]; omega)
        rw [e0, ← hA1] at g3
        exact g3
      refine ⟨⟨u, f⟩, hE, [some 0, some 1, some 2, some 3], ?_, rfl, rfl, ?_⟩
      · simp [MH, MB, MC.MCs, MC, hFm, lc]
      · simp [MT, MV.MVs, MV, MC]
  rintro ⟨u, f⟩ hE
  replace hE : Tells u f (A1) := hE
  cbv
  refine m_loopX tab_ok hX 4 (fun b : Nat × Int × Nat × (Nat → La) => FI (!under) A1 (halfL upr n (!low)) xs b.1 b.2.1 b.2.2.1 b.2.2.2) (fun b => ([.one (.sl 0 0 m c), .one (.bool upr), .one (.int .i64 n), .one (.bool low), .one (.bool under)] ++ List.replicate 5 (.one .undef) ++ [.one .nils, .one (.ptr 1 0 0), .one (.sl 4 0 b.2.2.1 none)] ++ List.replicate 6 (.one .undef) ++ [.one (.int .i64 b.2.1)] ++ List.replicate 92 (.one .undef), [some (.row rw 43 7 m F), some (.box 41 [.int .i64 fa, .int .i64 fb, .int .i64 fc]), none, none, lays true b.2.2.1 b.2.2.2])) (fun b => m - b.1) (fun b : Nat × (Nat → La) => Tells b.1 b.2 (A1 ++ (if under then [] else xs.filterMap (halfL upr n (!low))))) (fun b => ([.one (.sl 0 0 m c), .one (.bool upr), .one (.int .i64 n), .one (.bool low), .one (.bool under)] ++ List.replicate 5 (.one .undef) ++ [.one .nils, .one (.ptr 1 0 0), .one (.sl 4 0 b.1 none)] ++ List.replicate 6 (.one .undef) ++ [.one .undef] ++ List.replicate 92 (.one .undef), [some (.row rw 43 7 m F), some (.box 41 [.int .i64 fa, .int .i64 fb, .int .i64 fc]), none, none, lays true b.1 b.2])) rfl ?_ ?_ ?_
  ·
    refine ⟨⟨0, 0, u, f⟩, ⟨by omega, rfl, fun _ => rfl, by simpa using hE, by have := hE.n; show u ≤ A1.length + 0; omega⟩, [some 0, some 1, some 2, some 3, some 3], ?_, rfl, rfl, ?_⟩
    · simp [MH, MB, MC.MCs, MC, hFm, lc]
    · simp [MT, MV.MVs, MV, MC]
  ·
    rintro ⟨a, i, u, f⟩ hb
    replace hb : FI (!under) A1 (halfL upr n (!low)) xs a i u f := hb
    cbv
    refine m_cond hX (fun h => ?_) (fun h => ?_) <;> cbv
    ·
      refine m_cond_t hX h ?_
      cbv
      refine m_cond hX (fun h2 => ?_) (fun h2 => ?_) <;> cbv
      · have hun : under = false := by
          subst hX
          have h3 : cmpS .lss i ↑m = true ∧ under = false := by simpa [std] using h2
          exact h3.2
        have hon : (!under) = true := by rw [hun]; rfl
        have hh : (0 ≤ i ∧ i < m) ∧ i.toNat = a ∧ a < m ∧ i.toNat < m := by
          obtain ⟨g1, g2, g5, g3, g4⟩ := hb
          have him : i < m := by subst hX; simpa [std, cmpS] using h
          omega
        obtain ⟨hh1, hh2, hh3, hh4⟩ := hh
        refine ⟨by subst hX; exact hh1, by subst hX; show 0 + i.toNat < m; omega, ?_⟩
        obtain ⟨l, hl⟩ : ∃ l, l = xs.getD i.toNat La.zero := ⟨_, rfl⟩
        have hln : l.Near 144115188075855872 := hx l (by
          rw [hl, List.getD_eq_getElem?_getD, List.getElem?_eq_getElem (by omega)]
          exact List.getElem_mem _)
        have e : F (X.nadd 0 (X.toN i)) = lc l := by
          subst hX
          show F (0 + i.toNat) = _
          rw [hF _ (by omega), hl, Nat.zero_add]
        rw [e]
        cbv
        refine m_callq hX [] bodied_44 (fun k2 hk2 => RHalfG_c W0 upr (!low) n l (hln.up (by decide)) (hn.up (by decide)) k2 hk2) (by simp [MH]) rfl rfl (by simp [MV, MV.MVs, MC.MCs, MC, lc] <;> (subst hX; cases low <;> rfl)) ?_
        rintro ⟨e2, z⟩ hz
        replace hz : IsHalf upr n (!low) l e2 z := hz
        cbv
        obtain ⟨hz⟩ := hz
        cases e2 with
        | false =>
          replace hz : halfL upr n (!low) l = none := hz.elim (fun h => h.2) (fun h => by cases h.1)
          refine m_cond_f hX (by subst hX; rfl) ?_
          cbv
          have hl2 : l = xs.getD a La.zero := by rw [hl, hh2]
          have hs : A1 ++ (xs.take (a + 1)).filterMap (halfL upr n (!low)) = _ := filterMap_none (by omega) hl2 hz
          obtain ⟨g1, g2, g5, g3, g4⟩ := hb
          refine ⟨⟨a + 1, i + 1, u, f⟩, ?_, ?_, [some 0, some 1, some 2, some 3, some 4], ?_, rfl, rfl, ?_⟩
          · exact ⟨by omega, by show i + 1 = ((a + 1 : Nat) : Int); omega, fun h => absurd (hon.symm.trans h) (by decide), by rw [hs]; exact g3, by show u ≤ A1.length + (a + 1); omega⟩
          · show m - (a + 1) < m - a; omega
          · simp [MH, MB, MC.MCs, MC, hFm, lc]
          · subst hX
            simp [MT, MV.MVs, MV, MC, std, binS]
            exact (wrap_eq (by omega) (by omega)).symm
        | true =>
          replace hz : halfL upr n (!low) l = some z := hz.elim (fun h => by cases h.1) (fun h => h.2)
          refine m_cond_t hX (by subst hX; rfl) ?_
          cbv
          have hl2 : l = xs.getD a La.zero := by rw [hl, hh2]
          have hs : A1 ++ (xs.take (a + 1)).filterMap (halfL upr n (!low)) = _ := filterMap_some (by omega) hl2 hz
          obtain ⟨f', k1, k2, k3⟩ := hb.eO.snoc z
          obtain ⟨g1, g2, g5, g3, g4⟩ := hb
          have hAl : u ≤ 3000000 := by omega
          refine m_append tab_ok hX (u + 1) (fun q => lc (f' q)) rfl rfl rfl rfl rfl rfl (by decide) rfl rfl rfl ?_ ?_
          · refine ⟨by omega, by omega, by omega, by show (u + 1) * 56 ≤ _; omega, by omega, fun q hq => ?_, fun q hq => by simp only [Nat.zero_add, k2 q hq], fun q hq => ?_⟩
            · obtain rfl : q = 0 := by omega
              rfl
            · obtain rfl : q = 0 := by omega
              show lc (f' (u + 0)) = _
              rw [Nat.add_zero, k3]
              rfl
          cbv
          refine ⟨⟨a + 1, i + 1, u + 1, f'⟩, ?_, ?_, [some 0, some 1, some 2, some 3, some 7], ?_, rfl, rfl, ?_⟩
          · exact ⟨by omega, by show i + 1 = ((a + 1 : Nat) : Int); omega, fun h => absurd (hon.symm.trans h) (by decide), by rw [hs]; exact k1, by show u + 1 ≤ A1.length + (a + 1); omega⟩
          · show m - (a + 1) < m - a; omega
          · simp [MH, MB, MC.MCs, MC, hFm, lc]
          · subst hX
            simp [MT, MV.MVs, MV, MC, std, binS]
            exact (wrap_eq (by omega) (by omega)).symm
      · have hun : ¬ under = false := by
          subst hX
          have h3 : cmpS .lss i ↑m = true → ¬ under = false := by simpa [std] using h2
          exact h3 (by simpa [std] using h)
        have hE : Tells u f (A1 ++ (if under then [] else xs.filterMap (halfL upr n (!low)))) := by
          obtain ⟨g1, g2, g5, g3, g4⟩ := hb
          have a0 : a = 0 := g5 (by simpa using hun)
          subst a0
          have hun2 : under = true := by simpa using hun
          rw [if_pos hun2]
          simpa using g3
        refine ⟨⟨u, f⟩, hE, [some 0, some 1, some 2, some 3, some 4], ?_, rfl, rfl, ?_⟩
        · simp [MH, MB, MC.MCs, MC, hFm, lc]
        · simp [MT, MV.MVs, MV, MC]
    ·
      refine m_cond_f hX h ?_
      cbv
      refine m_cond_f hX h ?_
      cbv
      refine m_cond_f hX (by subst hX; rfl) ?_
      cbv
      have him : ¬ i < m := by subst hX; simpa [std, cmpS] using h
      have hE : Tells u f (A1 ++ (if under then [] else xs.filterMap (halfL upr n (!low)))) := by
        obtain ⟨g1, g2, g5, g3, g4⟩ := hb
        have e0 : xs.take a = xs := List.take_of_length_le (by omega)
        rw [e0] at g3
        cases under with
        | false => simpa using g3
        | true =>
          have a0 := g5 rfl
          have : xs = [] := List.eq_nil_of_length_eq_zero (by omega)
          rw [this] at g3
          simpa using g3
      refine ⟨⟨u, f⟩, hE, [some 0, some 1, some 2, some 3, some 4], ?_, rfl, rfl, ?_⟩
      · simp [MH, MB, MC.MCs, MC, hFm, lc]
      · simp [MT, MV.MVs, MV, MC]
  rintro ⟨u, f⟩ hE
  replace hE : Tells u f (A1 ++ (if under then [] else xs.filterMap (halfL upr n (!low)))) := hE
  cbv
  have hZ2 : foldL upr low under n xs = A1 ++ (if under then [] else xs.filterMap (halfL upr n (!low))) := by unfold foldL; rw [hA1, hA0]
  obtain ⟨Z, hZ⟩ : ∃ Z, Z = foldL upr low under n xs := ⟨_, rfl⟩
  have hk2 := hk Z hZ
  rw [← hZ2, ← hZ] at hE
  have hEn := hE.n
  rw [← hEn] at hk2
  refine ⟨_, _, [some 0, some 4], ?_, rfl, rfl, ?_, hk2⟩
  · have hEf := hE.f
    simp [MH, MB, MC.MCs, MC, hFm]
    intro q hq
    have := hEf q hq
    simp only [List.getD_eq_getElem?_getD] at this
    rw [← this]
    simp [MC.MCs, MC, lc]
  · simp [MV, MC]
end Go.Proofs.YtdijdlkljeibjaaDoor.AM
namespace Go.Proofs.YtdijdlkljeibjaaDoor.AM
open Go Go.RowKit
set_option cbv.warning false
set_option maxRecDepth 100000
set_option linter.unusedVariables false
set_option linter.unusedSimpArgs false
theorem bodied_7 : Bodied Tryd.prog 7 := ⟨Tryd.f7, by kernel_rfl, by kernel_rfl, by kernel_rfl⟩
theorem bodied_5 : Bodied Tryd.prog 5 := ⟨Tryd.f5, by kernel_rfl, by kernel_rfl, by kernel_rfl⟩
theorem bodied_6 : Bodied Tryd.prog 6 := ⟨Tryd.f6, by kernel_rfl, by kernel_rfl, by kernel_rfl⟩
theorem bodied_11 : Bodied Tryd.prog 11 := ⟨Tryd.f11, by kernel_rfl, by kernel_rfl, by kernel_rfl⟩
theorem In_c (W0 : World) (a lo hi : Int) (k : V → Heap → Prop) (hk : ∀ b : Bool, (b = true ↔ lo ≤ a ∧ a ≤ hi) → k (.one (.bool b)) []) : ACall Tryd.prog W0 7 [.one (.int .i64 a), .one (.int .i64 lo), .one (.int .i64 hi)] [] k := by
  refine m_body tab_ok (fn := Tryd.f7) (by kernel_rfl) rfl ?_
  intro X hX
  cbv
  refine m_cond hX (fun h => ?_) (fun h => ?_) <;> cbv
  ·
    repeat' (first | (refine m_cond_t hX (by first | rfl | assumption | (subst hX; rfl)) ?_; cbv) | (refine m_cond_f hX (by first | rfl | assumption | (subst hX; rfl)) ?_; cbv) | fail)
    refine ⟨_, _, [], ?_, rfl, rfl, ?_, hk (decide (a ≤ hi)) ?_⟩
    · trivial
    · subst hX
      simp [MV, MC, std, cmpS] at h ⊢
      simp [h]
    · subst hX
      simp [std, cmpS] at h ⊢
      omega
  ·
    repeat' (first | (refine m_cond_t hX (by first | rfl | assumption | (subst hX; rfl)) ?_; cbv) | (refine m_cond_f hX (by first | rfl | assumption | (subst hX; rfl)) ?_; cbv) | fail)
    refine ⟨_, _, [], ?_, rfl, rfl, ?_, hk false ?_⟩
    · trivial
    · subst hX
      simp [MV, MC, std, cmpS] at h ⊢
      try omega
    · subst hX
      simp [std, cmpS] at h ⊢
      omega
theorem eq69 : EqInts Tryd.prog 43 7 where
  key := ⟨6, by decide, by kernel_rfl⟩
  guard := by kernel_rfl
  formed zs hz := by
    have h1 : Tryd.prog.cellsOf 43 = 7 := by kernel_rfl
    unfold Value.formed
    rw [Tryd.underlying43]
    simp [h1, hz]
  lits := ⟨6, fun zs hz hw => by
    have h1 : Tryd.prog.cellsOf 43 = 7 := by kernel_rfl
    have h2 : Tryd.prog.cellsOf 39 = 4 := by kernel_rfl
    have h4 : Tryd.prog.cellsOf 41 = 3 := by kernel_rfl
    have h3 : Tryd.prog.cellsOf 3 = 1 := by kernel_rfl
    match zs, hz, hw with
    | [a, b, c, d, e, f, g], _, hw =>
      have wa := hw a (by simp)
      have wb := hw b (by simp)
      have wc := hw c (by simp)
      have wd := hw d (by simp)
      have we := hw e (by simp)
      have wf := hw f (by simp)
      have wg := hw g (by simp)
      simp (decide := true) [Program.keyLits, Tryd.underlying43, Tryd.underlying39, Tryd.underlying41, Tryd.underlying3, h1, h2, h3, h4, wa, wb, wc, wd, we, wf, wg]⟩
/-- A layer's numbers. -/
structure BI (n a : Nat) (i : Int) : Prop where
  h : a ≤ n
  ei : i = a
def li (l : La) : List Int := [l.x0, l.y0, l.x1, l.y1, l.t, l.X, l.Y]
theorem li_wf {K : Int} {l : La} (h : l.Near K) (hK : K ≤ 4611686018427387904) : ∀ z ∈ li l, (Lit.int .i64 z).wf = true := by
  intro z hz
  have ht : Nr 7 l.t := ⟨by have := h.t.lo; omega, h.t.hi⟩
  simp only [li, List.mem_cons, List.not_mem_nil, or_false] at hz
  rcases hz with rfl | rfl | rfl | rfl | rfl | rfl | rfl
  · exact (h.x0.up hK).wf
  · exact (h.y0.up hK).wf
  · exact (h.x1.up hK).wf
  · exact (h.y1.up hK).wf
  · exact (ht.up (by decide)).wf
  · exact (h.X.up hK).wf
  · exact (h.Y.up hK).wf
/-- ref38.Same, of lists that are the same. -/
theorem Same_c (W0 : World) (r1 r2 : Bool) (n : Nat) (c1 c2 : Option Nat) (f g : Nat → La) (hfg : ∀ q, q < n → f q = g q) (hne : ∀ q, q < n → (f q).Near 2305843009213693952) (hn : n ≤ 10000000) (k : V → Heap → Prop) (hk : k (.one (.bool true)) [lays r1 n f, lays r2 n g]) :
    ACall Tryd.prog W0 11 [.one (.sl 0 0 n c1), .one (.sl 1 0 n c2)] [lays r1 n f, lays r2 n g] k := by
  refine m_body tab_ok (fn := Tryd.f11) (by kernel_rfl) rfl ?_
  intro X hX
  cbv
  refine m_cond_f hX (by subst hX; simp [std, cmpS]) ?_
  cbv
  refine m_loop tab_ok hX (fun b : Nat × Int => b.1 ≤ n ∧ b.2 = b.1) (fun b => ([.one (.sl 0 0 n c1), .one (.sl 1 0 n c2), .one .undef, .one .undef, .one .undef, .one (.int .i64 b.2)] ++ List.replicate 20 (.one .undef), [lays r1 n f, lays r2 n g])) (fun b => n - b.1) ?_ ?_
  · refine ⟨⟨0, 0⟩, ⟨by omega, rfl⟩, [some 0, some 1], ?_, rfl, rfl, ?_⟩
    · simp [MH, MB, MC.MCs, MC, lc]
    · simp [MT, MV.MVs, MV, MC]
  · rintro ⟨a, i⟩ hb
    replace hb : BI n a i := ⟨hb.1, hb.2⟩
    cbv
    refine m_cond hX (fun h => ?_) (fun h => ?_) <;> cbv
    · have hh : (0 ≤ i ∧ i < n) ∧ i.toNat = a ∧ a < n := by
        obtain ⟨g1, g2⟩ := hb
        have : i < n := by subst hX; simpa [std, cmpS] using h
        omega
      obtain ⟨hh1, hh2, hh3⟩ := hh
      refine m_drawT tab_ok hX [] [] (.one 0 0 (.one 1 0 (.one 2 0 (.one 4 0 (.one 5 0 (.one 6 0 (.one 3 1 (.one 7 1 (.one 8 0 .fin))))))))) (by kernel_rfl) (by simp) ?_
      cbv
      refine ⟨by subst hX; exact hh1, by subst hX; exact hh1, by subst hX; show 0 + i.toNat < n; omega, by subst hX; show 0 + i.toNat < n; omega, ?_⟩
      have e1 : f (X.nadd 0 (X.toN i)) = f a := by subst hX; show f (0 + i.toNat) = _; rw [hh2, Nat.zero_add]
      have e2 : g (X.nadd 0 (X.toN i)) = f a := by subst hX; show g (0 + i.toNat) = _; rw [hh2, Nat.zero_add, hfg a hh3]
      rw [e1, e2]
      refine m_eqInts hX (.inr rfl) eq69 (li (f a)) (li (f a)) rfl rfl rfl rfl (li_wf (hne a hh3) (by decide)) (li_wf (hne a hh3) (by decide)) ?_
      intro e he
      obtain rfl : e = true := he.2 rfl
      cbv
      refine m_cond_f hX (by subst hX; rfl) ?_
      cbv
      refine ⟨⟨a + 1, i + 1⟩, ⟨by show a + 1 ≤ n; omega, ?_⟩, by show n - (a + 1) < n - a; omega, [some 0, some 1], ?_, rfl, rfl, ?_⟩
      · obtain ⟨g1, g2⟩ := hb
        show i + 1 = ((a + 1 : Nat) : Int)
        omega
      · simp [MH, MB, MC.MCs, MC, lc]
      · obtain ⟨g1, g2⟩ := hb
        subst hX
        simp [MT, MV.MVs, MV, MC, std, binS]
        exact (wrap_eq (by omega) (by omega)).symm
    · refine ⟨_, _, [some 0, some 1], ?_, rfl, rfl, ?_, hk⟩
      · simp [MH, MB, MC.MCs, MC, lc]
      · simp [MV, MC]
/-- Layers that are near, and few. -/
structure NearAll (xs : List La) : Prop where
  h : ∀ l ∈ xs, l.Near 1099511627776
  n : xs.length ≤ 40
set_option maxHeartbeats 8000000 in
theorem near_c (W0 : World) (rw : Bool) (n : Nat) (c : Option Nat) (F : Nat → La) (hn : n ≤ 9223372036854775807) (k : V → Heap → Prop) (hk : ∀ b : Bool, (b = true → (∀ q, q < n → (F q).Near 1099511627776) ∧ n ≤ 40) → k (.one (.bool b)) [lays rw n F]) :
    ACall Tryd.prog W0 6 [.one (.sl 0 0 n c)] [lays rw n F] k := by
  refine m_body tab_ok (fn := Tryd.f6) (by kernel_rfl) rfl ?_
  intro X hX
  cbv
  refine m_loop tab_ok hX (fun b : Nat × Int => (b.1 ≤ n ∧ b.2 = b.1) ∧ ∀ q, q < b.1 → (F q).Near 1099511627776) (fun b => ([.one (.sl 0 0 n c), .one .undef, .one .undef, .one (.int .i64 1099511627776), .one (.int .i64 b.2)] ++ List.replicate 85 (.one .undef), [lays rw n F])) (fun b => n - b.1) ?_ ?_
  · refine ⟨⟨0, 0⟩, ⟨⟨by omega, rfl⟩, fun q hq => absurd hq (by simp)⟩, [some 0], ?_, rfl, rfl, ?_⟩
    · simp [MH, MB, MC.MCs, MC, lc]
    · simp [MT, MV.MVs, MV, MC]
  · rintro ⟨a, i⟩ hb
    have hN := hb.2
    replace hb : BI n a i := ⟨hb.1.1, hb.1.2⟩
    cbv
    refine m_cond hX (fun h => ?_) (fun h => ?_) <;> cbv
    · have hh : (0 ≤ i ∧ i < n) ∧ i.toNat = a ∧ a < n := by
        obtain ⟨g1, g2⟩ := hb
        have : i < n := by subst hX; simpa [std, cmpS] using h
        omega
      obtain ⟨hh1, hh2, hh3⟩ := hh
      have i1 : X.inb i n := by subst hX; exact hh1
      have i2 : X.nlt (X.nadd 0 (X.toN i)) n := by subst hX; show 0 + i.toNat < n; omega
      refine ⟨i1, i2, ?_⟩
      have e1 : F (X.nadd 0 (X.toN i)) = F a := by subst hX; show F (0 + i.toNat) = _; rw [hh2, Nat.zero_add]
      have e0 : X.bin .sub .i64 0 1099511627776 = -1099511627776 := by
        subst hX
        show IntKind.i64.wrap (0 - 1099511627776) = -1099511627776
        decide
      rw [e1]
      obtain ⟨l, hl⟩ : ∃ l, l = F a := ⟨_, rfl⟩
      rw [← hl]
      cbv
      refine m_callq hX [] bodied_7 (fun k2 hk2 => In_c W0 l.x0 (X.bin .sub .i64 0 1099511627776) 1099511627776 k2 hk2) ?_ rfl rfl ?_ ?_
      · (first | (simp [MH, MB, MT, MV, MV.MVs, MC.MCs, MC, renC.renCs, renC, up]; done) | (simp [MH, MB, MT, MV, MV.MVs, MC.MCs, MC, renC.renCs, renC, up]; omega) | (simp [MH, MB, MT, MV, MV.MVs, MC.MCs, MC, renC.renCs, renC, up] <;> omega))
      · simp [MV, MV.MVs, MC, MC.MCs]
      intro b0 hb0
      cbv
      cases b0 with
      | false =>
        repeat' (first | (refine m_cond_t hX (by first | rfl | assumption | (subst hX; rfl)) ?_; cbv) | (refine m_cond_f hX (by first | rfl | assumption | (subst hX; rfl)) ?_; cbv) | fail)
        refine ⟨_, _, [some 0], ?_, rfl, rfl, ?_, hk false (fun h => by cases h)⟩
        · simp [MH, MB, MC.MCs, MC, lc]
        · simp [MV, MC]
      | true =>
        repeat' (first | (refine m_cond_t hX (by first | rfl | assumption | (subst hX; rfl)) ?_; cbv) | (refine m_cond_f hX (by first | rfl | assumption | (subst hX; rfl)) ?_; cbv) | fail)
        refine m_callq hX [] bodied_7 (fun k2 hk2 => In_c W0 l.y0 (X.bin .sub .i64 0 1099511627776) 1099511627776 k2 hk2) ?_ rfl rfl ?_ ?_
        · (first | (simp [MH, MB, MT, MV, MV.MVs, MC.MCs, MC, renC.renCs, renC, up]; done) | (simp [MH, MB, MT, MV, MV.MVs, MC.MCs, MC, renC.renCs, renC, up]; omega) | (simp [MH, MB, MT, MV, MV.MVs, MC.MCs, MC, renC.renCs, renC, up] <;> omega))
        · simp [MV, MV.MVs, MC, MC.MCs]
        intro b1 hb1
        cbv
        cases b1 with
        | false =>
          repeat' (first | (refine m_cond_t hX (by first | rfl | assumption | (subst hX; rfl)) ?_; cbv) | (refine m_cond_f hX (by first | rfl | assumption | (subst hX; rfl)) ?_; cbv) | fail)
          refine ⟨_, _, [some 0], ?_, rfl, rfl, ?_, hk false (fun h => by cases h)⟩
          · simp [MH, MB, MC.MCs, MC, lc]
          · simp [MV, MC]
        | true =>
          repeat' (first | (refine m_cond_t hX (by first | rfl | assumption | (subst hX; rfl)) ?_; cbv) | (refine m_cond_f hX (by first | rfl | assumption | (subst hX; rfl)) ?_; cbv) | fail)
          refine m_callq hX [] bodied_7 (fun k2 hk2 => In_c W0 l.x1 (X.bin .sub .i64 0 1099511627776) 1099511627776 k2 hk2) ?_ rfl rfl ?_ ?_
          · (first | (simp [MH, MB, MT, MV, MV.MVs, MC.MCs, MC, renC.renCs, renC, up]; done) | (simp [MH, MB, MT, MV, MV.MVs, MC.MCs, MC, renC.renCs, renC, up]; omega) | (simp [MH, MB, MT, MV, MV.MVs, MC.MCs, MC, renC.renCs, renC, up] <;> omega))
          · simp [MV, MV.MVs, MC, MC.MCs]
          intro b2 hb2
          cbv
          cases b2 with
          | false =>
            repeat' (first | (refine m_cond_t hX (by first | rfl | assumption | (subst hX; rfl)) ?_; cbv) | (refine m_cond_f hX (by first | rfl | assumption | (subst hX; rfl)) ?_; cbv) | fail)
            refine ⟨_, _, [some 0], ?_, rfl, rfl, ?_, hk false (fun h => by cases h)⟩
            · simp [MH, MB, MC.MCs, MC, lc]
            · simp [MV, MC]
          | true =>
            repeat' (first | (refine m_cond_t hX (by first | rfl | assumption | (subst hX; rfl)) ?_; cbv) | (refine m_cond_f hX (by first | rfl | assumption | (subst hX; rfl)) ?_; cbv) | fail)
            refine m_callq hX [] bodied_7 (fun k2 hk2 => In_c W0 l.y1 (X.bin .sub .i64 0 1099511627776) 1099511627776 k2 hk2) ?_ rfl rfl ?_ ?_
            · (first | (simp [MH, MB, MT, MV, MV.MVs, MC.MCs, MC, renC.renCs, renC, up]; done) | (simp [MH, MB, MT, MV, MV.MVs, MC.MCs, MC, renC.renCs, renC, up]; omega) | (simp [MH, MB, MT, MV, MV.MVs, MC.MCs, MC, renC.renCs, renC, up] <;> omega))
            · simp [MV, MV.MVs, MC, MC.MCs]
            intro b3 hb3
            cbv
            cases b3 with
            | false =>
              repeat' (first | (refine m_cond_t hX (by first | rfl | assumption | (subst hX; rfl)) ?_; cbv) | (refine m_cond_f hX (by first | rfl | assumption | (subst hX; rfl)) ?_; cbv) | fail)
              refine ⟨_, _, [some 0], ?_, rfl, rfl, ?_, hk false (fun h => by cases h)⟩
              · simp [MH, MB, MC.MCs, MC, lc]
              · simp [MV, MC]
            | true =>
              repeat' (first | (refine m_cond_t hX (by first | rfl | assumption | (subst hX; rfl)) ?_; cbv) | (refine m_cond_f hX (by first | rfl | assumption | (subst hX; rfl)) ?_; cbv) | fail)
              refine ⟨i1, ?_⟩
              repeat' (first | (refine m_cond_t hX (by first | rfl | assumption | (subst hX; rfl)) ?_; cbv) | (refine m_cond_f hX (by first | rfl | assumption | (subst hX; rfl)) ?_; cbv) | fail)
              refine ⟨i2, ?_⟩
              rw [e1, ← hl]
              cbv
              repeat' (first | (refine m_cond_t hX (by first | rfl | assumption | (subst hX; rfl)) ?_; cbv) | (refine m_cond_f hX (by first | rfl | assumption | (subst hX; rfl)) ?_; cbv) | fail)
              refine m_callq hX [] bodied_7 (fun k2 hk2 => In_c W0 l.X (X.bin .sub .i64 0 1099511627776) 1099511627776 k2 hk2) ?_ rfl rfl ?_ ?_
              · (first | (simp [MH, MB, MT, MV, MV.MVs, MC.MCs, MC, renC.renCs, renC, up]; done) | (simp [MH, MB, MT, MV, MV.MVs, MC.MCs, MC, renC.renCs, renC, up]; omega) | (simp [MH, MB, MT, MV, MV.MVs, MC.MCs, MC, renC.renCs, renC, up] <;> omega))
              · simp [MV, MV.MVs, MC, MC.MCs]
              intro b4 hb4
              cbv
              cases b4 with
              | false =>
                repeat' (first | (refine m_cond_t hX (by first | rfl | assumption | (subst hX; rfl)) ?_; cbv) | (refine m_cond_f hX (by first | rfl | assumption | (subst hX; rfl)) ?_; cbv) | fail)
                refine ⟨_, _, [some 0], ?_, rfl, rfl, ?_, hk false (fun h => by cases h)⟩
                · simp [MH, MB, MC.MCs, MC, lc]
                · simp [MV, MC]
              | true =>
                repeat' (first | (refine m_cond_t hX (by first | rfl | assumption | (subst hX; rfl)) ?_; cbv) | (refine m_cond_f hX (by first | rfl | assumption | (subst hX; rfl)) ?_; cbv) | fail)
                refine ⟨i1, ?_⟩
                repeat' (first | (refine m_cond_t hX (by first | rfl | assumption | (subst hX; rfl)) ?_; cbv) | (refine m_cond_f hX (by first | rfl | assumption | (subst hX; rfl)) ?_; cbv) | fail)
                refine ⟨i2, ?_⟩
                rw [e1, ← hl]
                cbv
                repeat' (first | (refine m_cond_t hX (by first | rfl | assumption | (subst hX; rfl)) ?_; cbv) | (refine m_cond_f hX (by first | rfl | assumption | (subst hX; rfl)) ?_; cbv) | fail)
                refine m_callq hX [] bodied_7 (fun k2 hk2 => In_c W0 l.Y (X.bin .sub .i64 0 1099511627776) 1099511627776 k2 hk2) ?_ rfl rfl ?_ ?_
                · (first | (simp [MH, MB, MT, MV, MV.MVs, MC.MCs, MC, renC.renCs, renC, up]; done) | (simp [MH, MB, MT, MV, MV.MVs, MC.MCs, MC, renC.renCs, renC, up]; omega) | (simp [MH, MB, MT, MV, MV.MVs, MC.MCs, MC, renC.renCs, renC, up] <;> omega))
                · simp [MV, MV.MVs, MC, MC.MCs]
                intro b5 hb5
                cbv
                cases b5 with
                | false =>
                  repeat' (first | (refine m_cond_t hX (by first | rfl | assumption | (subst hX; rfl)) ?_; cbv) | (refine m_cond_f hX (by first | rfl | assumption | (subst hX; rfl)) ?_; cbv) | fail)
                  refine ⟨_, _, [some 0], ?_, rfl, rfl, ?_, hk false (fun h => by cases h)⟩
                  · simp [MH, MB, MC.MCs, MC, lc]
                  · simp [MV, MC]
                | true =>
                  repeat' (first | (refine m_cond_t hX (by first | rfl | assumption | (subst hX; rfl)) ?_; cbv) | (refine m_cond_f hX (by first | rfl | assumption | (subst hX; rfl)) ?_; cbv) | fail)
                  refine ⟨i1, ?_⟩
                  repeat' (first | (refine m_cond_t hX (by first | rfl | assumption | (subst hX; rfl)) ?_; cbv) | (refine m_cond_f hX (by first | rfl | assumption | (subst hX; rfl)) ?_; cbv) | fail)
                  refine ⟨i2, ?_⟩
                  rw [e1, ← hl]
                  cbv
                  repeat' (first | (refine m_cond_t hX (by first | rfl | assumption | (subst hX; rfl)) ?_; cbv) | (refine m_cond_f hX (by first | rfl | assumption | (subst hX; rfl)) ?_; cbv) | fail)
                  refine m_callq hX [] bodied_7 (fun k2 hk2 => In_c W0 l.t 0 7 k2 hk2) ?_ rfl rfl ?_ ?_
                  · (first | (simp [MH, MB, MT, MV, MV.MVs, MC.MCs, MC, renC.renCs, renC, up]; done) | (simp [MH, MB, MT, MV, MV.MVs, MC.MCs, MC, renC.renCs, renC, up]; omega) | (simp [MH, MB, MT, MV, MV.MVs, MC.MCs, MC, renC.renCs, renC, up] <;> omega))
                  · simp [MV, MV.MVs, MC, MC.MCs]
                  intro b6 hb6
                  cbv
                  cases b6 with
                  | false =>
                    repeat' (first | (refine m_cond_t hX (by first | rfl | assumption | (subst hX; rfl)) ?_; cbv) | (refine m_cond_f hX (by first | rfl | assumption | (subst hX; rfl)) ?_; cbv) | fail)
                    refine ⟨_, _, [some 0], ?_, rfl, rfl, ?_, hk false (fun h => by cases h)⟩
                    · simp [MH, MB, MC.MCs, MC, lc]
                    · simp [MV, MC]
                  | true =>
                    repeat' (first | (refine m_cond_t hX (by first | rfl | assumption | (subst hX; rfl)) ?_; cbv) | (refine m_cond_f hX (by first | rfl | assumption | (subst hX; rfl)) ?_; cbv) | fail)
                    have hla : l.Near 1099511627776 := by
                      have d := fun (b : Bool) (x : Int) (hb : b = true ↔ X.bin .sub .i64 0 1099511627776 ≤ x ∧ x ≤ 1099511627776) (h : b = true) => (show Nr 1099511627776 x from ⟨by have := (hb.1 h).1; rw [e0] at this; exact this, (hb.1 h).2⟩)
                      exact ⟨⟨(hb6.1 rfl).1, (hb6.1 rfl).2⟩, d _ _ hb4 rfl, d _ _ hb5 rfl, d _ _ hb0 rfl, d _ _ hb1 rfl, d _ _ hb2 rfl, d _ _ hb3 rfl⟩
                    refine ⟨⟨a + 1, i + 1⟩, ⟨⟨by show a + 1 ≤ n; omega, ?_⟩, fun q hq => ?_⟩, by show n - (a + 1) < n - a; omega, [some 0], ?_, rfl, rfl, ?_⟩
                    · obtain ⟨g1, g2⟩ := hb
                      show i + 1 = ((a + 1 : Nat) : Int)
                      omega
                    · replace hq : q < a + 1 := hq
                      by_cases hqa : q = a
                      · rw [hqa, ← hl]; exact hla
                      · exact hN q (by show q < a; omega)
                    · simp [MH, MB, MC.MCs, MC, lc]
                    · obtain ⟨g1, g2⟩ := hb
                      subst hX
                      simp [MT, MV.MVs, MV, MC, std, binS]
                      exact (wrap_eq (by omega) (by omega)).symm
    · have hbn : a = n := by
        obtain ⟨g1, g2⟩ := hb
        have : ¬ i < n := by subst hX; simpa [std, cmpS] using h
        omega
      refine ⟨_, _, [some 0], ?_, rfl, rfl, ?_, hk (decide (n ≤ 40)) (fun hh => ⟨fun q hq => hN q (by show q < a; omega), by simpa using hh⟩)⟩
      · simp [MH, MB, MC.MCs, MC, lc]
      · subst hX
        simp [MV, MC, std, cmpS]
        try omega
end Go.Proofs.YtdijdlkljeibjaaDoor.AM
namespace Go.Proofs.YtdijdlkljeibjaaDoor.AM
open Go Go.RowKit
set_option maxRecDepth 100000
set_option linter.unusedVariables false
set_option linter.unusedSimpArgs false
theorem box_back {t X Y x0 y0 x1 y1 : Int} (ht : Tu t) (h0 : x0 < x1) (h1 : y0 < y1) :
    bA (tBack t) (-dX (tBack t) X Y) (-dY (tBack t) X Y) (bA t X Y x0 y0 x1 y1) (bB t X Y x0 y0 x1 y1) (bC t X Y x0 y0 x1 y1) (bD t X Y x0 y0 x1 y1) = x0 ∧
    bB (tBack t) (-dX (tBack t) X Y) (-dY (tBack t) X Y) (bA t X Y x0 y0 x1 y1) (bB t X Y x0 y0 x1 y1) (bC t X Y x0 y0 x1 y1) (bD t X Y x0 y0 x1 y1) = y0 ∧
    bC (tBack t) (-dX (tBack t) X Y) (-dY (tBack t) X Y) (bA t X Y x0 y0 x1 y1) (bB t X Y x0 y0 x1 y1) (bC t X Y x0 y0 x1 y1) (bD t X Y x0 y0 x1 y1) = x1 ∧
    bD (tBack t) (-dX (tBack t) X Y) (-dY (tBack t) X Y) (bA t X Y x0 y0 x1 y1) (bB t X Y x0 y0 x1 y1) (bC t X Y x0 y0 x1 y1) (bD t X Y x0 y0 x1 y1) = y1 := by
  rcases ht.cases with rfl | rfl | rfl | rfl | rfl | rfl | rfl | rfl <;> simp only [bA, bB, bC, bD, tBack, dX, dY] <;> simp <;> omega
theorem back_box {t X Y r0 r1 r2 r3 : Int} (ht : Tu t) (h0 : r0 < r2) (h1 : r1 < r3) :
    bA t X Y (bA (tBack t) (-dX (tBack t) X Y) (-dY (tBack t) X Y) r0 r1 r2 r3) (bB (tBack t) (-dX (tBack t) X Y) (-dY (tBack t) X Y) r0 r1 r2 r3) (bC (tBack t) (-dX (tBack t) X Y) (-dY (tBack t) X Y) r0 r1 r2 r3) (bD (tBack t) (-dX (tBack t) X Y) (-dY (tBack t) X Y) r0 r1 r2 r3) = r0 ∧
    bB t X Y (bA (tBack t) (-dX (tBack t) X Y) (-dY (tBack t) X Y) r0 r1 r2 r3) (bB (tBack t) (-dX (tBack t) X Y) (-dY (tBack t) X Y) r0 r1 r2 r3) (bC (tBack t) (-dX (tBack t) X Y) (-dY (tBack t) X Y) r0 r1 r2 r3) (bD (tBack t) (-dX (tBack t) X Y) (-dY (tBack t) X Y) r0 r1 r2 r3) = r1 ∧
    bC t X Y (bA (tBack t) (-dX (tBack t) X Y) (-dY (tBack t) X Y) r0 r1 r2 r3) (bB (tBack t) (-dX (tBack t) X Y) (-dY (tBack t) X Y) r0 r1 r2 r3) (bC (tBack t) (-dX (tBack t) X Y) (-dY (tBack t) X Y) r0 r1 r2 r3) (bD (tBack t) (-dX (tBack t) X Y) (-dY (tBack t) X Y) r0 r1 r2 r3) = r2 ∧
    bD t X Y (bA (tBack t) (-dX (tBack t) X Y) (-dY (tBack t) X Y) r0 r1 r2 r3) (bB (tBack t) (-dX (tBack t) X Y) (-dY (tBack t) X Y) r0 r1 r2 r3) (bC (tBack t) (-dX (tBack t) X Y) (-dY (tBack t) X Y) r0 r1 r2 r3) (bD (tBack t) (-dX (tBack t) X Y) (-dY (tBack t) X Y) r0 r1 r2 r3) = r3 := by
  rcases ht.cases with rfl | rfl | rfl | rfl | rfl | rfl | rfl | rfl <;> simp only [bA, bB, bC, bD, tBack, dX, dY] <;> simp <;> omega
theorem La.part_self {l : La} (ht : Tu l.t) (he : ¬ l.emp) : l.part l.a l.b l.c l.d = l := by
  unfold La.emp at he
  obtain ⟨h1, h2, h3, h4⟩ := box_back (X := l.X) (Y := l.Y) ht (show l.x0 < l.x1 by omega) (show l.y0 < l.y1 by omega)
  unfold La.part La.a La.b La.c La.d
  rw [h1, h2, h3, h4]
theorem La.part_lies {l : La} (ht : Tu l.t) {r0 r1 r2 r3 : Int} (h0 : r0 < r2) (h1 : r1 < r3) : (l.part r0 r1 r2 r3).a = r0 ∧ (l.part r0 r1 r2 r3).b = r1 ∧ (l.part r0 r1 r2 r3).c = r2 ∧ (l.part r0 r1 r2 r3).d = r3 := back_box ht h0 h1
theorem La.pos {l : La} (ht : Tu l.t) (he : ¬ l.emp) : l.a < l.c ∧ l.b < l.d := by
  unfold La.emp at he
  exact l.box.pos ht (by omega) (by omega)
theorem halfL_tt {n : Int} {l : La} (ht : Tu l.t) (he : ¬ l.emp) : halfL true n true l = if l.a < n then some (l.part l.a l.b (min l.c n) l.d) else none := by
  obtain ⟨p1, p2⟩ := La.pos ht he
  unfold halfL
  by_cases h : l.a < n
  · rw [if_neg, if_pos h]
    · simp [hA, hB, hC, hD]
    · rintro (g | g)
      · exact he g
      · unfold meetP at g
        simp [hA, hB, hC, hD] at g
        omega
  · rw [if_pos, if_neg h]
    refine .inr ?_
    unfold meetP
    simp [hA, hB, hC, hD]
    omega
theorem halfL_tf {n : Int} {l : La} (ht : Tu l.t) (he : ¬ l.emp) : halfL true n false l = if n < l.c then some (l.part (max l.a n) l.b l.c l.d) else none := by
  obtain ⟨p1, p2⟩ := La.pos ht he
  unfold halfL
  by_cases h : n < l.c
  · rw [if_neg, if_pos h]
    · simp [hA, hB, hC, hD]
    · rintro (g | g)
      · exact he g
      · unfold meetP at g
        simp [hA, hB, hC, hD] at g
        omega
  · rw [if_pos, if_neg h]
    refine .inr ?_
    unfold meetP
    simp [hA, hB, hC, hD]
    omega
theorem halfL_ft {n : Int} {l : La} (ht : Tu l.t) (he : ¬ l.emp) : halfL false n true l = if l.b < n then some (l.part l.a l.b l.c (min l.d n)) else none := by
  obtain ⟨p1, p2⟩ := La.pos ht he
  unfold halfL
  by_cases h : l.b < n
  · rw [if_neg, if_pos h]
    · simp [hA, hB, hC, hD]
    · rintro (g | g)
      · exact he g
      · unfold meetP at g
        simp [hA, hB, hC, hD] at g
        omega
  · rw [if_pos, if_neg h]
    refine .inr ?_
    unfold meetP
    simp [hA, hB, hC, hD]
    omega
theorem halfL_ff {n : Int} {l : La} (ht : Tu l.t) (he : ¬ l.emp) : halfL false n false l = if n < l.d then some (l.part l.a (max l.b n) l.c l.d) else none := by
  obtain ⟨p1, p2⟩ := La.pos ht he
  unfold halfL
  by_cases h : n < l.d
  · rw [if_neg, if_pos h]
    · simp [hA, hB, hC, hD]
    · rintro (g | g)
      · exact he g
      · unfold meetP at g
        simp [hA, hB, hC, hD] at g
        omega
  · rw [if_pos, if_neg h]
    refine .inr ?_
    unfold meetP
    simp [hA, hB, hC, hD]
    omega
theorem half_cut (upr low : Bool) (n : Int) (l : La) (ht : Tu l.t) : (cutL upr n l).filter (mvB upr low n) = (halfL upr n low l).toList ∧ (cutL upr n l).filter (fun z => !mvB upr low n z) = (halfL upr n (!low) l).toList := by
  by_cases he : l.emp
  · unfold cutL halfL
    rw [if_pos he, if_pos (.inl he), if_pos (.inl he)]
    exact ⟨rfl, rfl⟩
  · obtain ⟨p1, p2⟩ := La.pos ht he
    have hs := La.part_self ht he
    have L := fun (r0 r1 r2 r3 : Int) h0 h1 => La.part_lies (l := l) ht (r0 := r0) (r1 := r1) (r2 := r2) (r3 := r3) h0 h1
    unfold cutL
    rw [if_neg he]
    cases upr
    · by_cases h1 : l.b < n
      · by_cases h2 : n < l.d
        · rw [if_pos (by simp [thru]; omega)]
          have m0 : mvB false low n (l.part l.a l.b l.c n) = low := by
            unfold mvB eE
            simp [(L l.a l.b l.c n p1 h1).2.2.2]
          have m1 : mvB false low n (l.part l.a n l.c l.d) = !low := by
            unfold mvB eE
            have : ¬ l.d ≤ n := by omega
            simp [(L l.a n l.c l.d p1 h2).2.2.2, this]
          have e0 : min l.d n = n := by omega
          have e1 : max l.b n = n := by omega
          cases low <;> simp [halfL_ft ht he, halfL_ff ht he, h1, h2, m0, m1, e0, e1]
        · rw [if_neg (by simp [thru]; omega)]
          have m0 : mvB false low n l = low := by
            unfold mvB eE
            have : l.d ≤ n := by omega
            simp [this]
          have e0 : min l.d n = l.d := by omega
          cases low <;> simp [halfL_ft ht he, halfL_ff ht he, h1, h2, m0, e0, hs]
      · rw [if_neg (by simp [thru]; omega)]
        have h2 : n < l.d := by omega
        have m0 : mvB false low n l = !low := by
          unfold mvB eE
          have : ¬ l.d ≤ n := by omega
          simp [this]
        have e1 : max l.b n = l.b := by omega
        cases low <;> simp [halfL_ft ht he, halfL_ff ht he, h1, h2, m0, e1, hs]
    · by_cases h1 : l.a < n
      · by_cases h2 : n < l.c
        · rw [if_pos (by simp [thru]; omega)]
          have m0 : mvB true low n (l.part l.a l.b n l.d) = low := by
            unfold mvB eE
            simp [(L l.a l.b n l.d h1 p2).2.2.1]
          have m1 : mvB true low n (l.part n l.b l.c l.d) = !low := by
            unfold mvB eE
            have : ¬ l.c ≤ n := by omega
            simp [(L n l.b l.c l.d h2 p2).2.2.1, this]
          have e0 : min l.c n = n := by omega
          have e1 : max l.a n = n := by omega
          cases low <;> simp [halfL_tt ht he, halfL_tf ht he, h1, h2, m0, m1, e0, e1]
        · rw [if_neg (by simp [thru]; omega)]
          have m0 : mvB true low n l = low := by
            unfold mvB eE
            have : l.c ≤ n := by omega
            simp [this]
          have e0 : min l.c n = l.c := by omega
          cases low <;> simp [halfL_tt ht he, halfL_tf ht he, h1, h2, m0, e0, hs]
      · rw [if_neg (by simp [thru]; omega)]
        have h2 : n < l.c := by omega
        have m0 : mvB true low n l = !low := by
          unfold mvB eE
          have : ¬ l.c ≤ n := by omega
          simp [this]
        have e1 : max l.a n = l.a := by omega
        cases low <;> simp [halfL_tt ht he, halfL_tf ht he, h1, h2, m0, e1, hs]
theorem flatMap_toList (g : La → Option La) : ∀ xs : List La, xs.flatMap (fun l => (g l).toList) = xs.filterMap g
  | [] => rfl
  | l :: xs => by
    rw [List.flatMap_cons, flatMap_toList g xs]
    cases h : g l <;> simp [h]
theorem filter_flatMap' (p : La → Bool) (f : La → List La) : ∀ xs : List La, (xs.flatMap f).filter p = xs.flatMap fun l => (f l).filter p
  | [] => rfl
  | l :: xs => by
    rw [List.flatMap_cons, List.flatMap_cons, List.filter_append, filter_flatMap' p f xs]
theorem flatMap_congr' {f g : La → List La} : ∀ {xs : List La}, (∀ l ∈ xs, f l = g l) → xs.flatMap f = xs.flatMap g
  | [], _ => rfl
  | l :: xs, h => by
    rw [List.flatMap_cons, List.flatMap_cons, h l (by simp), flatMap_congr' fun z hz => h z (by simp [hz])]
/-- THE PLAIN LAW. -/
theorem one_fold (upr low under : Bool) (n : Int) (xs : List La) (h : ∀ l ∈ xs, Tu l.t) : oneL upr low under n xs = foldL upr low under n xs := by
  have e1 : mvL upr low n (xs.flatMap (cutL upr n)) = (xs.filterMap (halfL upr n low)).map (layF upr n) := by
    unfold mvL
    rw [filter_flatMap', flatMap_congr' fun l hl => (half_cut upr low n l (h l hl)).1, flatMap_toList]
  have e2 : rsL upr low n (xs.flatMap (cutL upr n)) = xs.filterMap (halfL upr n (!low)) := by
    unfold rsL
    rw [filter_flatMap', flatMap_congr' fun l hl => (half_cut upr low n l (h l hl)).2, flatMap_toList]
  unfold oneL foldL
  rw [e1, e2, List.map_filterMap, ← List.filterMap_reverse]
  cases under <;> simp
end Go.Proofs.YtdijdlkljeibjaaDoor.AM
namespace Go.Proofs.YtdijdlkljeibjaaDoor.AM
open Go Go.RowKit
set_option cbv.warning false
set_option maxRecDepth 100000
set_option linter.unusedVariables false
set_option linter.unusedSimpArgs false
theorem Tells.range (n : Nat) (f : Nat → La) : Tells n f ((List.range n).map f) := ⟨by simp, fun q hq => by rw [List.getD_eq_getElem?_getD, List.getElem?_map, List.getElem?_range hq]; rfl⟩
theorem OneG_c (W0 : World) (rw : Bool) (xs : List La) (c : Option Nat) (upr low under : Bool) (n : Int) (hx : ∀ l ∈ xs, l.Near 144115188075855872) (hlen : xs.length ≤ 1000000) (hn : Nr 144115188075855872 n) (m : Nat) (F : Nat → La) (hF : Tells m F xs) (k : V → Heap → Prop)
    (hk : ∀ b : Nat × (Nat → La), Tells b.1 b.2 (oneL upr low under n xs) → k (.one (.sl 1 0 b.1 none)) [lays rw m F, lays true b.1 b.2]) :
    ACall Tryd.prog W0 19 [.one (.sl 0 0 m c), .one (.bool upr), .one (.int .i64 n), .one (.bool low), .one (.bool under)] [lays rw m F] k :=
  One_c W0 rw xs m (fun q => lc (F q)) hF.n (fun q hq => by rw [hF.f q hq]) (fun _ _ => lc_MC _ _) c upr low under n hx hlen hn k fun Z hZ => hk (Z.length, fun q => Z.getD q La.zero) ⟨by rw [hZ], fun q _ => by rw [hZ]⟩
theorem RFoldG_c (W0 : World) (rw : Bool) (xs : List La) (c : Option Nat) (upr low under : Bool) (n : Int) (hx : ∀ l ∈ xs, l.Near 144115188075855872) (hlen : xs.length ≤ 1000000) (hn : Nr 144115188075855872 n) (m : Nat) (F : Nat → La) (hF : Tells m F xs) (k : V → Heap → Prop)
    (hk : ∀ b : Nat × (Nat → La), Tells b.1 b.2 (foldL upr low under n xs) → k (.one (.sl 1 0 b.1 none)) [lays rw m F, lays true b.1 b.2]) :
    ACall Tryd.prog W0 24 [.one (.sl 0 0 m c), .one (.bool upr), .one (.int .i64 n), .one (.bool low), .one (.bool under)] [lays rw m F] k :=
  RFold_c W0 rw xs m (fun q => lc (F q)) hF.n (fun q hq => by rw [hF.f q hq]) (fun _ _ => lc_MC _ _) c upr low under n hx hlen hn k fun Z hZ => hk (Z.length, fun q => Z.getD q La.zero) ⟨by rw [hZ], fun q _ => by rw [hZ]⟩
theorem layF_near {K : Int} {upr : Bool} {n : Int} {z : La} (h : z.Near (4 * K)) (hn : Nr K n) : (layF upr n z).Near (8 * K) := by
  have hK : 0 ≤ K := by obtain ⟨p, q⟩ := hn; omega
  obtain ⟨q1, q2⟩ := Nr.dX (fT_tu upr) h.X h.Y
  exact ⟨(then_all h.t (fT_tu upr)).1, q1.sum ((fX_nr hn).up (by omega)) (by omega), q2.sum ((fY_nr hn).up (by omega)) (by omega), h.x0.up (by omega), h.y0.up (by omega), h.x1.up (by omega), h.y1.up (by omega)⟩
theorem oneL_near {K : Int} {upr low under : Bool} {n : Int} {xs : List La} (hx : ∀ l ∈ xs, l.Near K) (hn : Nr K n) : ∀ z ∈ oneL upr low under n xs, z.Near (8 * K) := by
  have hK : 0 ≤ K := by obtain ⟨p, q⟩ := hn; omega
  have h1 : ∀ z ∈ xs.flatMap (cutL upr n), z.Near (4 * K) := fun z hz => by
    obtain ⟨l, hl, hzl⟩ := List.mem_flatMap.1 hz
    exact cutL_near (hx l hl) hn hzl
  have h2 : ∀ z ∈ rsL upr low n (xs.flatMap (cutL upr n)), z.Near (8 * K) := fun z hz => (h1 z (List.mem_filter.1 hz).1).up (by omega)
  have h3 : ∀ z ∈ (mvL upr low n (xs.flatMap (cutL upr n))).reverse, z.Near (8 * K) := fun z hz => by
    rw [List.mem_reverse] at hz
    obtain ⟨y, hy, rfl⟩ := List.mem_map.1 hz
    exact layF_near (h1 y (List.mem_filter.1 hy).1) hn
  intro z hz
  unfold oneL at hz
  split at hz <;> rcases List.mem_append.1 hz with hz | hz <;> first | exact h2 z hz | exact h3 z hz
theorem foldL_len (upr low under : Bool) (n : Int) (xs : List La) : (foldL upr low under n xs).length ≤ 2 * xs.length := by
  have h1 := List.length_filterMap_le (halfL upr n (!low)) xs
  have h2 := List.length_filterMap_le (fun l => (halfL upr n low l).map (layF upr n)) xs.reverse
  rw [List.length_reverse] at h2
  unfold foldL
  cases under <;> simp only [List.length_append, if_true, if_false, List.length_nil, Bool.false_eq_true] <;> omega
theorem Tells.all {u : Nat} {f : Nat → La} {M : List La} {p : La → Prop} (h : Tells u f M) (hp : ∀ z ∈ M, p z) : ∀ q, q < u → p (f q) := fun q hq => by
  have hn := h.n
  rw [h.f q hq, List.getD_eq_getElem?_getD, List.getElem?_eq_getElem (by omega)]
  exact hp _ (List.getElem_mem _)
def exL : La := ⟨0, 0, 4, 2, 0, 0, 0⟩
theorem ex_near : exL.Near 144115188075855872 := ⟨⟨by decide, by decide⟩, ⟨by decide, by decide⟩, ⟨by decide, by decide⟩, ⟨by decide, by decide⟩, ⟨by decide, by decide⟩, ⟨by decide, by decide⟩, ⟨by decide, by decide⟩⟩
theorem ex_one : oneL true true false 2 [exL] = [⟨0, 0, 2, 2, 4, 4, 0⟩, ⟨2, 0, 4, 2, 0, 0, 0⟩] := by kernel_rfl
end Go.Proofs.YtdijdlkljeibjaaDoor.AM
namespace Go.Proofs.YtdijdlkljeibjaaDoor.AM
open Go Go.RowKit
set_option cbv.warning false
set_option maxRecDepth 100000
set_option linter.unusedVariables false
set_option linter.unusedSimpArgs false
theorem flat3 : Flat Tryd.prog 3 [.int .i64] := Flat.int Tryd.underlying3 (by kernel_rfl)
theorem flat4 : Flat Tryd.prog 4 [.bool] := Flat.bool Tryd.underlying4 (by kernel_rfl)
theorem flat65 : Flat Tryd.prog 39 [.int .i64, .int .i64, .int .i64, .int .i64] := Flat.struct (fun j => match j with | 0 => [.int .i64] | 1 => [.int .i64] | 2 => [.int .i64] | _ => [.int .i64]) Tryd.underlying39 (by kernel_rfl)
  (fun j f hf => by match j, hf with | 0, hf => (cases hf; exact flat3) | 1, hf => (cases hf; exact flat3) | 2, hf => (cases hf; exact flat3) | 3, hf => (cases hf; exact flat3) | j + 4, hf => (simp at hf))
  (fun i k hi => by match i, hi with | 0, hi => (cases hi; exact ⟨0, _, 0, rfl, rfl, rfl⟩) | 1, hi => (cases hi; exact ⟨1, _, 0, rfl, rfl, rfl⟩) | 2, hi => (cases hi; exact ⟨2, _, 0, rfl, rfl, rfl⟩) | 3, hi => (cases hi; exact ⟨3, _, 0, rfl, rfl, rfl⟩) | i + 4, hi => (simp at hi))
theorem flat67 : Flat Tryd.prog 41 [.int .i64, .int .i64, .int .i64] := Flat.struct (fun j => match j with | 0 => [.int .i64] | 1 => [.int .i64] | _ => [.int .i64]) Tryd.underlying41 (by kernel_rfl)
  (fun j f hf => by match j, hf with | 0, hf => (cases hf; exact flat3) | 1, hf => (cases hf; exact flat3) | 2, hf => (cases hf; exact flat3) | j + 3, hf => (simp at hf))
  (fun i k hi => by match i, hi with | 0, hi => (cases hi; exact ⟨0, _, 0, rfl, rfl, rfl⟩) | 1, hi => (cases hi; exact ⟨1, _, 0, rfl, rfl, rfl⟩) | 2, hi => (cases hi; exact ⟨2, _, 0, rfl, rfl, rfl⟩) | i + 3, hi => (simp at hi))
theorem flat69 : Flat Tryd.prog 43 [.int .i64, .int .i64, .int .i64, .int .i64, .int .i64, .int .i64, .int .i64] := Flat.struct (fun j => match j with | 0 => [.int .i64, .int .i64, .int .i64, .int .i64] | _ => [.int .i64, .int .i64, .int .i64]) Tryd.underlying43 (by kernel_rfl)
  (fun j f hf => by match j, hf with | 0, hf => (cases hf; exact flat65) | 1, hf => (cases hf; exact flat67) | j + 2, hf => (simp at hf))
  (fun i k hi => by match i, hi with | 0, hi => (cases hi; exact ⟨0, _, 0, rfl, rfl, rfl⟩) | 1, hi => (cases hi; exact ⟨0, _, 1, rfl, rfl, rfl⟩) | 2, hi => (cases hi; exact ⟨0, _, 2, rfl, rfl, rfl⟩) | 3, hi => (cases hi; exact ⟨0, _, 3, rfl, rfl, rfl⟩) | 4, hi => (cases hi; exact ⟨1, _, 0, rfl, rfl, rfl⟩) | 5, hi => (cases hi; exact ⟨1, _, 1, rfl, rfl, rfl⟩) | 6, hi => (cases hi; exact ⟨1, _, 2, rfl, rfl, rfl⟩) | i + 7, hi => (simp at hi))
theorem alive_c (W0 : World) (k : V → Heap → Prop) (hk : k (.one (.bool true)) []) : ACall Tryd.prog W0 5 [] [] k := by
  obtain ⟨F0, hF0⟩ : ∃ F0 : Nat → La, F0 = fun q => [exL].getD q La.zero := ⟨_, rfl⟩
  refine m_body tab_ok (fn := Tryd.f5) (by kernel_rfl) rfl ?_
  intro X hX
  cbv
  refine m_callq hX [0] bodied_19 (fun k2 hk2 => OneG_c W0 true [exL] (some 1) true true false 2 (fun l hl => by simp at hl; subst hl; exact ex_near) (by simp) ⟨by decide, by decide⟩ 1 (fun q => [exL].getD q La.zero) ⟨rfl, fun _ _ => rfl⟩ k2 hk2) ?_ rfl rfl (by simp [MV, MV.MVs, MC]) ?_
  · simp [MH, MB]
    simp [lc, exL, MC.MCs, MC, zi]
  rintro ⟨p, G⟩ hp
  rw [ex_one] at hp
  obtain rfl : p = 2 := hp.n
  have g0 : G 0 = ⟨0, 0, 2, 2, 4, 4, 0⟩ := hp.f 0 (by show 0 < 2; decide)
  have g1 : G 1 = ⟨2, 0, 4, 2, 0, 0, 0⟩ := hp.f 1 (by show 1 < 2; decide)
  clear hp
  cbv
  have e0 : G (X.nadd 0 (X.toN 0)) = ⟨0, 0, 2, 2, 4, 4, 0⟩ := by subst hX; exact g0
  have e1 : G (X.nadd 0 (X.toN 1)) = ⟨2, 0, 4, 2, 0, 0, 0⟩ := by subst hX; exact g1
  repeat' (first | (refine m_cond_t hX (by first | rfl | assumption | (subst hX; rfl)) ?_; cbv) | (refine m_cond_f hX (by first | rfl | assumption | (subst hX; rfl)) ?_; cbv) | (refine And.intro (by subst hX; exact ⟨by decide, by decide⟩) ?_) | (refine And.intro (by subst hX; exact (by decide : 0 + 0 < 2)) ?_) | (refine And.intro (by subst hX; exact (by decide : 0 + 1 < 2)) ?_) | (rw [e0]; cbv) | (rw [e1]; cbv) | fail)
  refine ⟨_, _, [], by simp [MH], rfl, rfl, ?_, hk⟩
  simp [MV, MC]
  subst hX
  rfl
end Go.Proofs.YtdijdlkljeibjaaDoor.AM
