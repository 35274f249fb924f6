/- The law FoldSteps' own function, as a contract on the abstract machine. The condition: the library's tables lie as listed. -/
import Derived.Test.YtdijdlkljeibjaaDoorFs5
namespace Go.Proofs.YtdijdlkljeibjaaDoor.AM
open Go Go.RowKit
set_option cbv.warning false
set_option maxRecDepth 100000
set_option linter.unusedVariables false
set_option linter.unusedSimpArgs false
theorem bodied_3 : Bodied Tryd.prog 3 := ⟨Tryd.f3, by kernel_rfl, by kernel_rfl, by kernel_rfl⟩
structure WI (w h : Int) (ss : List Sp) (xs : List La) (a : Nat) (i : Int) (u : Nat) (f : Nat → La) (v : Nat) (R : Nat → Sp) : Prop where
  ha : a ≤ ss.length
  ei : i = a
  e : Tells u f (stepsP w h (ss.take a) xs)
  g : Good a (stepsP w h (ss.take a) xs)
  r : ∃ RL : List Sp, TellsS v R RL ∧ stepsL w h RL xs = stepsP w h (ss.take a) xs ∧ (∀ s ∈ RL, RightS s.side s.n) ∧ RL.length ≤ a
theorem TellsS.snoc {v : Nat} {g : Nat → Sp} {A : List Sp} (h : TellsS v g A) (z : Sp) : ∃ g' : Nat → Sp, TellsS (v + 1) g' (A ++ [z]) ∧ (∀ q, q < v → g' q = g q) ∧ g' v = z := by
  have hn := h.n
  refine ⟨fun q => (A ++ [z]).getD q Sp.zero, ⟨by simp [hn], fun _ _ => rfl⟩, fun q hq => ?_, ?_⟩
  · rw [h.f q hq]
    simp only [List.getD_eq_getElem?_getD]
    rw [List.getElem?_append_left (by omega)]
  · simp only [List.getD_eq_getElem?_getD]
    rw [hn, List.getElem?_append_right (by omega)]
    simp
theorem TellsS.range (n : Nat) (f : Nat → Sp) : TellsS n f ((List.range n).map f) := ⟨by simp, fun q hq => by rw [List.getD_eq_getElem?_getD, List.getElem?_map, List.getElem?_range hq]; rfl⟩
theorem WI.stepA {w h : Int} {ss : List Sp} {xs : List La} {a : Nat} {i : Int} {u : Nat} {f : Nat → La} {v : Nat} {R : Nat → Sp} {s : Sp} {p : Nat} {f2 : Nat → La} (hb : WI w h ss xs a i u f v R) (ha : a < ss.length) (hs : s = ss.getD a Sp.zero) (hr : RightS s.side s.n) (hne : stepsP w h (ss.take a) xs ≠ []) (hw : Nr 1073741824 w) (hh : Nr 1073741824 h)
    (hp : Tells p f2 (stepL w h s (stepsP w h (ss.take a) xs))) : ∃ R', WI w h ss xs (a + 1) (i + 1) p f2 (v + 1) R' ∧ (∀ q, q < v → R' q = R q) ∧ R' v = s := by
  obtain ⟨RL, r1, r2, r3, r4⟩ := hb.r
  obtain ⟨R', k1, k2, k3⟩ := r1.snoc s
  have hst : stepsP w h (ss.take (a + 1)) xs = stepL w h s (stepsP w h (ss.take a) xs) := by
    rw [takeS_succ ss a ha, ← hs, stepsP_snoc]
    unfold stepP
    rw [if_pos ⟨hr, hne⟩]
  refine ⟨R', ⟨ha, by rw [hb.ei]; rfl, by rw [hst]; exact hp, by rw [hst]; exact hb.g.stepR hr hw hh, RL ++ [s], k1, by rw [stepsL_snoc, r2, hst], fun z hz => ?_, by simp; omega⟩, k2, k3⟩
  rcases List.mem_append.1 hz with hz | hz
  · exact r3 z hz
  · simp at hz; subst hz; exact hr
theorem WI.stepB {w h : Int} {ss : List Sp} {xs : List La} {a : Nat} {i : Int} {u : Nat} {f : Nat → La} {v : Nat} {R : Nat → Sp} {s : Sp} (hb : WI w h ss xs a i u f v R) (ha : a < ss.length) (hs : s = ss.getD a Sp.zero) (hr : ¬ (RightS s.side s.n ∧ stepsP w h (ss.take a) xs ≠ [])) : WI w h ss xs (a + 1) (i + 1) u f v R := by
  have hst : stepsP w h (ss.take (a + 1)) xs = stepsP w h (ss.take a) xs := by
    rw [takeS_succ ss a ha, ← hs, stepsP_snoc]
    unfold stepP
    rw [if_neg hr]
  obtain ⟨RL, r1, r2, r3, r4⟩ := hb.r
  refine ⟨ha, by rw [hb.ei]; rfl, by rw [hst]; exact hb.e, ?_, RL, r1, by rw [hst]; exact r2, r3, by omega⟩
  rw [hst]
  exact ⟨fun l hl => (hb.g.near l hl).up (pw_mono (Nat.le_succ a)), by have := hb.g.len; rw [Nat.pow_succ]; omega⟩
theorem fin_near {a : Nat} {xs : List La} (g : Good a xs) (h : a ≤ 6) : (∀ l ∈ finL xs, l.Near 2305843009213693952) ∧ (finL xs).length ≤ 1000000 := by
  obtain ⟨h1, h2⟩ := g.near6 h
  have hr := all_near h1 (by decide)
  refine ⟨fun l hl => ?_, by unfold finL; rw [List.length_map]; exact h2⟩
  obtain ⟨z, hz, rfl⟩ := List.mem_map.1 hl
  have hn := h1 z hz
  obtain ⟨q1, q2⟩ := Nr.dX (t := 0) ⟨by decide, by decide⟩ hn.X hn.Y
  exact ⟨(then_all hn.t ⟨by decide, by decide⟩).1, (q1.up (by decide)).sum (hr.a.neg) (by decide), (q2.up (by decide)).sum (hr.b.neg) (by decide), hn.x0.up (by decide), hn.y0.up (by decide), hn.x1.up (by decide), hn.y1.up (by decide)⟩
theorem near_good {N : Nat} {G : Nat → La} {xs : List La} (hG : Tells N G xs) (h1 : ∀ q, q < N → (G q).Near 1099511627776) (h2 : N ≤ 40) : Good 0 xs := by
  have hn := hG.n
  refine ⟨fun l hl => ?_, by omega⟩
  obtain ⟨q, hq, rfl⟩ := List.mem_iff_getElem.1 hl
  have := h1 q (by omega)
  rw [hG.f q (by omega), List.getD_eq_getElem?_getD, List.getElem?_eq_getElem hq] at this
  exact ⟨this.t, this.X.up (by decide), this.Y.up (by decide), this.x0, this.y0, this.x1, this.y1⟩
theorem spC_MC (σ : Sg) (s : Sp) : MC.MCs σ (spC s) (spC s) := by simp [spC, MC.MCs, MC]
theorem flat29 : Flat Tryd.prog 29 [.int .i64, .int .i64, .bool] := Flat.struct (fun j => match j with | 0 => [.int .i64] | 1 => [.int .i64] | _ => [.bool]) Tryd.underlying29 (by kernel_rfl)
  (fun j f hf => by match j, hf with | 0, hf => (cases hf; exact flat3) | 1, hf => (cases hf; exact flat3) | 2, hf => (cases hf; exact flat4) | j + 3, hf => (simp at hf))
  (fun i k hi => by match i, hi with | 0, hi => (cases hi; exact ⟨0, _, 0, rfl, rfl, rfl⟩) | 1, hi => (cases hi; exact ⟨1, _, 0, rfl, rfl, rfl⟩) | 2, hi => (cases hi; exact ⟨2, _, 0, rfl, rfl, rfl⟩) | i + 3, hi => (simp at hi))

theorem flat43 : Flat Tryd.prog 43 [.int .i64, .int .i64, .int .i64, .int .i64, .int .i64, .int .i64, .int .i64] := flat69
set_option maxHeartbeats 8000000 in
theorem FoldSteps_c (W0 : World) (hGL : GL W0) (rw rs : Bool) (xs : List La) (N : Nat) (c : Option Nat) (G : Nat → La) (hG : Tells N G xs) (hN : N ≤ 9223372036854775807) (w h : Int) (ss : List Sp) (ns : Nat) (cs : Option Nat) (S : Nat → Sp) (hS : TellsS ns S ss) (k : V → Heap → Prop) (hk : ∀ H', k (.one (.bool true)) H') :
    ACall Tryd.prog W0 3 [.one (.sl 0 0 N c), .one (.int .i64 w), .one (.int .i64 h), .one (.sl 1 0 ns cs)] [lays rw N G, sps rs ns S] k := by
  have hSn := hS.n
  refine m_body tab_ok (fn := Tryd.f3) (by kernel_rfl) rfl ?_
  intro X hX
  cbv
  refine m_callf hX [] bodied_5 (fun k2 hk2 => alive_c W0 k2 hk2) ?_ rfl rfl ?_ ?_
  · (first | (simp [MH, MB, MT, MV, MV.MVs, MC.MCs, MC, renC.renCs, renC, up]; done) | (simp [MH, MB, MT, MV, MV.MVs, MC.MCs, MC, renC.renCs, renC, up]; omega) | (simp [MH, MB, MT, MV, MV.MVs, MC.MCs, MC, renC.renCs, renC, up] <;> omega))
  · simp [MV, MV.MVs, MC, MC.MCs]
  cbv
  refine m_cond_f hX (by subst hX; rfl) ?_
  cbv
  refine m_callq hX [0] bodied_6 (fun k2 hk2 => near_c W0 rw N c G hN k2 hk2) (by simp [MH, MB, MC.MCs, MC, lc]) rfl rfl (by simp [MV, MV.MVs, MC]) ?_
  intro b hb
  cbv
  cases b with
  | false =>
    repeat' (first | (refine m_cond_t hX (by first | rfl | assumption | (subst hX; rfl)) ?_; cbv) | (refine m_cond_f hX (by first | rfl | assumption | (subst hX; rfl)) ?_; cbv) | fail)
    refine ⟨_, [lays rw N G, sps rs ns S], [some 0, some 1], ?_, rfl, rfl, ?_, hk _⟩
    · simp [MH, MB, MC.MCs, MC, lc, spC, renC.renCs, renC]
    · simp [MV, MC]
  | true =>
    obtain ⟨hn1, hn2⟩ := hb rfl
    have hg0 := near_good hG hn1 hn2
    repeat' (first | (refine m_cond_t hX (by first | rfl | assumption | (subst hX; rfl)) ?_; cbv) | (refine m_cond_f hX (by first | rfl | assumption | (subst hX; rfl)) ?_; cbv) | fail)
    refine m_cond hX (fun q1 => ?_) (fun q1 => ?_) <;> cbv
    ·
      repeat' (first | (refine m_cond_t hX (by first | rfl | assumption | (subst hX; rfl)) ?_; cbv) | (refine m_cond_f hX (by first | rfl | assumption | (subst hX; rfl)) ?_; cbv) | fail)
      refine ⟨_, [lays rw N G, sps rs ns S], [some 0, some 1], ?_, rfl, rfl, ?_, hk _⟩
      · simp [MH, MB, MC.MCs, MC, lc, spC, renC.renCs, renC]
      · simp [MV, MC]
    ·
      repeat' (first | (refine m_cond_t hX (by first | rfl | assumption | (subst hX; rfl)) ?_; cbv) | (refine m_cond_f hX (by first | rfl | assumption | (subst hX; rfl)) ?_; cbv) | fail)
      refine m_cond hX (fun q2 => ?_) (fun q2 => ?_) <;> cbv
      ·
        repeat' (first | (refine m_cond_t hX (by first | rfl | assumption | (subst hX; rfl)) ?_; cbv) | (refine m_cond_f hX (by first | rfl | assumption | (subst hX; rfl)) ?_; cbv) | fail)
        refine ⟨_, [lays rw N G, sps rs ns S], [some 0, some 1], ?_, rfl, rfl, ?_, hk _⟩
        · simp [MH, MB, MC.MCs, MC, lc, spC, renC.renCs, renC]
        · simp [MV, MC]
      ·
        repeat' (first | (refine m_cond_t hX (by first | rfl | assumption | (subst hX; rfl)) ?_; cbv) | (refine m_cond_f hX (by first | rfl | assumption | (subst hX; rfl)) ?_; cbv) | fail)
        refine m_callq hX [] bodied_7 (fun k2 hk2 => In_c W0 w (-1073741824) 1073741824 k2 hk2) ?_ rfl rfl ?_ ?_
        · (first | (simp [MH, MB, MT, MV, MV.MVs, MC.MCs, MC, renC.renCs, renC, up]; done) | (simp [MH, MB, MT, MV, MV.MVs, MC.MCs, MC, renC.renCs, renC, up]; omega) | (simp [MH, MB, MT, MV, MV.MVs, MC.MCs, MC, renC.renCs, renC, up] <;> omega))
        · simp [MV, MV.MVs, MC, MC.MCs]
        intro b1 hb1
        cbv
        repeat' (first | (refine m_cond_t hX (by first | rfl | assumption | (subst hX; rfl)) ?_; cbv) | (refine m_cond_f hX (by first | rfl | assumption | (subst hX; rfl)) ?_; cbv) | fail)
        refine m_cond hX (fun q3 => ?_) (fun q3 => ?_) <;> cbv
        ·
          repeat' (first | (refine m_cond_t hX (by first | rfl | assumption | (subst hX; rfl)) ?_; cbv) | (refine m_cond_f hX (by first | rfl | assumption | (subst hX; rfl)) ?_; cbv) | fail)
          refine ⟨_, [lays rw N G, sps rs ns S], [some 0, some 1], ?_, rfl, rfl, ?_, hk _⟩
          · simp [MH, MB, MC.MCs, MC, lc, spC, renC.renCs, renC]
          · simp [MV, MC]
        ·
          repeat' (first | (refine m_cond_t hX (by first | rfl | assumption | (subst hX; rfl)) ?_; cbv) | (refine m_cond_f hX (by first | rfl | assumption | (subst hX; rfl)) ?_; cbv) | fail)
          refine m_callq hX [] bodied_7 (fun k2 hk2 => In_c W0 h (-1073741824) 1073741824 k2 hk2) ?_ rfl rfl ?_ ?_
          · (first | (simp [MH, MB, MT, MV, MV.MVs, MC.MCs, MC, renC.renCs, renC, up]; done) | (simp [MH, MB, MT, MV, MV.MVs, MC.MCs, MC, renC.renCs, renC, up]; omega) | (simp [MH, MB, MT, MV, MV.MVs, MC.MCs, MC, renC.renCs, renC, up] <;> omega))
          · simp [MV, MV.MVs, MC, MC.MCs]
          intro b2 hb2
          cbv
          repeat' (first | (refine m_cond_t hX (by first | rfl | assumption | (subst hX; rfl)) ?_; cbv) | (refine m_cond_f hX (by first | rfl | assumption | (subst hX; rfl)) ?_; cbv) | fail)
          refine m_cond hX (fun q4 => ?_) (fun q4 => ?_) <;> cbv
          ·
            refine ⟨_, [lays rw N G, sps rs ns S], [some 0, some 1], ?_, rfl, rfl, ?_, hk _⟩
            · simp [MH, MB, MC.MCs, MC, lc, spC, renC.renCs, renC]
            · simp [MV, MC]
          · have f1 : ss.length ≤ 6 := by
              have h1 : ¬ 6 < (ns : Int) := by subst hX; simpa [std, cmpS] using q1
              omega
            have f2 : b1 = true := by
              subst hX
              simp [std] at q3
              exact q3.2
            have f3 : b2 = true := by
              subst hX
              simp [std] at q4
              exact q4.2
            have hw : Nr 1073741824 w := ⟨(hb1.1 f2).1, (hb1.1 f2).2⟩
            have hh : Nr 1073741824 h := ⟨(hb2.1 f3).1, (hb2.1 f3).2⟩
            clear q1 q2 q3 q4 hb1 hb2
            have hNl : N ≤ 40 := hn2
            refine m_append tab_ok hX N (fun q => lc (G q)) rfl rfl rfl rfl rfl rfl (by decide) rfl rfl rfl ?_ ?_
            · exact ⟨by omega, rfl, by omega, by show N * 56 ≤ _; omega, by omega, fun q hq => rfl, fun _ hq => by omega, fun q _ => by simp only [Nat.zero_add]; rfl⟩
            cbv
            refine m_loop tab_ok hX (fun b : Nat × Int × Nat × (Nat → La) × Nat × (Nat → Sp) => WI w h ss xs b.1 b.2.1 b.2.2.1 b.2.2.2.1 b.2.2.2.2.1 b.2.2.2.2.2) (fun b => (([.one (.sl 0 0 N c), .one (.int .i64 w), .one (.int .i64 h), .one (.sl 1 0 ns cs)] ++ List.replicate 4 (.one .undef) ++ [.one (.bool false), .one (.sl 3 0 b.2.2.1 none), .one (.sl 4 0 b.2.2.2.2.1 none), .one (.int .i64 b.2.1)] ++ List.replicate 93 (.one .undef)), [lays rw N G, sps rs ns S, none, lays true b.2.2.1 b.2.2.2.1, sps true b.2.2.2.2.1 b.2.2.2.2.2])) (fun b => ns - b.1) ?_ ?_
            · refine ⟨⟨0, 0, N, G, 0, fun _ => Sp.zero⟩, ⟨by omega, rfl, hG, hg0, [], ⟨rfl, fun q hq => absurd hq (by simp)⟩, rfl, fun s hs => (by cases hs), by simp⟩, [some 0, some 1, some 2, some 2, none], ?_, rfl, rfl, ?_⟩
              · simp [MH, MB, MC.MCs, MC, lc, spC, renC.renCs, renC]
              · simp [MT, MV.MVs, MV, MC]
            · rintro ⟨a, i, u, f, v, R⟩ hb
              replace hb : WI w h ss xs a i u f v R := hb
              cbv
              refine m_cond hX (fun hc => ?_) (fun hc => ?_) <;> cbv
              · have hh1 : (0 ≤ i ∧ i < ns) ∧ i.toNat = a ∧ a < ns ∧ a < ss.length ∧ a ≤ 5 := by
                  obtain ⟨g1, g2, g3, g4, g5⟩ := hb
                  have : i < ns := by subst hX; simpa [std, cmpS] using hc
                  omega
                obtain ⟨hh1, hh2, hh3, hh4, hh5⟩ := hh1
                have i1 : X.inb i ns := by subst hX; exact hh1
                have i2 : X.nlt (X.nadd 0 (X.toN i)) ns := by subst hX; show 0 + i.toNat < ns; omega
                obtain ⟨s, hs⟩ : ∃ s, s = ss.getD a Sp.zero := ⟨_, rfl⟩
                have e1 : S (X.nadd 0 (X.toN i)) = s := by subst hX; show S (0 + i.toNat) = _; rw [hh2, Nat.zero_add, hS.f _ hh3, hs]
                have h5 := hb.g.near5 hh5
                have hun := hb.e.n
                have hi : X.bin .add .i64 i 1 = i + 1 := by subst hX; exact wrap_eq (x := i + 1) (by omega) (by omega)
                refine m_cond hX (fun hu => ?_) (fun hu => ?_) <;> cbv
                ·
                  have hne : stepsP w h (ss.take a) xs ≠ [] := by
                    have h1 : 0 < (u : Int) := by subst hX; simpa [std, cmpS] using hu
                    intro h2
                    rw [h2] at hun
                    simp at hun
                    omega
                  repeat' (first | (refine m_cond_t hX (by first | rfl | assumption | (subst hX; rfl)) ?_; cbv) | (refine m_cond_f hX (by first | rfl | assumption | (subst hX; rfl)) ?_; cbv) | fail)
                  refine ⟨i1, ?_⟩
                  repeat' (first | (refine m_cond_t hX (by first | rfl | assumption | (subst hX; rfl)) ?_; cbv) | (refine m_cond_f hX (by first | rfl | assumption | (subst hX; rfl)) ?_; cbv) | fail)
                  refine ⟨i2, ?_⟩
                  rw [e1]
                  cbv
                  repeat' (first | (refine m_cond_t hX (by first | rfl | assumption | (subst hX; rfl)) ?_; cbv) | (refine m_cond_f hX (by first | rfl | assumption | (subst hX; rfl)) ?_; cbv) | fail)
                  refine m_callq hX [] bodied_8 (fun k2 hk2 => Right_c W0 s k2 hk2) (by simp [MH]) rfl rfl (by simp [MV, MV.MVs, MC.MCs, MC, spC]) ?_
                  intro b hbr
                  cbv
                  cases b with
                  | false =>
                    refine m_cond_f hX (by subst hX; simp [std]) ?_
                    cbv
                    refine ⟨i1, i2, ?_⟩
                    rw [e1]
                    cbv
                    refine m_callq hX [3] bodied_9 (fun k2 hk2 => PStep_c W0 hGL true _ u f hb.e none w h s hw hh h5.1 h5.2 k2 hk2) (by simp [MH, MB, MC.MCs, MC, lc, spC, renC.renCs, renC]) rfl rfl (by simp [MV, MV.MVs, MC.MCs, MC, spC]) ?_
                    rintro ⟨p, f2⟩ hp
                    replace hp : Tells p f2 (stepP w h s (stepsP w h (ss.take a) xs)) := hp
                    have hnr : ¬ (RightS s.side s.n ∧ stepsP w h (ss.take a) xs ≠ []) := fun h => by cases hbr.2 h.1
                    unfold stepP at hp
                    rw [if_neg hnr] at hp
                    obtain rfl : p = u := hp.n.trans hb.e.n.symm
                    have hfg : ∀ q, q < p → f2 q = f q := fun q hq => (hp.f q hq).trans (hb.e.f q hq).symm
                    have hfn : ∀ q, q < p → (f2 q).Near 2305843009213693952 := hp.all fun z hz => (h5.1 z hz).up (by decide)
                    have hpl : p ≤ 10000000 := by have := h5.2; omega
                    cbv
                    repeat' (first | (refine m_cond_t hX (by first | rfl | assumption | (subst hX; rfl)) ?_; cbv) | (refine m_cond_f hX (by first | rfl | assumption | (subst hX; rfl)) ?_; cbv) | fail)
                    refine ⟨i1, ?_⟩
                    repeat' (first | (refine m_cond_t hX (by first | rfl | assumption | (subst hX; rfl)) ?_; cbv) | (refine m_cond_f hX (by first | rfl | assumption | (subst hX; rfl)) ?_; cbv) | fail)
                    refine ⟨i2, ?_⟩
                    rw [e1]
                    cbv
                    repeat' (first | (refine m_cond_t hX (by first | rfl | assumption | (subst hX; rfl)) ?_; cbv) | (refine m_cond_f hX (by first | rfl | assumption | (subst hX; rfl)) ?_; cbv) | fail)
                    refine m_callq hX [] bodied_8 (fun k2 hk2 => Right_c W0 s k2 hk2) (by simp [MH]) rfl rfl (by simp [MV, MV.MVs, MC.MCs, MC, spC]) ?_
                    intro b3 hbr3
                    cbv
                    obtain rfl : b3 = false := by
                      cases b3 with
                      | false => rfl
                      | true => cases hbr.2 (hbr3.1 rfl)
                    refine m_cond_f hX (by subst hX; simp [std]) ?_
                    cbv
                    refine m_callf hX [5, 3] bodied_11 (fun k2 hk2 => Same_c W0 true true p none none f2 f hfg hfn hpl k2 hk2) (by simp [MH, MB, MC.MCs, MC, lc, spC, renC.renCs, renC]) rfl rfl (by simp [MV, MV.MVs, MC]) ?_
                    cbv
                    refine m_cond_f hX (by subst hX; rfl) ?_
                    cbv
                    refine ⟨⟨a + 1, i + 1, p, f, v, R⟩, hb.stepB hh4 hs hnr, by show ns - (a + 1) < ns - a; omega, [some 0, some 1, some 2, some 3, some 4], ?_, rfl, rfl, ?_⟩
                    · simp [MH, MB, MC.MCs, MC, lc, spC, renC.renCs, renC]
                    · simp [MT, MV.MVs, MV, MC]
                      exact hi.symm
                  | true =>
                    have hr : RightS s.side s.n := hbr.1 rfl
                    refine m_cond_t hX (by subst hX; simp [std]; simpa [std] using hu) ?_
                    cbv
                    refine ⟨i1, i2, ?_⟩
                    rw [e1]
                    cbv
                    obtain ⟨R', k0, k2, k3⟩ : ∃ R' : Nat → Sp, (∀ p f2, Tells p f2 (stepL w h s (stepsP w h (ss.take a) xs)) → WI w h ss xs (a + 1) (i + 1) p f2 (v + 1) R') ∧ (∀ q, q < v → R' q = R q) ∧ R' v = s := by
                      obtain ⟨R', k1, k2, k3⟩ := hb.stepA hh4 hs hr hne hw hh (Tells.mk' _)
                      exact ⟨R', fun p f2 hp => ⟨k1.ha, k1.ei, by have h1 := k1.e; have h2 : stepsP w h (ss.take (a + 1)) xs = stepL w h s (stepsP w h (ss.take a) xs) := (by rw [takeS_succ ss a hh4, ← hs, stepsP_snoc]; unfold stepP; rw [if_pos ⟨hr, hne⟩]); rw [h2]; exact hp, k1.g, k1.r⟩, k2, k3⟩
                    have hvl : v ≤ 6 := by
                      obtain ⟨RL, r1, r2, r3, r4⟩ := hb.r
                      have := r1.n
                      omega
                    refine m_append tab_ok hX (v + 1) (fun q => spC (R' q)) rfl rfl rfl rfl rfl rfl (by decide) rfl rfl rfl ?_ ?_
                    · refine ⟨by omega, by omega, by omega, by show (v + 1) * 24 ≤ _; omega, by omega, fun q hq => ?_, fun q hq => by simp only [Nat.zero_add, k2 q hq], fun q hq => ?_⟩
                      · obtain rfl : q = 0 := by omega
                        rfl
                      · obtain rfl : q = 0 := by omega
                        show spC (R' (v + 0)) = _
                        rw [Nat.add_zero, k3]
                        rfl
                    cbv
                    refine ⟨i1, i2, ?_⟩
                    rw [e1]
                    cbv
                    refine m_callq hX [3] bodied_9 (fun k2 hk2 => PStep_c W0 hGL true _ u f hb.e none w h s hw hh h5.1 h5.2 k2 hk2) (by simp [MH, MB, MC.MCs, MC, lc, spC, renC.renCs, renC]) rfl rfl (by simp [MV, MV.MVs, MC.MCs, MC, spC]) ?_
                    rintro ⟨p, f2⟩ hp
                    replace hp : Tells p f2 (stepP w h s (stepsP w h (ss.take a) xs)) := hp
                    unfold stepP at hp
                    rw [if_pos ⟨hr, hne⟩] at hp
                    cbv
                    repeat' (first | (refine m_cond_t hX (by first | rfl | assumption | (subst hX; rfl)) ?_; cbv) | (refine m_cond_f hX (by first | rfl | assumption | (subst hX; rfl)) ?_; cbv) | fail)
                    refine ⟨i1, ?_⟩
                    repeat' (first | (refine m_cond_t hX (by first | rfl | assumption | (subst hX; rfl)) ?_; cbv) | (refine m_cond_f hX (by first | rfl | assumption | (subst hX; rfl)) ?_; cbv) | fail)
                    refine ⟨i2, ?_⟩
                    rw [e1]
                    cbv
                    repeat' (first | (refine m_cond_t hX (by first | rfl | assumption | (subst hX; rfl)) ?_; cbv) | (refine m_cond_f hX (by first | rfl | assumption | (subst hX; rfl)) ?_; cbv) | fail)
                    refine m_callq hX [] bodied_8 (fun k2 hk2 => Right_c W0 s k2 hk2) (by simp [MH]) rfl rfl (by simp [MV, MV.MVs, MC.MCs, MC, spC]) ?_
                    intro b3 hbr3
                    cbv
                    obtain rfl : b3 = true := hbr3.2 hr
                    refine m_cond_t hX (by subst hX; simp [std]; simpa [std] using hu) ?_
                    cbv
                    refine ⟨i1, i2, ?_⟩
                    rw [e1]
                    cbv
                    refine m_callq hX [3] bodied_10 (fun k2 hk2 => RStep_c W0 true _ u f hb.e none w h s hw hh hr h5.1 h5.2 k2 hk2) (by simp [MH, MB, MC.MCs, MC, lc, spC, renC.renCs, renC]) rfl rfl (by simp [MV, MV.MVs, MC.MCs, MC, spC]) ?_
                    rintro ⟨p2, f3⟩ hp2
                    replace hp2 : Tells p2 f3 (stepL w h s (stepsP w h (ss.take a) xs)) := hp2
                    obtain rfl : p2 = p := hp2.n.trans hp.n.symm
                    have hgd := hb.g.stepR (w := w) (h := h) hr hw hh
                    have h6 := hgd.near6 (by omega)
                    have hfg : ∀ q, q < p2 → f2 q = f3 q := fun q hq => (hp.f q hq).trans (hp2.f q hq).symm
                    have hfn : ∀ q, q < p2 → (f2 q).Near 2305843009213693952 := hp.all fun z hz => (h6.1 z hz).up (by decide)
                    have hpl : p2 ≤ 10000000 := by have := h6.2; have := hp.n; omega
                    cbv
                    refine m_callf hX [7, 8] bodied_11 (fun k2 hk2 => Same_c W0 true true p2 none none f2 f3 hfg hfn hpl k2 hk2) (by simp [MH, MB, MC.MCs, MC, lc, spC, renC.renCs, renC]) rfl rfl (by simp [MV, MV.MVs, MC]) ?_
                    cbv
                    refine m_cond_f hX (by subst hX; rfl) ?_
                    cbv
                    refine ⟨⟨a + 1, i + 1, p2, f3, v + 1, R'⟩, k0 p2 f3 hp2, by show ns - (a + 1) < ns - a; omega, [some 0, some 1, some 2, some 8, some 6], ?_, rfl, rfl, ?_⟩
                    · simp [MH, MB, MC.MCs, MC, lc, spC, renC.renCs, renC]
                    · simp [MT, MV.MVs, MV, MC]
                      exact hi.symm
                ·
                  have hne : stepsP w h (ss.take a) xs = [] := by
                    have h1 : ¬ 0 < (u : Int) := by subst hX; simpa [std, cmpS] using hu
                    exact List.eq_nil_of_length_eq_zero (by omega)
                  repeat' (first | (refine m_cond_t hX (by first | rfl | assumption | (subst hX; rfl)) ?_; cbv) | (refine m_cond_f hX (by first | rfl | assumption | (subst hX; rfl)) ?_; cbv) | fail)
                  refine ⟨i1, i2, ?_⟩
                  rw [e1]
                  cbv
                  refine m_callq hX [3] bodied_9 (fun k2 hk2 => PStep_c W0 hGL true _ u f hb.e none w h s hw hh h5.1 h5.2 k2 hk2) (by simp [MH, MB, MC.MCs, MC, lc, spC, renC.renCs, renC]) rfl rfl (by simp [MV, MV.MVs, MC.MCs, MC, spC]) ?_
                  rintro ⟨p, f2⟩ hp
                  replace hp : Tells p f2 (stepP w h s (stepsP w h (ss.take a) xs)) := hp
                  have hnr : ¬ (RightS s.side s.n ∧ stepsP w h (ss.take a) xs ≠ []) := fun h => h.2 hne
                  unfold stepP at hp
                  rw [if_neg hnr] at hp
                  obtain rfl : p = u := hp.n.trans hb.e.n.symm
                  have hfg : ∀ q, q < p → f2 q = f q := fun q hq => (hp.f q hq).trans (hb.e.f q hq).symm
                  have hfn : ∀ q, q < p → (f2 q).Near 2305843009213693952 := hp.all fun z hz => (h5.1 z hz).up (by decide)
                  have hpl : p ≤ 10000000 := by have := h5.2; omega
                  cbv
                  repeat' (first | (refine m_cond_t hX (by first | rfl | assumption | (subst hX; rfl)) ?_; cbv) | (refine m_cond_f hX (by first | rfl | assumption | (subst hX; rfl)) ?_; cbv) | fail)
                  refine m_callf hX [5, 3] bodied_11 (fun k2 hk2 => Same_c W0 true true p none none f2 f hfg hfn hpl k2 hk2) (by simp [MH, MB, MC.MCs, MC, lc, spC, renC.renCs, renC]) rfl rfl (by simp [MV, MV.MVs, MC]) ?_
                  cbv
                  refine m_cond_f hX (by subst hX; rfl) ?_
                  cbv
                  refine ⟨⟨a + 1, i + 1, p, f, v, R⟩, hb.stepB hh4 hs hnr, by show ns - (a + 1) < ns - a; omega, [some 0, some 1, some 2, some 3, some 4], ?_, rfl, rfl, ?_⟩
                  · simp [MH, MB, MC.MCs, MC, lc, spC, renC.renCs, renC]
                  · simp [MT, MV.MVs, MV, MC]
                    exact hi.symm
              · have hend : a = ns := by
                  obtain ⟨g1, g2, g3, g4, g5⟩ := hb
                  have : ¬ i < ns := by subst hX; simpa [std, cmpS] using hc
                  omega
                have hta : ss.take a = ss := List.take_of_length_le (by omega)
                obtain ⟨RL, r1, r2, r3, r4⟩ := hb.r
                have hgl := hb.g
                rw [hta] at r2 hgl
                have hRL : RL.length ≤ 6 := by omega
                refine m_callq hX [0, 1] bodied_12 (fun k2 hk2 => PAll_c W0 hGL rw rs xs N G hG c cs w h ss ns S hS hw hh hg0 f1 k2 hk2) (by simp [MH, MB, MC.MCs, MC, lc, spC, renC.renCs, renC]) rfl rfl (by simp [MV, MV.MVs, MC]) ?_
                rintro ⟨p, f2⟩ hp
                replace hp : Tells p f2 (finL (stepsP w h ss xs)) := hp
                cbv
                refine m_callq hX [0, 4] bodied_13 (fun k2 hk2 => RSteps_c W0 hGL rw true xs N G hG c none w h RL v R r1 hw hh hg0 hRL r3 k2 hk2) (by simp [MH, MB, MC.MCs, MC, lc, spC, renC.renCs, renC]) rfl rfl (by simp [MV, MV.MVs, MC]) ?_
                rintro ⟨p2, f3⟩ hp2
                replace hp2 : Tells p2 f3 (finL (stepsL w h RL xs)) := hp2
                rw [r2] at hp2
                obtain rfl : p2 = p := hp2.n.trans hp.n.symm
                obtain ⟨n1, n2⟩ := fin_near hgl (by omega)
                have hfg : ∀ q, q < p2 → f2 q = f3 q := fun q hq => (hp.f q hq).trans (hp2.f q hq).symm
                have hfn : ∀ q, q < p2 → (f2 q).Near 2305843009213693952 := hp.all n1
                have hpl : p2 ≤ 10000000 := by have := hp.n; omega
                cbv
                refine m_callf hX [5, 6] bodied_11 (fun k2 hk2 => Same_c W0 true true p2 none none f2 f3 hfg hfn hpl k2 hk2) (by simp [MH, MB, MC.MCs, MC, lc, spC, renC.renCs, renC]) rfl rfl (by simp [MV, MV.MVs, MC]) ?_
                cbv
                refine ⟨_, [lays rw N G, sps rs ns S], [some 0, some 1], ?_, rfl, rfl, ?_, hk _⟩
                · simp [MH, MB, MC.MCs, MC, lc, spC, renC.renCs, renC]
                · simp [MV, MC]
end Go.Proofs.YtdijdlkljeibjaaDoor.AM
