/- Layers behind steps, moved to where all begin, as the program and the reference have it, as contracts on the abstract machine. The conditions: the library's tables lie as listed, the numbers are near, the steps few. -/
import Derived.Test.YtdijdlkljeibjaaDoorFsA
namespace Go.Proofs.YtdijdlkljeibjaaDoor.AM
open Go Go.RowKit
set_option cbv.warning false
set_option maxRecDepth 100000
set_option linter.unusedVariables false
set_option linter.unusedSimpArgs false
theorem bodied_12 : Bodied Tryd.prog 12 := ⟨Tryd.f12, by kernel_rfl, by kernel_rfl, by kernel_rfl⟩
theorem bodied_13 : Bodied Tryd.prog 13 := ⟨Tryd.f13, by kernel_rfl, by kernel_rfl, by kernel_rfl⟩
theorem bodied_26 : Bodied Tryd.prog 26 := ⟨Tryd.f26, by kernel_rfl, by kernel_rfl, by kernel_rfl⟩
theorem Move_c (W0 : World) (x y : Int) (k : V → Heap → Prop) (hk : k (.agg [.int .i64 0, .int .i64 x, .int .i64 y]) []) : ACall Tryd.prog W0 26 [.one (.int .i64 x), .one (.int .i64 y)] [] k := by
  refine m_body tab_ok (fn := Tryd.f26) (by kernel_rfl) rfl ?_
  intro X hX
  cbv
  refine ⟨_, _, [], by simp [MH], rfl, rfl, ?_, hk⟩
  simp [MV, MC, MC.MCs, zi]
def Sp.zero : Sp := ⟨0, 0, false⟩
abbrev sps (rw : Bool) (n : Nat) (f : Nat → Sp) : Option B := some (.row rw 29 3 n fun q => spC (f q))
structure TellsS (u : Nat) (f : Nat → Sp) (M : List Sp) : Prop where
  n : u = M.length
  f : ∀ q, q < u → f q = M.getD q Sp.zero
theorem takeS_succ (xs : List Sp) (a : Nat) (h : a < xs.length) : xs.take (a + 1) = xs.take a ++ [xs.getD a Sp.zero] := by
  rw [List.take_succ_eq_append_getElem h]
  congr 2
  simp [h]
theorem getS_mem {xs : List Sp} {a : Nat} (h : a < xs.length) : xs.getD a Sp.zero ∈ xs := by
  rw [List.getD_eq_getElem?_getD, List.getElem?_eq_getElem h]
  exact List.getElem_mem _
structure PI (w h : Int) (ss : List Sp) (xs : List La) (a : Nat) (i : Int) (u : Nat) (f : Nat → La) : Prop where
  ha : a ≤ ss.length
  ei : i = a
  e : Tells u f (stepsP w h (ss.take a) xs)
  g : Good a (stepsP w h (ss.take a) xs)
structure LI (w h : Int) (ss : List Sp) (xs : List La) (a : Nat) (i : Int) (u : Nat) (f : Nat → La) : Prop where
  ha : a ≤ ss.length
  ei : i = a
  e : Tells u f (stepsL w h (ss.take a) xs)
  g : Good a (stepsL w h (ss.take a) xs)
structure MI (u : Nat) (r : R4) (f : Nat → La) (a : Nat) (i : Int) (g : Nat → La) : Prop where
  h : a ≤ u
  ei : i = a
  e : ∀ q, q < u → g q = if q < a then moveF r (f q) else f q
structure AI (u : Nat) (r : R4) (f : Nat → La) (a : Nat) (i : Int) (g : Nat → La) : Prop where
  h : a ≤ u
  ei : i = a
  e : ∀ q, q < a → g q = moveF r (f q)
theorem IsThen.moveF {r : R4} {a b q0 q1 q2 : Int} {z : La} (ha : a = -r.a) (hb : b = -r.b) (h : IsThen z.t z.X z.Y 0 a b q0 q1 q2) : (⟨z.x0, z.y0, z.x1, z.y1, q0, q1, q2⟩ : La) = AM.moveF r z := by
  subst ha hb
  obtain ⟨rfl, rfl, rfl⟩ := h
  rfl
theorem fin_tells {u : Nat} {f g : Nat → La} {xs : List La} {r : R4} (h : Tells u f xs) (hr : r = allL xs) (hg : ∀ q, q < u → g q = AM.moveF r (f q)) : Tells u g (finL xs) := by
  have hn := h.n
  refine ⟨by unfold finL; rw [List.length_map]; exact hn, fun q hq => ?_⟩
  rw [hg q hq, h.f q hq, hr]
  unfold finL
  simp only [List.getD_eq_getElem?_getD]
  rw [List.getElem?_map, List.getElem?_eq_getElem (by omega)]
  rfl
theorem splice7 (x y : La) : splice (lc x) 0 (lc y) = lc y := rfl
set_option maxHeartbeats 8000000 in
theorem PAll_c (W0 : World) (hG : GL W0) (rw rs : Bool) (xs : List La) (m : Nat) (F : Nat → La) (hF : Tells m F xs) (c cs : Option Nat) (w h : Int) (ss : List Sp) (ns : Nat) (S : Nat → Sp) (hS : TellsS ns S ss) (hw : Nr 1073741824 w) (hh : Nr 1073741824 h) (hg : Good 0 xs) (hlen : ss.length ≤ 6) (k : V → Heap → Prop)
    (hk : ∀ b : Nat × (Nat → La), Tells b.1 b.2 (finL (stepsP w h ss xs)) → k (.one (.sl 2 0 b.1 none)) [lays rw m F, sps rs ns S, lays true b.1 b.2]) :
    ACall Tryd.prog W0 12 [.one (.sl 0 0 m c), .one (.int .i64 w), .one (.int .i64 h), .one (.sl 1 0 ns cs)] [lays rw m F, sps rs ns S] k := by
  have hSn := hS.n
  refine m_body tab_ok (fn := Tryd.f12) (by kernel_rfl) rfl ?_
  intro X hX
  cbv
  refine m_loop tab_ok hX (fun b : Option (Nat × Int × Nat × (Nat → La)) => match b with | none => True | some b => PI w h ss xs b.1 b.2.1 b.2.2.1 b.2.2.2) (fun b => match b with | none => (([.one (.sl 0 0 m c), .one (.int .i64 w), .one (.int .i64 h), .one (.sl 1 0 ns cs)] ++ List.replicate 4 (.one .undef) ++ [.one .nils] ++ List.replicate 5 (.one .undef) ++ [.one (.sl 1 0 ns cs), .one (.int .i64 ns), .one (.int .i64 0)] ++ List.replicate 35 (.one .undef)), [lays rw m F, sps rs ns S]) | some b => (([.one (.sl 2 0 b.2.2.1 none), .one (.int .i64 w), .one (.int .i64 h), .one (.sl 1 0 ns cs)] ++ List.replicate 4 (.one .undef) ++ [.one .nils] ++ List.replicate 5 (.one .undef) ++ [.one (.sl 1 0 ns cs), .one (.int .i64 ns), .one (.int .i64 b.2.1)] ++ List.replicate 35 (.one .undef)), [lays rw m F, sps rs ns S, lays true b.2.2.1 b.2.2.2])) (fun b => match b with | none => ns + 1 | some b => ns - b.1) ?_ ?_
  · refine ⟨none, trivial, [some 0, some 1], ?_, rfl, rfl, ?_⟩
    · simp [MH, MB, MC.MCs, MC, lc, spC]
    · simp [MT, MV.MVs, MV, MC]
      subst hX; rfl
  · intro b
    cases b with
    | none =>
      intro _
      have hb : PI w h ss xs 0 0 m F := ⟨by omega, rfl, hF, hg⟩
      cbv
      refine m_cond hX (fun hc => ?_) (fun hc => ?_) <;> cbv
      · have hh1 : ((0 : Int) ≤ 0 ∧ (0 : Int) < ns) ∧ (0 : Int).toNat = 0 ∧ 0 < ns := by
          obtain ⟨g1, g2, g3, g4⟩ := hb
          have : (0 : Int) < ns := by subst hX; simpa [std, cmpS] using hc
          omega
        obtain ⟨hh1, hh2, hh3⟩ := hh1
        refine ⟨by subst hX; exact hh1, by subst hX; show 0 + (0 : Int).toNat < ns; omega, ?_⟩
        obtain ⟨s, hs⟩ : ∃ s, s = ss.getD 0 Sp.zero := ⟨_, rfl⟩
        have e1 : S (X.nadd 0 (X.toN 0)) = s := by subst hX; show S (0 + (0 : Int).toNat) = _; rw [hh2, Nat.zero_add, hS.f _ hh3, hs]
        rw [e1]
        cbv
        have hass : 0 < ss.length := by omega
        have h5 := hb.g.near5 (by omega)
        have hst : stepsP w h (ss.take (0 + 1)) xs = stepP w h s (stepsP w h (ss.take 0) xs) := by rw [takeS_succ ss 0 hass, ← hs]; exact stepsP_snoc w h _ s xs
        refine m_callq hX [0] bodied_9 (fun k2 hk2 => PStep_c W0 hG rw _ m F hb.e c w h s hw hh h5.1 h5.2 k2 hk2) (by simp [MH, MB, MC.MCs, MC, lc, renC.renCs, renC]) rfl rfl (by simp [MV, MV.MVs, MC.MCs, MC, spC]) ?_
        rintro ⟨p, f2⟩ hp
        replace hp : Tells p f2 (stepP w h s (stepsP w h (ss.take 0) xs)) := hp
        rw [← hst] at hp
        have hgd : Good (0 + 1) (stepsP w h (ss.take (0 + 1)) xs) := by rw [hst]; exact hb.g.step hw hh
        cbv
        refine ⟨some ⟨0 + 1, 0 + 1, p, f2⟩, ⟨hass, by have := hb.ei; show (0 : Int) + 1 = ((0 + 1 : Nat) : Int); omega, hp, hgd⟩, ?_, [some 0, some 1, some 3], ?_, rfl, rfl, ?_⟩
        · show ns - (0 + 1) < ns + 1; omega
        · simp [MH, MB, MC.MCs, MC, lc, spC, renC.renCs, renC]
        · have hi : X.bin .add .i64 0 1 = 0 + 1 := by subst hX; exact wrap_eq (x := 0 + 1) (by omega) (by omega)
          simp [MT, MV.MVs, MV, MC]
          exact hi.symm
      · have hend : 0 = ns := by
          obtain ⟨g1, g2, g3, g4⟩ := hb
          have : ¬ (0 : Int) < ns := by subst hX; simpa [std, cmpS] using hc
          omega
        have hgl : Good 0 (stepsP w h ss xs) := by have := hb.g; rw [List.take_of_length_le (by omega)] at this; exact this
        have hte : Tells m F (stepsP w h ss xs) := by have := hb.e; rw [List.take_of_length_le (by omega)] at this; exact this
        have h6 := hgl.near6 (by omega)
        have hul : m ≤ 1000000 := by have := hte.n; have := h6.2; omega
        clear hb hc
        refine m_callq hX [0] bodied_22 (fun k2 hk2 => all_c W0 rw _ m F hte c (fun l hl => (h6.1 l hl).up (by decide)) h6.2 k2 hk2) (by simp [MH, MB, MC.MCs, MC, lc, renC.renCs, renC]) rfl rfl (by simp [MV, MV.MVs, MC]) ?_
        intro r hr
        have hrn : r.Near 576460752303423488 := by have := all_near h6.1 (by decide); rw [← hr] at this; exact this
        cbv
        refine m_callf hX [0] bodied_21 (fun k2 hk2 => Clone7_c W0 rw m c F (by omega) k2 hk2) (by simp [MH, MB, MC.MCs, MC, lc, renC.renCs, renC]) rfl rfl (by simp [MV, MV.MVs, MC]) ?_
        cbv
        refine m_loop tab_ok hX (fun b : Nat × Int × (Nat → La) => MI m r F b.1 b.2.1 b.2.2) (fun b => ((List.replicate 8 (.one .undef) ++ [.one .nils, .one .undef, .one .undef, .one (.ptr 2 0 0), .one (.sl 3 0 m none)] ++ List.replicate 17 (.one .undef) ++ [.one (.sl 3 0 m none), .one (.int .i64 m), .one (.int .i64 b.2.1)] ++ List.replicate 19 (.one .undef)), [lays rw m F, sps rs ns S, some (.box 39 (rc r)), lays true m b.2.2])) (fun b => m - b.1) ?_ ?_
        · refine ⟨⟨0, 0, F⟩, ⟨by omega, rfl, fun q hq => (if_neg (by omega)).symm⟩, [some 0, some 1, some 2, some 3], ?_, rfl, rfl, ?_⟩
          · simp [MH, MB, MC.MCs, MC, lc, spC, rc, renC.renCs, renC]
          · simp [MT, MV.MVs, MV, MC]
            subst hX; rfl
        · rintro ⟨j, jj, g⟩ hb
          replace hb : MI m r F j jj g := hb
          cbv
          refine m_cond hX (fun hc => ?_) (fun hc => ?_) <;> cbv
          · have hh1 : (0 ≤ jj ∧ jj < m) ∧ jj.toNat = j ∧ j < m := by
              obtain ⟨g1, g2, g3⟩ := hb
              have : jj < m := by subst hX; simpa [std, cmpS] using hc
              omega
            obtain ⟨hh1, hh2, hh3⟩ := hh1
            have i1 : X.inb jj m := by subst hX; exact hh1
            have i2 : X.nlt (X.nadd 0 (X.toN jj)) m := by subst hX; show 0 + jj.toNat < m; omega
            obtain ⟨l, hl⟩ : ∃ l, l = g j := ⟨_, rfl⟩
            have e1 : g (X.nadd 0 (X.toN jj)) = l := by subst hX; rw [hl]; show g (0 + jj.toNat) = _; rw [hh2, Nat.zero_add]
            have hlf : l = F j := by rw [hl, hb.e j hh3, if_neg (by omega)]
            have hln : l.Near 288230376151711744 := by rw [hlf]; exact hte.all h6.1 j hh3
            have ea : X.bin .sub .i64 0 r.a = -r.a := negN hrn.a (by decide) hX
            have eb : X.bin .sub .i64 0 r.b = -r.b := negN hrn.b (by decide) hX
            have na : Nr 1152921504606846976 (X.bin .sub .i64 0 r.a) := by rw [ea]; exact hrn.a.neg.up (by decide)
            have nb : Nr 1152921504606846976 (X.bin .sub .i64 0 r.b) := by rw [eb]; exact hrn.b.neg.up (by decide)
            have hi : X.bin .add .i64 jj 1 = jj + 1 := by subst hX; exact wrap_eq (by omega) (by omega)
            refine m_gen (A := X.draw _ _ _) fun K1 hK1 => ?_
            refine m_drawT tab_ok hX [] [15] (.one 0 0 (.one 1 0 (.one 2 0 (.one 3 0 (.one 4 0 (.one 6 0 (.one 9 0 (.one 5 1 (.one 7 1 (.one 8 0 (.one 10 1 (.one 11 0 (.one 12 2 (.one 13 2 (.one 14 0 (.one 15 3 .fin)))))))))))))))) (by kernel_rfl) (by simp) ?_
            cbv
            refine ⟨i1, i2, ?_⟩
            rw [e1]
            refine m_callf hX [] bodied_26 (fun k2 hk2 => Move_c W0 (X.bin .sub .i64 0 r.a) (X.bin .sub .i64 0 r.b) k2 hk2) (by simp [MH]) rfl rfl (by simp [MV, MV.MVs, MC]) ?_
            cbv
            refine m_callq hX [] bodied_25 (fun k2 hk2 => LLay_c W0 l.t l.X l.Y l.x0 l.y0 l.x1 l.y1 0 (X.bin .sub .i64 0 r.a) (X.bin .sub .i64 0 r.b) hln.t ⟨by decide, by decide⟩ (hln.X.up (by decide)) (hln.Y.up (by decide)) na nb k2 hk2) (by simp [MH]) rfl rfl (by simp [MV, MV.MVs, MC.MCs, MC]) ?_
            rintro ⟨q0, q1, q2⟩ hq
            replace hq : IsThen l.t l.X l.Y 0 (X.bin .sub .i64 0 r.a) (X.bin .sub .i64 0 r.b) q0 q1 q2 := hq
            have hm := hq.moveF ea eb
            cbv
            refine ⟨i1, i2, ?_⟩
            refine hK1 _ _ ?_
            cbv
            refine ⟨⟨j + 1, jj + 1, fun q => if q = j then moveF r l else g q⟩, ⟨hh3, by have := hb.ei; show jj + 1 = ((j + 1 : Nat) : Int); omega, fun q hq => ?_⟩, by show m - (j + 1) < m - j; omega, [some 0, some 1, some 2, some 3], ?_, rfl, rfl, ?_⟩
            · show (if q = j then moveF r l else g q) = _
              by_cases hqj : q = j
              · rw [if_pos hqj, if_pos (by omega), hqj, hlf]
              · rw [if_neg hqj, hb.e q hq]
                by_cases h3 : q < j
                · rw [if_pos h3, if_pos (by omega)]
                · rw [if_neg h3, if_neg (by omega)]
            · simp [MH, MB, MC.MCs, MC, lc, spC, rc, renC.renCs, renC]
              intro q hq2
              have e : X.setf (fun q => lc (g q)) (X.nadd 0 (X.toN jj)) 0 (lc ⟨l.x0, l.y0, l.x1, l.y1, q0, q1, q2⟩) q = lc (if q = j then moveF r l else g q) := by
                rw [hm]
                subst hX
                show (if q = 0 + jj.toNat then splice (lc (g q)) 0 (lc (moveF r l)) else lc (g q)) = _
                rw [hh2, Nat.zero_add]
                by_cases hqj : q = j
                · rw [if_pos hqj, if_pos hqj]; rfl
                · rw [if_neg hqj, if_neg hqj]
              exact Eq.mp (congrArg (MC.MCs _ (lc (if q = j then moveF r l else g q))) e.symm) (lc_MC _ _)
            · simp [MT, MV.MVs, MV, MC]
              exact hi.symm
          · have hje : j = m := by
              obtain ⟨g1, g2, g3⟩ := hb
              have : ¬ jj < m := by subst hX; simpa [std, cmpS] using hc
              omega
            have hfin := fin_tells (g := g) hte hr fun q hq => by rw [hb.e q hq]; exact if_pos (by omega)
            refine ⟨_, _, [some 0, some 1, some 3], ?_, rfl, rfl, ?_, hk (m, g) hfin⟩
            · simp [MH, MB, MC.MCs, MC, lc, spC, renC.renCs, renC]
            · simp [MV, MC]
    | some b =>
      obtain ⟨a, i, u, f⟩ := b
      intro hb
      replace hb : PI w h ss xs a i u f := hb
      cbv
      refine m_cond hX (fun hc => ?_) (fun hc => ?_) <;> cbv
      · have hh1 : ((0 : Int) ≤ i ∧ (i : Int) < ns) ∧ (i : Int).toNat = a ∧ a < ns := by
          obtain ⟨g1, g2, g3, g4⟩ := hb
          have : (i : Int) < ns := by subst hX; simpa [std, cmpS] using hc
          omega
        obtain ⟨hh1, hh2, hh3⟩ := hh1
        refine ⟨by subst hX; exact hh1, by subst hX; show 0 + (i : Int).toNat < ns; omega, ?_⟩
        obtain ⟨s, hs⟩ : ∃ s, s = ss.getD a Sp.zero := ⟨_, rfl⟩
        have e1 : S (X.nadd 0 (X.toN i)) = s := by subst hX; show S (0 + (i : Int).toNat) = _; rw [hh2, Nat.zero_add, hS.f _ hh3, hs]
        rw [e1]
        cbv
        have hass : a < ss.length := by omega
        have h5 := hb.g.near5 (by omega)
        have hst : stepsP w h (ss.take (a + 1)) xs = stepP w h s (stepsP w h (ss.take a) xs) := by rw [takeS_succ ss a hass, ← hs]; exact stepsP_snoc w h _ s xs
        refine m_callq hX [2] bodied_9 (fun k2 hk2 => PStep_c W0 hG true _ u f hb.e none w h s hw hh h5.1 h5.2 k2 hk2) (by simp [MH, MB, MC.MCs, MC, lc, renC.renCs, renC]) rfl rfl (by simp [MV, MV.MVs, MC.MCs, MC, spC]) ?_
        rintro ⟨p, f2⟩ hp
        replace hp : Tells p f2 (stepP w h s (stepsP w h (ss.take a) xs)) := hp
        rw [← hst] at hp
        have hgd : Good (a + 1) (stepsP w h (ss.take (a + 1)) xs) := by rw [hst]; exact hb.g.step hw hh
        cbv
        refine ⟨some ⟨a + 1, i + 1, p, f2⟩, ⟨hass, by have := hb.ei; show (i : Int) + 1 = ((a + 1 : Nat) : Int); omega, hp, hgd⟩, ?_, [some 0, some 1, some 4], ?_, rfl, rfl, ?_⟩
        · show ns - (a + 1) < ns - a; omega
        · simp [MH, MB, MC.MCs, MC, lc, spC, renC.renCs, renC]
        · have hi : X.bin .add .i64 i 1 = i + 1 := by subst hX; exact wrap_eq (x := i + 1) (by omega) (by omega)
          simp [MT, MV.MVs, MV, MC]
          exact hi.symm
      · have hend : a = ns := by
          obtain ⟨g1, g2, g3, g4⟩ := hb
          have : ¬ (i : Int) < ns := by subst hX; simpa [std, cmpS] using hc
          omega
        have hgl : Good a (stepsP w h ss xs) := by have := hb.g; rw [List.take_of_length_le (by omega)] at this; exact this
        have hte : Tells u f (stepsP w h ss xs) := by have := hb.e; rw [List.take_of_length_le (by omega)] at this; exact this
        have h6 := hgl.near6 (by omega)
        have hul : u ≤ 1000000 := by have := hte.n; have := h6.2; omega
        clear hb hc
        refine m_callq hX [2] bodied_22 (fun k2 hk2 => all_c W0 true _ u f hte none (fun l hl => (h6.1 l hl).up (by decide)) h6.2 k2 hk2) (by simp [MH, MB, MC.MCs, MC, lc, renC.renCs, renC]) rfl rfl (by simp [MV, MV.MVs, MC]) ?_
        intro r hr
        have hrn : r.Near 576460752303423488 := by have := all_near h6.1 (by decide); rw [← hr] at this; exact this
        cbv
        refine m_callf hX [2] bodied_21 (fun k2 hk2 => Clone7_c W0 true u none f (by omega) k2 hk2) (by simp [MH, MB, MC.MCs, MC, lc, renC.renCs, renC]) rfl rfl (by simp [MV, MV.MVs, MC]) ?_
        cbv
        refine m_loop tab_ok hX (fun b : Nat × Int × (Nat → La) => MI u r f b.1 b.2.1 b.2.2) (fun b => ((List.replicate 8 (.one .undef) ++ [.one .nils, .one .undef, .one .undef, .one (.ptr 3 0 0), .one (.sl 4 0 u none)] ++ List.replicate 17 (.one .undef) ++ [.one (.sl 4 0 u none), .one (.int .i64 u), .one (.int .i64 b.2.1)] ++ List.replicate 19 (.one .undef)), [lays rw m F, sps rs ns S, lays true u f, some (.box 39 (rc r)), lays true u b.2.2])) (fun b => u - b.1) ?_ ?_
        · refine ⟨⟨0, 0, f⟩, ⟨by omega, rfl, fun q hq => (if_neg (by omega)).symm⟩, [some 0, some 1, some 2, some 3, some 4], ?_, rfl, rfl, ?_⟩
          · simp [MH, MB, MC.MCs, MC, lc, spC, rc, renC.renCs, renC]
          · simp [MT, MV.MVs, MV, MC]
            subst hX; rfl
        · rintro ⟨j, jj, g⟩ hb
          replace hb : MI u r f j jj g := hb
          cbv
          refine m_cond hX (fun hc => ?_) (fun hc => ?_) <;> cbv
          · have hh1 : (0 ≤ jj ∧ jj < u) ∧ jj.toNat = j ∧ j < u := by
              obtain ⟨g1, g2, g3⟩ := hb
              have : jj < u := by subst hX; simpa [std, cmpS] using hc
              omega
            obtain ⟨hh1, hh2, hh3⟩ := hh1
            have i1 : X.inb jj u := by subst hX; exact hh1
            have i2 : X.nlt (X.nadd 0 (X.toN jj)) u := by subst hX; show 0 + jj.toNat < u; omega
            obtain ⟨l, hl⟩ : ∃ l, l = g j := ⟨_, rfl⟩
            have e1 : g (X.nadd 0 (X.toN jj)) = l := by subst hX; rw [hl]; show g (0 + jj.toNat) = _; rw [hh2, Nat.zero_add]
            have hlf : l = f j := by rw [hl, hb.e j hh3, if_neg (by omega)]
            have hln : l.Near 288230376151711744 := by rw [hlf]; exact hte.all h6.1 j hh3
            have ea : X.bin .sub .i64 0 r.a = -r.a := negN hrn.a (by decide) hX
            have eb : X.bin .sub .i64 0 r.b = -r.b := negN hrn.b (by decide) hX
            have na : Nr 1152921504606846976 (X.bin .sub .i64 0 r.a) := by rw [ea]; exact hrn.a.neg.up (by decide)
            have nb : Nr 1152921504606846976 (X.bin .sub .i64 0 r.b) := by rw [eb]; exact hrn.b.neg.up (by decide)
            have hi : X.bin .add .i64 jj 1 = jj + 1 := by subst hX; exact wrap_eq (by omega) (by omega)
            refine m_gen (A := X.draw _ _ _) fun K1 hK1 => ?_
            refine m_drawT tab_ok hX [] [15] (.one 0 0 (.one 1 0 (.one 2 0 (.one 3 0 (.one 4 0 (.one 6 0 (.one 9 0 (.one 5 1 (.one 7 1 (.one 8 0 (.one 10 1 (.one 11 0 (.one 12 2 (.one 13 2 (.one 14 0 (.one 15 3 .fin)))))))))))))))) (by kernel_rfl) (by simp) ?_
            cbv
            refine ⟨i1, i2, ?_⟩
            rw [e1]
            refine m_callf hX [] bodied_26 (fun k2 hk2 => Move_c W0 (X.bin .sub .i64 0 r.a) (X.bin .sub .i64 0 r.b) k2 hk2) (by simp [MH]) rfl rfl (by simp [MV, MV.MVs, MC]) ?_
            cbv
            refine m_callq hX [] bodied_25 (fun k2 hk2 => LLay_c W0 l.t l.X l.Y l.x0 l.y0 l.x1 l.y1 0 (X.bin .sub .i64 0 r.a) (X.bin .sub .i64 0 r.b) hln.t ⟨by decide, by decide⟩ (hln.X.up (by decide)) (hln.Y.up (by decide)) na nb k2 hk2) (by simp [MH]) rfl rfl (by simp [MV, MV.MVs, MC.MCs, MC]) ?_
            rintro ⟨q0, q1, q2⟩ hq
            replace hq : IsThen l.t l.X l.Y 0 (X.bin .sub .i64 0 r.a) (X.bin .sub .i64 0 r.b) q0 q1 q2 := hq
            have hm := hq.moveF ea eb
            cbv
            refine ⟨i1, i2, ?_⟩
            refine hK1 _ _ ?_
            cbv
            refine ⟨⟨j + 1, jj + 1, fun q => if q = j then moveF r l else g q⟩, ⟨hh3, by have := hb.ei; show jj + 1 = ((j + 1 : Nat) : Int); omega, fun q hq => ?_⟩, by show u - (j + 1) < u - j; omega, [some 0, some 1, some 2, some 3, some 4], ?_, rfl, rfl, ?_⟩
            · show (if q = j then moveF r l else g q) = _
              by_cases hqj : q = j
              · rw [if_pos hqj, if_pos (by omega), hqj, hlf]
              · rw [if_neg hqj, hb.e q hq]
                by_cases h3 : q < j
                · rw [if_pos h3, if_pos (by omega)]
                · rw [if_neg h3, if_neg (by omega)]
            · simp [MH, MB, MC.MCs, MC, lc, spC, rc, renC.renCs, renC]
              intro q hq2
              have e : X.setf (fun q => lc (g q)) (X.nadd 0 (X.toN jj)) 0 (lc ⟨l.x0, l.y0, l.x1, l.y1, q0, q1, q2⟩) q = lc (if q = j then moveF r l else g q) := by
                rw [hm]
                subst hX
                show (if q = 0 + jj.toNat then splice (lc (g q)) 0 (lc (moveF r l)) else lc (g q)) = _
                rw [hh2, Nat.zero_add]
                by_cases hqj : q = j
                · rw [if_pos hqj, if_pos hqj]; rfl
                · rw [if_neg hqj, if_neg hqj]
              exact Eq.mp (congrArg (MC.MCs _ (lc (if q = j then moveF r l else g q))) e.symm) (lc_MC _ _)
            · simp [MT, MV.MVs, MV, MC]
              exact hi.symm
          · have hje : j = u := by
              obtain ⟨g1, g2, g3⟩ := hb
              have : ¬ jj < u := by subst hX; simpa [std, cmpS] using hc
              omega
            have hfin := fin_tells (g := g) hte hr fun q hq => by rw [hb.e q hq]; exact if_pos (by omega)
            refine ⟨_, _, [some 0, some 1, some 4], ?_, rfl, rfl, ?_, hk (u, g) hfin⟩
            · simp [MH, MB, MC.MCs, MC, lc, spC, renC.renCs, renC]
            · simp [MV, MC]
set_option maxHeartbeats 8000000 in
theorem RSteps_c (W0 : World) (hG : GL W0) (rw rs : Bool) (xs : List La) (m : Nat) (F : Nat → La) (hF : Tells m F xs) (c cs : Option Nat) (w h : Int) (ss : List Sp) (ns : Nat) (S : Nat → Sp) (hS : TellsS ns S ss) (hw : Nr 1073741824 w) (hh : Nr 1073741824 h) (hg : Good 0 xs) (hlen : ss.length ≤ 6) (hR : ∀ s ∈ ss, RightS s.side s.n) (k : V → Heap → Prop)
    (hk : ∀ b : Nat × (Nat → La), Tells b.1 b.2 (finL (stepsL w h ss xs)) → k (.one (.sl 2 0 b.1 none)) [lays rw m F, sps rs ns S, lays true b.1 b.2]) :
    ACall Tryd.prog W0 13 [.one (.sl 0 0 m c), .one (.int .i64 w), .one (.int .i64 h), .one (.sl 1 0 ns cs)] [lays rw m F, sps rs ns S] k := by
  have hSn := hS.n
  refine m_body tab_ok (fn := Tryd.f13) (by kernel_rfl) rfl ?_
  intro X hX
  cbv
  refine m_loop tab_ok hX (fun b : Option (Nat × Int × Nat × (Nat → La)) => match b with | none => True | some b => LI w h ss xs b.1 b.2.1 b.2.2.1 b.2.2.2) (fun b => match b with | none => (([.one (.sl 0 0 m c), .one (.int .i64 w), .one (.int .i64 h), .one (.sl 1 0 ns cs)] ++ List.replicate 4 (.one .undef) ++ [.one .nils, .one (.int .i64 0)] ++ List.replicate 48 (.one .undef)), [lays rw m F, sps rs ns S]) | some b => (([.one (.sl 2 0 b.2.2.1 none), .one (.int .i64 w), .one (.int .i64 h), .one (.sl 1 0 ns cs)] ++ List.replicate 4 (.one .undef) ++ [.one .nils, .one (.int .i64 b.2.1)] ++ List.replicate 48 (.one .undef)), [lays rw m F, sps rs ns S, lays true b.2.2.1 b.2.2.2])) (fun b => match b with | none => ns + 1 | some b => ns - b.1) ?_ ?_
  · refine ⟨none, trivial, [some 0, some 1], ?_, rfl, rfl, ?_⟩
    · simp [MH, MB, MC.MCs, MC, lc, spC]
    · simp [MT, MV.MVs, MV, MC]
  · intro b
    cases b with
    | none =>
      intro _
      have hb : LI w h ss xs 0 0 m F := ⟨by omega, rfl, hF, hg⟩
      cbv
      refine m_cond hX (fun hc => ?_) (fun hc => ?_) <;> cbv
      · have hh1 : ((0 : Int) ≤ 0 ∧ (0 : Int) < ns) ∧ (0 : Int).toNat = 0 ∧ 0 < ns := by
          obtain ⟨g1, g2, g3, g4⟩ := hb
          have : (0 : Int) < ns := by subst hX; simpa [std, cmpS] using hc
          omega
        obtain ⟨hh1, hh2, hh3⟩ := hh1
        refine ⟨by subst hX; exact hh1, by subst hX; show 0 + (0 : Int).toNat < ns; omega, ?_⟩
        obtain ⟨s, hs⟩ : ∃ s, s = ss.getD 0 Sp.zero := ⟨_, rfl⟩
        have e1 : S (X.nadd 0 (X.toN 0)) = s := by subst hX; show S (0 + (0 : Int).toNat) = _; rw [hh2, Nat.zero_add, hS.f _ hh3, hs]
        rw [e1]
        cbv
        have hass : 0 < ss.length := by omega
        have h5 := hb.g.near5 (by omega)
        have hst : stepsL w h (ss.take (0 + 1)) xs = stepL w h s (stepsL w h (ss.take 0) xs) := by rw [takeS_succ ss 0 hass, ← hs]; exact stepsL_snoc w h _ s xs
        refine m_callq hX [0] bodied_10 (fun k2 hk2 => RStep_c W0 rw _ m F hb.e c w h s hw hh (hR s (hs ▸ getS_mem hass)) h5.1 h5.2 k2 hk2) (by simp [MH, MB, MC.MCs, MC, lc, renC.renCs, renC]) rfl rfl (by simp [MV, MV.MVs, MC.MCs, MC, spC]) ?_
        rintro ⟨p, f2⟩ hp
        replace hp : Tells p f2 (stepL w h s (stepsL w h (ss.take 0) xs)) := hp
        rw [← hst] at hp
        have hgd : Good (0 + 1) (stepsL w h (ss.take (0 + 1)) xs) := by rw [hst]; exact hb.g.stepR (hR s (hs ▸ getS_mem hass)) hw hh
        cbv
        refine ⟨some ⟨0 + 1, 0 + 1, p, f2⟩, ⟨hass, by have := hb.ei; show (0 : Int) + 1 = ((0 + 1 : Nat) : Int); omega, hp, hgd⟩, ?_, [some 0, some 1, some 2], ?_, rfl, rfl, ?_⟩
        · show ns - (0 + 1) < ns + 1; omega
        · simp [MH, MB, MC.MCs, MC, lc, spC, renC.renCs, renC]
        · have hi : X.bin .add .i64 0 1 = 0 + 1 := by subst hX; exact wrap_eq (x := 0 + 1) (by omega) (by omega)
          simp [MT, MV.MVs, MV, MC]
          exact hi.symm
      · have hend : 0 = ns := by
          obtain ⟨g1, g2, g3, g4⟩ := hb
          have : ¬ (0 : Int) < ns := by subst hX; simpa [std, cmpS] using hc
          omega
        have hgl : Good 0 (stepsL w h ss xs) := by have := hb.g; rw [List.take_of_length_le (by omega)] at this; exact this
        have hte : Tells m F (stepsL w h ss xs) := by have := hb.e; rw [List.take_of_length_le (by omega)] at this; exact this
        have h6 := hgl.near6 (by omega)
        have hul : m ≤ 1000000 := by have := hte.n; have := h6.2; omega
        clear hb hc
        refine m_callq hX [0] bodied_23 (fun k2 hk2 => RAll_c W0 rw _ m F hte c (fun l hl => (h6.1 l hl).up (by decide)) h6.2 k2 hk2) (by simp [MH, MB, MC.MCs, MC, lc, renC.renCs, renC]) rfl rfl (by simp [MV, MV.MVs, MC]) ?_
        intro r hr
        have hrn : r.Near 576460752303423488 := by have := all_near h6.1 (by decide); rw [← hr] at this; exact this
        cbv
        refine m_loop tab_ok hX (fun b : Nat × Int × (Nat → La) => AI m r F b.1 b.2.1 b.2.2) (fun b => (([.one (.sl 0 0 m c)] ++ List.replicate 7 (.one .undef) ++ [.one .nils, .one .undef, .one (.ptr 2 0 0), .one (.sl 3 0 b.1 none), .one (.int .i64 b.2.1)] ++ List.replicate 45 (.one .undef)), [lays rw m F, sps rs ns S, some (.box 39 (rc r)), lays true b.1 b.2.2])) (fun b => m - b.1) ?_ ?_
        · refine ⟨⟨0, 0, F⟩, ⟨by omega, rfl, fun q hq => absurd hq (by omega)⟩, [some 0, some 1, some 2, none], ?_, rfl, rfl, ?_⟩
          · simp [MH, MB, MC.MCs, MC, lc, spC, rc, renC.renCs, renC]
          · simp [MT, MV.MVs, MV, MC]
        · rintro ⟨j, jj, g⟩ hb
          replace hb : AI m r F j jj g := hb
          cbv
          refine m_cond hX (fun hc => ?_) (fun hc => ?_) <;> cbv
          · have hh1 : (0 ≤ jj ∧ jj < m) ∧ jj.toNat = j ∧ j < m := by
              obtain ⟨g1, g2, g3⟩ := hb
              have : jj < m := by subst hX; simpa [std, cmpS] using hc
              omega
            obtain ⟨hh1, hh2, hh3⟩ := hh1
            have i1 : X.inb jj m := by subst hX; exact hh1
            have i2 : X.nlt (X.nadd 0 (X.toN jj)) m := by subst hX; show 0 + jj.toNat < m; omega
            obtain ⟨l, hl⟩ : ∃ l, l = F j := ⟨_, rfl⟩
            have e1 : F (X.nadd 0 (X.toN jj)) = l := by subst hX; rw [hl]; show F (0 + jj.toNat) = _; rw [hh2, Nat.zero_add]
            have hlf : l = F j := hl
            have hln : l.Near 288230376151711744 := by rw [hlf]; exact hte.all h6.1 j hh3
            have ea : X.bin .sub .i64 0 r.a = -r.a := negN hrn.a (by decide) hX
            have eb : X.bin .sub .i64 0 r.b = -r.b := negN hrn.b (by decide) hX
            have na : Nr 1152921504606846976 (X.bin .sub .i64 0 r.a) := by rw [ea]; exact hrn.a.neg.up (by decide)
            have nb : Nr 1152921504606846976 (X.bin .sub .i64 0 r.b) := by rw [eb]; exact hrn.b.neg.up (by decide)
            have hi : X.bin .add .i64 jj 1 = jj + 1 := by subst hX; exact wrap_eq (by omega) (by omega)
            refine m_gen (A := X.draw _ _ _) fun K1 hK1 => ?_
            refine m_drawT tab_ok hX [] [21] (.one 0 0 (.one 1 0 (.one 2 0 (.one 3 0 (.one 4 0 (.one 6 0 (.one 7 0 (.one 8 0 (.one 9 0 (.one 11 0 (.one 14 0 (.one 5 1 (.one 10 1 (.one 12 1 (.one 13 0 (.one 15 1 (.one 16 0 (.one 17 0 (.one 18 2 (.one 19 0 (.one 20 2 (.one 21 3 (.one 22 0 .fin))))))))))))))))))))))) (by kernel_rfl) (by simp) ?_
            cbv
            refine ⟨i1, i1, i2, i2, ?_⟩
            rw [e1]
            refine m_callq hX [] bodied_27 (fun k2 hk2 => RThen_c W0 l.t l.X l.Y 0 (X.bin .sub .i64 0 r.a) (X.bin .sub .i64 0 r.b) hln.t ⟨by decide, by decide⟩ (hln.X.up (by decide)) (hln.Y.up (by decide)) na nb k2 hk2) (by simp [MH]) rfl rfl (by simp [MV, MV.MVs, MC.MCs, MC, zi]) ?_
            rintro ⟨q0, q1, q2⟩ hq
            replace hq : IsThen l.t l.X l.Y 0 (X.bin .sub .i64 0 r.a) (X.bin .sub .i64 0 r.b) q0 q1 q2 := hq
            have hm := hq.moveF ea eb
            cbv
            refine m_append tab_ok hX (j + 1) (fun q => lc (if q < j then g q else moveF r l)) rfl rfl rfl rfl rfl rfl (by decide) rfl rfl rfl ?_ ?_
            · refine ⟨by omega, by omega, by omega, by show (j + 1) * 56 ≤ _; omega, by omega, fun q hq => ?_, fun q hq => by simp only [Nat.zero_add]; rw [if_pos hq], fun q hq => ?_⟩
              · obtain rfl : q = 0 := by omega
                rfl
              · obtain rfl : q = 0 := by omega
                show lc (if j + 0 < j then g (j + 0) else moveF r l) = _
                rw [if_neg (by omega), ← hm]
                rfl
            cbv
            refine hK1 _ _ ?_
            cbv
            refine ⟨⟨j + 1, jj + 1, fun q => if q < j then g q else moveF r l⟩, ⟨hh3, by have := hb.ei; show jj + 1 = ((j + 1 : Nat) : Int); omega, fun q hq => ?_⟩, by show m - (j + 1) < m - j; omega, [some 0, some 1, some 2, some 5], ?_, rfl, rfl, ?_⟩
            · show (if q < j then g q else moveF r l) = _
              by_cases h3 : q < j
              · rw [if_pos h3]; exact hb.e q h3
              · obtain rfl : q = j := by have : q < j + 1 := hq; omega
                rw [if_neg h3, hlf]
            · simp [MH, MB, MC.MCs, MC, lc, spC, rc, renC.renCs, renC]
            · simp [MT, MV.MVs, MV, MC]
              exact hi.symm
          · have hje : j = m := by
              obtain ⟨g1, g2, g3⟩ := hb
              have : ¬ jj < m := by subst hX; simpa [std, cmpS] using hc
              omega
            have hfin := fin_tells (g := g) hte hr fun q hq => hb.e q (by omega)
            rw [← hje] at hfin
            refine ⟨_, _, [some 0, some 1, some 3], ?_, rfl, rfl, ?_, hk (j, g) hfin⟩
            · simp [MH, MB, MC.MCs, MC, lc, spC, renC.renCs, renC]
            · simp [MV, MC]
    | some b =>
      obtain ⟨a, i, u, f⟩ := b
      intro hb
      replace hb : LI w h ss xs a i u f := hb
      cbv
      refine m_cond hX (fun hc => ?_) (fun hc => ?_) <;> cbv
      · have hh1 : ((0 : Int) ≤ i ∧ (i : Int) < ns) ∧ (i : Int).toNat = a ∧ a < ns := by
          obtain ⟨g1, g2, g3, g4⟩ := hb
          have : (i : Int) < ns := by subst hX; simpa [std, cmpS] using hc
          omega
        obtain ⟨hh1, hh2, hh3⟩ := hh1
        refine ⟨by subst hX; exact hh1, by subst hX; show 0 + (i : Int).toNat < ns; omega, ?_⟩
        obtain ⟨s, hs⟩ : ∃ s, s = ss.getD a Sp.zero := ⟨_, rfl⟩
        have e1 : S (X.nadd 0 (X.toN i)) = s := by subst hX; show S (0 + (i : Int).toNat) = _; rw [hh2, Nat.zero_add, hS.f _ hh3, hs]
        rw [e1]
        cbv
        have hass : a < ss.length := by omega
        have h5 := hb.g.near5 (by omega)
        have hst : stepsL w h (ss.take (a + 1)) xs = stepL w h s (stepsL w h (ss.take a) xs) := by rw [takeS_succ ss a hass, ← hs]; exact stepsL_snoc w h _ s xs
        refine m_callq hX [2] bodied_10 (fun k2 hk2 => RStep_c W0 true _ u f hb.e none w h s hw hh (hR s (hs ▸ getS_mem hass)) h5.1 h5.2 k2 hk2) (by simp [MH, MB, MC.MCs, MC, lc, renC.renCs, renC]) rfl rfl (by simp [MV, MV.MVs, MC.MCs, MC, spC]) ?_
        rintro ⟨p, f2⟩ hp
        replace hp : Tells p f2 (stepL w h s (stepsL w h (ss.take a) xs)) := hp
        rw [← hst] at hp
        have hgd : Good (a + 1) (stepsL w h (ss.take (a + 1)) xs) := by rw [hst]; exact hb.g.stepR (hR s (hs ▸ getS_mem hass)) hw hh
        cbv
        refine ⟨some ⟨a + 1, i + 1, p, f2⟩, ⟨hass, by have := hb.ei; show (i : Int) + 1 = ((a + 1 : Nat) : Int); omega, hp, hgd⟩, ?_, [some 0, some 1, some 3], ?_, rfl, rfl, ?_⟩
        · show ns - (a + 1) < ns - a; omega
        · simp [MH, MB, MC.MCs, MC, lc, spC, renC.renCs, renC]
        · have hi : X.bin .add .i64 i 1 = i + 1 := by subst hX; exact wrap_eq (x := i + 1) (by omega) (by omega)
          simp [MT, MV.MVs, MV, MC]
          exact hi.symm
      · have hend : a = ns := by
          obtain ⟨g1, g2, g3, g4⟩ := hb
          have : ¬ (i : Int) < ns := by subst hX; simpa [std, cmpS] using hc
          omega
        have hgl : Good a (stepsL w h ss xs) := by have := hb.g; rw [List.take_of_length_le (by omega)] at this; exact this
        have hte : Tells u f (stepsL w h ss xs) := by have := hb.e; rw [List.take_of_length_le (by omega)] at this; exact this
        have h6 := hgl.near6 (by omega)
        have hul : u ≤ 1000000 := by have := hte.n; have := h6.2; omega
        clear hb hc
        refine m_callq hX [2] bodied_23 (fun k2 hk2 => RAll_c W0 true _ u f hte none (fun l hl => (h6.1 l hl).up (by decide)) h6.2 k2 hk2) (by simp [MH, MB, MC.MCs, MC, lc, renC.renCs, renC]) rfl rfl (by simp [MV, MV.MVs, MC]) ?_
        intro r hr
        have hrn : r.Near 576460752303423488 := by have := all_near h6.1 (by decide); rw [← hr] at this; exact this
        cbv
        refine m_loop tab_ok hX (fun b : Nat × Int × (Nat → La) => AI u r f b.1 b.2.1 b.2.2) (fun b => (([.one (.sl 2 0 u none)] ++ List.replicate 7 (.one .undef) ++ [.one .nils, .one .undef, .one (.ptr 3 0 0), .one (.sl 4 0 b.1 none), .one (.int .i64 b.2.1)] ++ List.replicate 45 (.one .undef)), [lays rw m F, sps rs ns S, lays true u f, some (.box 39 (rc r)), lays true b.1 b.2.2])) (fun b => u - b.1) ?_ ?_
        · refine ⟨⟨0, 0, f⟩, ⟨by omega, rfl, fun q hq => absurd hq (by omega)⟩, [some 0, some 1, some 2, some 3, none], ?_, rfl, rfl, ?_⟩
          · simp [MH, MB, MC.MCs, MC, lc, spC, rc, renC.renCs, renC]
          · simp [MT, MV.MVs, MV, MC]
        · rintro ⟨j, jj, g⟩ hb
          replace hb : AI u r f j jj g := hb
          cbv
          refine m_cond hX (fun hc => ?_) (fun hc => ?_) <;> cbv
          · have hh1 : (0 ≤ jj ∧ jj < u) ∧ jj.toNat = j ∧ j < u := by
              obtain ⟨g1, g2, g3⟩ := hb
              have : jj < u := by subst hX; simpa [std, cmpS] using hc
              omega
            obtain ⟨hh1, hh2, hh3⟩ := hh1
            have i1 : X.inb jj u := by subst hX; exact hh1
            have i2 : X.nlt (X.nadd 0 (X.toN jj)) u := by subst hX; show 0 + jj.toNat < u; omega
            obtain ⟨l, hl⟩ : ∃ l, l = f j := ⟨_, rfl⟩
            have e1 : f (X.nadd 0 (X.toN jj)) = l := by subst hX; rw [hl]; show f (0 + jj.toNat) = _; rw [hh2, Nat.zero_add]
            have hlf : l = f j := hl
            have hln : l.Near 288230376151711744 := by rw [hlf]; exact hte.all h6.1 j hh3
            have ea : X.bin .sub .i64 0 r.a = -r.a := negN hrn.a (by decide) hX
            have eb : X.bin .sub .i64 0 r.b = -r.b := negN hrn.b (by decide) hX
            have na : Nr 1152921504606846976 (X.bin .sub .i64 0 r.a) := by rw [ea]; exact hrn.a.neg.up (by decide)
            have nb : Nr 1152921504606846976 (X.bin .sub .i64 0 r.b) := by rw [eb]; exact hrn.b.neg.up (by decide)
            have hi : X.bin .add .i64 jj 1 = jj + 1 := by subst hX; exact wrap_eq (by omega) (by omega)
            refine m_gen (A := X.draw _ _ _) fun K1 hK1 => ?_
            refine m_drawT tab_ok hX [] [21] (.one 0 0 (.one 1 0 (.one 2 0 (.one 3 0 (.one 4 0 (.one 6 0 (.one 7 0 (.one 8 0 (.one 9 0 (.one 11 0 (.one 14 0 (.one 5 1 (.one 10 1 (.one 12 1 (.one 13 0 (.one 15 1 (.one 16 0 (.one 17 0 (.one 18 2 (.one 19 0 (.one 20 2 (.one 21 3 (.one 22 0 .fin))))))))))))))))))))))) (by kernel_rfl) (by simp) ?_
            cbv
            refine ⟨i1, i1, i2, i2, ?_⟩
            rw [e1]
            refine m_callq hX [] bodied_27 (fun k2 hk2 => RThen_c W0 l.t l.X l.Y 0 (X.bin .sub .i64 0 r.a) (X.bin .sub .i64 0 r.b) hln.t ⟨by decide, by decide⟩ (hln.X.up (by decide)) (hln.Y.up (by decide)) na nb k2 hk2) (by simp [MH]) rfl rfl (by simp [MV, MV.MVs, MC.MCs, MC, zi]) ?_
            rintro ⟨q0, q1, q2⟩ hq
            replace hq : IsThen l.t l.X l.Y 0 (X.bin .sub .i64 0 r.a) (X.bin .sub .i64 0 r.b) q0 q1 q2 := hq
            have hm := hq.moveF ea eb
            cbv
            refine m_append tab_ok hX (j + 1) (fun q => lc (if q < j then g q else moveF r l)) rfl rfl rfl rfl rfl rfl (by decide) rfl rfl rfl ?_ ?_
            · refine ⟨by omega, by omega, by omega, by show (j + 1) * 56 ≤ _; omega, by omega, fun q hq => ?_, fun q hq => by simp only [Nat.zero_add]; rw [if_pos hq], fun q hq => ?_⟩
              · obtain rfl : q = 0 := by omega
                rfl
              · obtain rfl : q = 0 := by omega
                show lc (if j + 0 < j then g (j + 0) else moveF r l) = _
                rw [if_neg (by omega), ← hm]
                rfl
            cbv
            refine hK1 _ _ ?_
            cbv
            refine ⟨⟨j + 1, jj + 1, fun q => if q < j then g q else moveF r l⟩, ⟨hh3, by have := hb.ei; show jj + 1 = ((j + 1 : Nat) : Int); omega, fun q hq => ?_⟩, by show u - (j + 1) < u - j; omega, [some 0, some 1, some 2, some 3, some 6], ?_, rfl, rfl, ?_⟩
            · show (if q < j then g q else moveF r l) = _
              by_cases h3 : q < j
              · rw [if_pos h3]; exact hb.e q h3
              · obtain rfl : q = j := by have : q < j + 1 := hq; omega
                rw [if_neg h3, hlf]
            · simp [MH, MB, MC.MCs, MC, lc, spC, rc, renC.renCs, renC]
            · simp [MT, MV.MVs, MV, MC]
              exact hi.symm
          · have hje : j = u := by
              obtain ⟨g1, g2, g3⟩ := hb
              have : ¬ jj < u := by subst hX; simpa [std, cmpS] using hc
              omega
            have hfin := fin_tells (g := g) hte hr fun q hq => hb.e q (by omega)
            rw [← hje] at hfin
            refine ⟨_, _, [some 0, some 1, some 4], ?_, rfl, rfl, ?_, hk (j, g) hfin⟩
            · simp [MH, MB, MC.MCs, MC, lc, spC, renC.renCs, renC]
            · simp [MV, MC]
end Go.Proofs.YtdijdlkljeibjaaDoor.AM
