/- The law FoldKeeps' own function, as a contract on the abstract machine. No condition. -/
import Derived.Test.YtnfoibgafmeenaaFo23
namespace Go.Proofs.Ytnfoibgafmeenaa.AM
open Go Go.RowKit
set_option cbv.warning false
set_option maxRecDepth 100000
set_option linter.unusedVariables false
set_option linter.unusedSimpArgs false
structure KI (N : Nat) (g : Nat → Int) (a : Nat) (i w : Int) : Prop where
  h : a ≤ N
  ei : i = a
  ew : w = IntKind.i64.wrap (sumTo g a)
theorem area_step {X : Ext} {P : Program} {W0 : World} {md : Md} (hX : X = std P W0 md) {S w x0 y0 x1 y1 : Int} (hw : w = IntKind.i64.wrap S) (h0 : Nr 2305843009213693952 x0) (h1 : Nr 2305843009213693952 y0) (h2 : Nr 2305843009213693952 x1) (h3 : Nr 2305843009213693952 y1) :
    X.bin .add .i64 w (X.bin .mul .i64 (X.bin .sub .i64 x1 x0) (X.bin .sub .i64 y1 y0)) = IntKind.i64.wrap (S + (x1 - x0) * (y1 - y0)) := by
  obtain ⟨a1, a2⟩ := h0
  obtain ⟨b1, b2⟩ := h1
  obtain ⟨c1, c2⟩ := h2
  obtain ⟨d1, d2⟩ := h3
  subst hX
  show IntKind.i64.wrap (w + IntKind.i64.wrap (IntKind.i64.wrap (x1 - x0) * IntKind.i64.wrap (y1 - y0))) = _
  rw [wrap_eq (x := x1 - x0) (by omega) (by omega), wrap_eq (x := y1 - y0) (by omega) (by omega), hw, wrap_sum]
set_option maxHeartbeats 8000000 in
theorem FoldKeeps_c (W0 : World) (rw : Bool) (xs : List La) (N : Nat) (c : Option Nat) (G : Nat → La) (hG : Tells N G xs) (hN : N ≤ 9223372036854775807) (n : Int) (b0 b1 b2 : Bool) (k : V → Heap → Prop) (hk : ∀ H', k (.one (.bool true)) H') :
    ACall Try.prog W0 12 [.one (.sl 0 0 N c), .one (.int .i64 n), .agg [.bool b0, .bool b1, .bool b2]] [lays rw N G] k := by
  refine m_body tab_ok (fn := Try.f12) (by kernel_rfl) rfl ?_
  intro X hX
  cbv
  refine m_callf hX [] bodied_39 (fun k2 hk2 => alive_c W0 k2 hk2) ?_ rfl rfl ?_ ?_
  · (first | (simp [MH, MB, MT, MV, MV.MVs, MC.MCs, MC, renC.renCs, renC, up]; done) | (simp [MH, MB, MT, MV, MV.MVs, MC.MCs, MC, renC.renCs, renC, up]; omega) | (simp [MH, MB, MT, MV, MV.MVs, MC.MCs, MC, renC.renCs, renC, up] <;> omega))
  · simp [MV, MV.MVs, MC, MC.MCs]
  cbv
  refine m_cond_f hX (by subst hX; rfl) ?_
  cbv
  refine m_callq hX [0] bodied_40 (fun k2 hk2 => near_c W0 rw N c G hN k2 hk2) (by simp [MH, MB, MC.MCs, MC, lc]) rfl rfl (by simp [MV, MV.MVs, MC]) ?_
  intro b hb
  cbv
  cases b with
  | false =>
    repeat' (first | (refine m_cond_t hX (by first | rfl | assumption | (subst hX; rfl)) ?_; cbv) | (refine m_cond_f hX (by first | rfl | assumption | (subst hX; rfl)) ?_; cbv) | fail)
    refine ⟨_, [lays rw N G], [some 0], ?_, rfl, rfl, ?_, hk _⟩
    · simp [MH, MB, MC.MCs, MC, lc, renC.renCs, renC]
    · simp [MV, MC]
  | true =>
    obtain ⟨hn1, hn2⟩ := hb rfl
    repeat' (first | (refine m_cond_t hX (by first | rfl | assumption | (subst hX; rfl)) ?_; cbv) | (refine m_cond_f hX (by first | rfl | assumption | (subst hX; rfl)) ?_; cbv) | fail)
    refine m_callq hX [] bodied_25 (fun k2 hk2 => In_c W0 n (-1099511627776) 1099511627776 k2 hk2) ?_ rfl rfl ?_ ?_
    · (first | (simp [MH, MB, MT, MV, MV.MVs, MC.MCs, MC, renC.renCs, renC, up]; done) | (simp [MH, MB, MT, MV, MV.MVs, MC.MCs, MC, renC.renCs, renC, up]; omega) | (simp [MH, MB, MT, MV, MV.MVs, MC.MCs, MC, renC.renCs, renC, up] <;> omega))
    · simp [MV, MV.MVs, MC, MC.MCs]
    intro b hb
    cbv
    cases b with
    | false =>
      repeat' (first | (refine m_cond_t hX (by first | rfl | assumption | (subst hX; rfl)) ?_; cbv) | (refine m_cond_f hX (by first | rfl | assumption | (subst hX; rfl)) ?_; cbv) | fail)
      refine ⟨_, [lays rw N G], [some 0], ?_, rfl, rfl, ?_, hk _⟩
      · simp [MH, MB, MC.MCs, MC, lc, renC.renCs, renC]
      · simp [MV, MC]
    | true =>
      have hnn : Nr 144115188075855872 n := ⟨by have := (hb.1 rfl).1; omega, by have := (hb.1 rfl).2; omega⟩
      have hx : ∀ l ∈ xs, l.Near 144115188075855872 := fun l hl => by
        obtain ⟨q, hq, rfl⟩ := List.mem_iff_getElem.1 hl
        have := hn1 q (by rw [hG.n]; exact hq)
        rw [hG.f q (by rw [hG.n]; exact hq), List.getD_eq_getElem?_getD, List.getElem?_eq_getElem hq] at this
        exact this.up (by decide)
      have hxt : ∀ l ∈ xs, Tu l.t := fun l hl => (hx l hl).t
      repeat' (first | (refine m_cond_t hX (by first | rfl | assumption | (subst hX; rfl)) ?_; cbv) | (refine m_cond_f hX (by first | rfl | assumption | (subst hX; rfl)) ?_; cbv) | fail)
      repeat' (refine And.intro (by subst hX; exact ⟨by decide, by decide⟩) ?_)
      have hxl : xs.length ≤ 1000000 := by have := hG.n; omega
      refine m_callq hX [0] bodied_41 (fun k2 hk2 => OneG_c W0 rw xs c b0 b1 b2 n hx hxl hnn N G hG k2 hk2) (by simp [MH, MB, MC.MCs, MC, lc, renC.renCs, renC]) rfl rfl (by simp [MV, MV.MVs, MC]) ?_
      rintro ⟨p, f⟩ hp
      replace hp : Tells p f (oneL b0 b1 b2 n xs) := hp
      have hpl : p ≤ 2 * N := by
        have h1 := foldL_len b0 b1 b2 n xs
        rw [← one_fold b0 b1 b2 n xs hxt] at h1
        have := hp.n
        have := hG.n
        omega
      have hpn : ∀ q, q < p → (f q).Near 1152921504606846976 := hp.all fun z hz => (oneL_near hx hnn z hz).up (by decide)
      have hpb : ∀ q, q < p → beyond b0 b1 n (f q) := hp.all (one_beyond b0 b1 b2 n xs hxt)
      have hsE : sumTo (fun q => (G q).areaE) N = sumE xs := sumTo_tells hG La.areaE sumE rfl sumE_snoc
      have hsA : sumTo (fun q => (f q).area) p = sumE xs := (sumTo_tells hp La.area sumA rfl sumA_snoc).trans (sumA_one b0 b1 b2 n xs hxt)
      cbv
      refine m_cond_f hX (by subst hX; have h2 : IntKind.i64.wrap (2 * (N : Int)) = 2 * N := wrap_eq (by omega) (by omega); simp [std, cmpS, binS, h2]; omega) ?_
      cbv
      refine m_loop tab_ok hX (fun b : Nat × Int × Int => KI N (fun q => (G q).areaE) b.1 b.2.1 b.2.2) (fun b => ([.one (.sl 0 0 N c), .one (.int .i64 n), .one .undef, .one .undef, .one .undef, .one (.ptr 1 0 0), .one (.bool false), .one (.sl 2 0 p none), .one (.int .i64 b.2.2), .one (.int .i64 0), .one (.int .i64 b.2.1)] ++ List.replicate 170 (.one .undef), [lays rw N G, some (.box 58 [.bool b0, .bool b1, .bool b2]), lays true p f])) (fun b => N - b.1) ?_ ?_
      · refine ⟨⟨0, 0, 0⟩, ⟨by omega, rfl, wrap_zero.symm⟩, [some 0, some 1, some 2], ?_, rfl, rfl, ?_⟩
        · simp [MH, MB, MC.MCs, MC, lc, renC.renCs, renC]
        · simp [MT, MV.MVs, MV, MC]
      · rintro ⟨a, i, w⟩ hb
        replace hb : KI N (fun q => (G q).areaE) a i w := hb
        cbv
        refine m_cond hX (fun h => ?_) (fun h => ?_) <;> cbv
        · have hh : (0 ≤ i ∧ i < N) ∧ i.toNat = a ∧ a < N ∧ i + 1 ≤ 100 := by
            obtain ⟨g1, g2, g3⟩ := hb
            have : i < N := by subst hX; simpa [std, cmpS] using h
            omega
          obtain ⟨hh1, hh2, hh3, hh4⟩ := hh
          have i1 : X.inb i N := by subst hX; exact hh1
          have i2 : X.nlt (X.nadd 0 (X.toN i)) N := by subst hX; show 0 + i.toNat < N; omega
          refine ⟨i1, i2, ?_⟩
          obtain ⟨l, hl⟩ : ∃ l, l = G a := ⟨_, rfl⟩
          have e1 : G (X.nadd 0 (X.toN i)) = l := by subst hX; rw [hl]; show G (0 + i.toNat) = _; rw [hh2, Nat.zero_add]
          have hln : l.Near 1099511627776 := hl ▸ hn1 a hh3
          rw [e1]
          cbv
          refine m_callq hX [] bodied_44 (fun k2 hk2 => REmpty_c W0 l.x0 l.y0 l.x1 l.y1 k2 hk2) ?_ rfl rfl ?_ ?_
          · (first | (simp [MH, MB, MT, MV, MV.MVs, MC.MCs, MC, renC.renCs, renC, up]; done) | (simp [MH, MB, MT, MV, MV.MVs, MC.MCs, MC, renC.renCs, renC, up]; omega) | (simp [MH, MB, MT, MV, MV.MVs, MC.MCs, MC, renC.renCs, renC, up] <;> omega))
          · simp [MV, MV.MVs, MC, MC.MCs]
          intro e he
          cbv
          cases e with
          | true =>
            refine m_cond_f hX (by subst hX; rfl) ?_
            cbv
            refine ⟨⟨a + 1, i + 1, w⟩, ?_, by show N - (a + 1) < N - a; omega, [some 0, some 1, some 2], ?_, rfl, rfl, ?_⟩
            · obtain ⟨g1, g2, g3⟩ := hb
              refine ⟨by show a + 1 ≤ N; omega, by show i + 1 = ((a + 1 : Nat) : Int); omega, ?_⟩
              show w = IntKind.i64.wrap (sumTo _ a + (G a).areaE)
              have : (G a).areaE = 0 := by rw [← hl]; unfold La.areaE; exact if_pos (he.1 rfl)
              rw [this, Int.add_zero]
              exact g3
            · simp [MH, MB, MC.MCs, MC, lc]
            · subst hX
              simp [MT, MV.MVs, MV, MC, std, binS]
              exact (wrap_eq (by omega) (by omega)).symm
          | false =>
            refine m_cond_t hX (by subst hX; rfl) ?_
            cbv
            obtain ⟨w2, hw2⟩ : ∃ w2, w2 = IntKind.i64.wrap (sumTo (fun q => (G q).areaE) a + (l.x1 - l.x0) * (l.y1 - l.y0)) := ⟨_, rfl⟩
            have hst := area_step hX (S := sumTo (fun q => (G q).areaE) a) (w := w) hb.ew (hln.x0.up (by decide)) (hln.y0.up (by decide)) (hln.x1.up (by decide)) (hln.y1.up (by decide))
            rw [← hw2] at hst
            refine m_gen (A := X.draw _ _ _) fun K1 hK1 => ?_
            refine m_drawT tab_ok hX [] [] (.one 0 0 (.one 1 0 (.one 2 0 (.one 3 0 (.one 4 0 (.one 5 0 (.one 7 0 (.one 8 0 (.one 9 0 (.one 10 0 (.one 11 0 (.one 14 0 (.one 15 0 (.one 16 0 (.one 17 0 (.one 18 0 (.one 20 0 (.one 21 0 (.one 22 0 (.one 23 0 (.one 24 0 (.one 6 1 (.one 12 1 (.one 13 0 (.one 19 1 (.one 25 1 (.one 26 0 (.one 27 0 (.one 28 0 (.one 29 0 .fin)))))))))))))))))))))))))))))) (by kernel_rfl) (by simp) ?_
            cbv
            refine ⟨i1, i1, i1, i1, i2, i2, i2, i2, ?_⟩
            rw [e1]
            refine hK1 _ _ ?_
            cbv
            refine ⟨⟨a + 1, i + 1, w2⟩, ?_, by show N - (a + 1) < N - a; omega, [some 0, some 1, some 2], ?_, rfl, rfl, ?_⟩
            · obtain ⟨g1, g2, g3⟩ := hb
              refine ⟨by show a + 1 ≤ N; omega, by show i + 1 = ((a + 1 : Nat) : Int); omega, ?_⟩
              show w2 = IntKind.i64.wrap (sumTo _ a + (G a).areaE)
              have : (G a).areaE = (l.x1 - l.x0) * (l.y1 - l.y0) := by
                rw [← hl]
                unfold La.areaE
                exact if_neg (fun h => by cases he.2 h)
              rw [this]
              exact hw2
            · simp [MH, MB, MC.MCs, MC, lc]
            · have hi : X.bin .add .i64 i 1 = i + 1 := by subst hX; exact wrap_eq (by omega) (by omega)
              simp [MT, MV.MVs, MV, MC]
              exact ⟨hst.symm, hi.symm⟩
        · have han : a = N := by
            obtain ⟨g1, g2, g3⟩ := hb
            have : ¬ i < N := by subst hX; simpa [std, cmpS] using h
            omega
          obtain ⟨was, hwas⟩ : ∃ was, was = w := ⟨_, rfl⟩
          have hw1 : was = IntKind.i64.wrap (sumE xs) := by rw [hwas, hb.ew, han, hsE]
          rw [← hwas]
          refine m_loop tab_ok hX (fun b : Nat × Int × Int => KI p (fun q => (f q).area) b.1 b.2.1 b.2.2) (fun b => ([.one (.sl 0 0 N c), .one (.int .i64 n), .one .undef, .one .undef, .one .undef, .one (.ptr 1 0 0), .one (.bool false), .one (.sl 2 0 p none), .one (.int .i64 was), .one (.int .i64 b.2.2), .one .undef, .one (.int .i64 b.2.1)] ++ List.replicate 169 (.one .undef), [lays rw N G, some (.box 58 [.bool b0, .bool b1, .bool b2]), lays true p f])) (fun b => p - b.1) ?_ ?_
          · refine ⟨⟨0, 0, 0⟩, ⟨by omega, rfl, wrap_zero.symm⟩, [some 0, some 1, some 2], ?_, rfl, rfl, ?_⟩
            · simp [MH, MB, MC.MCs, MC, lc, renC.renCs, renC]
            · simp [MT, MV.MVs, MV, MC]
          · clear hb
            rintro ⟨a, i, w⟩ hb
            replace hb : KI p (fun q => (f q).area) a i w := hb
            cbv
            refine m_cond hX (fun h => ?_) (fun h => ?_) <;> cbv
            · have hh : (0 ≤ i ∧ i < p) ∧ i.toNat = a ∧ a < p ∧ i + 1 ≤ 1000 := by
                obtain ⟨g1, g2, g3⟩ := hb
                have : i < p := by subst hX; simpa [std, cmpS] using h
                omega
              obtain ⟨hh1, hh2, hh3, hh4⟩ := hh
              have i1 : X.inb i p := by subst hX; exact hh1
              have i2 : X.nlt (X.nadd 0 (X.toN i)) p := by subst hX; show 0 + i.toNat < p; omega
              refine ⟨i1, i2, ?_⟩
              obtain ⟨l, hl⟩ : ∃ l, l = f a := ⟨_, rfl⟩
              have e1 : f (X.nadd 0 (X.toN i)) = l := by subst hX; rw [hl]; show f (0 + i.toNat) = _; rw [hh2, Nat.zero_add]
              have hln : l.Near 1152921504606846976 := hl ▸ hpn a hh3
              have hlb : beyond b0 b1 n l := hl ▸ hpb a hh3
              rw [e1]
              cbv
              refine m_callq hX [] bodied_45 (fun k2 hk2 => RLies_c W0 l.t l.X l.Y l.x0 l.y0 l.x1 l.y1 hln.t hln.X hln.Y hln.x0 hln.y0 hln.x1 hln.y1 k2 hk2) (by simp [MH]) rfl rfl (by simp [MV, MV.MVs, MC.MCs, MC]) ?_
              rintro ⟨la, lb, ld, le⟩ hB
              have hla : la = l.a := hB.a
              have hlb2 : lb = l.b := hB.b
              have hlc : ld = l.c := hB.c
              have hld : le = l.d := hB.d
              clear hB
              cbv
              obtain ⟨w2, hw2⟩ : ∃ w2, w2 = IntKind.i64.wrap (sumTo (fun q => (f q).area) a + (l.x1 - l.x0) * (l.y1 - l.y0)) := ⟨_, rfl⟩
              have hst := area_step hX (S := sumTo (fun q => (f q).area) a) (w := w) hb.ew (hln.x0.up (by decide)) (hln.y0.up (by decide)) (hln.x1.up (by decide)) (hln.y1.up (by decide))
              rw [← hw2] at hst
              have hgoal : KI p (fun q => (f q).area) (a + 1) (i + 1) w2 := by
                obtain ⟨g1, g2, g3⟩ := hb
                refine ⟨by omega, by show i + 1 = ((a + 1 : Nat) : Int); omega, ?_⟩
                show w2 = IntKind.i64.wrap (sumTo _ a + (f a).area)
                rw [← hl]
                exact hw2
              refine m_gen (A := X.draw _ _ _) fun K1 hK1 => ?_
              refine m_drawT tab_ok hX [] [] (.one 0 0 (.one 1 0 (.one 2 0 (.one 3 0 (.one 4 0 (.one 5 0 (.one 7 0 (.one 8 0 (.one 9 0 (.one 10 0 (.one 11 0 (.one 14 0 (.one 15 0 (.one 16 0 (.one 17 0 (.one 18 0 (.one 20 0 (.one 21 0 (.one 22 0 (.one 23 0 (.one 24 0 (.one 6 1 (.one 12 1 (.one 13 0 (.one 19 1 (.one 25 1 (.one 26 0 (.one 27 0 (.one 28 0 (.one 29 0 .fin)))))))))))))))))))))))))))))) (by kernel_rfl) (by simp) ?_
              cbv
              refine ⟨i1, i1, i1, i1, i2, i2, i2, i2, ?_⟩
              rw [e1]
              refine hK1 _ _ ?_
              cbv
              cases b0 <;> cases b1 <;> simp only [beyond, if_true, if_false, Bool.false_eq_true] at hlb
              · have hfl : ¬ n < le := by omega
                repeat' (first | (refine m_cond_t hX (by first | rfl | assumption | (subst hX; rfl)) ?_; cbv) | (refine m_cond_f hX (by first | rfl | assumption | (subst hX; rfl)) ?_; cbv) | (refine m_cond_f hX (by subst hX; simp [std, cmpS, hfl]; done) ?_; cbv) | (refine m_cond_t hX (by subst hX; simp [std, cmpS, hfl]; done) ?_; cbv) | (refine And.intro (by subst hX; exact ⟨by decide, by decide⟩) ?_) | fail)
                refine ⟨⟨a + 1, i + 1, w2⟩, hgoal, by show p - (a + 1) < p - a; omega, [some 0, some 1, some 2], ?_, rfl, rfl, ?_⟩
                · simp [MH, MB, MC.MCs, MC, lc]
                · have hi : X.bin .add .i64 i 1 = i + 1 := by subst hX; exact wrap_eq (by omega) (by omega)
                  simp [MT, MV.MVs, MV, MC]
                  exact ⟨hst.symm, hi.symm⟩
              · have hfl : ¬ lb < n := by omega
                repeat' (first | (refine m_cond_t hX (by first | rfl | assumption | (subst hX; rfl)) ?_; cbv) | (refine m_cond_f hX (by first | rfl | assumption | (subst hX; rfl)) ?_; cbv) | (refine m_cond_f hX (by subst hX; simp [std, cmpS, hfl]; done) ?_; cbv) | (refine m_cond_t hX (by subst hX; simp [std, cmpS, hfl]; done) ?_; cbv) | (refine And.intro (by subst hX; exact ⟨by decide, by decide⟩) ?_) | fail)
                refine ⟨⟨a + 1, i + 1, w2⟩, hgoal, by show p - (a + 1) < p - a; omega, [some 0, some 1, some 2], ?_, rfl, rfl, ?_⟩
                · simp [MH, MB, MC.MCs, MC, lc]
                · have hi : X.bin .add .i64 i 1 = i + 1 := by subst hX; exact wrap_eq (by omega) (by omega)
                  simp [MT, MV.MVs, MV, MC]
                  exact ⟨hst.symm, hi.symm⟩
              · have hfl : ¬ n < ld := by omega
                repeat' (first | (refine m_cond_t hX (by first | rfl | assumption | (subst hX; rfl)) ?_; cbv) | (refine m_cond_f hX (by first | rfl | assumption | (subst hX; rfl)) ?_; cbv) | (refine m_cond_f hX (by subst hX; simp [std, cmpS, hfl]; done) ?_; cbv) | (refine m_cond_t hX (by subst hX; simp [std, cmpS, hfl]; done) ?_; cbv) | (refine And.intro (by subst hX; exact ⟨by decide, by decide⟩) ?_) | fail)
                refine ⟨⟨a + 1, i + 1, w2⟩, hgoal, by show p - (a + 1) < p - a; omega, [some 0, some 1, some 2], ?_, rfl, rfl, ?_⟩
                · simp [MH, MB, MC.MCs, MC, lc]
                · have hi : X.bin .add .i64 i 1 = i + 1 := by subst hX; exact wrap_eq (by omega) (by omega)
                  simp [MT, MV.MVs, MV, MC]
                  exact ⟨hst.symm, hi.symm⟩
              · have hfl : ¬ la < n := by omega
                repeat' (first | (refine m_cond_t hX (by first | rfl | assumption | (subst hX; rfl)) ?_; cbv) | (refine m_cond_f hX (by first | rfl | assumption | (subst hX; rfl)) ?_; cbv) | (refine m_cond_f hX (by subst hX; simp [std, cmpS, hfl]; done) ?_; cbv) | (refine m_cond_t hX (by subst hX; simp [std, cmpS, hfl]; done) ?_; cbv) | (refine And.intro (by subst hX; exact ⟨by decide, by decide⟩) ?_) | fail)
                refine ⟨⟨a + 1, i + 1, w2⟩, hgoal, by show p - (a + 1) < p - a; omega, [some 0, some 1, some 2], ?_, rfl, rfl, ?_⟩
                · simp [MH, MB, MC.MCs, MC, lc]
                · have hi : X.bin .add .i64 i 1 = i + 1 := by subst hX; exact wrap_eq (by omega) (by omega)
                  simp [MT, MV.MVs, MV, MC]
                  exact ⟨hst.symm, hi.symm⟩
            · have han : a = p := by
                obtain ⟨g1, g2, g3⟩ := hb
                have : ¬ i < p := by subst hX; simpa [std, cmpS] using h
                omega
              have hw3 : was = w := by rw [hw1, hb.ew, han, hsA]
              refine ⟨_, [lays rw N G], [some 0], ?_, rfl, rfl, ?_, hk _⟩
              · simp [MH, MB, MC.MCs, MC, lc, renC.renCs, renC]
              · subst hX
                simp [MV, MC, std, cmpS, hw3]
end Go.Proofs.Ytnfoibgafmeenaa.AM
