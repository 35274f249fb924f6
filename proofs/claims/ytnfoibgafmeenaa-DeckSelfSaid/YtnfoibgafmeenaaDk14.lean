/- DeckLays: what the law comes to, as a contract on the abstract machine. No condition but that what it reads is there. -/
import Derived.Test.YtnfoibgafmeenaaDk13
import Derived.Test.YtnfoibgafmeenaaAm20
namespace Go.Proofs.Ytnfoibgafmeenaa.AM
open Go Go.RowKit
set_option cbv.warning false
set_option maxRecDepth 100000
set_option linter.unusedVariables false
set_option linter.unusedSimpArgs false
theorem d_eqB {W0 : World} {md : Md} {X : Ext} (hX : X = std Try.prog W0 md) {op : BinOp} (hop : op = .eql ∨ op = .neq) {x y : Bool} (x0 y0 : Bool) (hx : x = x0) (hy : y = y0) {k : V → Prop} (h : k (.one (.bool (if op = .eql then x0 == y0 else x0 != y0)))) : X.eqs op 4 (.one (.bool x)) (.one (.bool y)) k := by
  subst hX hx hy
  refine ⟨_, h, fun r x' y' ox oy hx hy => ?_⟩
  unfold VR CR at hx hy
  subst hx hy
  have hu : Try.prog.underlying 4 = some .bool := by kernel_rfl
  refine ⟨.bool (if op = .eql then x == y else x != y), fun w => ?_, by unfold VR CR; rfl⟩
  have he : ∀ w, (Op.equal 4 (.bool x) (.bool y)).run Try.prog w = .ok (x == y) w := fun w => by
    rw [equal_step, Op.equalIn]
    simp [run_underlying hu]
  rw [Sem.run_bind, guard_none op 4 ox oy _ _ w ⟨by simp, by simp⟩]
  rcases hop with rfl | rfl
  · show (do pure (.bool (← Op.equal 4 (.bool x) (.bool y))) : Sem Value).run Try.prog w = _
    simp [Sem.run_bind, he, Result.andThen]
  · show (do pure (.bool (!(← Op.equal 4 (.bool x) (.bool y)))) : Sem Value).run Try.prog w = _
    simp [Sem.run_bind, he, Result.andThen]
    cases x <;> cases y <;> rfl
theorem joined_G (W0 : World) (rw : Bool) (n : Nat) (c : Option Nat) (f : Nat → Int) (hm : n ≤ 8796093022208) (k : V → Heap → Prop) (hk : k (.one (.sl 1 0 n none)) [ints rw n f, ints true n f]) : ACall Try.prog W0 14 [.one (.sl 0 0 n c), .one .nils, .one .nils] [ints rw n f] k := by
  refine ACall.tidy (joined_1 W0 rw n 0 n c f (by simp) hm _ ⟨_, _, [some 0, some 1], ?_, rfl, rfl, ?_, hk⟩)
  · simp [MH, MB, MC.MCs, MC]
  · simp [MV, MC]
theorem under_ex (n m : Nat) (f g : Nat → Int) (h : n + m ≤ 1000) : ∃ G, UnderG n m (n + m) f g G :=
  ⟨fun q => if q < n then f q else g (q - n), rfl, by omega, fun q hq => by simp [hq], fun q hq => by
    have : ¬ n + q < n := by omega
    simp [this, show n + q - n = q by omega]⟩
theorem into_ex (m h : Nat) (f g : Nat → Int) (hb : 2 * h + m ≤ 1000) : ∃ G, IntoG (2 * h) m h (2 * h + m) f g G :=
  ⟨fun q => if q < h then f q else if q < h + m then g (q - h) else f (q - m), rfl, rfl, by omega, fun q hq => by simp [hq], fun q hq => by
    have h1 : ¬ h + q < h := by omega
    have h2 : h + q < h + m := by omega
    simp [h1, h2, show h + q - h = q by omega], fun q hq => by
    have h1 : ¬ h + m + q < h := by omega
    have h2 : ¬ h + m + q < h + m := by omega
    simp [h1, h2, show h + m + q - m = h + q by omega]⟩
structure LaysI (n m N s : Nat) (x : Int) (f g G1 G2 : Nat → Int) : Prop where
  hn : n ≤ 40
  hm : m ≤ 40
  hx1 : 0 ≤ x
  hx2 : x < 256
  over : UnderG m n N g f G1
  under : UnderG n m N f g G2
  hs : s = min (x.toNat % 60 + 1) N
structure IsZ (x : Int) (m : Nat) : Prop where
  h : x = (m : Int)
theorem z_eq {x : Int} (h1 : 0 ≤ x) (h2 : x < 256) {X : Ext} {P : Program} {W0 : World} {md : Md} (hX : X = std P W0 md) : X.bin .add .i64 1 (X.bin .rem .i64 (X.conv .i64 x) 60) = ((x.toNat % 60 + 1 : Nat) : Int) := by
  subst hX
  show IntKind.i64.wrap (1 + (IntKind.i64.wrap x).tmod 60) = _
  rw [wrap_eq (x := x) (by omega) (by omega), Int.tmod_eq_emod_of_nonneg h1]
  rw [wrap_eq (by omega) (by omega)]
  omega
theorem DeckLays_even (W0 : World) (r1 r2 : Bool) (n m N s : Nat) (c1 c2 : Option Nat) (x : Int) (f g G1 G2 : Nat → Int) (hL : LaysI n m N s x f g G1 G2) (h : Nat) (G3 : Nat → Int) (hG3 : IntoG n m h N f g G3) (k : V → Heap → Prop) (hk : k (.one (.bool true)) [ints r1 n f, ints r2 m g]) : ACall Try.prog W0 9 [.one (.sl 0 0 n c1), .one (.sl 1 0 m c2), .one (.int .u8 x)] [ints r1 n f, ints r2 m g] k := by
  have hn := hL.hn
  have hm := hL.hm
  have hN := hL.under.hN
  have f1 : ¬ (40 : Int) < (n : Int) := by omega
  have f2 : ¬ (40 : Int) < (m : Int) := by omega
  refine m_body tab_ok (fn := Try.f9) (by kernel_rfl) rfl ?_
  intro X hX
  cbv
  refine m_callf hX [] bodied_13 (fun k2 hk2 => alive_c W0 k2 hk2) ?_ rfl rfl ?_ ?_
  · (first | (simp [MH, MB, MT, MV, MV.MVs, MC.MCs, MC, renC.renCs, renC, up]; done) | (simp [MH, MB, MT, MV, MV.MVs, MC.MCs, MC, renC.renCs, renC, up]; omega) | (simp [MH, MB, MT, MV, MV.MVs, MC.MCs, MC, renC.renCs, renC, up] <;> omega))
  · simp [MV, MV.MVs, MC]
  cbv
  repeat' (first | (refine m_cond_t hX (by first | rfl | assumption | (subst hX; rfl)) ?_; cbv) | (refine m_cond_f hX (by first | rfl | assumption | (subst hX; rfl)) ?_; cbv) | fail)
  repeat' (first | (refine m_cond_t hX (by first | rfl | assumption | (subst_vars; simp [std, cmpS, binS, f1, f2]; done) | fail) ?_; cbv) | (refine m_cond_f hX (by first | rfl | assumption | (subst_vars; simp [std, cmpS, binS, f1, f2]; done) | fail) ?_; cbv) | (refine And.intro (by first | rfl | assumption | (subst_vars; simp [std, cmpS, binS, f1, f2]; done) | fail) ?_) | fail)
  refine m_callf hX [0] bodied_15 (fun k2 hk2 => Of_G W0 r1 n 0 n c1 f f (by simp) (by omega) (fun q _ => by rw [Nat.zero_add]) k2 hk2) ?_ rfl rfl ?_ ?_
  · (first | (simp [MH, MB, MT, MV, MV.MVs, MC.MCs, MC, renC.renCs, renC, up]; done) | (simp [MH, MB, MT, MV, MV.MVs, MC.MCs, MC, renC.renCs, renC, up]; omega) | (simp [MH, MB, MT, MV, MV.MVs, MC.MCs, MC, renC.renCs, renC, up] <;> omega))
  · simp [MV, MV.MVs, MC]
  cbv
  refine m_callf hX [0] bodied_15 (fun k2 hk2 => Of_G W0 r1 n 0 n c1 f f (by simp) (by omega) (fun q _ => by rw [Nat.zero_add]) k2 hk2) ?_ rfl rfl ?_ ?_
  · (first | (simp [MH, MB, MT, MV, MV.MVs, MC.MCs, MC, renC.renCs, renC, up]; done) | (simp [MH, MB, MT, MV, MV.MVs, MC.MCs, MC, renC.renCs, renC, up]; omega) | (simp [MH, MB, MT, MV, MV.MVs, MC.MCs, MC, renC.renCs, renC, up] <;> omega))
  · simp [MV, MV.MVs, MC]
  cbv
  refine m_callf hX [0] bodied_15 (fun k2 hk2 => Of_G W0 r1 n 0 n c1 f f (by simp) (by omega) (fun q _ => by rw [Nat.zero_add]) k2 hk2) ?_ rfl rfl ?_ ?_
  · (first | (simp [MH, MB, MT, MV, MV.MVs, MC.MCs, MC, renC.renCs, renC, up]; done) | (simp [MH, MB, MT, MV, MV.MVs, MC.MCs, MC, renC.renCs, renC, up]; omega) | (simp [MH, MB, MT, MV, MV.MVs, MC.MCs, MC, renC.renCs, renC, up] <;> omega))
  · simp [MV, MV.MVs, MC]
  cbv
  refine m_callf hX [1] bodied_15 (fun k2 hk2 => Of_G W0 r2 m 0 m c2 g g (by simp) (by omega) (fun q _ => by rw [Nat.zero_add]) k2 hk2) ?_ rfl rfl ?_ ?_
  · (first | (simp [MH, MB, MT, MV, MV.MVs, MC.MCs, MC, renC.renCs, renC, up]; done) | (simp [MH, MB, MT, MV, MV.MVs, MC.MCs, MC, renC.renCs, renC, up]; omega) | (simp [MH, MB, MT, MV, MV.MVs, MC.MCs, MC, renC.renCs, renC, up] <;> omega))
  · simp [MV, MV.MVs, MC]
  cbv
  refine m_callf hX [2, 3, 8, 9] bodied_36 (fun k2 hk2 => Over_c W0 n m N f g G1 hL.over k2 hk2) ?_ rfl rfl ?_ ?_
  · (first | (simp [MH, MB, MT, MV, MV.MVs, MC.MCs, MC, renC.renCs, renC, up]; done) | (simp [MH, MB, MT, MV, MV.MVs, MC.MCs, MC, renC.renCs, renC, up]; omega) | (simp [MH, MB, MT, MV, MV.MVs, MC.MCs, MC, renC.renCs, renC, up] <;> omega))
  · simp [MV, MV.MVs, MC]
  cbv
  refine m_callf hX [4, 5, 8, 9] bodied_31 (fun k2 hk2 => Under_c W0 n m N f g G2 hL.under k2 hk2) ?_ rfl rfl ?_ ?_
  · (first | (simp [MH, MB, MT, MV, MV.MVs, MC.MCs, MC, renC.renCs, renC, up]; done) | (simp [MH, MB, MT, MV, MV.MVs, MC.MCs, MC, renC.renCs, renC, up]; omega) | (simp [MH, MB, MT, MV, MV.MVs, MC.MCs, MC, renC.renCs, renC, up] <;> omega))
  · simp [MV, MV.MVs, MC]
  cbv
  refine m_callf hX [6, 7, 8, 9] bodied_37 (fun k2 hk2 => Into_even W0 n m h N f g G3 hG3 k2 hk2) ?_ rfl rfl ?_ ?_
  · (first | (simp [MH, MB, MT, MV, MV.MVs, MC.MCs, MC, renC.renCs, renC, up]; done) | (simp [MH, MB, MT, MV, MV.MVs, MC.MCs, MC, renC.renCs, renC, up]; omega) | (simp [MH, MB, MT, MV, MV.MVs, MC.MCs, MC, renC.renCs, renC, up] <;> omega))
  · simp [MV, MV.MVs, MC]
  cbv
  refine m_callf hX [0] bodied_14 (fun k2 hk2 => joined_G W0 r1 n c1 f (by omega) k2 hk2) ?_ rfl rfl ?_ ?_
  · (first | (simp [MH, MB, MT, MV, MV.MVs, MC.MCs, MC, renC.renCs, renC, up]; done) | (simp [MH, MB, MT, MV, MV.MVs, MC.MCs, MC, renC.renCs, renC, up]; omega) | (simp [MH, MB, MT, MV, MV.MVs, MC.MCs, MC, renC.renCs, renC, up] <;> omega))
  · simp [MV, MV.MVs, MC]
  cbv
  have hnz : X.nz 2 := by subst hX; exact show (2 : Int) ≠ 0 from by decide
  have hnz6 : X.nz 60 := by subst hX; exact show (60 : Int) ≠ 0 from by decide
  refine ⟨hnz, ?_⟩
  have hrem : X.cmp .eql (X.bin .rem .i64 (X.ofN n) 2) 0 = true := by
    have h1 := hG3.even
    subst hX
    show ((n : Int).tmod 2 == 0) = true
    rw [Int.tmod_eq_emod_of_nonneg (by omega)]
    simp
    omega
  have hq : X.bin .quo .i64 (X.ofN n) 2 = (h : Nat) := by
    have h1 := hG3.even
    subst hX
    show IntKind.i64.wrap ((n : Int).tdiv 2) = _
    rw [quo2 (by omega)]
    omega
  have hqN : X.toN (X.bin .quo .i64 (X.ofN n) 2) = h := by rw [hq]; subst hX; show ((h : Nat) : Int).toNat = h; omega
  have hn1 : X.nadd 0 (X.toN (X.bin .quo .i64 (X.ofN n) 2)) = h := by rw [hqN]; subst hX; exact Nat.zero_add h
  have hn2 : X.nsub n (X.toN (X.bin .quo .i64 (X.ofN n) 2)) = h := by rw [hqN]; have h1 := hG3.even; subst hX; show n - h = h; omega
  have hi1 : X.lohi 0 (X.bin .quo .i64 (X.ofN n) 2) := by rw [hq]; subst hX; show (0 : Int) ≤ 0 ∧ (0 : Int) ≤ (h : Nat); omega
  have hi2 : X.le (X.bin .quo .i64 (X.ofN n) 2) n := by rw [hq]; have h1 := hG3.even; subst hX; show ((h : Nat) : Int) ≤ (n : Nat); omega
  have hi3 : X.lohi (X.bin .quo .i64 (X.ofN n) 2) (X.ofN n) := by rw [hq]; have h1 := hG3.even; subst hX; show (0 : Int) ≤ (h : Nat) ∧ ((h : Nat) : Int) ≤ (n : Nat); omega
  refine m_cond_t hX hrem ?_
  cbv
  refine m_gen (A := X.draw _ _ _) fun K1 hK1 => ?_
  refine m_drawT tab_ok hX [] [11] (.one 0 0 (.one 1 0 (.one 2 0 (.one 3 0 (.one 4 0 (.one 5 0 (.one 6 0 (.one 7 0 (.one 8 0 (.one 9 0 (.one 10 0 (.one 11 3 (.one 12 0 .fin))))))))))))) (by kernel_rfl) (by simp) ?_
  cbv
  refine ⟨hnz, hi1, hi2, hnz, hi3, ?_⟩
  refine m_callf hX [0, 1] bodied_14 (fun k2 h2 => joined_3 W0 r1 r2 n m h (h + m) N c1 c2 none f g G3 hG3 rfl k2 h2) ?_ rfl rfl ?_ ?_
  · simp [MH, MB, MC.MCs, MC, renC.renCs, renC, up]
  · exact ⟨⟨rfl, rfl, hqN.symm, .inr rfl⟩, ⟨rfl, rfl, rfl, .inr rfl⟩, ⟨rfl, hn1.symm, hn2.symm, .inl rfl⟩, trivial⟩
  cbv
  refine hK1 _ _ ?_
  cbv
  refine ⟨hnz, ?_⟩
  refine d_eqB hX (.inr rfl) true true rfl hrem ?_
  cbv
  repeat' (first | (refine m_cond_t hX (by first | rfl | assumption | (subst hX; rfl)) ?_; cbv) | (refine m_cond_f hX (by first | rfl | assumption | (subst hX; rfl)) ?_; cbv) | fail)
  refine m_callf hX [6, 12] bodied_18 (fun k2 hk2 => List_c W0 N G3 (by omega) k2 hk2) ?_ rfl rfl ?_ ?_
  · (first | (simp [MH, MB, MT, MV, MV.MVs, MC.MCs, MC, renC.renCs, renC, up]; done) | (simp [MH, MB, MT, MV, MV.MVs, MC.MCs, MC, renC.renCs, renC, up]; omega) | (simp [MH, MB, MT, MV, MV.MVs, MC.MCs, MC, renC.renCs, renC, up] <;> omega))
  · simp [MV, MV.MVs, MC]
  cbv
  repeat' (first | (refine m_cond_t hX (by first | rfl | assumption | (subst hX; rfl)) ?_; cbv) | (refine m_cond_f hX (by first | rfl | assumption | (subst hX; rfl)) ?_; cbv) | fail)
  refine m_callq hX [15, 14] bodied_17 (fun k2 hk2 => Ints_c W0 true true N N none none G3 G3 (by omega) k2 hk2) ?_ rfl rfl ?_ ?_
  · (first | (simp [MH, MB, MT, MV, MV.MVs, MC.MCs, MC, renC.renCs, renC, up]; done) | (simp [MH, MB, MT, MV, MV.MVs, MC.MCs, MC, renC.renCs, renC, up]; omega) | (simp [MH, MB, MT, MV, MV.MVs, MC.MCs, MC, renC.renCs, renC, up] <;> omega))
  · simp [MV, MV.MVs, MC]
  intro b hb
  obtain rfl : b = true := hb.2 ⟨rfl, fun _ _ => rfl⟩
  cbv
  repeat' (first | (refine m_cond_t hX (by first | rfl | assumption | (subst hX; rfl)) ?_; cbv) | (refine m_cond_f hX (by first | rfl | assumption | (subst hX; rfl)) ?_; cbv) | fail)
  refine m_callf hX [8, 9] bodied_18 (fun k2 hk2 => List_c W0 m g (by omega) k2 hk2) ?_ rfl rfl ?_ ?_
  · (first | (simp [MH, MB, MT, MV, MV.MVs, MC.MCs, MC, renC.renCs, renC, up]; done) | (simp [MH, MB, MT, MV, MV.MVs, MC.MCs, MC, renC.renCs, renC, up]; omega) | (simp [MH, MB, MT, MV, MV.MVs, MC.MCs, MC, renC.renCs, renC, up] <;> omega))
  · simp [MV, MV.MVs, MC]
  cbv
  repeat' (first | (refine m_cond_t hX (by first | rfl | assumption | (subst hX; rfl)) ?_; cbv) | (refine m_cond_f hX (by first | rfl | assumption | (subst hX; rfl)) ?_; cbv) | fail)
  refine m_callq hX [16, 1] bodied_17 (fun k2 hk2 => Ints_c W0 true r2 m m none c2 g g (by omega) k2 hk2) ?_ rfl rfl ?_ ?_
  · (first | (simp [MH, MB, MT, MV, MV.MVs, MC.MCs, MC, renC.renCs, renC, up]; done) | (simp [MH, MB, MT, MV, MV.MVs, MC.MCs, MC, renC.renCs, renC, up]; omega) | (simp [MH, MB, MT, MV, MV.MVs, MC.MCs, MC, renC.renCs, renC, up] <;> omega))
  · simp [MV, MV.MVs, MC]
  intro b hb
  obtain rfl : b = true := hb.2 ⟨rfl, fun _ _ => rfl⟩
  cbv
  repeat' (first | (refine m_cond_t hX (by first | rfl | assumption | (subst hX; rfl)) ?_; cbv) | (refine m_cond_f hX (by first | rfl | assumption | (subst hX; rfl)) ?_; cbv) | fail)
  refine ⟨hnz6, ?_⟩
  have hz : IsZ (X.bin .add .i64 1 (X.bin .rem .i64 (X.conv .i64 x) 60)) (x.toNat % 60 + 1) := ⟨z_eq hL.hx1 hL.hx2 hX⟩
  have hw : WalkG N s (X.bin .add .i64 1 (X.bin .rem .i64 (X.conv .i64 x) 60)) G1 G1 := by
    have h1 := hL.hs
    have h2 := hL.hx1
    have h3 := Nat.mod_lt x.toNat (show 60 > 0 by decide)
    refine ⟨by omega, by rw [hz.h]; omega, by rw [hz.h]; omega, ?_, fun _ _ => rfl⟩
    rw [hz.h]
    split <;> omega
  refine m_callf hX [2, 10] bodied_38 (fun k2 hk2 => walked_c W0 N s (X.bin .add .i64 1 (X.bin .rem .i64 (X.conv .i64 x) 60)) G1 G1 hw k2 hk2) ?_ rfl rfl ?_ ?_
  · (first | (simp [MH, MB, MT, MV, MV.MVs, MC.MCs, MC, renC.renCs, renC, up]; done) | (simp [MH, MB, MT, MV, MV.MVs, MC.MCs, MC, renC.renCs, renC, up]; omega) | (simp [MH, MB, MT, MV, MV.MVs, MC.MCs, MC, renC.renCs, renC, up] <;> omega))
  · simp [MV, MV.MVs, MC]
  cbv
  refine m_callf hX [1, 0] bodied_14 (fun k2 hk2 => joined_2 W0 r2 r1 m n N c2 c1 g f G1 hL.over k2 hk2) ?_ rfl rfl ?_ ?_
  · (first | (simp [MH, MB, MT, MV, MV.MVs, MC.MCs, MC, renC.renCs, renC, up]; done) | (simp [MH, MB, MT, MV, MV.MVs, MC.MCs, MC, renC.renCs, renC, up]; omega) | (simp [MH, MB, MT, MV, MV.MVs, MC.MCs, MC, renC.renCs, renC, up] <;> omega))
  · simp [MV, MV.MVs, MC]
  cbv
  refine m_cond hX (fun hgt => ?_) (fun hgt => ?_) <;> cbv
  · have hs : s = N := by
      have h1 := hL.hs
      have h4 : ((N : Nat) : Int) < X.bin .add .i64 1 (X.bin .rem .i64 (X.conv .i64 x) 60) := by
        generalize X.bin .add .i64 1 (X.bin .rem .i64 (X.conv .i64 x) 60) = z at *
        subst hX
        simpa [std, cmpS] using hgt
      rw [hz.h] at h4
      omega
    have hT : X.toN (X.ofN N) = s := by
      subst hX; show ((N : Nat) : Int).toNat = s; omega
    have hlo : X.lohi 0 (X.ofN N) := by
      subst hX; show (0 : Int) ≤ 0 ∧ (0 : Int) ≤ (N : Nat); omega
    have hsN : s ≤ N := by have h1 := hL.hs; omega
    have hle : X.le (X.ofN N) N := by
      subst hX; show ((N : Nat) : Int) ≤ (N : Nat); omega
    repeat' (first | (refine m_cond_t hX (by first | rfl | assumption | (subst hX; rfl)) ?_; cbv) | (refine m_cond_f hX (by first | rfl | assumption | (subst hX; rfl)) ?_; cbv) | fail)
    refine ⟨hlo, hle, ?_⟩
    repeat' (first | (refine m_cond_t hX (by first | rfl | assumption | (subst hX; rfl)) ?_; cbv) | (refine m_cond_f hX (by first | rfl | assumption | (subst hX; rfl)) ?_; cbv) | fail)
    refine m_callq hX [17, 18] bodied_17 (fun k2 h2 => Ints_oeq W0 true true s 0 N none none G1 G1 (by omega) (by omega) k2 h2) ?_ rfl rfl ?_ ?_
    · simp [MH, MB, MC.MCs, MC, renC.renCs, renC, up]
    · exact ⟨⟨rfl, rfl, rfl, .inl rfl⟩, ⟨rfl, rfl, hT.symm, .inl rfl⟩, trivial⟩
    intro b hb
    obtain rfl : b = true := hb.2 (fun q _ => by rw [Nat.zero_add])
    cbv
    repeat' (first | (refine m_cond_t hX (by first | rfl | assumption | (subst hX; rfl)) ?_; cbv) | (refine m_cond_f hX (by first | rfl | assumption | (subst hX; rfl)) ?_; cbv) | fail)
    refine m_callf hX [2, 10] bodied_18 (fun k2 hk2 => List_c W0 N G1 (by omega) k2 hk2) ?_ rfl rfl ?_ ?_
    · (first | (simp [MH, MB, MT, MV, MV.MVs, MC.MCs, MC, renC.renCs, renC, up]; done) | (simp [MH, MB, MT, MV, MV.MVs, MC.MCs, MC, renC.renCs, renC, up]; omega) | (simp [MH, MB, MT, MV, MV.MVs, MC.MCs, MC, renC.renCs, renC, up] <;> omega))
    · simp [MV, MV.MVs, MC]
    cbv
    repeat' (first | (refine m_cond_t hX (by first | rfl | assumption | (subst hX; rfl)) ?_; cbv) | (refine m_cond_f hX (by first | rfl | assumption | (subst hX; rfl)) ?_; cbv) | fail)
    refine m_callq hX [19, 18] bodied_17 (fun k2 hk2 => Ints_c W0 true true N N none none G1 G1 (by omega) k2 hk2) ?_ rfl rfl ?_ ?_
    · (first | (simp [MH, MB, MT, MV, MV.MVs, MC.MCs, MC, renC.renCs, renC, up]; done) | (simp [MH, MB, MT, MV, MV.MVs, MC.MCs, MC, renC.renCs, renC, up]; omega) | (simp [MH, MB, MT, MV, MV.MVs, MC.MCs, MC, renC.renCs, renC, up] <;> omega))
    · simp [MV, MV.MVs, MC]
    intro b hb
    obtain rfl : b = true := hb.2 ⟨rfl, fun _ _ => rfl⟩
    cbv
    repeat' (first | (refine m_cond_t hX (by first | rfl | assumption | (subst hX; rfl)) ?_; cbv) | (refine m_cond_f hX (by first | rfl | assumption | (subst hX; rfl)) ?_; cbv) | fail)
    refine m_callf hX [4, 11] bodied_18 (fun k2 hk2 => List_c W0 N G2 (by omega) k2 hk2) ?_ rfl rfl ?_ ?_
    · (first | (simp [MH, MB, MT, MV, MV.MVs, MC.MCs, MC, renC.renCs, renC, up]; done) | (simp [MH, MB, MT, MV, MV.MVs, MC.MCs, MC, renC.renCs, renC, up]; omega) | (simp [MH, MB, MT, MV, MV.MVs, MC.MCs, MC, renC.renCs, renC, up] <;> omega))
    · simp [MV, MV.MVs, MC]
    cbv
    repeat' (first | (refine m_cond_t hX (by first | rfl | assumption | (subst hX; rfl)) ?_; cbv) | (refine m_cond_f hX (by first | rfl | assumption | (subst hX; rfl)) ?_; cbv) | fail)
    refine m_callf hX [0, 1] bodied_14 (fun k2 hk2 => joined_2 W0 r1 r2 n m N c1 c2 f g G2 hL.under k2 hk2) ?_ rfl rfl ?_ ?_
    · (first | (simp [MH, MB, MT, MV, MV.MVs, MC.MCs, MC, renC.renCs, renC, up]; done) | (simp [MH, MB, MT, MV, MV.MVs, MC.MCs, MC, renC.renCs, renC, up]; omega) | (simp [MH, MB, MT, MV, MV.MVs, MC.MCs, MC, renC.renCs, renC, up] <;> omega))
    · simp [MV, MV.MVs, MC]
    cbv
    repeat' (first | (refine m_cond_t hX (by first | rfl | assumption | (subst hX; rfl)) ?_; cbv) | (refine m_cond_f hX (by first | rfl | assumption | (subst hX; rfl)) ?_; cbv) | fail)
    refine m_callq hX [20, 21] bodied_17 (fun k2 hk2 => Ints_c W0 true true N N none none G2 G2 (by omega) k2 hk2) ?_ rfl rfl ?_ ?_
    · (first | (simp [MH, MB, MT, MV, MV.MVs, MC.MCs, MC, renC.renCs, renC, up]; done) | (simp [MH, MB, MT, MV, MV.MVs, MC.MCs, MC, renC.renCs, renC, up]; omega) | (simp [MH, MB, MT, MV, MV.MVs, MC.MCs, MC, renC.renCs, renC, up] <;> omega))
    · simp [MV, MV.MVs, MC]
    intro b hb
    obtain rfl : b = true := hb.2 ⟨rfl, fun _ _ => rfl⟩
    cbv
    repeat' (first | (refine m_cond_t hX (by first | rfl | assumption | (subst hX; rfl)) ?_; cbv) | (refine m_cond_f hX (by first | rfl | assumption | (subst hX; rfl)) ?_; cbv) | fail)
    refine ⟨_, _, [some 0, some 1], ?_, rfl, rfl, ?_, hk⟩
    · simp [MH, MB, MC.MCs, MC, renC.renCs, renC, up]
    · simp [MV, MC] <;> (subst hX; rfl)
  · have hs : s = x.toNat % 60 + 1 := by
      have h1 := hL.hs
      have h4 : ¬ ((N : Nat) : Int) < X.bin .add .i64 1 (X.bin .rem .i64 (X.conv .i64 x) 60) := by
        generalize X.bin .add .i64 1 (X.bin .rem .i64 (X.conv .i64 x) 60) = z at *
        subst hX
        simpa [std, cmpS] using hgt
      rw [hz.h] at h4
      omega
    have hT : X.toN (X.bin .add .i64 1 (X.bin .rem .i64 (X.conv .i64 x) 60)) = s := by
      rw [hz.h]; subst hX; show ((x.toNat % 60 + 1 : Nat) : Int).toNat = s; omega
    have hlo : X.lohi 0 (X.bin .add .i64 1 (X.bin .rem .i64 (X.conv .i64 x) 60)) := by
      rw [hz.h]; subst hX; show (0 : Int) ≤ 0 ∧ (0 : Int) ≤ ((x.toNat % 60 + 1 : Nat) : Int); omega
    have hsN : s ≤ N := by have h1 := hL.hs; omega
    have hle : X.le (X.bin .add .i64 1 (X.bin .rem .i64 (X.conv .i64 x) 60)) N := by
      rw [hz.h]; subst hX; show ((x.toNat % 60 + 1 : Nat) : Int) ≤ (N : Nat); omega
    repeat' (first | (refine m_cond_t hX (by first | rfl | assumption | (subst hX; rfl)) ?_; cbv) | (refine m_cond_f hX (by first | rfl | assumption | (subst hX; rfl)) ?_; cbv) | fail)
    refine ⟨hlo, hle, ?_⟩
    repeat' (first | (refine m_cond_t hX (by first | rfl | assumption | (subst hX; rfl)) ?_; cbv) | (refine m_cond_f hX (by first | rfl | assumption | (subst hX; rfl)) ?_; cbv) | fail)
    refine m_callq hX [17, 18] bodied_17 (fun k2 h2 => Ints_oeq W0 true true s 0 N none none G1 G1 (by omega) (by omega) k2 h2) ?_ rfl rfl ?_ ?_
    · simp [MH, MB, MC.MCs, MC, renC.renCs, renC, up]
    · exact ⟨⟨rfl, rfl, rfl, .inl rfl⟩, ⟨rfl, rfl, hT.symm, .inl rfl⟩, trivial⟩
    intro b hb
    obtain rfl : b = true := hb.2 (fun q _ => by rw [Nat.zero_add])
    cbv
    repeat' (first | (refine m_cond_t hX (by first | rfl | assumption | (subst hX; rfl)) ?_; cbv) | (refine m_cond_f hX (by first | rfl | assumption | (subst hX; rfl)) ?_; cbv) | fail)
    refine m_callf hX [2, 10] bodied_18 (fun k2 hk2 => List_c W0 N G1 (by omega) k2 hk2) ?_ rfl rfl ?_ ?_
    · (first | (simp [MH, MB, MT, MV, MV.MVs, MC.MCs, MC, renC.renCs, renC, up]; done) | (simp [MH, MB, MT, MV, MV.MVs, MC.MCs, MC, renC.renCs, renC, up]; omega) | (simp [MH, MB, MT, MV, MV.MVs, MC.MCs, MC, renC.renCs, renC, up] <;> omega))
    · simp [MV, MV.MVs, MC]
    cbv
    repeat' (first | (refine m_cond_t hX (by first | rfl | assumption | (subst hX; rfl)) ?_; cbv) | (refine m_cond_f hX (by first | rfl | assumption | (subst hX; rfl)) ?_; cbv) | fail)
    refine m_callq hX [19, 18] bodied_17 (fun k2 hk2 => Ints_c W0 true true N N none none G1 G1 (by omega) k2 hk2) ?_ rfl rfl ?_ ?_
    · (first | (simp [MH, MB, MT, MV, MV.MVs, MC.MCs, MC, renC.renCs, renC, up]; done) | (simp [MH, MB, MT, MV, MV.MVs, MC.MCs, MC, renC.renCs, renC, up]; omega) | (simp [MH, MB, MT, MV, MV.MVs, MC.MCs, MC, renC.renCs, renC, up] <;> omega))
    · simp [MV, MV.MVs, MC]
    intro b hb
    obtain rfl : b = true := hb.2 ⟨rfl, fun _ _ => rfl⟩
    cbv
    repeat' (first | (refine m_cond_t hX (by first | rfl | assumption | (subst hX; rfl)) ?_; cbv) | (refine m_cond_f hX (by first | rfl | assumption | (subst hX; rfl)) ?_; cbv) | fail)
    refine m_callf hX [4, 11] bodied_18 (fun k2 hk2 => List_c W0 N G2 (by omega) k2 hk2) ?_ rfl rfl ?_ ?_
    · (first | (simp [MH, MB, MT, MV, MV.MVs, MC.MCs, MC, renC.renCs, renC, up]; done) | (simp [MH, MB, MT, MV, MV.MVs, MC.MCs, MC, renC.renCs, renC, up]; omega) | (simp [MH, MB, MT, MV, MV.MVs, MC.MCs, MC, renC.renCs, renC, up] <;> omega))
    · simp [MV, MV.MVs, MC]
    cbv
    repeat' (first | (refine m_cond_t hX (by first | rfl | assumption | (subst hX; rfl)) ?_; cbv) | (refine m_cond_f hX (by first | rfl | assumption | (subst hX; rfl)) ?_; cbv) | fail)
    refine m_callf hX [0, 1] bodied_14 (fun k2 hk2 => joined_2 W0 r1 r2 n m N c1 c2 f g G2 hL.under k2 hk2) ?_ rfl rfl ?_ ?_
    · (first | (simp [MH, MB, MT, MV, MV.MVs, MC.MCs, MC, renC.renCs, renC, up]; done) | (simp [MH, MB, MT, MV, MV.MVs, MC.MCs, MC, renC.renCs, renC, up]; omega) | (simp [MH, MB, MT, MV, MV.MVs, MC.MCs, MC, renC.renCs, renC, up] <;> omega))
    · simp [MV, MV.MVs, MC]
    cbv
    repeat' (first | (refine m_cond_t hX (by first | rfl | assumption | (subst hX; rfl)) ?_; cbv) | (refine m_cond_f hX (by first | rfl | assumption | (subst hX; rfl)) ?_; cbv) | fail)
    refine m_callq hX [20, 21] bodied_17 (fun k2 hk2 => Ints_c W0 true true N N none none G2 G2 (by omega) k2 hk2) ?_ rfl rfl ?_ ?_
    · (first | (simp [MH, MB, MT, MV, MV.MVs, MC.MCs, MC, renC.renCs, renC, up]; done) | (simp [MH, MB, MT, MV, MV.MVs, MC.MCs, MC, renC.renCs, renC, up]; omega) | (simp [MH, MB, MT, MV, MV.MVs, MC.MCs, MC, renC.renCs, renC, up] <;> omega))
    · simp [MV, MV.MVs, MC]
    intro b hb
    obtain rfl : b = true := hb.2 ⟨rfl, fun _ _ => rfl⟩
    cbv
    repeat' (first | (refine m_cond_t hX (by first | rfl | assumption | (subst hX; rfl)) ?_; cbv) | (refine m_cond_f hX (by first | rfl | assumption | (subst hX; rfl)) ?_; cbv) | fail)
    refine ⟨_, _, [some 0, some 1], ?_, rfl, rfl, ?_, hk⟩
    · simp [MH, MB, MC.MCs, MC, renC.renCs, renC, up]
    · simp [MV, MC] <;> (subst hX; rfl)
theorem DeckLays_odd (W0 : World) (r1 r2 : Bool) (n m N s : Nat) (c1 c2 : Option Nat) (x : Int) (f g G1 G2 : Nat → Int) (hL : LaysI n m N s x f g G1 G2) (h : Nat) (hO : OddI n h) (k : V → Heap → Prop) (hk : k (.one (.bool true)) [ints r1 n f, ints r2 m g]) : ACall Try.prog W0 9 [.one (.sl 0 0 n c1), .one (.sl 1 0 m c2), .one (.int .u8 x)] [ints r1 n f, ints r2 m g] k := by
  have hn := hL.hn
  have hm := hL.hm
  have hN := hL.under.hN
  have f1 : ¬ (40 : Int) < (n : Int) := by omega
  have f2 : ¬ (40 : Int) < (m : Int) := by omega
  refine m_body tab_ok (fn := Try.f9) (by kernel_rfl) rfl ?_
  intro X hX
  cbv
  refine m_callf hX [] bodied_13 (fun k2 hk2 => alive_c W0 k2 hk2) ?_ rfl rfl ?_ ?_
  · (first | (simp [MH, MB, MT, MV, MV.MVs, MC.MCs, MC, renC.renCs, renC, up]; done) | (simp [MH, MB, MT, MV, MV.MVs, MC.MCs, MC, renC.renCs, renC, up]; omega) | (simp [MH, MB, MT, MV, MV.MVs, MC.MCs, MC, renC.renCs, renC, up] <;> omega))
  · simp [MV, MV.MVs, MC]
  cbv
  repeat' (first | (refine m_cond_t hX (by first | rfl | assumption | (subst hX; rfl)) ?_; cbv) | (refine m_cond_f hX (by first | rfl | assumption | (subst hX; rfl)) ?_; cbv) | fail)
  repeat' (first | (refine m_cond_t hX (by first | rfl | assumption | (subst_vars; simp [std, cmpS, binS, f1, f2]; done) | fail) ?_; cbv) | (refine m_cond_f hX (by first | rfl | assumption | (subst_vars; simp [std, cmpS, binS, f1, f2]; done) | fail) ?_; cbv) | (refine And.intro (by first | rfl | assumption | (subst_vars; simp [std, cmpS, binS, f1, f2]; done) | fail) ?_) | fail)
  refine m_callf hX [0] bodied_15 (fun k2 hk2 => Of_G W0 r1 n 0 n c1 f f (by simp) (by omega) (fun q _ => by rw [Nat.zero_add]) k2 hk2) ?_ rfl rfl ?_ ?_
  · (first | (simp [MH, MB, MT, MV, MV.MVs, MC.MCs, MC, renC.renCs, renC, up]; done) | (simp [MH, MB, MT, MV, MV.MVs, MC.MCs, MC, renC.renCs, renC, up]; omega) | (simp [MH, MB, MT, MV, MV.MVs, MC.MCs, MC, renC.renCs, renC, up] <;> omega))
  · simp [MV, MV.MVs, MC]
  cbv
  refine m_callf hX [0] bodied_15 (fun k2 hk2 => Of_G W0 r1 n 0 n c1 f f (by simp) (by omega) (fun q _ => by rw [Nat.zero_add]) k2 hk2) ?_ rfl rfl ?_ ?_
  · (first | (simp [MH, MB, MT, MV, MV.MVs, MC.MCs, MC, renC.renCs, renC, up]; done) | (simp [MH, MB, MT, MV, MV.MVs, MC.MCs, MC, renC.renCs, renC, up]; omega) | (simp [MH, MB, MT, MV, MV.MVs, MC.MCs, MC, renC.renCs, renC, up] <;> omega))
  · simp [MV, MV.MVs, MC]
  cbv
  refine m_callf hX [0] bodied_15 (fun k2 hk2 => Of_G W0 r1 n 0 n c1 f f (by simp) (by omega) (fun q _ => by rw [Nat.zero_add]) k2 hk2) ?_ rfl rfl ?_ ?_
  · (first | (simp [MH, MB, MT, MV, MV.MVs, MC.MCs, MC, renC.renCs, renC, up]; done) | (simp [MH, MB, MT, MV, MV.MVs, MC.MCs, MC, renC.renCs, renC, up]; omega) | (simp [MH, MB, MT, MV, MV.MVs, MC.MCs, MC, renC.renCs, renC, up] <;> omega))
  · simp [MV, MV.MVs, MC]
  cbv
  refine m_callf hX [1] bodied_15 (fun k2 hk2 => Of_G W0 r2 m 0 m c2 g g (by simp) (by omega) (fun q _ => by rw [Nat.zero_add]) k2 hk2) ?_ rfl rfl ?_ ?_
  · (first | (simp [MH, MB, MT, MV, MV.MVs, MC.MCs, MC, renC.renCs, renC, up]; done) | (simp [MH, MB, MT, MV, MV.MVs, MC.MCs, MC, renC.renCs, renC, up]; omega) | (simp [MH, MB, MT, MV, MV.MVs, MC.MCs, MC, renC.renCs, renC, up] <;> omega))
  · simp [MV, MV.MVs, MC]
  cbv
  refine m_callf hX [2, 3, 8, 9] bodied_36 (fun k2 hk2 => Over_c W0 n m N f g G1 hL.over k2 hk2) ?_ rfl rfl ?_ ?_
  · (first | (simp [MH, MB, MT, MV, MV.MVs, MC.MCs, MC, renC.renCs, renC, up]; done) | (simp [MH, MB, MT, MV, MV.MVs, MC.MCs, MC, renC.renCs, renC, up]; omega) | (simp [MH, MB, MT, MV, MV.MVs, MC.MCs, MC, renC.renCs, renC, up] <;> omega))
  · simp [MV, MV.MVs, MC]
  cbv
  refine m_callf hX [4, 5, 8, 9] bodied_31 (fun k2 hk2 => Under_c W0 n m N f g G2 hL.under k2 hk2) ?_ rfl rfl ?_ ?_
  · (first | (simp [MH, MB, MT, MV, MV.MVs, MC.MCs, MC, renC.renCs, renC, up]; done) | (simp [MH, MB, MT, MV, MV.MVs, MC.MCs, MC, renC.renCs, renC, up]; omega) | (simp [MH, MB, MT, MV, MV.MVs, MC.MCs, MC, renC.renCs, renC, up] <;> omega))
  · simp [MV, MV.MVs, MC]
  cbv
  refine m_callf hX [6, 7, 8, 9] bodied_37 (fun k2 hk2 => Into_odd W0 n m h f g hO k2 hk2) ?_ rfl rfl ?_ ?_
  · (first | (simp [MH, MB, MT, MV, MV.MVs, MC.MCs, MC, renC.renCs, renC, up]; done) | (simp [MH, MB, MT, MV, MV.MVs, MC.MCs, MC, renC.renCs, renC, up]; omega) | (simp [MH, MB, MT, MV, MV.MVs, MC.MCs, MC, renC.renCs, renC, up] <;> omega))
  · simp [MV, MV.MVs, MC]
  cbv
  refine m_callf hX [0] bodied_14 (fun k2 hk2 => joined_G W0 r1 n c1 f (by omega) k2 hk2) ?_ rfl rfl ?_ ?_
  · (first | (simp [MH, MB, MT, MV, MV.MVs, MC.MCs, MC, renC.renCs, renC, up]; done) | (simp [MH, MB, MT, MV, MV.MVs, MC.MCs, MC, renC.renCs, renC, up]; omega) | (simp [MH, MB, MT, MV, MV.MVs, MC.MCs, MC, renC.renCs, renC, up] <;> omega))
  · simp [MV, MV.MVs, MC]
  cbv
  have hnz : X.nz 2 := by subst hX; exact show (2 : Int) ≠ 0 from by decide
  have hnz6 : X.nz 60 := by subst hX; exact show (60 : Int) ≠ 0 from by decide
  refine ⟨hnz, ?_⟩
  have hrem : X.cmp .eql (X.bin .rem .i64 (X.ofN n) 2) 0 = false := by
    have h1 := hO.odd
    subst hX
    show ((n : Int).tmod 2 == 0) = false
    rw [Int.tmod_eq_emod_of_nonneg (by omega)]
    simp
    omega
  refine m_cond_f hX hrem ?_
  cbv
  refine ⟨hnz, ?_⟩
  refine d_eqB hX (.inr rfl) false false rfl hrem ?_
  cbv
  repeat' (first | (refine m_cond_t hX (by first | rfl | assumption | (subst hX; rfl)) ?_; cbv) | (refine m_cond_f hX (by first | rfl | assumption | (subst hX; rfl)) ?_; cbv) | fail)
  refine m_callf hX [6, 7] bodied_18 (fun k2 hk2 => List_c W0 n f (by omega) k2 hk2) ?_ rfl rfl ?_ ?_
  · (first | (simp [MH, MB, MT, MV, MV.MVs, MC.MCs, MC, renC.renCs, renC, up]; done) | (simp [MH, MB, MT, MV, MV.MVs, MC.MCs, MC, renC.renCs, renC, up]; omega) | (simp [MH, MB, MT, MV, MV.MVs, MC.MCs, MC, renC.renCs, renC, up] <;> omega))
  · simp [MV, MV.MVs, MC]
  cbv
  repeat' (first | (refine m_cond_t hX (by first | rfl | assumption | (subst hX; rfl)) ?_; cbv) | (refine m_cond_f hX (by first | rfl | assumption | (subst hX; rfl)) ?_; cbv) | fail)
  refine m_callq hX [13, 12] bodied_17 (fun k2 hk2 => Ints_c W0 true true n n none none f f (by omega) k2 hk2) ?_ rfl rfl ?_ ?_
  · (first | (simp [MH, MB, MT, MV, MV.MVs, MC.MCs, MC, renC.renCs, renC, up]; done) | (simp [MH, MB, MT, MV, MV.MVs, MC.MCs, MC, renC.renCs, renC, up]; omega) | (simp [MH, MB, MT, MV, MV.MVs, MC.MCs, MC, renC.renCs, renC, up] <;> omega))
  · simp [MV, MV.MVs, MC]
  intro b hb
  obtain rfl : b = true := hb.2 ⟨rfl, fun _ _ => rfl⟩
  cbv
  repeat' (first | (refine m_cond_t hX (by first | rfl | assumption | (subst hX; rfl)) ?_; cbv) | (refine m_cond_f hX (by first | rfl | assumption | (subst hX; rfl)) ?_; cbv) | fail)
  refine m_callf hX [8, 9] bodied_18 (fun k2 hk2 => List_c W0 m g (by omega) k2 hk2) ?_ rfl rfl ?_ ?_
  · (first | (simp [MH, MB, MT, MV, MV.MVs, MC.MCs, MC, renC.renCs, renC, up]; done) | (simp [MH, MB, MT, MV, MV.MVs, MC.MCs, MC, renC.renCs, renC, up]; omega) | (simp [MH, MB, MT, MV, MV.MVs, MC.MCs, MC, renC.renCs, renC, up] <;> omega))
  · simp [MV, MV.MVs, MC]
  cbv
  repeat' (first | (refine m_cond_t hX (by first | rfl | assumption | (subst hX; rfl)) ?_; cbv) | (refine m_cond_f hX (by first | rfl | assumption | (subst hX; rfl)) ?_; cbv) | fail)
  refine m_callq hX [14, 1] bodied_17 (fun k2 hk2 => Ints_c W0 true r2 m m none c2 g g (by omega) k2 hk2) ?_ rfl rfl ?_ ?_
  · (first | (simp [MH, MB, MT, MV, MV.MVs, MC.MCs, MC, renC.renCs, renC, up]; done) | (simp [MH, MB, MT, MV, MV.MVs, MC.MCs, MC, renC.renCs, renC, up]; omega) | (simp [MH, MB, MT, MV, MV.MVs, MC.MCs, MC, renC.renCs, renC, up] <;> omega))
  · simp [MV, MV.MVs, MC]
  intro b hb
  obtain rfl : b = true := hb.2 ⟨rfl, fun _ _ => rfl⟩
  cbv
  repeat' (first | (refine m_cond_t hX (by first | rfl | assumption | (subst hX; rfl)) ?_; cbv) | (refine m_cond_f hX (by first | rfl | assumption | (subst hX; rfl)) ?_; cbv) | fail)
  refine ⟨hnz6, ?_⟩
  have hz : IsZ (X.bin .add .i64 1 (X.bin .rem .i64 (X.conv .i64 x) 60)) (x.toNat % 60 + 1) := ⟨z_eq hL.hx1 hL.hx2 hX⟩
  have hw : WalkG N s (X.bin .add .i64 1 (X.bin .rem .i64 (X.conv .i64 x) 60)) G1 G1 := by
    have h1 := hL.hs
    have h2 := hL.hx1
    have h3 := Nat.mod_lt x.toNat (show 60 > 0 by decide)
    refine ⟨by omega, by rw [hz.h]; omega, by rw [hz.h]; omega, ?_, fun _ _ => rfl⟩
    rw [hz.h]
    split <;> omega
  refine m_callf hX [2, 10] bodied_38 (fun k2 hk2 => walked_c W0 N s (X.bin .add .i64 1 (X.bin .rem .i64 (X.conv .i64 x) 60)) G1 G1 hw k2 hk2) ?_ rfl rfl ?_ ?_
  · (first | (simp [MH, MB, MT, MV, MV.MVs, MC.MCs, MC, renC.renCs, renC, up]; done) | (simp [MH, MB, MT, MV, MV.MVs, MC.MCs, MC, renC.renCs, renC, up]; omega) | (simp [MH, MB, MT, MV, MV.MVs, MC.MCs, MC, renC.renCs, renC, up] <;> omega))
  · simp [MV, MV.MVs, MC]
  cbv
  refine m_callf hX [1, 0] bodied_14 (fun k2 hk2 => joined_2 W0 r2 r1 m n N c2 c1 g f G1 hL.over k2 hk2) ?_ rfl rfl ?_ ?_
  · (first | (simp [MH, MB, MT, MV, MV.MVs, MC.MCs, MC, renC.renCs, renC, up]; done) | (simp [MH, MB, MT, MV, MV.MVs, MC.MCs, MC, renC.renCs, renC, up]; omega) | (simp [MH, MB, MT, MV, MV.MVs, MC.MCs, MC, renC.renCs, renC, up] <;> omega))
  · simp [MV, MV.MVs, MC]
  cbv
  refine m_cond hX (fun hgt => ?_) (fun hgt => ?_) <;> cbv
  · have hs : s = N := by
      have h1 := hL.hs
      have h4 : ((N : Nat) : Int) < X.bin .add .i64 1 (X.bin .rem .i64 (X.conv .i64 x) 60) := by
        generalize X.bin .add .i64 1 (X.bin .rem .i64 (X.conv .i64 x) 60) = z at *
        subst hX
        simpa [std, cmpS] using hgt
      rw [hz.h] at h4
      omega
    have hT : X.toN (X.ofN N) = s := by
      subst hX; show ((N : Nat) : Int).toNat = s; omega
    have hlo : X.lohi 0 (X.ofN N) := by
      subst hX; show (0 : Int) ≤ 0 ∧ (0 : Int) ≤ (N : Nat); omega
    have hsN : s ≤ N := by have h1 := hL.hs; omega
    have hle : X.le (X.ofN N) N := by
      subst hX; show ((N : Nat) : Int) ≤ (N : Nat); omega
    repeat' (first | (refine m_cond_t hX (by first | rfl | assumption | (subst hX; rfl)) ?_; cbv) | (refine m_cond_f hX (by first | rfl | assumption | (subst hX; rfl)) ?_; cbv) | fail)
    refine ⟨hlo, hle, ?_⟩
    repeat' (first | (refine m_cond_t hX (by first | rfl | assumption | (subst hX; rfl)) ?_; cbv) | (refine m_cond_f hX (by first | rfl | assumption | (subst hX; rfl)) ?_; cbv) | fail)
    refine m_callq hX [15, 16] bodied_17 (fun k2 h2 => Ints_oeq W0 true true s 0 N none none G1 G1 (by omega) (by omega) k2 h2) ?_ rfl rfl ?_ ?_
    · simp [MH, MB, MC.MCs, MC, renC.renCs, renC, up]
    · exact ⟨⟨rfl, rfl, rfl, .inl rfl⟩, ⟨rfl, rfl, hT.symm, .inl rfl⟩, trivial⟩
    intro b hb
    obtain rfl : b = true := hb.2 (fun q _ => by rw [Nat.zero_add])
    cbv
    repeat' (first | (refine m_cond_t hX (by first | rfl | assumption | (subst hX; rfl)) ?_; cbv) | (refine m_cond_f hX (by first | rfl | assumption | (subst hX; rfl)) ?_; cbv) | fail)
    refine m_callf hX [2, 10] bodied_18 (fun k2 hk2 => List_c W0 N G1 (by omega) k2 hk2) ?_ rfl rfl ?_ ?_
    · (first | (simp [MH, MB, MT, MV, MV.MVs, MC.MCs, MC, renC.renCs, renC, up]; done) | (simp [MH, MB, MT, MV, MV.MVs, MC.MCs, MC, renC.renCs, renC, up]; omega) | (simp [MH, MB, MT, MV, MV.MVs, MC.MCs, MC, renC.renCs, renC, up] <;> omega))
    · simp [MV, MV.MVs, MC]
    cbv
    repeat' (first | (refine m_cond_t hX (by first | rfl | assumption | (subst hX; rfl)) ?_; cbv) | (refine m_cond_f hX (by first | rfl | assumption | (subst hX; rfl)) ?_; cbv) | fail)
    refine m_callq hX [17, 16] bodied_17 (fun k2 hk2 => Ints_c W0 true true N N none none G1 G1 (by omega) k2 hk2) ?_ rfl rfl ?_ ?_
    · (first | (simp [MH, MB, MT, MV, MV.MVs, MC.MCs, MC, renC.renCs, renC, up]; done) | (simp [MH, MB, MT, MV, MV.MVs, MC.MCs, MC, renC.renCs, renC, up]; omega) | (simp [MH, MB, MT, MV, MV.MVs, MC.MCs, MC, renC.renCs, renC, up] <;> omega))
    · simp [MV, MV.MVs, MC]
    intro b hb
    obtain rfl : b = true := hb.2 ⟨rfl, fun _ _ => rfl⟩
    cbv
    repeat' (first | (refine m_cond_t hX (by first | rfl | assumption | (subst hX; rfl)) ?_; cbv) | (refine m_cond_f hX (by first | rfl | assumption | (subst hX; rfl)) ?_; cbv) | fail)
    refine m_callf hX [4, 11] bodied_18 (fun k2 hk2 => List_c W0 N G2 (by omega) k2 hk2) ?_ rfl rfl ?_ ?_
    · (first | (simp [MH, MB, MT, MV, MV.MVs, MC.MCs, MC, renC.renCs, renC, up]; done) | (simp [MH, MB, MT, MV, MV.MVs, MC.MCs, MC, renC.renCs, renC, up]; omega) | (simp [MH, MB, MT, MV, MV.MVs, MC.MCs, MC, renC.renCs, renC, up] <;> omega))
    · simp [MV, MV.MVs, MC]
    cbv
    repeat' (first | (refine m_cond_t hX (by first | rfl | assumption | (subst hX; rfl)) ?_; cbv) | (refine m_cond_f hX (by first | rfl | assumption | (subst hX; rfl)) ?_; cbv) | fail)
    refine m_callf hX [0, 1] bodied_14 (fun k2 hk2 => joined_2 W0 r1 r2 n m N c1 c2 f g G2 hL.under k2 hk2) ?_ rfl rfl ?_ ?_
    · (first | (simp [MH, MB, MT, MV, MV.MVs, MC.MCs, MC, renC.renCs, renC, up]; done) | (simp [MH, MB, MT, MV, MV.MVs, MC.MCs, MC, renC.renCs, renC, up]; omega) | (simp [MH, MB, MT, MV, MV.MVs, MC.MCs, MC, renC.renCs, renC, up] <;> omega))
    · simp [MV, MV.MVs, MC]
    cbv
    repeat' (first | (refine m_cond_t hX (by first | rfl | assumption | (subst hX; rfl)) ?_; cbv) | (refine m_cond_f hX (by first | rfl | assumption | (subst hX; rfl)) ?_; cbv) | fail)
    refine m_callq hX [18, 19] bodied_17 (fun k2 hk2 => Ints_c W0 true true N N none none G2 G2 (by omega) k2 hk2) ?_ rfl rfl ?_ ?_
    · (first | (simp [MH, MB, MT, MV, MV.MVs, MC.MCs, MC, renC.renCs, renC, up]; done) | (simp [MH, MB, MT, MV, MV.MVs, MC.MCs, MC, renC.renCs, renC, up]; omega) | (simp [MH, MB, MT, MV, MV.MVs, MC.MCs, MC, renC.renCs, renC, up] <;> omega))
    · simp [MV, MV.MVs, MC]
    intro b hb
    obtain rfl : b = true := hb.2 ⟨rfl, fun _ _ => rfl⟩
    cbv
    repeat' (first | (refine m_cond_t hX (by first | rfl | assumption | (subst hX; rfl)) ?_; cbv) | (refine m_cond_f hX (by first | rfl | assumption | (subst hX; rfl)) ?_; cbv) | fail)
    refine ⟨_, _, [some 0, some 1], ?_, rfl, rfl, ?_, hk⟩
    · simp [MH, MB, MC.MCs, MC, renC.renCs, renC, up]
    · simp [MV, MC] <;> (subst hX; rfl)
  · have hs : s = x.toNat % 60 + 1 := by
      have h1 := hL.hs
      have h4 : ¬ ((N : Nat) : Int) < X.bin .add .i64 1 (X.bin .rem .i64 (X.conv .i64 x) 60) := by
        generalize X.bin .add .i64 1 (X.bin .rem .i64 (X.conv .i64 x) 60) = z at *
        subst hX
        simpa [std, cmpS] using hgt
      rw [hz.h] at h4
      omega
    have hT : X.toN (X.bin .add .i64 1 (X.bin .rem .i64 (X.conv .i64 x) 60)) = s := by
      rw [hz.h]; subst hX; show ((x.toNat % 60 + 1 : Nat) : Int).toNat = s; omega
    have hlo : X.lohi 0 (X.bin .add .i64 1 (X.bin .rem .i64 (X.conv .i64 x) 60)) := by
      rw [hz.h]; subst hX; show (0 : Int) ≤ 0 ∧ (0 : Int) ≤ ((x.toNat % 60 + 1 : Nat) : Int); omega
    have hsN : s ≤ N := by have h1 := hL.hs; omega
    have hle : X.le (X.bin .add .i64 1 (X.bin .rem .i64 (X.conv .i64 x) 60)) N := by
      rw [hz.h]; subst hX; show ((x.toNat % 60 + 1 : Nat) : Int) ≤ (N : Nat); omega
    repeat' (first | (refine m_cond_t hX (by first | rfl | assumption | (subst hX; rfl)) ?_; cbv) | (refine m_cond_f hX (by first | rfl | assumption | (subst hX; rfl)) ?_; cbv) | fail)
    refine ⟨hlo, hle, ?_⟩
    repeat' (first | (refine m_cond_t hX (by first | rfl | assumption | (subst hX; rfl)) ?_; cbv) | (refine m_cond_f hX (by first | rfl | assumption | (subst hX; rfl)) ?_; cbv) | fail)
    refine m_callq hX [15, 16] bodied_17 (fun k2 h2 => Ints_oeq W0 true true s 0 N none none G1 G1 (by omega) (by omega) k2 h2) ?_ rfl rfl ?_ ?_
    · simp [MH, MB, MC.MCs, MC, renC.renCs, renC, up]
    · exact ⟨⟨rfl, rfl, rfl, .inl rfl⟩, ⟨rfl, rfl, hT.symm, .inl rfl⟩, trivial⟩
    intro b hb
    obtain rfl : b = true := hb.2 (fun q _ => by rw [Nat.zero_add])
    cbv
    repeat' (first | (refine m_cond_t hX (by first | rfl | assumption | (subst hX; rfl)) ?_; cbv) | (refine m_cond_f hX (by first | rfl | assumption | (subst hX; rfl)) ?_; cbv) | fail)
    refine m_callf hX [2, 10] bodied_18 (fun k2 hk2 => List_c W0 N G1 (by omega) k2 hk2) ?_ rfl rfl ?_ ?_
    · (first | (simp [MH, MB, MT, MV, MV.MVs, MC.MCs, MC, renC.renCs, renC, up]; done) | (simp [MH, MB, MT, MV, MV.MVs, MC.MCs, MC, renC.renCs, renC, up]; omega) | (simp [MH, MB, MT, MV, MV.MVs, MC.MCs, MC, renC.renCs, renC, up] <;> omega))
    · simp [MV, MV.MVs, MC]
    cbv
    repeat' (first | (refine m_cond_t hX (by first | rfl | assumption | (subst hX; rfl)) ?_; cbv) | (refine m_cond_f hX (by first | rfl | assumption | (subst hX; rfl)) ?_; cbv) | fail)
    refine m_callq hX [17, 16] bodied_17 (fun k2 hk2 => Ints_c W0 true true N N none none G1 G1 (by omega) k2 hk2) ?_ rfl rfl ?_ ?_
    · (first | (simp [MH, MB, MT, MV, MV.MVs, MC.MCs, MC, renC.renCs, renC, up]; done) | (simp [MH, MB, MT, MV, MV.MVs, MC.MCs, MC, renC.renCs, renC, up]; omega) | (simp [MH, MB, MT, MV, MV.MVs, MC.MCs, MC, renC.renCs, renC, up] <;> omega))
    · simp [MV, MV.MVs, MC]
    intro b hb
    obtain rfl : b = true := hb.2 ⟨rfl, fun _ _ => rfl⟩
    cbv
    repeat' (first | (refine m_cond_t hX (by first | rfl | assumption | (subst hX; rfl)) ?_; cbv) | (refine m_cond_f hX (by first | rfl | assumption | (subst hX; rfl)) ?_; cbv) | fail)
    refine m_callf hX [4, 11] bodied_18 (fun k2 hk2 => List_c W0 N G2 (by omega) k2 hk2) ?_ rfl rfl ?_ ?_
    · (first | (simp [MH, MB, MT, MV, MV.MVs, MC.MCs, MC, renC.renCs, renC, up]; done) | (simp [MH, MB, MT, MV, MV.MVs, MC.MCs, MC, renC.renCs, renC, up]; omega) | (simp [MH, MB, MT, MV, MV.MVs, MC.MCs, MC, renC.renCs, renC, up] <;> omega))
    · simp [MV, MV.MVs, MC]
    cbv
    repeat' (first | (refine m_cond_t hX (by first | rfl | assumption | (subst hX; rfl)) ?_; cbv) | (refine m_cond_f hX (by first | rfl | assumption | (subst hX; rfl)) ?_; cbv) | fail)
    refine m_callf hX [0, 1] bodied_14 (fun k2 hk2 => joined_2 W0 r1 r2 n m N c1 c2 f g G2 hL.under k2 hk2) ?_ rfl rfl ?_ ?_
    · (first | (simp [MH, MB, MT, MV, MV.MVs, MC.MCs, MC, renC.renCs, renC, up]; done) | (simp [MH, MB, MT, MV, MV.MVs, MC.MCs, MC, renC.renCs, renC, up]; omega) | (simp [MH, MB, MT, MV, MV.MVs, MC.MCs, MC, renC.renCs, renC, up] <;> omega))
    · simp [MV, MV.MVs, MC]
    cbv
    repeat' (first | (refine m_cond_t hX (by first | rfl | assumption | (subst hX; rfl)) ?_; cbv) | (refine m_cond_f hX (by first | rfl | assumption | (subst hX; rfl)) ?_; cbv) | fail)
    refine m_callq hX [18, 19] bodied_17 (fun k2 hk2 => Ints_c W0 true true N N none none G2 G2 (by omega) k2 hk2) ?_ rfl rfl ?_ ?_
    · (first | (simp [MH, MB, MT, MV, MV.MVs, MC.MCs, MC, renC.renCs, renC, up]; done) | (simp [MH, MB, MT, MV, MV.MVs, MC.MCs, MC, renC.renCs, renC, up]; omega) | (simp [MH, MB, MT, MV, MV.MVs, MC.MCs, MC, renC.renCs, renC, up] <;> omega))
    · simp [MV, MV.MVs, MC]
    intro b hb
    obtain rfl : b = true := hb.2 ⟨rfl, fun _ _ => rfl⟩
    cbv
    repeat' (first | (refine m_cond_t hX (by first | rfl | assumption | (subst hX; rfl)) ?_; cbv) | (refine m_cond_f hX (by first | rfl | assumption | (subst hX; rfl)) ?_; cbv) | fail)
    refine ⟨_, _, [some 0, some 1], ?_, rfl, rfl, ?_, hk⟩
    · simp [MH, MB, MC.MCs, MC, renC.renCs, renC, up]
    · simp [MV, MC] <;> (subst hX; rfl)
theorem DeckLays_big (W0 : World) (r1 r2 : Bool) (n m : Nat) (c1 c2 : Option Nat) (x : Int) (f g : Nat → Int) (hb : 40 < n ∨ 40 < m) (k : V → Heap → Prop) (hk : k (.one (.bool true)) [ints r1 n f, ints r2 m g]) : ACall Try.prog W0 9 [.one (.sl 0 0 n c1), .one (.sl 1 0 m c2), .one (.int .u8 x)] [ints r1 n f, ints r2 m g] k := by
  refine m_body tab_ok (fn := Try.f9) (by kernel_rfl) rfl ?_
  intro X hX
  cbv
  refine m_callf hX [] bodied_13 (fun k2 hk2 => alive_c W0 k2 hk2) ?_ rfl rfl ?_ ?_
  · (first | (simp [MH, MB, MT, MV, MV.MVs, MC.MCs, MC, renC.renCs, renC, up]; done) | (simp [MH, MB, MT, MV, MV.MVs, MC.MCs, MC, renC.renCs, renC, up]; omega) | (simp [MH, MB, MT, MV, MV.MVs, MC.MCs, MC, renC.renCs, renC, up] <;> omega))
  · simp [MV, MV.MVs, MC]
  cbv
  repeat' (first | (refine m_cond_t hX (by first | rfl | assumption | (subst hX; rfl)) ?_; cbv) | (refine m_cond_f hX (by first | rfl | assumption | (subst hX; rfl)) ?_; cbv) | fail)
  refine m_cond hX (fun h => ?_) (fun h => ?_) <;> cbv
  ·
    repeat' (first | (refine m_cond_t hX (by first | rfl | assumption | (subst hX; rfl)) ?_; cbv) | (refine m_cond_f hX (by first | rfl | assumption | (subst hX; rfl)) ?_; cbv) | fail)
    refine ⟨_, _, [some 0, some 1], ?_, rfl, rfl, ?_, hk⟩
    · simp [MH, MB, MC.MCs, MC, renC.renCs, renC, up]
    · simp [MV, MC]
  · have hm : 40 < m := by
      have : ¬ (40 : Int) < (n : Int) := by subst hX; simpa [std, cmpS] using h
      omega
    have f2 : (40 : Int) < (m : Int) := by omega
    repeat' (first | (refine m_cond_t hX (by first | rfl | assumption | (subst hX; rfl)) ?_; cbv) | (refine m_cond_f hX (by first | rfl | assumption | (subst hX; rfl)) ?_; cbv) | fail)
    refine m_cond_t hX (by subst hX; simp [std, cmpS] at h ⊢; first | omega | (right; omega) | simp [f2]) ?_
    cbv
    refine ⟨_, _, [some 0, some 1], ?_, rfl, rfl, ?_, hk⟩
    · simp [MH, MB, MC.MCs, MC, renC.renCs, renC, up]
    · simp [MV, MC]
theorem DeckLays_c (W0 : World) (r1 r2 : Bool) (n m : Nat) (c1 c2 : Option Nat) (x : Int) (f g : Nat → Int) (hx : (Lit.int .u8 x).wf = true) (k : V → Heap → Prop) (hk : k (.one (.bool true)) [ints r1 n f, ints r2 m g]) : ACall Try.prog W0 9 [.one (.sl 0 0 n c1), .one (.sl 1 0 m c2), .one (.int .u8 x)] [ints r1 n f, ints r2 m g] k := by
  by_cases hb : 40 < n ∨ 40 < m
  · exact DeckLays_big W0 r1 r2 n m c1 c2 x f g hb k hk
  · simp [Lit.wf, IntKind.min, IntKind.max, IntKind.bits, IntKind.signed] at hx
    obtain ⟨G1, hG1⟩ := under_ex m n g f (by omega)
    obtain ⟨G2, hG2⟩ := under_ex n m f g (by omega)
    rw [Nat.add_comm] at hG1
    have hL : LaysI n m (n + m) _ x f g G1 G2 := ⟨by omega, by omega, by omega, by omega, hG1, hG2, rfl⟩
    rcases Nat.mod_two_eq_zero_or_one n with h2 | h2
    · obtain ⟨h, rfl⟩ : ∃ h, n = 2 * h := ⟨n / 2, by omega⟩
      obtain ⟨G3, hG3⟩ := into_ex m h f g (by omega)
      exact DeckLays_even W0 r1 r2 _ m _ _ c1 c2 x f g G1 G2 hL h G3 hG3 k hk
    · exact DeckLays_odd W0 r1 r2 n m _ _ c1 c2 x f g G1 G2 hL (n / 2) ⟨by omega, by omega⟩ k hk
end Go.Proofs.Ytnfoibgafmeenaa.AM
