/- GridParts: what the law comes to, as a contract on the abstract machine. No condition but that what it reads is there. -/
import Derived.Test.YtnfoibgafmeenaaGd10
import Derived.Test.YtnfoibgafmeenaaAm21
namespace Go.Proofs.Ytnfoibgafmeenaa.AM
open Go Go.RowKit
set_option cbv.warning false
set_option maxRecDepth 100000
set_option linter.unusedVariables false
set_option linter.unusedSimpArgs false
set_option maxHeartbeats 1000000
def insideP (c r x y w h : Int) : Prop := (0 ≤ x ∧ x < c) ∧ (0 ≤ y ∧ y < r) ∧ (1 ≤ w ∧ w ≤ c - x) ∧ (1 ≤ h ∧ h ≤ r - y)
theorem Part_out (W0 : World) (c r : Int) (N : Nat) (x y w h : Int) (f : Nat → Int) (hI : GI c r N) (hO : ¬ insideP c r x y w h) (k : V → Heap → Prop) (hk : k (.one .nilp) [grid c r 1 N, ints true N f]) : ACall Try.prog W0 32 [.one (.ptr 0 0 0), .one (.int .i64 x), .one (.int .i64 y), .one (.int .i64 w), .one (.int .i64 h)] [grid c r 1 N, ints true N f] k := by
  unfold insideP at hO
  by_cases h1 : 0 ≤ x ∧ x < c
  · by_cases h2 : 0 ≤ y ∧ y < r
    · obtain ⟨q, hC⟩ := hI.put (x := x) (y := y) ⟨h1.1, h1.2, h2.1, h2.2⟩
      exact Part_out2 W0 c r N x y w h q f hC (by omega) k hk
    · exact Part_out1 W0 c r N x y w h f ⟨hI, .inr h2⟩ k hk
  · exact Part_out1 W0 c r N x y w h f ⟨hI, .inl h1⟩ k hk
theorem insideP.part {c r x y w h : Int} {N : Nat} (hI : GI c r N) (hp : insideP c r x y w h) : ∃ M, PartI c r N x y w h M := by
  obtain ⟨⟨h1, h2⟩, ⟨h3, h4⟩, ⟨h5, h6⟩, h7, h8⟩ := hp
  have h9 : 0 ≤ w * h := Int.mul_nonneg (by omega) (by omega)
  exact ⟨(w * h).toNat, hI, h1, h3, h5, h7, by omega, by omega, by omega⟩
theorem GridParts_out (W0 : World) (rw : Bool) (c r : Int) (n : Nat) (cap : Option Nat) (px py pn : Nat → Int) (x y w h : Int) (hs : SmallI c r n) (hO : ¬ insideP c r x y w h) (k : V → Heap → Prop) (hk : k (.one (.bool true)) [puts rw n px py pn]) : ACall Try.prog W0 7 [.one (.int .i64 c), .one (.int .i64 r), .one (.sl 0 0 n cap), .agg [.int .i64 x, .int .i64 y, .int .i64 w, .int .i64 h]] [puts rw n px py pn] k := by
  obtain ⟨N, hI⟩ := GI.mk' (c := c) (r := r) ⟨⟨hs.c1, by have := hs.c2; omega⟩, hs.r1, by have := hs.r2; omega⟩
  obtain ⟨G, hG⟩ : ∃ G : Nat → Int, ∀ j, G j = layF c r px py pn n j := ⟨_, fun _ => rfl⟩
  refine m_body tab_ok (fn := Try.f7) (by kernel_rfl) rfl ?_
  intro X hX
  cbv
  refine m_callf hX [] bodied_22 (fun k2 hk2 => GAlive_c W0 k2 hk2) ?_ rfl rfl ?_ ?_
  · (first | (simp [MH, MB, MT, MV, MV.MVs, MC.MCs, MC, renC.renCs, renC, up]; done) | (simp [MH, MB, MT, MV, MV.MVs, MC.MCs, MC, renC.renCs, renC, up]; omega) | (simp [MH, MB, MT, MV, MV.MVs, MC.MCs, MC, renC.renCs, renC, up] <;> omega))
  · simp [MV, MV.MVs, MC]
  cbv
  repeat' (first | (refine m_cond_t hX (by first | rfl | assumption | (subst hX; rfl)) ?_; cbv) | (refine m_cond_f hX (by first | rfl | assumption | (subst hX; rfl)) ?_; cbv) | fail)
  refine m_callq hX [0] bodied_23 (fun k2 hk2 => small_c W0 rw c r n cap px py pn k2 hk2) ?_ rfl rfl ?_ ?_
  · (first | (simp [MH, MB, MT, MV, MV.MVs, MC.MCs, MC, renC.renCs, renC, up]; done) | (simp [MH, MB, MT, MV, MV.MVs, MC.MCs, MC, renC.renCs, renC, up]; omega) | (simp [MH, MB, MT, MV, MV.MVs, MC.MCs, MC, renC.renCs, renC, up] <;> omega))
  · simp [MV, MV.MVs, MC]
  intro b hb
  cbv
  obtain rfl : b = true := hb.2 hs
  repeat' (first | (refine m_cond_t hX (by first | rfl | assumption | (subst hX; rfl)) ?_; cbv) | (refine m_cond_f hX (by first | rfl | assumption | (subst hX; rfl)) ?_; cbv) | fail)
  refine m_callf hX [0] bodied_26 (fun k2 hk2 => laid_c W0 rw c r N n cap px py pn G hI hs.hn (fun j _ => hG j) k2 hk2) ?_ rfl rfl ?_ ?_
  · (first | (simp [MH, MB, MT, MV, MV.MVs, MC.MCs, MC, renC.renCs, renC, up]; done) | (simp [MH, MB, MT, MV, MV.MVs, MC.MCs, MC, renC.renCs, renC, up]; omega) | (simp [MH, MB, MT, MV, MV.MVs, MC.MCs, MC, renC.renCs, renC, up] <;> omega))
  · simp [MV, MV.MVs, MC]
  cbv
  repeat' (first | (refine m_cond_t hX (by first | rfl | assumption | (subst hX; rfl)) ?_; cbv) | (refine m_cond_f hX (by first | rfl | assumption | (subst hX; rfl)) ?_; cbv) | fail)
  refine m_callf hX [2, 3] bodied_32 (fun k2 hk2 => Part_out W0 c r N x y w h G hI hO k2 hk2) ?_ rfl rfl ?_ ?_
  · (first | (simp [MH, MB, MT, MV, MV.MVs, MC.MCs, MC, renC.renCs, renC, up]; done) | (simp [MH, MB, MT, MV, MV.MVs, MC.MCs, MC, renC.renCs, renC, up]; omega) | (simp [MH, MB, MT, MV, MV.MVs, MC.MCs, MC, renC.renCs, renC, up] <;> omega))
  · simp [MV, MV.MVs, MC]
  cbv
  refine m_cond hX (fun g1 => ?_) (fun g1 => ?_) <;> cbv
  ·
    repeat' (first | (refine m_cond_t hX (by first | rfl | assumption | (subst hX; rfl)) ?_; cbv) | (refine m_cond_f hX (by first | rfl | assumption | (subst hX; rfl)) ?_; cbv) | fail)
    refine ⟨_, _, [some 0], ?_, rfl, rfl, ?_, hk⟩
    · simp [MH, MB, MC.MCs, MC, renC.renCs, renC, up]
    · simp [MV, MC]
  repeat' (first | (refine m_cond_t hX (by first | rfl | assumption | (subst hX; rfl)) ?_; cbv) | (refine m_cond_f hX (by first | rfl | assumption | (subst hX; rfl)) ?_; cbv) | fail)
  refine m_cond hX (fun g2 => ?_) (fun g2 => ?_) <;> cbv
  ·
    repeat' (first | (refine m_cond_t hX (by first | rfl | assumption | (subst hX; rfl)) ?_; cbv) | (refine m_cond_f hX (by first | rfl | assumption | (subst hX; rfl)) ?_; cbv) | fail)
    refine ⟨_, _, [some 0], ?_, rfl, rfl, ?_, hk⟩
    · simp [MH, MB, MC.MCs, MC, renC.renCs, renC, up]
    · simp [MV, MC]
  repeat' (first | (refine m_cond_t hX (by first | rfl | assumption | (subst hX; rfl)) ?_; cbv) | (refine m_cond_f hX (by first | rfl | assumption | (subst hX; rfl)) ?_; cbv) | fail)
  refine m_cond hX (fun g3 => ?_) (fun g3 => ?_) <;> cbv
  ·
    repeat' (first | (refine m_cond_t hX (by first | rfl | assumption | (subst hX; rfl)) ?_; cbv) | (refine m_cond_f hX (by first | rfl | assumption | (subst hX; rfl)) ?_; cbv) | fail)
    refine ⟨_, _, [some 0], ?_, rfl, rfl, ?_, hk⟩
    · simp [MH, MB, MC.MCs, MC, renC.renCs, renC, up]
    · simp [MV, MC]
  repeat' (first | (refine m_cond_t hX (by first | rfl | assumption | (subst hX; rfl)) ?_; cbv) | (refine m_cond_f hX (by first | rfl | assumption | (subst hX; rfl)) ?_; cbv) | fail)
  refine m_cond hX (fun g4 => ?_) (fun g4 => ?_) <;> cbv
  ·
    repeat' (first | (refine m_cond_t hX (by first | rfl | assumption | (subst hX; rfl)) ?_; cbv) | (refine m_cond_f hX (by first | rfl | assumption | (subst hX; rfl)) ?_; cbv) | fail)
    refine ⟨_, _, [some 0], ?_, rfl, rfl, ?_, hk⟩
    · simp [MH, MB, MC.MCs, MC, renC.renCs, renC, up]
    · simp [MV, MC]
  repeat' (first | (refine m_cond_t hX (by first | rfl | assumption | (subst hX; rfl)) ?_; cbv) | (refine m_cond_f hX (by first | rfl | assumption | (subst hX; rfl)) ?_; cbv) | fail)
  refine m_cond hX (fun g5 => ?_) (fun g5 => ?_) <;> cbv
  ·
    repeat' (first | (refine m_cond_t hX (by first | rfl | assumption | (subst hX; rfl)) ?_; cbv) | (refine m_cond_f hX (by first | rfl | assumption | (subst hX; rfl)) ?_; cbv) | fail)
    refine ⟨_, _, [some 0], ?_, rfl, rfl, ?_, hk⟩
    · simp [MH, MB, MC.MCs, MC, renC.renCs, renC, up]
    · simp [MV, MC]
  repeat' (first | (refine m_cond_t hX (by first | rfl | assumption | (subst hX; rfl)) ?_; cbv) | (refine m_cond_f hX (by first | rfl | assumption | (subst hX; rfl)) ?_; cbv) | fail)
  refine m_cond hX (fun g6 => ?_) (fun g6 => ?_) <;> cbv
  ·
    repeat' (first | (refine m_cond_t hX (by first | rfl | assumption | (subst hX; rfl)) ?_; cbv) | (refine m_cond_f hX (by first | rfl | assumption | (subst hX; rfl)) ?_; cbv) | fail)
    refine ⟨_, _, [some 0], ?_, rfl, rfl, ?_, hk⟩
    · simp [MH, MB, MC.MCs, MC, renC.renCs, renC, up]
    · simp [MV, MC]
  repeat' (first | (refine m_cond_t hX (by first | rfl | assumption | (subst hX; rfl)) ?_; cbv) | (refine m_cond_f hX (by first | rfl | assumption | (subst hX; rfl)) ?_; cbv) | fail)
  refine m_cond hX (fun g7 => ?_) (fun g7 => ?_) <;> cbv
  ·
    repeat' (first | (refine m_cond_t hX (by first | rfl | assumption | (subst hX; rfl)) ?_; cbv) | (refine m_cond_f hX (by first | rfl | assumption | (subst hX; rfl)) ?_; cbv) | fail)
    refine ⟨_, _, [some 0], ?_, rfl, rfl, ?_, hk⟩
    · simp [MH, MB, MC.MCs, MC, renC.renCs, renC, up]
    · simp [MV, MC]
  repeat' (first | (refine m_cond_t hX (by first | rfl | assumption | (subst hX; rfl)) ?_; cbv) | (refine m_cond_f hX (by first | rfl | assumption | (subst hX; rfl)) ?_; cbv) | fail)
  refine m_cond hX (fun g8 => ?_) (fun g8 => ?_) <;> cbv
  ·
    repeat' (first | (refine m_cond_t hX (by first | rfl | assumption | (subst hX; rfl)) ?_; cbv) | (refine m_cond_f hX (by first | rfl | assumption | (subst hX; rfl)) ?_; cbv) | fail)
    refine ⟨_, _, [some 0], ?_, rfl, rfl, ?_, hk⟩
    · simp [MH, MB, MC.MCs, MC, renC.renCs, renC, up]
    · simp [MV, MC]
  exfalso
  have hc := hI.c1
  have hc2 := hI.c2
  have hr := hI.r1
  have hr2 := hI.r2
  subst hX
  simp [std, cmpS] at g1
  simp [std, cmpS] at g2
  simp [std, cmpS] at g3
  simp [std, cmpS] at g4
  simp [std, cmpS] at g5
  simp [std, cmpS] at g6
  have w1 : IntKind.i64.wrap (c - x) = c - x := wrap_eq (by omega) (by omega)
  have w2 : IntKind.i64.wrap (r - y) = r - y := wrap_eq (by omega) (by omega)
  simp [std, cmpS, binS, w1] at g7
  simp [std, cmpS, binS, w1, w2] at g8
  exact hO ⟨⟨by omega, by omega⟩, ⟨by omega, by omega⟩, ⟨by omega, by omega⟩, by omega, by omega⟩
theorem GridParts_in (W0 : World) (rw : Bool) (c r : Int) (n N M : Nat) (cap : Option Nat) (px py pn : Nat → Int) (x y w h : Int) (hs : SmallI c r n) (hP : PartI c r N x y w h M) (k : V → Heap → Prop) (hk : k (.one (.bool true)) [puts rw n px py pn]) : ACall Try.prog W0 7 [.one (.int .i64 c), .one (.int .i64 r), .one (.sl 0 0 n cap), .agg [.int .i64 x, .int .i64 y, .int .i64 w, .int .i64 h]] [puts rw n px py pn] k := by
  have hI := hP.g
  have hJ := hP.gi
  have hbd := hI.bound
  have hbe := hJ.bound
  obtain ⟨G, hG⟩ : ∃ G : Nat → Int, ∀ j, G j = layF c r px py pn n j := ⟨_, fun _ => rfl⟩
  obtain ⟨F, hF⟩ : ∃ F : Nat → Int, ∀ j, F j = G (sub c x y w j) := ⟨_, fun _ => rfl⟩
  have f1 : ¬ x < 0 := by have := hP.x1; omega
  have f2 : ¬ y < 0 := by have := hP.y1; omega
  have f3 : ¬ w < 1 := by have := hP.w1; omega
  have f4 : ¬ h < 1 := by have := hP.h1; omega
  have f5 : ¬ c ≤ x := by have := hP.xw; have := hP.w1; omega
  have f6 : ¬ r ≤ y := by have := hP.yh; have := hP.h1; omega
  have f7 : ¬ c - x < w := by have := hP.xw; omega
  have f8 : ¬ r - y < h := by have := hP.yh; omega
  have w1 : IntKind.i64.wrap (c - x) = c - x := wrap_eq (by have := hI.c1; have := hI.c2; omega) (by have := hI.c2; omega)
  have w2 : IntKind.i64.wrap (r - y) = r - y := wrap_eq (by have := hI.r1; have := hI.r2; omega) (by have := hI.r2; omega)
  refine m_body tab_ok (fn := Try.f7) (by kernel_rfl) rfl ?_
  intro X hX
  cbv
  refine m_callf hX [] bodied_22 (fun k2 hk2 => GAlive_c W0 k2 hk2) ?_ rfl rfl ?_ ?_
  · (first | (simp [MH, MB, MT, MV, MV.MVs, MC.MCs, MC, renC.renCs, renC, up]; done) | (simp [MH, MB, MT, MV, MV.MVs, MC.MCs, MC, renC.renCs, renC, up]; omega) | (simp [MH, MB, MT, MV, MV.MVs, MC.MCs, MC, renC.renCs, renC, up] <;> omega))
  · simp [MV, MV.MVs, MC]
  cbv
  repeat' (first | (refine m_cond_t hX (by first | rfl | assumption | (subst hX; rfl)) ?_; cbv) | (refine m_cond_f hX (by first | rfl | assumption | (subst hX; rfl)) ?_; cbv) | fail)
  refine m_callq hX [0] bodied_23 (fun k2 hk2 => small_c W0 rw c r n cap px py pn k2 hk2) ?_ rfl rfl ?_ ?_
  · (first | (simp [MH, MB, MT, MV, MV.MVs, MC.MCs, MC, renC.renCs, renC, up]; done) | (simp [MH, MB, MT, MV, MV.MVs, MC.MCs, MC, renC.renCs, renC, up]; omega) | (simp [MH, MB, MT, MV, MV.MVs, MC.MCs, MC, renC.renCs, renC, up] <;> omega))
  · simp [MV, MV.MVs, MC]
  intro b hb
  cbv
  obtain rfl : b = true := hb.2 hs
  repeat' (first | (refine m_cond_t hX (by first | rfl | assumption | (subst hX; rfl)) ?_; cbv) | (refine m_cond_f hX (by first | rfl | assumption | (subst hX; rfl)) ?_; cbv) | fail)
  refine m_callf hX [0] bodied_26 (fun k2 hk2 => laid_c W0 rw c r N n cap px py pn G hI hs.hn (fun j _ => hG j) k2 hk2) ?_ rfl rfl ?_ ?_
  · (first | (simp [MH, MB, MT, MV, MV.MVs, MC.MCs, MC, renC.renCs, renC, up]; done) | (simp [MH, MB, MT, MV, MV.MVs, MC.MCs, MC, renC.renCs, renC, up]; omega) | (simp [MH, MB, MT, MV, MV.MVs, MC.MCs, MC, renC.renCs, renC, up] <;> omega))
  · simp [MV, MV.MVs, MC]
  cbv
  repeat' (first | (refine m_cond_t hX (by first | rfl | assumption | (subst hX; rfl)) ?_; cbv) | (refine m_cond_f hX (by first | rfl | assumption | (subst hX; rfl)) ?_; cbv) | fail)
  refine m_callq hX [2, 3] bodied_32 (fun k2 hk2 => Part_in W0 c r N M x y w h G hP k2 hk2) ?_ rfl rfl ?_ ?_
  · (first | (simp [MH, MB, MT, MV, MV.MVs, MC.MCs, MC, renC.renCs, renC, up]; done) | (simp [MH, MB, MT, MV, MV.MVs, MC.MCs, MC, renC.renCs, renC, up]; omega) | (simp [MH, MB, MT, MV, MV.MVs, MC.MCs, MC, renC.renCs, renC, up] <;> omega))
  · simp [MV, MV.MVs, MC]
  intro g2 hg2
  cbv
  repeat' (first | (refine m_cond_t hX (by first | rfl | assumption | (subst_vars; simp [std, cmpS, binS, f1, f2, f3, f4, f5, f6, f7, f8, w1, w2]; done) | fail) ?_; cbv) | (refine m_cond_f hX (by first | rfl | assumption | (subst_vars; simp [std, cmpS, binS, f1, f2, f3, f4, f5, f6, f7, f8, w1, w2]; done) | fail) ?_; cbv) | (refine And.intro (by first | rfl | assumption | (subst_vars; simp [std, cmpS, binS, f1, f2, f3, f4, f5, f6, f7, f8, w1, w2]; done) | fail) ?_) | fail)
  refine m_callf hX [0] bodied_28 (fun k2 hk2 => cells_c W0 rw c r N n cap px py pn G hI hs.hn (fun j _ => hG j) k2 hk2) ?_ rfl rfl ?_ ?_
  · (first | (simp [MH, MB, MT, MV, MV.MVs, MC.MCs, MC, renC.renCs, renC, up]; done) | (simp [MH, MB, MT, MV, MV.MVs, MC.MCs, MC, renC.renCs, renC, up]; omega) | (simp [MH, MB, MT, MV, MV.MVs, MC.MCs, MC, renC.renCs, renC, up] <;> omega))
  · simp [MV, MV.MVs, MC]
  cbv
  have hmul := mulw hJ hX
  refine m_loop tab_ok hX (fun b : Nat × Int => WantI M b.1 b.2) (fun b => ([.one (.int .i64 c), .one (.int .i64 r), .one (.sl 0 0 n cap), .one .undef, .one .undef, .one .undef, .one .undef, .one (.ptr 1 0 0), .one .undef, .one (.ptr 2 0 0), .one .undef, .one (.ptr 4 0 0), .one (.sl 6 0 N none), .one (.sl 7 0 b.1 none), .one (.int .i64 b.2)] ++ List.replicate 133 (.one .undef), [puts rw n px py pn, some (.box 49 [.int .i64 x, .int .i64 y, .int .i64 w, .int .i64 h]), grid c r 3 N, ints true N G, grid w h 5 M, ints true M g2, ints true N G, ints true b.1 F])) (fun b => M - b.1) ?_ ?_
  · refine ⟨⟨0, 0⟩, ⟨by omega, rfl⟩, [some 0, some 1, some 2, some 3, some 4, some 5, some 6, none], ?_, rfl, rfl, ?_⟩
    · simp [MH, MB, MC.MCs, MC, renC.renCs, renC, up]
    · simp [MT, MV.MVs, MV, MC, renC, renV, up]
  · rintro ⟨a, i⟩ hb
    replace hb : WantI M a i := hb
    cbv
    refine m_cond hX (fun hl => ?_) (fun hl => ?_) <;> cbv
    · have hh : (0 ≤ i ∧ i < M) ∧ i.toNat = a ∧ a < M := by
        obtain ⟨g1, g2⟩ := hb
        have : i < M := by
          have hl : X.cmp .lss i (X.bin .mul .i64 w h) = true := hl
          rw [hmul] at hl
          subst hX; simpa [std, cmpS] using hl
        omega
      obtain ⟨hh1, hh2, hh3⟩ := hh
      have hcz : X.nz w := by subst hX; have := hP.w1; show w ≠ 0; omega
      have hC := hJ.at hh3 hX hb.h2
      have hM := hP.cell hC
      have hlq := hM.lt
      have hE : X.bin .add .i64 (X.bin .add .i64 (X.bin .mul .i64 (X.bin .add .i64 y (X.bin .quo .i64 i w)) c) x) (X.bin .rem .i64 i w) = (sub c x y w a : Nat) := by
        obtain ⟨_, p1, p2, p3, p4, p5⟩ := hM
        obtain ⟨q1, q2, q3⟩ := idx_lt p1 p2 p3 p4
        have hN := hI.hN
        have k1 := hC.x1
        have k2 := hC.y1
        have k3 := hP.x1
        have k4 := hP.y1
        have k5 := hI.r2
        clear hC hcz hl hmul
        generalize X.bin .quo .i64 i w = pyv at *
        generalize X.bin .rem .i64 i w = pxv at *
        subst hX
        show IntKind.i64.wrap (IntKind.i64.wrap (IntKind.i64.wrap (IntKind.i64.wrap (y + pyv) * c) + x) + pxv) = _
        rw [wrap_eq (x := y + pyv) (by omega) (by omega), wrap_eq (x := (y + pyv) * c) (by omega) (by omega), wrap_eq (x := (y + pyv) * c + x) (by omega) (by omega), wrap_eq (by omega) (by omega)]
        omega
      have hE2 : X.nadd 0 (X.toN (X.bin .add .i64 (X.bin .add .i64 (X.bin .mul .i64 (X.bin .add .i64 y (X.bin .quo .i64 i w)) c) x) (X.bin .rem .i64 i w))) = sub c x y w a := by rw [hE]; subst hX; show 0 + ((sub c x y w a : Nat) : Int).toNat = _; omega
      refine m_gen (A := X.draw _ _ _) fun K1 hK1 => ?_
      refine m_drawT tab_ok hX [] [22] (.one 0 0 (.one 1 0 (.one 2 0 (.one 4 0 (.one 5 0 (.one 9 0 (.one 11 0 (.one 14 0 (.one 15 0 (.one 3 1 (.one 6 1 (.one 7 0 (.one 8 0 (.one 10 0 (.one 12 1 (.one 13 0 (.one 16 1 (.one 17 0 (.one 18 0 (.one 19 0 (.one 20 1 (.one 21 2 (.one 22 3 (.one 23 0 .fin)))))))))))))))))))))))) (by kernel_rfl) (by simp) ?_
      cbv
      refine ⟨hcz, hcz, ?_⟩
      refine ⟨by show X.inb (X.bin .add .i64 (X.bin .add .i64 (X.bin .mul .i64 (X.bin .add .i64 y (X.bin .quo .i64 i w)) c) x) (X.bin .rem .i64 i w)) N; rw [hE]; subst hX; show (0 : Int) ≤ ((sub c x y w a : Nat) : Int) ∧ ((sub c x y w a : Nat) : Int) < ((N : Nat) : Int); omega, ?_⟩
      refine ⟨by show X.nlt (X.nadd 0 (X.toN (X.bin .add .i64 (X.bin .add .i64 (X.bin .mul .i64 (X.bin .add .i64 y (X.bin .quo .i64 i w)) c) x) (X.bin .rem .i64 i w)))) N; rw [hE2]; subst hX; exact hlq, ?_⟩
      refine m_append tab_ok hX (a + 1) (fun q => [.int .i64 (F q)]) rfl rfl rfl rfl rfl rfl (by decide) rfl rfl rfl ?_ ?_
      · refine ⟨by omega, by omega, by omega, by show (a + 1) * 8 ≤ _; omega, by omega, fun q hq => ?_, fun q hq => by simp only [Nat.zero_add], fun q hq => ?_⟩
        · obtain rfl : q = 0 := by omega
          rfl
        · obtain rfl : q = 0 := by omega
          show [C.int IntKind.i64 (F a)] = [C.int IntKind.i64 (G (X.nadd 0 (X.toN (X.bin .add .i64 (X.bin .add .i64 (X.bin .mul .i64 (X.bin .add .i64 y (X.bin .quo .i64 i w)) c) x) (X.bin .rem .i64 i w)))))]
          rw [hE2, hF a]
      cbv
      refine hK1 _ _ ?_
      cbv
      refine ⟨⟨a + 1, i + 1⟩, ⟨by omega, by have := hb.h2; omega⟩, by show M - (a + 1) < M - a; omega, [some 0, some 1, some 2, some 3, some 4, some 5, some 6, some 9], ?_, rfl, rfl, ?_⟩
      · simp [MH, MB, MC.MCs, MC, renC.renCs, renC, up]
      · have g2 := hb.h2
        subst hX
        simp [MT, MV.MVs, MV, MC, std, binS]
        exact (wrap_eq (by omega) (by omega)).symm
    · have hm : a = M := by
        obtain ⟨g1, g2⟩ := hb
        have hl : X.cmp .lss i (X.bin .mul .i64 w h) = false := hl
        rw [hmul] at hl
        have : ¬ i < M := by subst hX; simpa [std, cmpS] using hl
        omega
      subst hm
      have hgF : ∀ j, j < a → g2 j = F j := fun j hj => by rw [hg2 j hj, hF]
      refine m_callf hX [4, 5, 7] bodied_27 (fun k2 hk2 => is_true W0 true w h a none g2 F hJ hgF k2 hk2) ?_ rfl rfl ?_ ?_
      · (first | (simp [MH, MB, MT, MV, MV.MVs, MC.MCs, MC, renC.renCs, renC, up]; done) | (simp [MH, MB, MT, MV, MV.MVs, MC.MCs, MC, renC.renCs, renC, up]; omega) | (simp [MH, MB, MT, MV, MV.MVs, MC.MCs, MC, renC.renCs, renC, up] <;> omega))
      · simp [MV, MV.MVs, MC]
      cbv
      repeat' (first | (refine m_cond_t hX (by first | rfl | assumption | (subst hX; rfl)) ?_; cbv) | (refine m_cond_f hX (by first | rfl | assumption | (subst hX; rfl)) ?_; cbv) | fail)
      have h00 : CellI w h a 0 0 0 := ⟨hJ, by omega, by have := hP.w1; omega, by omega, by have := hP.h1; omega, by omega⟩
      refine ⟨by subst hX; show (0 : Int) ≤ 0 ∧ (0 : Int) < (a : Nat); omega, by subst hX; show 0 + (0 : Int).toNat < a; simp; omega, ?_⟩
      obtain ⟨g3, hg3⟩ : ∃ g3 : Nat → Int, ∀ j, g3 j = if j = 0 then X.bin .add .i64 (F (X.nadd 0 (X.toN 0))) 1 else g2 j := ⟨_, fun _ => rfl⟩
      refine m_callf hX [4, 5] bodied_33 (fun k2 hk2 => Set_in W0 w h a 0 0 (X.bin .add .i64 (F (X.nadd 0 (X.toN 0))) 1) 0 g2 g3 h00 (fun j _ => hg3 j) k2 hk2) ?_ rfl rfl ?_ ?_
      · (first | (simp [MH, MB, MT, MV, MV.MVs, MC.MCs, MC, renC.renCs, renC, up]; done) | (simp [MH, MB, MT, MV, MV.MVs, MC.MCs, MC, renC.renCs, renC, up]; omega) | (simp [MH, MB, MT, MV, MV.MVs, MC.MCs, MC, renC.renCs, renC, up] <;> omega))
      · simp [MV, MV.MVs, MC]
      cbv
      refine m_callf hX [2, 3, 6] bodied_27 (fun k2 hk2 => is_true W0 true c r N none G G hI (fun _ _ => rfl) k2 hk2) ?_ rfl rfl ?_ ?_
      · (first | (simp [MH, MB, MT, MV, MV.MVs, MC.MCs, MC, renC.renCs, renC, up]; done) | (simp [MH, MB, MT, MV, MV.MVs, MC.MCs, MC, renC.renCs, renC, up]; omega) | (simp [MH, MB, MT, MV, MV.MVs, MC.MCs, MC, renC.renCs, renC, up] <;> omega))
      · simp [MV, MV.MVs, MC]
      cbv
      refine ⟨_, _, [some 0], ?_, rfl, rfl, ?_, hk⟩
      · simp [MH, MB, MC.MCs, MC, renC.renCs, renC, up]
      · simp [MV, MC]
theorem GridParts_c (W0 : World) (rw : Bool) (c r : Int) (n : Nat) (cap : Option Nat) (px py pn : Nat → Int) (x y w h : Int) (k : V → Heap → Prop) (hk : k (.one (.bool true)) [puts rw n px py pn]) : ACall Try.prog W0 7 [.one (.int .i64 c), .one (.int .i64 r), .one (.sl 0 0 n cap), .agg [.int .i64 x, .int .i64 y, .int .i64 w, .int .i64 h]] [puts rw n px py pn] k := by
  by_cases hs : SmallI c r n
  · by_cases hp : insideP c r x y w h
    · obtain ⟨N, hI⟩ := GI.mk' (c := c) (r := r) ⟨⟨hs.c1, by have := hs.c2; omega⟩, hs.r1, by have := hs.r2; omega⟩
      obtain ⟨M, hM⟩ := hp.part hI
      exact GridParts_in W0 rw c r n N M cap px py pn x y w h hs hM k hk
    · exact GridParts_out W0 rw c r n cap px py pn x y w h hs hp k hk
  ·
    refine m_body tab_ok (fn := Try.f7) (by kernel_rfl) rfl ?_
    intro X hX
    cbv
    refine m_callf hX [] bodied_22 (fun k2 hk2 => GAlive_c W0 k2 hk2) ?_ rfl rfl ?_ ?_
    · (first | (simp [MH, MB, MT, MV, MV.MVs, MC.MCs, MC, renC.renCs, renC, up]; done) | (simp [MH, MB, MT, MV, MV.MVs, MC.MCs, MC, renC.renCs, renC, up]; omega) | (simp [MH, MB, MT, MV, MV.MVs, MC.MCs, MC, renC.renCs, renC, up] <;> omega))
    · simp [MV, MV.MVs, MC]
    cbv
    repeat' (first | (refine m_cond_t hX (by first | rfl | assumption | (subst hX; rfl)) ?_; cbv) | (refine m_cond_f hX (by first | rfl | assumption | (subst hX; rfl)) ?_; cbv) | fail)
    refine m_callq hX [0] bodied_23 (fun k2 hk2 => small_c W0 rw c r n cap px py pn k2 hk2) ?_ rfl rfl ?_ ?_
    · (first | (simp [MH, MB, MT, MV, MV.MVs, MC.MCs, MC, renC.renCs, renC, up]; done) | (simp [MH, MB, MT, MV, MV.MVs, MC.MCs, MC, renC.renCs, renC, up]; omega) | (simp [MH, MB, MT, MV, MV.MVs, MC.MCs, MC, renC.renCs, renC, up] <;> omega))
    · simp [MV, MV.MVs, MC]
    intro b hb
    cbv
    obtain rfl : b = false := by
      cases b with
      | false => rfl
      | true => exact absurd (hb.1 rfl) hs
    repeat' (first | (refine m_cond_t hX (by first | rfl | assumption | (subst hX; rfl)) ?_; cbv) | (refine m_cond_f hX (by first | rfl | assumption | (subst hX; rfl)) ?_; cbv) | fail)
    refine ⟨_, _, [some 0], ?_, rfl, rfl, ?_, hk⟩
    · simp [MH, MB, MC.MCs, MC, renC.renCs, renC, up]
    · simp [MV, MC]
end Go.Proofs.Ytnfoibgafmeenaa.AM
