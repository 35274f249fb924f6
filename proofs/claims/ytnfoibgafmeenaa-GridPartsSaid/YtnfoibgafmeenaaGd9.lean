/- GridMirrors: what the law comes to, as a contract on the abstract machine. No condition but that what it reads is there. -/
import Derived.Test.YtnfoibgafmeenaaGd7
namespace Go.Proofs.Ytnfoibgafmeenaa.AM
open Go Go.RowKit
set_option cbv.warning false
set_option maxRecDepth 100000
set_option linter.unusedVariables false
set_option linter.unusedSimpArgs false
theorem bodied_32 : Bodied Try.prog 32 := ⟨Try.f32, by kernel_rfl, by kernel_rfl, by kernel_rfl⟩
theorem Cols_nil (W0 : World) (k : V → Heap → Prop) (hk : k (.one (.int .i64 0)) []) : ACall Try.prog W0 35 [.one .nilp] [] k := by
  refine m_body tab_ok (fn := Try.f35) (by kernel_rfl) rfl ?_
  intro X hX
  cbv
  repeat' (first | (refine m_cond_t hX (by first | rfl | assumption | (subst hX; rfl)) ?_; cbv) | (refine m_cond_f hX (by first | rfl | assumption | (subst hX; rfl)) ?_; cbv) | fail)
  refine ⟨_, _, [], ?_, rfl, rfl, ?_, hk⟩
  · trivial
  · simp [MV, MC]
theorem cell_nil (W0 : World) (x y : Int) (k : V → Heap → Prop) (hk : k (.one .nilp) []) : ACall Try.prog W0 54 [.one .nilp, .one (.int .i64 x), .one (.int .i64 y)] [] k := by
  refine m_body tab_ok (fn := Try.f54) (by kernel_rfl) rfl ?_
  intro X hX
  cbv
  refine m_call hX bodied_35 (Cols_nil W0 _ ?_)
  cbv
  refine m_callq hX [] bodied_50 (fun k2 hk2 => In50 W0 x 0 (X.bin .sub .i64 0 1) k2 hk2) ?_ rfl rfl ?_ ?_
  · (first | (simp [MH, MB, MT, MV, MV.MVs, MC.MCs, MC, renC.renCs, renC, up]; done) | (simp [MH, MB, MT, MV, MV.MVs, MC.MCs, MC, renC.renCs, renC, up]; omega) | (simp [MH, MB, MT, MV, MV.MVs, MC.MCs, MC, renC.renCs, renC, up] <;> omega))
  · simp [MV, MV.MVs, MC]
  intro b hb
  cbv
  have hb1 : b = false := by
    cases b with
    | false => rfl
    | true =>
      have h := hb.1 rfl
      have e : X.bin .sub .i64 0 1 = -1 := by subst hX; rfl
      rw [e] at h
      omega
  subst hb1
  repeat' (first | (refine m_cond_t hX (by first | rfl | assumption | (subst hX; rfl)) ?_; cbv) | (refine m_cond_f hX (by first | rfl | assumption | (subst hX; rfl)) ?_; cbv) | fail)
  refine ⟨_, _, [], ?_, rfl, rfl, ?_, hk⟩
  · trivial
  · simp [MV, MC]
theorem Set_nil (W0 : World) (x y v : Int) (k : V → Heap → Prop) (hk : k (.one (.bool false)) []) : ACall Try.prog W0 33 [.one .nilp, .one (.int .i64 x), .one (.int .i64 y), .one (.int .i64 v)] [] k := by
  refine m_body tab_ok (fn := Try.f33) (by kernel_rfl) rfl ?_
  intro X hX
  cbv
  refine m_call hX bodied_54 (cell_nil W0 x y _ ?_)
  cbv
  repeat' (first | (refine m_cond_t hX (by first | rfl | assumption | (subst hX; rfl)) ?_; cbv) | (refine m_cond_f hX (by first | rfl | assumption | (subst hX; rfl)) ?_; cbv) | fail)
  refine ⟨_, _, [], ?_, rfl, rfl, ?_, hk⟩
  · trivial
  · simp [MV, MC]
theorem Part_nil (W0 : World) (x y w h : Int) (k : V → Heap → Prop) (hk : k (.one .nilp) []) : ACall Try.prog W0 32 [.one .nilp, .one (.int .i64 x), .one (.int .i64 y), .one (.int .i64 w), .one (.int .i64 h)] [] k := by
  refine m_body tab_ok (fn := Try.f32) (by kernel_rfl) rfl ?_
  intro X hX
  cbv
  refine m_drawAs hX ([.one .nilp] ++ List.replicate 38 (.one .undef) ++ [.one (.bool true)] ++ List.replicate 26 (.one .undef)) [some (.box 36 [.nilp]), some (.box 3 [.int .i64 x]), some (.box 3 [.int .i64 y])] ?_ ?_
  ·
    refine m_drawT tab_ok hX [] [3,7,10,11,18,21,22] (.one 0 1 (.one 1 1 (.one 2 1 (.one 3 3 (.one 4 0 (.one 5 0 (.one 6 0 (.two 7 3 (.one 8 0 (.one 9 0 (.two 10 3 (.one 11 3 (.one 12 0 (.one 13 2 (.one 14 0 (.one 15 0 (.one 16 0 (.one 17 0 (.two 18 3 (.one 19 0 (.one 20 0 (.two 21 3 (.one 22 3 (.one 23 0 (.one 24 2 (.one 25 0 (.one 26 0 .fin))))) 22 3 (.one 21 3 (.one 23 0 (.one 24 2 (.one 25 0 (.one 26 0 .fin)))))))) 22 3 (.one 18 3 (.one 19 0 (.one 20 0 (.one 21 3 (.one 23 0 (.one 24 2 (.one 25 0 (.one 26 0 .fin)))))))))))))))) 11 3 (.one 10 3 (.one 12 0 (.one 13 2 (.one 14 0 (.one 15 0 (.one 16 0 (.one 17 0 (.two 18 3 (.one 19 0 (.one 20 0 (.two 21 3 (.one 22 3 (.one 23 0 (.one 24 2 (.one 25 0 (.one 26 0 .fin))))) 22 3 (.one 21 3 (.one 23 0 (.one 24 2 (.one 25 0 (.one 26 0 .fin)))))))) 22 3 (.one 18 3 (.one 19 0 (.one 20 0 (.one 21 3 (.one 23 0 (.one 24 2 (.one 25 0 (.one 26 0 .fin))))))))))))))))))) 11 3 (.one 7 3 (.one 8 0 (.one 9 0 (.one 10 3 (.one 12 0 (.one 13 2 (.one 14 0 (.one 15 0 (.one 16 0 (.one 17 0 (.two 18 3 (.one 19 0 (.one 20 0 (.two 21 3 (.one 22 3 (.one 23 0 (.one 24 2 (.one 25 0 (.one 26 0 .fin))))) 22 3 (.one 21 3 (.one 23 0 (.one 24 2 (.one 25 0 (.one 26 0 .fin)))))))) 22 3 (.one 18 3 (.one 19 0 (.one 20 0 (.one 21 3 (.one 23 0 (.one 24 2 (.one 25 0 (.one 26 0 .fin))))))))))))))))))))))))))) (by kernel_rfl) (by simp) ?_
    cbv
    refine m_callf hX [] bodied_54 (fun k2 hk2 => cell_nil W0 x y k2 hk2) ?_ rfl rfl ?_ ?_
    · (first | (simp [MH, MB, MT, MV, MV.MVs, MC.MCs, MC, renC.renCs, renC, up]; done) | (simp [MH, MB, MT, MV, MV.MVs, MC.MCs, MC, renC.renCs, renC, up]; omega) | (simp [MH, MB, MT, MV, MV.MVs, MC.MCs, MC, renC.renCs, renC, up] <;> omega))
    · simp [MV, MV.MVs, MC]
    cbv
    repeat' (first | (refine m_cond_t hX (by first | rfl | assumption | (subst hX; rfl)) ?_; cbv) | (refine m_cond_f hX (by first | rfl | assumption | (subst hX; rfl)) ?_; cbv) | (refine And.intro ?_ ?_) | fail)
    all_goals
      refine ⟨[some 0, some 1, some 2], ?_, rfl, rfl, ?_⟩
      · simp [MH, MB, MC.MCs, MC, renC.renCs, renC, up]
      · simp [MT, MV.MVs, MV, MC]
        try (subst hX; rfl)
  cbv
  repeat' (first | (refine m_cond_t hX (by first | rfl | assumption | (subst hX; rfl)) ?_; cbv) | (refine m_cond_f hX (by first | rfl | assumption | (subst hX; rfl)) ?_; cbv) | fail)
  refine ⟨_, _, [], ?_, rfl, rfl, ?_, hk⟩
  · simp [MH]
  · simp [MV, MC]
theorem mir_lt {c r : Int} {N : Nat} (h : GI c r N) (rt : Bool) {a : Nat} (ha : a < N) : mir c r rt a < N := (mir_mir h rt ha).2
structure WantI (N : Nat) (a : Nat) (i : Int) : Prop where
  h1 : a ≤ N
  h2 : i = (a : Int)
theorem GridMirrors_c (W0 : World) (rw : Bool) (c r : Int) (n : Nat) (cap : Option Nat) (px py pn : Nat → Int) (rt : Bool) (k : V → Heap → Prop) (hk : k (.one (.bool true)) [puts rw n px py pn]) : ACall Try.prog W0 8 [.one (.int .i64 c), .one (.int .i64 r), .one (.sl 0 0 n cap), .one (.bool rt)] [puts rw n px py pn] k := by
  refine m_body tab_ok (fn := Try.f8) (by kernel_rfl) rfl ?_
  intro X hX
  cbv
  refine m_callf hX [] bodied_22 (fun k2 hk2 => GAlive_c W0 k2 hk2) ?_ rfl rfl ?_ ?_
  · (first | (simp [MH, MB, MT, MV, MV.MVs, MC.MCs, MC, renC.renCs, renC, up]; done) | (simp [MH, MB, MT, MV, MV.MVs, MC.MCs, MC, renC.renCs, renC, up]; omega) | (simp [MH, MB, MT, MV, MV.MVs, MC.MCs, MC, renC.renCs, renC, up] <;> omega))
  · simp [MV, MV.MVs, MC]
  cbv
  repeat' (first | (refine m_cond_t hX (by first | rfl | assumption | (subst hX; rfl)) ?_; cbv) | (refine m_cond_f hX (by first | rfl | assumption | (subst hX; rfl)) ?_; cbv) | fail)
  refine m_callq hX [0] bodied_23 (fun k2 hk2 => small_c W0 rw c r n cap px py pn k2 hk2) ?_ rfl rfl ?_ ?_
  · (first | (simp [MH, MB, MT, MV, MV.MVs, MC.MCs, MC, renC.renCs, renC, up]; done) | (simp [MH, MB, MT, MV, MV.MVs, MC.MCs, MC, renC.renCs, renC, up]; omega) | (simp [MH, MB, MT, MV, MV.MVs, MC.MCs, MC, renC.renCs, renC, up] <;> omega))
  · simp [MV, MV.MVs, MC]
  intro b hb
  cbv
  cases b with
  | false =>
    repeat' (first | (refine m_cond_t hX (by first | rfl | assumption | (subst hX; rfl)) ?_; cbv) | (refine m_cond_f hX (by first | rfl | assumption | (subst hX; rfl)) ?_; cbv) | fail)
    refine ⟨_, _, [some 0], ?_, rfl, rfl, ?_, hk⟩
    · simp [MH, MB, MC.MCs, MC, renC.renCs, renC, up]
    · simp [MV, MC]
  | true =>
    have hs := hb.1 rfl
    obtain ⟨N, hI⟩ := GI.mk' (c := c) (r := r) ⟨⟨hs.c1, by have := hs.c2; omega⟩, hs.r1, by have := hs.r2; omega⟩
    obtain ⟨G, hG⟩ : ∃ G : Nat → Int, ∀ j, G j = layF c r px py pn n j := ⟨_, fun _ => rfl⟩
    obtain ⟨F, hF⟩ : ∃ F : Nat → Int, ∀ j, F j = G (mir c r rt j) := ⟨_, fun _ => rfl⟩
    have hbd := hI.bound
    have hmul := mulw hI hX
    repeat' (first | (refine m_cond_t hX (by first | rfl | assumption | (subst hX; rfl)) ?_; cbv) | (refine m_cond_f hX (by first | rfl | assumption | (subst hX; rfl)) ?_; cbv) | fail)
    refine m_callf hX [0] bodied_26 (fun k2 hk2 => laid_c W0 rw c r N n cap px py pn G hI hs.hn (fun j _ => hG j) k2 hk2) ?_ rfl rfl ?_ ?_
    · (first | (simp [MH, MB, MT, MV, MV.MVs, MC.MCs, MC, renC.renCs, renC, up]; done) | (simp [MH, MB, MT, MV, MV.MVs, MC.MCs, MC, renC.renCs, renC, up]; omega) | (simp [MH, MB, MT, MV, MV.MVs, MC.MCs, MC, renC.renCs, renC, up] <;> omega))
    · simp [MV, MV.MVs, MC]
    cbv
    repeat' (first | (refine m_cond_t hX (by first | rfl | assumption | (subst hX; rfl)) ?_; cbv) | (refine m_cond_f hX (by first | rfl | assumption | (subst hX; rfl)) ?_; cbv) | fail)
    refine m_callf hX [0] bodied_28 (fun k2 hk2 => cells_c W0 rw c r N n cap px py pn G hI hs.hn (fun j _ => hG j) k2 hk2) ?_ rfl rfl ?_ ?_
    · (first | (simp [MH, MB, MT, MV, MV.MVs, MC.MCs, MC, renC.renCs, renC, up]; done) | (simp [MH, MB, MT, MV, MV.MVs, MC.MCs, MC, renC.renCs, renC, up]; omega) | (simp [MH, MB, MT, MV, MV.MVs, MC.MCs, MC, renC.renCs, renC, up] <;> omega))
    · simp [MV, MV.MVs, MC]
    cbv
    refine m_loop tab_ok hX (fun b : Nat × Int => WantI N b.1 b.2) (fun b => ([.one (.int .i64 c), .one (.int .i64 r), .one (.sl 0 0 n cap), .one (.bool rt)] ++ List.replicate 5 (.one .undef) ++ [.one (.ptr 1 0 0), .one .undef, .one (.sl 3 0 N none), .one (.sl 4 0 b.1 none), .one (.int .i64 b.2)] ++ List.replicate 94 (.one .undef), [puts rw n px py pn, grid c r 2 N, ints true N G, ints true N G, ints true b.1 F])) (fun b => N - b.1) ?_ ?_
    · refine ⟨⟨0, 0⟩, ⟨by omega, rfl⟩, [some 0, some 1, some 2, some 3, none], ?_, rfl, rfl, ?_⟩
      · simp [MH, MB, MC.MCs, MC, renC.renCs, renC, up]
      · simp [MT, MV.MVs, MV, MC, renC, renV, up]
    · rintro ⟨a, i⟩ hb
      replace hb : WantI N a i := hb
      cbv
      refine m_cond hX (fun h => ?_) (fun h => ?_) <;> cbv
      · have hh : (0 ≤ i ∧ i < N) ∧ i.toNat = a ∧ a < N := by
          obtain ⟨g1, g2⟩ := hb
          have : i < N := by
            have h : X.cmp .lss i (X.bin .mul .i64 c r) = true := h
            rw [hmul] at h
            subst hX; simpa [std, cmpS] using h
          omega
        obtain ⟨hh1, hh2, hh3⟩ := hh
        have hcz : X.nz c := by subst hX; have := hI.c1; show c ≠ 0; omega
        have hC := hI.at hh3 hX hb.h2
        refine m_gen (A := X.draw _ _ _) fun K1 hK1 => ?_
        refine m_drawT tab_ok hX [] [] (.one 0 0 (.one 1 0 (.one 2 0 (.one 3 0 (.one 4 0 (.one 5 0 (.one 6 0 (.one 7 0 .fin)))))))) (by kernel_rfl) (by simp) ?_
        cbv
        refine ⟨hcz, hcz, ?_⟩
        refine hK1 _ _ ?_
        cbv
        refine m_cond hX (fun hrt => ?_) (fun hrt => ?_) <;> cbv
        · have e2 : X.bin .sub .i64 (X.bin .sub .i64 c 1) (X.bin .rem .i64 i c) = c - 1 - X.bin .rem .i64 i c := by
            have w1 := hC.x1
            have w2 := hC.x2
            have w3 := hI.c1
            have w4 := hI.c2
            clear hC
            generalize X.bin .rem .i64 i c = z at *
            subst hX
            show IntKind.i64.wrap (IntKind.i64.wrap (c - 1) - z) = c - 1 - z
            rw [wrap_eq (x := c - 1) (by omega) (by omega), wrap_eq (by omega) (by omega)]
          have hM : CellI c r N (X.bin .sub .i64 (X.bin .sub .i64 c 1) (X.bin .rem .i64 i c)) (X.bin .quo .i64 i c) (mir c r rt a) := by rw [e2, hrt]; exact hC.mirT
          have hlq := hM.lt
          have hqr : (X.bin .add .i64 (X.bin .mul .i64 (X.bin .quo .i64 i c) c) (X.bin .sub .i64 (X.bin .sub .i64 c 1) (X.bin .rem .i64 i c))) = (mir c r rt a : Nat) := by
            have := hM.run
            subst hX
            exact this
          have hq2 : X.nadd 0 (X.toN (X.bin .add .i64 (X.bin .mul .i64 (X.bin .quo .i64 i c) c) (X.bin .sub .i64 (X.bin .sub .i64 c 1) (X.bin .rem .i64 i c)))) = mir c r rt a := by rw [hqr]; subst hX; show 0 + ((mir c r rt a : Nat) : Int).toNat = _; omega
          refine ⟨by show X.inb (X.bin .add .i64 (X.bin .mul .i64 (X.bin .quo .i64 i c) c) (X.bin .sub .i64 (X.bin .sub .i64 c 1) (X.bin .rem .i64 i c))) N; rw [hqr]; subst hX; exact ⟨by omega, by omega⟩, ?_⟩
          refine ⟨by show X.nlt (X.nadd 0 (X.toN (X.bin .add .i64 (X.bin .mul .i64 (X.bin .quo .i64 i c) c) (X.bin .sub .i64 (X.bin .sub .i64 c 1) (X.bin .rem .i64 i c))))) N; rw [hq2]; subst hX; exact hlq, ?_⟩
          refine m_append tab_ok hX (a + 1) (fun q => [.int .i64 (F q)]) rfl rfl rfl rfl rfl rfl (by decide) rfl rfl rfl ?_ ?_
          · refine ⟨by omega, by omega, by omega, by show (a + 1) * 8 ≤ _; omega, by omega, fun q hq => ?_, fun q hq => by simp only [Nat.zero_add], fun q hq => ?_⟩
            · obtain rfl : q = 0 := by omega
              rfl
            · obtain rfl : q = 0 := by omega
              show [C.int IntKind.i64 (F a)] = [C.int IntKind.i64 (G (X.nadd 0 (X.toN (X.bin .add .i64 (X.bin .mul .i64 (X.bin .quo .i64 i c) c) (X.bin .sub .i64 (X.bin .sub .i64 c 1) (X.bin .rem .i64 i c))))))]
              rw [hq2, hF a]
          cbv
          refine ⟨⟨a + 1, i + 1⟩, ⟨by omega, by have := hb.h2; omega⟩, by show N - (a + 1) < N - a; omega, [some 0, some 1, some 2, some 3, some 6], ?_, rfl, rfl, ?_⟩
          · simp [MH, MB, MC.MCs, MC, renC.renCs, renC, up]
          · have g2 := hb.h2
            subst hX
            simp [MT, MV.MVs, MV, MC, std, binS]
            exact (wrap_eq (by omega) (by omega)).symm
        · have e2 : X.bin .sub .i64 (X.bin .sub .i64 r 1) (X.bin .quo .i64 i c) = r - 1 - X.bin .quo .i64 i c := by
            have w1 := hC.y1
            have w2 := hC.y2
            have w3 := hI.r1
            have w4 := hI.r2
            clear hC
            generalize X.bin .quo .i64 i c = z at *
            subst hX
            show IntKind.i64.wrap (IntKind.i64.wrap (r - 1) - z) = r - 1 - z
            rw [wrap_eq (x := r - 1) (by omega) (by omega), wrap_eq (by omega) (by omega)]
          have hM : CellI c r N (X.bin .rem .i64 i c) (X.bin .sub .i64 (X.bin .sub .i64 r 1) (X.bin .quo .i64 i c)) (mir c r rt a) := by rw [e2, hrt]; exact hC.mirF
          have hlq := hM.lt
          have hqr : (X.bin .add .i64 (X.bin .mul .i64 (X.bin .sub .i64 (X.bin .sub .i64 r 1) (X.bin .quo .i64 i c)) c) (X.bin .rem .i64 i c)) = (mir c r rt a : Nat) := by
            have := hM.run
            subst hX
            exact this
          have hq2 : X.nadd 0 (X.toN (X.bin .add .i64 (X.bin .mul .i64 (X.bin .sub .i64 (X.bin .sub .i64 r 1) (X.bin .quo .i64 i c)) c) (X.bin .rem .i64 i c))) = mir c r rt a := by rw [hqr]; subst hX; show 0 + ((mir c r rt a : Nat) : Int).toNat = _; omega
          refine ⟨by show X.inb (X.bin .add .i64 (X.bin .mul .i64 (X.bin .sub .i64 (X.bin .sub .i64 r 1) (X.bin .quo .i64 i c)) c) (X.bin .rem .i64 i c)) N; rw [hqr]; subst hX; exact ⟨by omega, by omega⟩, ?_⟩
          refine ⟨by show X.nlt (X.nadd 0 (X.toN (X.bin .add .i64 (X.bin .mul .i64 (X.bin .sub .i64 (X.bin .sub .i64 r 1) (X.bin .quo .i64 i c)) c) (X.bin .rem .i64 i c)))) N; rw [hq2]; subst hX; exact hlq, ?_⟩
          refine m_append tab_ok hX (a + 1) (fun q => [.int .i64 (F q)]) rfl rfl rfl rfl rfl rfl (by decide) rfl rfl rfl ?_ ?_
          · refine ⟨by omega, by omega, by omega, by show (a + 1) * 8 ≤ _; omega, by omega, fun q hq => ?_, fun q hq => by simp only [Nat.zero_add], fun q hq => ?_⟩
            · obtain rfl : q = 0 := by omega
              rfl
            · obtain rfl : q = 0 := by omega
              show [C.int IntKind.i64 (F a)] = [C.int IntKind.i64 (G (X.nadd 0 (X.toN (X.bin .add .i64 (X.bin .mul .i64 (X.bin .sub .i64 (X.bin .sub .i64 r 1) (X.bin .quo .i64 i c)) c) (X.bin .rem .i64 i c)))))]
              rw [hq2, hF a]
          cbv
          refine ⟨⟨a + 1, i + 1⟩, ⟨by omega, by have := hb.h2; omega⟩, by show N - (a + 1) < N - a; omega, [some 0, some 1, some 2, some 3, some 6], ?_, rfl, rfl, ?_⟩
          · simp [MH, MB, MC.MCs, MC, renC.renCs, renC, up]
          · have g2 := hb.h2
            subst hX
            simp [MT, MV.MVs, MV, MC, std, binS]
            exact (wrap_eq (by omega) (by omega)).symm
      · have hm : a = N := by
          obtain ⟨g1, g2⟩ := hb
          have h : X.cmp .lss i (X.bin .mul .i64 c r) = false := h
          rw [hmul] at h
          have : ¬ i < N := by subst hX; simpa [std, cmpS] using h
          omega
        subst hm
        refine m_callq hX [1, 2] bodied_34 (fun k2 hk2 => Mirror_c W0 c r a rt G hI k2 hk2) ?_ rfl rfl ?_ ?_
        · (first | (simp [MH, MB, MT, MV, MV.MVs, MC.MCs, MC, renC.renCs, renC, up]; done) | (simp [MH, MB, MT, MV, MV.MVs, MC.MCs, MC, renC.renCs, renC, up]; omega) | (simp [MH, MB, MT, MV, MV.MVs, MC.MCs, MC, renC.renCs, renC, up] <;> omega))
        · simp [MV, MV.MVs, MC]
        intro g1 hg1
        cbv
        have hg1F : ∀ j, j < a → g1 j = F j := fun j hj => by
          obtain ⟨m1, m2⟩ := mir_mir hI rt hj
          have := hg1 _ m2
          rw [m1] at this
          rw [this, hF]
        refine m_callf hX [5, 6, 4] bodied_27 (fun k2 hk2 => is_true W0 true c r a none g1 F hI hg1F k2 hk2) ?_ rfl rfl ?_ ?_
        · (first | (simp [MH, MB, MT, MV, MV.MVs, MC.MCs, MC, renC.renCs, renC, up]; done) | (simp [MH, MB, MT, MV, MV.MVs, MC.MCs, MC, renC.renCs, renC, up]; omega) | (simp [MH, MB, MT, MV, MV.MVs, MC.MCs, MC, renC.renCs, renC, up] <;> omega))
        · simp [MV, MV.MVs, MC]
        cbv
        repeat' (first | (refine m_cond_t hX (by first | rfl | assumption | (subst hX; rfl)) ?_; cbv) | (refine m_cond_f hX (by first | rfl | assumption | (subst hX; rfl)) ?_; cbv) | fail)
        refine m_callq hX [1, 2] bodied_34 (fun k2 hk2 => Mirror_c W0 c r a rt G hI k2 hk2) ?_ rfl rfl ?_ ?_
        · (first | (simp [MH, MB, MT, MV, MV.MVs, MC.MCs, MC, renC.renCs, renC, up]; done) | (simp [MH, MB, MT, MV, MV.MVs, MC.MCs, MC, renC.renCs, renC, up]; omega) | (simp [MH, MB, MT, MV, MV.MVs, MC.MCs, MC, renC.renCs, renC, up] <;> omega))
        · simp [MV, MV.MVs, MC]
        intro g2 hg2
        cbv
        repeat' (first | (refine m_cond_t hX (by first | rfl | assumption | (subst hX; rfl)) ?_; cbv) | (refine m_cond_f hX (by first | rfl | assumption | (subst hX; rfl)) ?_; cbv) | fail)
        refine m_callq hX [7, 8] bodied_34 (fun k2 hk2 => Mirror_c W0 c r a rt g2 hI k2 hk2) ?_ rfl rfl ?_ ?_
        · (first | (simp [MH, MB, MT, MV, MV.MVs, MC.MCs, MC, renC.renCs, renC, up]; done) | (simp [MH, MB, MT, MV, MV.MVs, MC.MCs, MC, renC.renCs, renC, up]; omega) | (simp [MH, MB, MT, MV, MV.MVs, MC.MCs, MC, renC.renCs, renC, up] <;> omega))
        · simp [MV, MV.MVs, MC]
        intro g3 hg3
        cbv
        repeat' (first | (refine m_cond_t hX (by first | rfl | assumption | (subst hX; rfl)) ?_; cbv) | (refine m_cond_f hX (by first | rfl | assumption | (subst hX; rfl)) ?_; cbv) | fail)
        have hg3G : ∀ j, j < a → g3 j = G j := fun j hj => by
          obtain ⟨m1, m2⟩ := mir_mir hI rt hj
          have h3 := hg3 _ m2
          rw [m1] at h3
          rw [h3, hg2 j hj]
        refine m_callf hX [9, 10, 3] bodied_27 (fun k2 hk2 => is_true W0 true c r a none g3 G hI hg3G k2 hk2) ?_ rfl rfl ?_ ?_
        · (first | (simp [MH, MB, MT, MV, MV.MVs, MC.MCs, MC, renC.renCs, renC, up]; done) | (simp [MH, MB, MT, MV, MV.MVs, MC.MCs, MC, renC.renCs, renC, up]; omega) | (simp [MH, MB, MT, MV, MV.MVs, MC.MCs, MC, renC.renCs, renC, up] <;> omega))
        · simp [MV, MV.MVs, MC]
        cbv
        repeat' (first | (refine m_cond_t hX (by first | rfl | assumption | (subst hX; rfl)) ?_; cbv) | (refine m_cond_f hX (by first | rfl | assumption | (subst hX; rfl)) ?_; cbv) | fail)
        refine m_callf hX [] bodied_34 (fun k2 hk2 => Mirror_nil W0 true k2 hk2) ?_ rfl rfl ?_ ?_
        · (first | (simp [MH, MB, MT, MV, MV.MVs, MC.MCs, MC, renC.renCs, renC, up]; done) | (simp [MH, MB, MT, MV, MV.MVs, MC.MCs, MC, renC.renCs, renC, up]; omega) | (simp [MH, MB, MT, MV, MV.MVs, MC.MCs, MC, renC.renCs, renC, up] <;> omega))
        · simp [MV, MV.MVs, MC]
        cbv
        repeat' (first | (refine m_cond_t hX (by first | rfl | assumption | (subst hX; rfl)) ?_; cbv) | (refine m_cond_f hX (by first | rfl | assumption | (subst hX; rfl)) ?_; cbv) | fail)
        refine m_callf hX [] bodied_32 (fun k2 hk2 => Part_nil W0 0 0 1 1 k2 hk2) ?_ rfl rfl ?_ ?_
        · (first | (simp [MH, MB, MT, MV, MV.MVs, MC.MCs, MC, renC.renCs, renC, up]; done) | (simp [MH, MB, MT, MV, MV.MVs, MC.MCs, MC, renC.renCs, renC, up]; omega) | (simp [MH, MB, MT, MV, MV.MVs, MC.MCs, MC, renC.renCs, renC, up] <;> omega))
        · simp [MV, MV.MVs, MC]
        cbv
        repeat' (first | (refine m_cond_t hX (by first | rfl | assumption | (subst hX; rfl)) ?_; cbv) | (refine m_cond_f hX (by first | rfl | assumption | (subst hX; rfl)) ?_; cbv) | fail)
        refine m_callf hX [] bodied_35 (fun k2 hk2 => Cols_nil W0 k2 hk2) ?_ rfl rfl ?_ ?_
        · (first | (simp [MH, MB, MT, MV, MV.MVs, MC.MCs, MC, renC.renCs, renC, up]; done) | (simp [MH, MB, MT, MV, MV.MVs, MC.MCs, MC, renC.renCs, renC, up]; omega) | (simp [MH, MB, MT, MV, MV.MVs, MC.MCs, MC, renC.renCs, renC, up] <;> omega))
        · simp [MV, MV.MVs, MC]
        cbv
        repeat' (first | (refine m_cond_t hX (by first | rfl | assumption | (subst_vars; simp [std, cmpS, binS, ]; done) | fail) ?_; cbv) | (refine m_cond_f hX (by first | rfl | assumption | (subst_vars; simp [std, cmpS, binS, ]; done) | fail) ?_; cbv) | (refine And.intro (by first | rfl | assumption | (subst_vars; simp [std, cmpS, binS, ]; done) | fail) ?_) | fail)
        refine m_callf hX [] bodied_33 (fun k2 hk2 => Set_nil W0 0 0 1 k2 hk2) ?_ rfl rfl ?_ ?_
        · (first | (simp [MH, MB, MT, MV, MV.MVs, MC.MCs, MC, renC.renCs, renC, up]; done) | (simp [MH, MB, MT, MV, MV.MVs, MC.MCs, MC, renC.renCs, renC, up]; omega) | (simp [MH, MB, MT, MV, MV.MVs, MC.MCs, MC, renC.renCs, renC, up] <;> omega))
        · simp [MV, MV.MVs, MC]
        cbv
        repeat' (first | (refine m_cond_t hX (by first | rfl | assumption | (subst hX; rfl)) ?_; cbv) | (refine m_cond_f hX (by first | rfl | assumption | (subst hX; rfl)) ?_; cbv) | fail)
        refine ⟨_, _, [some 0], ?_, rfl, rfl, ?_, hk⟩
        · simp [MH, MB, MC.MCs, MC, renC.renCs, renC, up]
        · simp [MV, MC] <;> (subst hX; rfl)
end Go.Proofs.Ytnfoibgafmeenaa.AM
