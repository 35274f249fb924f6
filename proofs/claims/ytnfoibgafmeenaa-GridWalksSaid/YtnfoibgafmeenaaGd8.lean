/- GridWalks: what the law comes to, as a contract on the abstract machine. No condition but that what it reads is there. -/
import Derived.Test.YtnfoibgafmeenaaGd7
import Derived.Test.YtnfoibgafmeenaaDk10
namespace Go.Proofs.Ytnfoibgafmeenaa.AM
open Go Go.RowKit
set_option cbv.warning false
set_option maxRecDepth 100000
set_option linter.unusedVariables false
set_option linter.unusedSimpArgs false
structure U8 (m : Int) : Prop where
  h1 : 0 ≤ m
  h2 : m < 256
theorem u8_of {m : Int} (h : (Lit.int .u8 m).wf = true) : U8 m := by
  simp [Lit.wf, IntKind.min, IntKind.max, IntKind.bits, IntKind.signed] at h
  constructor <;> omega
theorem some_eq {m : Int} {N : Nat} (hm : U8 m) (hN : 1 ≤ N ∧ N ≤ 4096) {X : Ext} {P : Program} {W0 : World} {md : Md} (hX : X = std P W0 md) : X.bin .add .i64 1 (X.bin .rem .i64 (X.conv .i64 m) (X.ofN N)) = ((m.toNat % N + 1 : Nat) : Int) := by
  subst hX
  have h1 := hm.h1
  have h2 := hm.h2
  show IntKind.i64.wrap (1 + (IntKind.i64.wrap m).tmod (N : Int)) = _
  rw [wrap_eq (x := m) (by omega) (by omega), Int.tmod_eq_emod_of_nonneg h1]
  have h3 := Int.emod_nonneg m (show (N : Int) ≠ 0 by omega)
  have h4 := Int.emod_lt_of_pos m (show (0 : Int) < N by omega)
  rw [wrap_eq (by omega) (by omega)]
  have h5 : ((m.toNat % N : Nat) : Int) = m % N := by
    rw [Int.natCast_emod, Int.toNat_of_nonneg h1]
  omega
theorem GridWalks_c (W0 : World) (rw : Bool) (c r : Int) (n : Nat) (cap : Option Nat) (px py pn : Nat → Int) (m : Int) (hm : U8 m) (k : V → Heap → Prop) (hk : k (.one (.bool true)) [puts rw n px py pn]) : ACall Try.prog W0 5 [.one (.int .i64 c), .one (.int .i64 r), .one (.sl 0 0 n cap), .one (.int .u8 m)] [puts rw n px py pn] k := by
  refine m_body tab_ok (fn := Try.f5) (by kernel_rfl) rfl ?_
  intro X hX
  cbv
  refine m_callf hX [] bodied_22 (fun k2 h => GAlive_c W0 k2 h) ?_ rfl rfl ?_ ?_
  · (first | (simp [MH, MB, MT, MV, MV.MVs, MC.MCs, MC, renC.renCs, renC, up]; done) | (simp [MH, MB, MT, MV, MV.MVs, MC.MCs, MC, renC.renCs, renC, up]; omega) | (simp [MH, MB, MT, MV, MV.MVs, MC.MCs, MC, renC.renCs, renC, up] <;> omega))
  · simp [MV, MV.MVs, MC]
  cbv
  repeat' (first | (refine m_cond_t hX (by first | rfl | assumption | (subst hX; rfl)) ?_; cbv) | (refine m_cond_f hX (by first | rfl | assumption | (subst hX; rfl)) ?_; cbv) | fail)
  refine m_callq hX [0] bodied_23 (fun k2 h => small_c W0 rw c r n cap px py pn k2 h) ?_ rfl rfl ?_ ?_
  · (first | (simp [MH, MB, MT, MV, MV.MVs, MC.MCs, MC, renC.renCs, renC, up]; done) | (simp [MH, MB, MT, MV, MV.MVs, MC.MCs, MC, renC.renCs, renC, up]; omega) | (simp [MH, MB, MT, MV, MV.MVs, MC.MCs, MC, renC.renCs, renC, up] <;> omega))
  · simp [MV, MV.MVs, MC]
  intro b hb
  cbv
  cases b with
  | false =>
    repeat' (first | (refine m_cond_t hX (by first | rfl | assumption | (subst hX; rfl)) ?_; cbv) | (refine m_cond_f hX (by first | rfl | assumption | (subst hX; rfl)) ?_; cbv) | fail)
    refine ⟨_, _, [some 0], ?_, rfl, rfl, ?_, hk⟩
    · simp [MH, MB, MC.MCs, MC, renC.renCs, renC, up]
    · simp [MV, MC]
  | true =>
    have hs := hb.1 rfl
    obtain ⟨N, hI⟩ := GI.mk' (c := c) (r := r) ⟨⟨hs.c1, by have := hs.c2; omega⟩, hs.r1, by have := hs.r2; omega⟩
    obtain ⟨G, hG⟩ : ∃ G : Nat → Int, ∀ j, G j = layF c r px py pn n j := ⟨_, fun _ => rfl⟩
    have hbd := hI.bound
    obtain ⟨s, hs1, hs2⟩ : ∃ s, s = m.toNat % N + 1 ∧ (1 ≤ s ∧ s ≤ N) := ⟨_, rfl, by have := Nat.mod_lt m.toNat (show N > 0 by omega); omega⟩
    have e1 := some_eq hm hbd hX
    rw [← hs1] at e1
    have hT : X.toN (X.bin .add .i64 1 (X.bin .rem .i64 (X.conv .i64 m) (X.ofN N))) = s := by
      rw [e1]; subst hX; show (s : Int).toNat = s; omega
    have hlo : X.lohi 0 (X.bin .add .i64 1 (X.bin .rem .i64 (X.conv .i64 m) (X.ofN N))) := by
      rw [e1]; subst hX; show (0 : Int) ≤ 0 ∧ (0 : Int) ≤ (s : Int); omega
    have hle : X.le (X.bin .add .i64 1 (X.bin .rem .i64 (X.conv .i64 m) (X.ofN N))) N := by
      rw [e1]; subst hX; show (s : Int) ≤ (N : Int); omega
    have hnz : X.nz (X.ofN N) := by subst hX; show (N : Int) ≠ 0; omega
    have e2 : IsX (X.ofN N) N := ⟨by subst hX; rfl⟩
    have e3 : IsX (X.bin .add .i64 1 (X.bin .rem .i64 (X.conv .i64 m) (X.ofN N))) s := ⟨e1⟩
    clear e1
    repeat' (first | (refine m_cond_t hX (by first | rfl | assumption | (subst hX; rfl)) ?_; cbv) | (refine m_cond_f hX (by first | rfl | assumption | (subst hX; rfl)) ?_; cbv) | fail)
    refine m_callf hX [0] bodied_26 (fun k2 h => laid_c W0 rw c r N n cap px py pn G hI hs.hn (fun j _ => hG j) k2 h) ?_ rfl rfl ?_ ?_
    · (first | (simp [MH, MB, MT, MV, MV.MVs, MC.MCs, MC, renC.renCs, renC, up]; done) | (simp [MH, MB, MT, MV, MV.MVs, MC.MCs, MC, renC.renCs, renC, up]; omega) | (simp [MH, MB, MT, MV, MV.MVs, MC.MCs, MC, renC.renCs, renC, up] <;> omega))
    · simp [MV, MV.MVs, MC]
    cbv
    repeat' (first | (refine m_cond_t hX (by first | rfl | assumption | (subst hX; rfl)) ?_; cbv) | (refine m_cond_f hX (by first | rfl | assumption | (subst hX; rfl)) ?_; cbv) | fail)
    refine m_callf hX [0] bodied_28 (fun k2 h => cells_c W0 rw c r N n cap px py pn G hI hs.hn (fun j _ => hG j) k2 h) ?_ rfl rfl ?_ ?_
    · (first | (simp [MH, MB, MT, MV, MV.MVs, MC.MCs, MC, renC.renCs, renC, up]; done) | (simp [MH, MB, MT, MV, MV.MVs, MC.MCs, MC, renC.renCs, renC, up]; omega) | (simp [MH, MB, MT, MV, MV.MVs, MC.MCs, MC, renC.renCs, renC, up] <;> omega))
    · simp [MV, MV.MVs, MC]
    cbv
    refine ⟨hnz, ?_⟩
    refine m_callf hX [1, 2] bodied_29 (fun k2 h => Gwalked_c W0 c r N s (X.bin .add .i64 1 (X.bin .rem .i64 (X.conv .i64 m) (X.ofN N))) G G hI hs2 e3 (fun _ _ => rfl) k2 h) ?_ rfl rfl ?_ ?_
    · (first | (simp [MH, MB, MT, MV, MV.MVs, MC.MCs, MC, renC.renCs, renC, up]; done) | (simp [MH, MB, MT, MV, MV.MVs, MC.MCs, MC, renC.renCs, renC, up]; omega) | (simp [MH, MB, MT, MV, MV.MVs, MC.MCs, MC, renC.renCs, renC, up] <;> omega))
    · simp [MV, MV.MVs, MC]
    cbv
    refine m_callf hX [1, 2] bodied_29 (fun k2 h => Gwalked_c W0 c r N N (X.ofN N) G G hI ⟨hbd.1, Nat.le_refl _⟩ e2 (fun _ _ => rfl) k2 h) ?_ rfl rfl ?_ ?_
    · (first | (simp [MH, MB, MT, MV, MV.MVs, MC.MCs, MC, renC.renCs, renC, up]; done) | (simp [MH, MB, MT, MV, MV.MVs, MC.MCs, MC, renC.renCs, renC, up]; omega) | (simp [MH, MB, MT, MV, MV.MVs, MC.MCs, MC, renC.renCs, renC, up] <;> omega))
    · simp [MV, MV.MVs, MC]
    cbv
    repeat' (first | (refine m_cond_t hX (by first | rfl | assumption | (subst hX; rfl)) ?_; cbv) | (refine m_cond_f hX (by first | rfl | assumption | (subst hX; rfl)) ?_; cbv) | fail)
    refine ⟨hlo, hle, ?_⟩
    repeat' (first | (refine m_cond_t hX (by first | rfl | assumption | (subst hX; rfl)) ?_; cbv) | (refine m_cond_f hX (by first | rfl | assumption | (subst hX; rfl)) ?_; cbv) | fail)
    refine m_callq hX [4, 3] bodied_17 (fun k2 h => Ints_oeq W0 true true s 0 N none none G G (by omega) (by omega) k2 h) ?_ rfl rfl ?_ ?_
    · simp [MH, MB, MC.MCs, MC, renC.renCs, renC, up]
    · exact ⟨⟨rfl, rfl, rfl, .inl rfl⟩, ⟨rfl, rfl, hT.symm, .inl rfl⟩, trivial⟩
    intro b hb
    obtain rfl : b = true := hb.2 (fun q hq => by rw [Nat.zero_add])
    cbv
    repeat' (first | (refine m_cond_t hX (by first | rfl | assumption | (subst hX; rfl)) ?_; cbv) | (refine m_cond_f hX (by first | rfl | assumption | (subst hX; rfl)) ?_; cbv) | fail)
    refine m_callq hX [5, 3] bodied_17 (fun k2 h => Ints_oeq W0 true true N 0 N none none G G (by omega) (by omega) k2 h) ?_ rfl rfl ?_ ?_
    · (first | (simp [MH, MB, MT, MV, MV.MVs, MC.MCs, MC, renC.renCs, renC, up]; done) | (simp [MH, MB, MT, MV, MV.MVs, MC.MCs, MC, renC.renCs, renC, up]; omega) | (simp [MH, MB, MT, MV, MV.MVs, MC.MCs, MC, renC.renCs, renC, up] <;> omega))
    · simp [MV, MV.MVs, MC]
    intro b hb
    obtain rfl : b = true := hb.2 (fun q hq => by rw [Nat.zero_add])
    cbv
    repeat' (first | (refine m_cond_t hX (by first | rfl | assumption | (subst hX; rfl)) ?_; cbv) | (refine m_cond_f hX (by first | rfl | assumption | (subst hX; rfl)) ?_; cbv) | fail)
    refine ⟨_, _, [some 0], ?_, rfl, rfl, ?_, hk⟩
    · simp [MH, MB, MC.MCs, MC, renC.renCs, renC, up]
    · simp [MV, MC] <;> (subst hX; rfl)
end Go.Proofs.Ytnfoibgafmeenaa.AM
