/- Layers as one value; a row of layers that is reversed, as a contract on the abstract machine. No condition. -/
import Derived.Test.YtnfoibgafmeenaaFo12
namespace Go.Proofs.Ytnfoibgafmeenaa.AM
open Go Go.RowKit
set_option cbv.warning false
set_option maxRecDepth 100000
set_option linter.unusedVariables false
set_option linter.unusedSimpArgs false
theorem bodied_60 : Bodied Try.prog 60 := ⟨Try.f60, by kernel_rfl, by kernel_rfl, by kernel_rfl⟩
structure La where
  x0 : Int
  y0 : Int
  x1 : Int
  y1 : Int
  t : Int
  X : Int
  Y : Int
def lc (l : La) : List C := [.int .i64 l.x0, .int .i64 l.y0, .int .i64 l.x1, .int .i64 l.y1, .int .i64 l.t, .int .i64 l.X, .int .i64 l.Y]
def La.zero : La := ⟨0, 0, 0, 0, 0, 0, 0⟩
/-- A row of layers. -/
abbrev lays (rw : Bool) (n : Nat) (f : Nat → La) : Option B := some (.row rw 69 7 n fun q => lc (f q))
def rev7 (n a : Nat) (f : Nat → La) (q : Nat) : La := if q < a ∨ n - 1 - a < q then f (n - 1 - q) else f q
structure Rev7I (n : Nat) (f : Nat → La) (a : Nat) (i j : Int) (g : Nat → La) : Prop where
  h1 : 2 * a ≤ n
  h2 : i = a
  h3 : j = (n - 1 - a : Int)
  h4 : ∀ q, q < n → g q = rev7 n a f q
theorem lc_MC (σ : Sg) (l : La) : MC.MCs σ (lc l) (lc l) := by simp [lc, MC.MCs, MC]
theorem Reverse7_c (W0 : World) (n : Nat) (c : Option Nat) (f : Nat → La) (hn : n ≤ 17592186044416) (k : V → Heap → Prop) (hk : k (.tup []) [lays true n fun q => f (n - 1 - q)]) : ACall Try.prog W0 60 [.one (.sl 0 0 n c)] [lays true n f] k := by
  refine m_body tab_ok (fn := Try.f60) (by kernel_rfl) rfl ?_
  intro X hX
  cbv
  refine m_loop tab_ok hX (fun b : Nat × Int × Int × (Nat → La) => Rev7I n f b.1 b.2.1 b.2.2.1 b.2.2.2) (fun b => ([.one (.sl 0 0 n c), .one .undef, .one (.int .i64 b.2.1), .one (.int .i64 b.2.2.1)] ++ List.replicate 24 (.one .undef), [lays true n b.2.2.2])) (fun b => n - b.1) ?_ ?_
  · refine ⟨⟨0, 0, n - 1, f⟩, ⟨by omega, rfl, by simp, fun q hq => ?_⟩, [some 0], ?_, rfl, rfl, ?_⟩
    · simp only [rev7]
      rw [if_neg (by omega)]
    · simp [MH, MB, MC.MCs, MC, lc]
    · subst hX
      simp [MT, MV.MVs, MV, MC, std, binS]
      exact (wrap_eq (by omega) (by omega)).symm
  · rintro ⟨a, i, j, g⟩ hb
    replace hb : Rev7I n f a i j g := hb
    cbv
    refine m_cond hX (fun h => ?_) (fun h => ?_) <;> cbv
    · refine m_draw tab_ok hX [] [13, 15] [(0,0),(1,0),(2,0),(3,0),(4,0),(5,0),(6,0),(7,1),(8,0),(9,0),(10,0),(11,1),(12,0),(13,3),(14,0),(15,3)] (by kernel_rfl) (by simp) ?_
      cbv
      subst hX
      obtain ⟨h1, h2, h3, h4⟩ := hb
      have hlt : i < j := by simpa [std, cmpS] using h
      simp only [std, binS]
      have ea : i.toNat = a := by omega
      have eb : j.toNat = n - 1 - a := by omega
      simp only [show ∀ x, Nat.add 0 x = x from Nat.zero_add, ea, eb]
      refine ⟨⟨by omega, by omega⟩, by omega, ⟨by omega, by omega⟩, by omega, ⟨by omega, by omega⟩, by omega, ⟨by omega, by omega⟩, by omega, ⟨a + 1, i + 1, j - 1, rev7 n (a + 1) f⟩, ⟨by omega, by simp [h2], by simp [h3]; omega, fun _ _ => rfl⟩, by simp; omega, [some 0], ?_, rfl, rfl, ?_⟩
      · simp only [MH, MB]
        refine ⟨⟨by simp, by simp, by simp, by simp, fun q hq => ?_⟩, trivial⟩
        have e1 : ∀ (c : Prop) [Decidable c] (x y : La), (if c then splice (lc x) 0 (lc y) else lc x) = lc (if c then y else x) := by
          intro c _ x y
          split <;> rfl
        have e2 := e1 (q = a) (g q) (g (n - 1 - a))
        have e3 := e1 (q = n - 1 - a) (if q = a then g (n - 1 - a) else g q) (g a)
        have e4 : lc (rev7 n (a + 1) f q) = lc (if q = n - 1 - a then g a else if q = a then g (n - 1 - a) else g q) := by
          rw [h4 a (by omega), h4 (n - 1 - a) (by omega), h4 q hq]
          simp only [rev7]
          congr 1
          (repeat' split) <;> first | rfl | omega | (exfalso; omega) | (congr 1; omega)
        refine Eq.mp (congrArg (MC.MCs _ (lc (rev7 n (a + 1) f q))) ?_) (lc_MC _ _)
        rw [e4, ← e3, ← e2]
        rfl
      · simp [MT, MV.MVs, MV, MC]
        exact ⟨(wrap_eq (by omega) (by omega)).symm, (wrap_eq (by omega) (by omega)).symm⟩
    · obtain ⟨h1, h2, h3, h4⟩ := hb
      have hlt : ¬ i < j := by subst hX; simpa [std, cmpS] using h
      refine ⟨_, _, [some 0], ?_, rfl, rfl, ?_, hk⟩
      · simp only [MH, MB]
        refine ⟨⟨by simp, by simp, by simp, by simp, fun q hq => ?_⟩, trivial⟩
        have : f (n - 1 - q) = g q := by
          rw [h4 q hq]
          simp only [rev7]
          split
          · rfl
          · congr 1
            omega
        show MC.MCs _ (lc (f (n - 1 - q))) (lc (g q))
        rw [this]
        exact lc_MC _ _
      · simp [MV, MV.MVs]
end Go.Proofs.Ytnfoibgafmeenaa.AM
