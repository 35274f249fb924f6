/- The chapter's example; the law FoldOne's own function, as contracts on the abstract machine. No condition. -/
import Derived.Test.YtnfoibgafmeenaaFo20
namespace Go.Proofs.Ytnfoibgafmeenaa.AM
open Go Go.RowKit
set_option cbv.warning false
set_option maxRecDepth 100000
set_option linter.unusedVariables false
set_option linter.unusedSimpArgs false
theorem Tells.range (n : Nat) (f : Nat → La) : Tells n f ((List.range n).map f) := ⟨by simp, fun q hq => by rw [List.getD_eq_getElem?_getD, List.getElem?_map, List.getElem?_range hq]; rfl⟩
theorem OneG_c (W0 : World) (rw : Bool) (xs : List La) (c : Option Nat) (upr low under : Bool) (n : Int) (hx : ∀ l ∈ xs, l.Near 144115188075855872) (hlen : xs.length ≤ 1000000) (hn : Nr 144115188075855872 n) (m : Nat) (F : Nat → La) (hF : Tells m F xs) (k : V → Heap → Prop)
    (hk : ∀ b : Nat × (Nat → La), Tells b.1 b.2 (oneL upr low under n xs) → k (.one (.sl 1 0 b.1 none)) [lays rw m F, lays true b.1 b.2]) :
    ACall Try.prog W0 41 [.one (.sl 0 0 m c), .one (.bool upr), .one (.int .i64 n), .one (.bool low), .one (.bool under)] [lays rw m F] k :=
  One_c W0 rw xs m (fun q => lc (F q)) hF.n (fun q hq => by rw [hF.f q hq]) (fun _ _ => lc_MC _ _) c upr low under n hx hlen hn k fun Z hZ => hk (Z.length, fun q => Z.getD q La.zero) ⟨by rw [hZ], fun q _ => by rw [hZ]⟩
theorem RFoldG_c (W0 : World) (rw : Bool) (xs : List La) (c : Option Nat) (upr low under : Bool) (n : Int) (hx : ∀ l ∈ xs, l.Near 144115188075855872) (hlen : xs.length ≤ 1000000) (hn : Nr 144115188075855872 n) (m : Nat) (F : Nat → La) (hF : Tells m F xs) (k : V → Heap → Prop)
    (hk : ∀ b : Nat × (Nat → La), Tells b.1 b.2 (foldL upr low under n xs) → k (.one (.sl 1 0 b.1 none)) [lays rw m F, lays true b.1 b.2]) :
    ACall Try.prog W0 43 [.one (.sl 0 0 m c), .one (.bool upr), .one (.int .i64 n), .one (.bool low), .one (.bool under)] [lays rw m F] k :=
  RFold_c W0 rw xs m (fun q => lc (F q)) hF.n (fun q hq => by rw [hF.f q hq]) (fun _ _ => lc_MC _ _) c upr low under n hx hlen hn k fun Z hZ => hk (Z.length, fun q => Z.getD q La.zero) ⟨by rw [hZ], fun q _ => by rw [hZ]⟩
theorem layF_near {K : Int} {upr : Bool} {n : Int} {z : La} (h : z.Near (4 * K)) (hn : Nr K n) : (layF upr n z).Near (8 * K) := by
  have hK : 0 ≤ K := by obtain ⟨p, q⟩ := hn; omega
  obtain ⟨q1, q2⟩ := Nr.dX (fT_tu upr) h.X h.Y
  exact ⟨(then_all h.t (fT_tu upr)).1, q1.sum ((fX_nr hn).up (by omega)) (by omega), q2.sum ((fY_nr hn).up (by omega)) (by omega), h.x0.up (by omega), h.y0.up (by omega), h.x1.up (by omega), h.y1.up (by omega)⟩
theorem oneL_near {K : Int} {upr low under : Bool} {n : Int} {xs : List La} (hx : ∀ l ∈ xs, l.Near K) (hn : Nr K n) : ∀ z ∈ oneL upr low under n xs, z.Near (8 * K) := by
  have hK : 0 ≤ K := by obtain ⟨p, q⟩ := hn; omega
  have h1 : ∀ z ∈ xs.flatMap (cutL upr n), z.Near (4 * K) := fun z hz => by
    obtain ⟨l, hl, hzl⟩ := List.mem_flatMap.1 hz
    exact cutL_near (hx l hl) hn hzl
  have h2 : ∀ z ∈ rsL upr low n (xs.flatMap (cutL upr n)), z.Near (8 * K) := fun z hz => (h1 z (List.mem_filter.1 hz).1).up (by omega)
  have h3 : ∀ z ∈ (mvL upr low n (xs.flatMap (cutL upr n))).reverse, z.Near (8 * K) := fun z hz => by
    rw [List.mem_reverse] at hz
    obtain ⟨y, hy, rfl⟩ := List.mem_map.1 hz
    exact layF_near (h1 y (List.mem_filter.1 hy).1) hn
  intro z hz
  unfold oneL at hz
  split at hz <;> rcases List.mem_append.1 hz with hz | hz <;> first | exact h2 z hz | exact h3 z hz
theorem foldL_len (upr low under : Bool) (n : Int) (xs : List La) : (foldL upr low under n xs).length ≤ 2 * xs.length := by
  have h1 := List.length_filterMap_le (halfL upr n (!low)) xs
  have h2 := List.length_filterMap_le (fun l => (halfL upr n low l).map (layF upr n)) xs.reverse
  rw [List.length_reverse] at h2
  unfold foldL
  cases under <;> simp only [List.length_append, if_true, if_false, List.length_nil, Bool.false_eq_true] <;> omega
theorem Tells.all {u : Nat} {f : Nat → La} {M : List La} {p : La → Prop} (h : Tells u f M) (hp : ∀ z ∈ M, p z) : ∀ q, q < u → p (f q) := fun q hq => by
  have hn := h.n
  rw [h.f q hq, List.getD_eq_getElem?_getD, List.getElem?_eq_getElem (by omega)]
  exact hp _ (List.getElem_mem _)
def exL : La := ⟨0, 0, 4, 2, 0, 0, 0⟩
theorem ex_near : exL.Near 144115188075855872 := ⟨⟨by decide, by decide⟩, ⟨by decide, by decide⟩, ⟨by decide, by decide⟩, ⟨by decide, by decide⟩, ⟨by decide, by decide⟩, ⟨by decide, by decide⟩, ⟨by decide, by decide⟩⟩
theorem ex_one : oneL true true false 2 [exL] = [⟨0, 0, 2, 2, 4, 4, 0⟩, ⟨2, 0, 4, 2, 0, 0, 0⟩] := by kernel_rfl
end Go.Proofs.Ytnfoibgafmeenaa.AM
