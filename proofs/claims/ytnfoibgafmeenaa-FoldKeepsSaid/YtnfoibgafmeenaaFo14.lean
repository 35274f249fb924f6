/- What folding at a line makes of layers, in plain words; a layer that is cut, told as a list. No condition but that the numbers are near. -/
import Derived.Test.YtnfoibgafmeenaaFo13
namespace Go.Proofs.Ytnfoibgafmeenaa.AM
open Go Go.RowKit
set_option cbv.warning false
set_option maxRecDepth 100000
set_option linter.unusedVariables false
set_option linter.unusedSimpArgs false
/-- Nothing is there of a layer. -/
def La.emp (l : La) : Prop := l.x1 ≤ l.x0 ∨ l.y1 ≤ l.y0
instance (l : La) : Decidable l.emp := by unfold La.emp; exact inferInstance
def La.a (l : La) : Int := bA l.t l.X l.Y l.x0 l.y0 l.x1 l.y1
def La.b (l : La) : Int := bB l.t l.X l.Y l.x0 l.y0 l.x1 l.y1
def La.c (l : La) : Int := bC l.t l.X l.Y l.x0 l.y0 l.x1 l.y1
def La.d (l : La) : Int := bD l.t l.X l.Y l.x0 l.y0 l.x1 l.y1
theorem La.box (l : La) : IsBox l.t l.X l.Y l.x0 l.y0 l.x1 l.y1 l.a l.b l.c l.d := ⟨rfl, rfl, rfl, rfl⟩
/-- A layer whose numbers are near. -/
structure La.Near (K : Int) (l : La) : Prop where
  t : Tu l.t
  X : Nr K l.X
  Y : Nr K l.Y
  x0 : Nr K l.x0
  y0 : Nr K l.y0
  x1 : Nr K l.x1
  y1 : Nr K l.y1
instance (upr : Bool) (n a b c d : Int) : Decidable (thru upr n a b c d) := by unfold thru; exact inferInstance
/-- A layer's part. -/
def La.part (l : La) (r0 r1 r2 r3 : Int) : La := ⟨bA (tBack l.t) (-dX (tBack l.t) l.X l.Y) (-dY (tBack l.t) l.X l.Y) r0 r1 r2 r3, bB (tBack l.t) (-dX (tBack l.t) l.X l.Y) (-dY (tBack l.t) l.X l.Y) r0 r1 r2 r3,
  bC (tBack l.t) (-dX (tBack l.t) l.X l.Y) (-dY (tBack l.t) l.X l.Y) r0 r1 r2 r3, bD (tBack l.t) (-dX (tBack l.t) l.X l.Y) (-dY (tBack l.t) l.X l.Y) r0 r1 r2 r3, l.t, l.X, l.Y⟩
theorem IsPart.eq {l : La} {r0 r1 r2 r3 c0 c1 c2 c3 : Int} (h : IsPart l.t l.X l.Y r0 r1 r2 r3 c0 c1 c2 c3) : (⟨c0, c1, c2, c3, l.t, l.X, l.Y⟩ : La) = l.part r0 r1 r2 r3 := by
  obtain ⟨rfl, rfl, rfl, rfl⟩ := h
  rfl
def cutL (upr : Bool) (n : Int) (l : La) : List La :=
  if l.emp then [] else if thru upr n l.a l.b l.c l.d then [l.part l.a l.b (if upr then n else l.c) (if upr then l.d else n), l.part (if upr then n else l.a) (if upr then l.b else n) l.c l.d] else [l]
/-- It lies on the side that is turned over. -/
def mvB (upr low : Bool) (n : Int) (l : La) : Bool := decide (eE upr l.c l.d ≤ n) == low
/-- Turned over. -/
def layF (upr : Bool) (n : Int) (l : La) : La := ⟨l.x0, l.y0, l.x1, l.y1, tThen l.t (fT upr), dX (fT upr) l.X l.Y + fX upr n, dY (fT upr) l.X l.Y + fY upr n⟩
abbrev rowL (rw : Bool) (M : List La) : Option B := lays rw M.length fun q => M.getD q La.zero
/-- A row tells a list. -/
structure Tells (u : Nat) (f : Nat → La) (M : List La) : Prop where
  n : u = M.length
  f : ∀ q, q < u → f q = M.getD q La.zero
theorem Tells.mk' (M : List La) : Tells M.length (fun q => M.getD q La.zero) M := ⟨rfl, fun _ _ => rfl⟩
theorem CutG_c (W0 : World) (upr : Bool) (n : Int) (l : La) (hl : l.Near 576460752303423488) (hat : Nr 576460752303423488 n) (he : ¬ l.emp) (k : V → Heap → Prop)
    (hk : ∀ b : Nat × (Nat → La), Tells b.1 b.2 (cutL upr n l) → k (.one (.sl 0 0 b.1 (some b.1))) [lays true b.1 b.2]) : ACall Try.prog W0 56 [.agg (lc l), .one (.bool upr), .one (.int .i64 n)] [] k := by
  refine Cut_c W0 upr n l.t l.X l.Y l.x0 l.y0 l.x1 l.y1 l.a l.b l.c l.d l.box hl.t hl.X hl.Y hl.x0 hl.y0 hl.x1 hl.y1 hat k (fun h => absurd h he) (fun _ ht => ?_) (fun _ ht c0 c1 c2 c3 d0 d1 d2 d3 hc hd => ?_)
  · have e : cutL upr n l = [l] := by unfold cutL; rw [if_neg he, if_neg ht]
    rw [e] at hk
    exact ⟨_, rfl, hk (1, fun q => [l].getD q La.zero) ⟨rfl, fun _ _ => rfl⟩⟩
  · have e : cutL upr n l = [⟨c0, c1, c2, c3, l.t, l.X, l.Y⟩, ⟨d0, d1, d2, d3, l.t, l.X, l.Y⟩] := by unfold cutL; rw [if_neg he, if_pos ht, IsPart.eq hc, IsPart.eq hd]
    rw [e] at hk
    exact ⟨_, ⟨rfl, rfl⟩, hk (2, fun q => ([⟨c0, c1, c2, c3, l.t, l.X, l.Y⟩, ⟨d0, d1, d2, d3, l.t, l.X, l.Y⟩] : List La).getD q La.zero) ⟨rfl, fun _ _ => rfl⟩⟩
end Go.Proofs.Ytnfoibgafmeenaa.AM
