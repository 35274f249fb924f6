/- Two more moves: a loop whose exits are told alike, and ways that meet at a loop. No condition. -/
import Derived.Test.YtdijdlkljeibjaaDoorAm19
namespace Go.Proofs.YtdijdlkljeibjaaDoor.AM
open Go Go.RowKit
set_option linter.unusedVariables false
set_option linter.unusedSimpArgs false

section
variable {P : Program} {W0 : World} {tab : TypeId → Option TI} {X : Ext} {md : Md}
/-- A loop that is left at one place, however, in a state that is told by the prover. -/
theorem m_loopX (ht : Tab P tab) (hX : X = std P W0 md) {β γ : Type} (id : Nat) (Inv : β → Prop) (st : β → List V × Heap) (μ : β → Nat) (InvE : γ → Prop) (stE : γ → List V × Heap) {c : Code} {T : List V} {H : Heap} {k : Nat → Nat → List V → Heap → Prop} {N : Nat} (hN : H.length = N)
    (init : ∃ b, Inv b ∧ As N T H (st b).1 (st b).2)
    (round : ∀ b, Inv b → awp X tab c (st b).1 (st b).2 fun e n T' H' => match e with
      | 0 => ∃ b', Inv b' ∧ μ b' < μ b ∧ As N T' H' (st b').1 (st b').2
      | e + 1 => match e with
        | 0 => k 1 n T' H'
        | e + 1 => n = id ∧ ∃ g, InvE g ∧ As N T' H' (stE g).1 (stE g).2)
    (cont : ∀ g, InvE g → k 2 id (stE g).1 (stE g).2) : X.loop c T H k := by
  subst hX
  subst hN
  intro m lo r fz a w hw hT hd hA
  obtain ⟨b0, hI, σ, h1, h2, h3, h4⟩ := init
  have hst0 := (Stp.refl hw).weaken hw h1 h2 h3
  refine wpIn_loop_ex (fun b a' w' => Inv b ∧ ∃ r' fz', WR W0 r' fz' (st b).2 w' ∧ TR r' (st b).1 a'.tmps ∧ DZ lo fz' w' a'.defers ∧ Stp r fz H w r' fz' (st b).2 w') μ (b0 := b0)
    ⟨hI, reN σ r, fz, hw.weaken h1 h2, hT.weaken h4, hd, hst0⟩ ?_
  rintro b a' w' ⟨hIb, r', fz', hw', hT', hd', hst'⟩
  refine wpIn_mono (awp_sound ht c (round b hIb) m lo r' fz' a' w' hw' hT' hd' (hA.mono hst')) fun ex a2 w2 hq => ?_
  obtain ⟨e, n, T2, H2, r2, fz2, g1, g2, g3, g4, g5, g6⟩ := hq
  cases ex with
  | normal =>
    simp only [ExM] at g1
    subst g1
    obtain ⟨b', hIb', hlt, σ', k1, k2, k3, k4⟩ := g2
    exact ⟨b', ⟨hIb', reN σ' r2, fz2, g3.weaken k1 k2, g4.weaken k4, g5, (hst'.trans g6).weaken g3 k1 k2 k3⟩, hlt⟩
  | ret => simp only [ExM] at g1; subst g1; exact ⟨1, n, T2, H2, r2, fz2, rfl, g2, g3, g4, g5, hst'.trans g6⟩
  | exit id' =>
    obtain ⟨rfl, rfl⟩ := g1
    obtain ⟨rfl, g, hg, σ', k1, k2, k3, k4⟩ := g2
    exact ⟨2, _, _, _, reN σ' r2, fz2, ⟨rfl, rfl⟩, cont g hg, g3.weaken k1 k2, g4.weaken k4, g5, (hst'.trans g6).weaken g3 k1 k2 k3⟩
  | _ => exact g1.elim
/-- Ways that meet at a loop. -/
theorem m_join {c : Code} {k : Nat → Nat → List V → Heap → Prop} {G : Prop} (A : List V → Heap → Prop) (h1 : (∀ T H, A T H → X.loop c T H k) → G) (h2 : ∀ T H, A T H → X.loop c T H k) : G := h1 h2
end
end Go.Proofs.YtdijdlkljeibjaaDoor.AM
