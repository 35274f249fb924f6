/- Loops, and the moves of a walk on the abstract machine. -/
import Derived.Test.YtdijdlkljeibjaaDoorAm11
namespace Go.Proofs.YtdijdlkljeibjaaDoor.AM
open Go Go.RowKit
set_option linter.unusedVariables false
set_option linter.unusedSimpArgs false

section
variable {P : Program} {W0 : World} {tab : TypeId → Option TI}

theorem wpIn_loop_ex {F : Fence} {n : Nat} {c : Code} {Q : Exit → Act → World → Prop} {a : Act} {w : World} {β : Type} (I : β → Act → World → Prop) (μ : β → Nat) {b0 : β} (h₀ : I b0 a w)
    (round : ∀ b a w, I b a w → c.wpIn F n P (Exit.then (fun a' w' => ∃ b', I b' a' w' ∧ μ b' < μ b) Q) a w) : (Code.loop c).wpIn F n P Q a w := by
  intro b k cs hro hb hr
  have key : ∀ m x a w, μ x = m → I x a w →
      ∃ e a' w', Q e a' w' ∧ ArrivesIn (Machine.fenced P F) P (lone (b.atR a (.code c :: .inLoop c :: k)) cs w) b k cs e a' w' := by
    intro m
    induction m using Nat.strongRecOn with
    | _ m ih =>
      intro x a w hn hI
      obtain ⟨e, a₁, w₁, hq, harr⟩ := round x a w hI b (.inLoop c :: k) cs hro hb hr
      cases e with
      | normal =>
        obtain ⟨x', hI₁, hlt⟩ := hq
        obtain ⟨e₂, a₂, w₂, hq₂, harr₂⟩ := ih (μ x') (hn ▸ hlt) x' a₁ w₁ rfl hI₁
        exact ⟨e₂, a₂, w₂, hq₂, .of_steps (StepsIn.trans harr (.one (fenced_calm hb hr rfl) stepR_inLoop)) harr₂⟩
      | exit id => exact ⟨_, a₁, w₁, hq, .pass (x := .inLoop c) rfl (fun _ _ => .inl (by simp)) harr⟩
      | goto l => exact ⟨_, a₁, w₁, hq, .pass (x := .inLoop c) rfl (fun _ _ => .inl (by simp)) harr⟩
      | ret => exact ⟨_, a₁, w₁, hq, .pass (x := .inLoop c) rfl (fun _ _ => .inl (by simp)) harr⟩
      | panic ch => exact ⟨_, a₁, w₁, hq, .pass (x := .inLoop c) rfl (fun _ _ => .inl (by simp)) harr⟩
      | outgrown => exact ⟨_, a₁, w₁, hq, .pass (x := .inLoop c) rfl (fun _ _ => .inl (by simp)) harr⟩
  obtain ⟨e, a', w', hq, harr⟩ := key _ b0 a w rfl h₀
  exact ⟨e, a', w', hq, .of_steps (.one (fenced_calm hb hr rfl) stepR_loop) harr⟩

/-- The state may be told as (T2, H2), which keeps the first n blocks. -/
def As (n : Nat) (T : List V) (H : Heap) (T2 : List V) (H2 : Heap) : Prop := ∃ σ : Sg, MH σ H H2 σ ∧ okS n H2 σ = true ∧ keeps n σ = true ∧ MT σ T2 T

theorem SemM.loop {md : Md} {β : Type} (Inv : β → Prop) (st : β → List V × Heap) (μ : β → Nat) {c : Code} {T : List V} {H : Heap} {k : Nat → Nat → List V → Heap → Prop}
    (init : ∃ b, Inv b ∧ As H.length T H (st b).1 (st b).2)
    (round : ∀ b, Inv b → SemM P W0 md c (st b).1 (st b).2 fun e n T' H' => match e with
      | 0 => ∃ b', Inv b' ∧ μ b' < μ b ∧ As H.length T' H' (st b').1 (st b').2
      | e + 1 => k (e + 1) n T' H') : SemM P W0 md (.loop c) T H k := by
  intro m lo r fz a w hw hT hd hA
  obtain ⟨b0, hI, σ, h1, h2, h3, h4⟩ := init
  have hst0 := (Stp.refl hw).weaken hw h1 h2 h3
  refine wpIn_loop_ex (fun b a' w' => Inv b ∧ ∃ r' fz', WR W0 r' fz' (st b).2 w' ∧ TR r' (st b).1 a'.tmps ∧ DZ lo fz' w' a'.defers ∧ Stp r fz H w r' fz' (st b).2 w') μ (b0 := b0)
    ⟨hI, reN σ r, fz, hw.weaken h1 h2, hT.weaken h4, hd, hst0⟩ ?_
  rintro b a' w' ⟨hIb, r', fz', hw', hT', hd', hst'⟩
  refine wpIn_mono (round b hIb m lo r' fz' a' w' hw' hT' hd' (hA.mono hst')) fun ex a2 w2 hq => ?_
  obtain ⟨e, n, T2, H2, r2, fz2, g1, g2, g3, g4, g5, g6⟩ := hq
  cases ex with
  | normal =>
    simp only [ExM] at g1
    subst g1
    obtain ⟨b', hIb', hlt, σ', k1, k2, k3, k4⟩ := g2
    exact ⟨b', ⟨hIb', reN σ' r2, fz2, g3.weaken k1 k2, g4.weaken k4, g5, (hst'.trans g6).weaken g3 k1 k2 k3⟩, hlt⟩
  | ret => simp only [ExM] at g1; subst g1; exact ⟨1, n, T2, H2, r2, fz2, rfl, g2, g3, g4, g5, hst'.trans g6⟩
  | exit id => obtain ⟨rfl, rfl⟩ := g1; exact ⟨2, _, T2, H2, r2, fz2, ⟨rfl, rfl⟩, g2, g3, g4, g5, hst'.trans g6⟩
  | _ => exact g1.elim

/-! The moves. X is the model's own. -/
variable {X : Ext} {md : Md}
theorem m_cond_t (hX : X = std P W0 md) {t : Bool} {p q : Unit → Prop} (h : t = true) (hp : p ()) : X.cond t p q := by
  subst hX
  exact ⟨fun _ => hp, fun h' => (by rw [h] at h'; cases h')⟩
theorem m_cond_f (hX : X = std P W0 md) {t : Bool} {p q : Unit → Prop} (h : t = false) (hp : q ()) : X.cond t p q := by
  subst hX
  exact ⟨fun h' => (by rw [h] at h'; cases h'), fun _ => hp⟩
theorem m_cond (hX : X = std P W0 md) {t : Bool} {p q : Unit → Prop} (hp : t = true → p ()) (hq : t = false → q ()) : X.cond t p q := by
  subst hX
  exact ⟨hp, hq⟩
theorem m_call (hX : X = std P W0 md) {f : FuncId} {args : List V} {H : Heap} {k : V → Heap → Prop} (hb : Bodied P f) (h : ACall P W0 f args H k) : X.call f args H k := by
  subst hX
  exact ⟨hb, h⟩
theorem m_loop (ht : Tab P tab) (hX : X = std P W0 md) {β : Type} (Inv : β → Prop) (st : β → List V × Heap) (μ : β → Nat) {c : Code} {T : List V} {H : Heap} {k : Nat → Nat → List V → Heap → Prop}
    (init : ∃ b, Inv b ∧ As H.length T H (st b).1 (st b).2)
    (round : ∀ b, Inv b → awp X tab c (st b).1 (st b).2 fun e n T' H' => match e with
      | 0 => ∃ b', Inv b' ∧ μ b' < μ b ∧ As H.length T' H' (st b').1 (st b').2
      | e + 1 => k (e + 1) n T' H') : X.loop c T H k := by
  subst hX
  exact SemM.loop Inv st μ init fun b hb => awp_sound ht c (round b hb)

/-- A function out of its text, what it comes to told with less. -/
theorem m_body (ht : Tab P tab) {f : FuncId} {fn : Func} {c : Code} {args : List V} {H : Heap} {k : V → Heap → Prop} (hf : P.funcs[f]? = some fn) (hb : fn.body = some c)
    (h : ∀ X, X = std P W0 → awp X tab c (args ++ List.replicate (fn.ntmps - args.length) (.one .undef)) H fun e n T' H' => match e with
      | 0 | 1 => ares X tab fn.results.toList T' H' fun vs => Tidy H.length k (packV vs) H'
      | _ => False) : ACall P W0 f args H k := ACall.tidy (ACall.of_body ht hf hb h)
end
end Go.Proofs.YtdijdlkljeibjaaDoor.AM
