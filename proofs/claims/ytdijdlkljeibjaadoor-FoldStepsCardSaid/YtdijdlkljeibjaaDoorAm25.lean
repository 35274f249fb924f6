/- The library's own contracts, as contracts on the abstract machine. No condition but theirs. -/
import Derived.Test.YtdijdlkljeibjaaDoorAm19
namespace Go.Proofs.YtdijdlkljeibjaaDoor.AM
open Go Go.RowKit
set_option linter.unusedVariables false
set_option linter.unusedSimpArgs false

theorem WR.belowed {W0 : World} {r : Pl} {fz : Fz} {H : Heap} {w w' : World} (h : WR W0 r fz H w) (hb : Below w.heap.size w w') : WR W0 r fz H w' ∧ Stp r fz H w r fz H w' := by
  refine ⟨⟨?_, fun b o he => ?_, h.old, h.dom, fun id x hx => ?_, h.inj⟩, ⟨Nat.le_refl _, fun _ _ => rfl, fun _ _ h => h, hb.size, fun id b o s e hid he => (by rw [h.dom id hid] at he; cases he), fun _ x _ hx => ⟨x, hx⟩, fun b hlt _ => hb.block b hlt, fun _ _ h => .inl h⟩⟩
  · exact ⟨hb.os.trans h.below.os, hb.tape.trans h.below.tape, hb.output.trans h.below.output, Nat.le_trans h.below.size hb.size, fun k hk => (hb.block k (Nat.lt_of_lt_of_le hk h.below.size)).trans (h.below.block k hk)⟩
  · have := h.froz b o he
    rw [hb.block b (Array.getElem?_eq_some_iff.1 this).1]
    exact this
  · rcases h.live id x hx with ⟨b, o, q, e1, e2, e4, e3⟩ | e
    · exact .inl ⟨b, o, q, e1, e2, e4, e3.of_block (hb.block b e3.lt)⟩
    · exact .inr e
section
variable {P : Program} {W0 : World} {f : FuncId} {args : List V} {vs : List Value} {H : Heap} {k : V → Heap → Prop}
/-- A call whose arguments and whose answer lie in no block. -/
theorem ACall.of_scalar {u : Value} {v : V} (hv : ∀ r us, VRs r args us → us = vs) (hu : ∀ r, VR r v u) (h : ∀ w, Below W0.heap.size W0 w → Calls P f ⟨vs⟩ w fun e w' => e = .returned u ∧ Below w.heap.size w w') (hk : k v H) : ACall P W0 f args H k := by
  intro r fz w us hw hus
  obtain rfl := hv r us hus
  refine (h w hw.below).mono fun e w' ⟨he, hb⟩ => ?_
  obtain ⟨h1, h2⟩ := hw.belowed hb
  exact ⟨v, u, H, r, fz, he, hk, h1, hu r, h2⟩
/-- A call that comes to a row of texts of its own. -/
theorem ACall.of_texts {t : TypeId} {l : List ByteArray} (hv : ∀ r us, VRs r args us → us = vs)
    (h : ∀ w, Below W0.heap.size W0 w → Calls P f ⟨vs⟩ w fun e w' => e = .returned (.slice (some ⟨w.heap.size, 0, none⟩) l.length l.length) ∧ w' = w.alloc (.cells (l.map Value.string).toArray t))
    (hk : k (.one (.sl H.length 0 l.length (some l.length))) (H ++ [some (.row true t 1 l.length fun q => [.str (l.getD q ByteArray.empty)])])) : ACall P W0 f args H k := by
  intro r fz w us hw hus
  obtain rfl := hv r us hus
  refine (h w hw.below).mono fun e w' ⟨he, hb⟩ => ?_
  obtain ⟨r', n1, n2, n3⟩ := hw.alloc (l.map Value.string).toArray t (.row true t 1 l.length fun q => [.str (l.getD q ByteArray.empty)]) rfl (fun r' w' hsub hh => by
    refine ⟨_, _, _, hh, rfl, fun _ => ⟨rfl, rfl⟩, fun i hi => ⟨rfl, fun j c hj => ?_⟩⟩
    cases j with
    | zero =>
      simp at hj
      subst hj
      refine ⟨.string (l.getD i ByteArray.empty), ?_, by unfold CR; rfl⟩
      simp [List.getElem?_eq_getElem hi]
    | succ j => simp at hj)
  subst hb
  refine ⟨_, _, _, r', fz, he, hk, n1, ?_, n2⟩
  unfold VR CR
  refine .inl ⟨_, _, _, _, _, _, _, n3, rfl, .inl ⟨by simp, ?_⟩, Nat.le_refl _, fun n hn => by cases hn; rfl⟩
  simp [B.sz]
end
theorem VRs.int {r : Pl} {k : IntKind} {n : Int} {us : List Value} (h : VRs r [.one (.int k n)] us) : us = [.int k n] := by
  cases us with
  | nil => simp [VRs] at h
  | cons u us =>
    cases us with
    | nil => simpa [VRs, VR, CR] using h
    | cons _ _ => simp [VRs] at h
theorem VRs.str {r : Pl} {s : ByteArray} {us : List Value} (h : VRs r [.one (.str s)] us) : us = [.string s] := by
  cases us with
  | nil => simp [VRs] at h
  | cons u us =>
    cases us with
    | nil => simpa [VRs, VR, CR] using h
    | cons _ _ => simp [VRs] at h
end Go.Proofs.YtdijdlkljeibjaaDoor.AM
