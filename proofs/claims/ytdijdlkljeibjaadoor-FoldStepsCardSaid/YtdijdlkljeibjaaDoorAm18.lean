/- Making a slice of zeros, on the abstract machine. -/
import Derived.Test.YtdijdlkljeibjaaDoorAm17
namespace Go.Proofs.YtdijdlkljeibjaaDoor.AM
open Go Go.RowKit
set_option linter.unusedVariables false
set_option linter.unusedSimpArgs false

section
variable {P : Program} {W0 : World} {tab : TypeId → Option TI} {X : Ext} {md : Md} {o : Oper} {T : List V} {H : Heap}

theorem m_makeSlice (ht : Tab P tab) (hX : X = std P W0 md) {k : V → Heap → Prop} {t e : TypeId} {x y : Operand} {ti te : TI} {kk : IntKind} {m : Int} (n : Nat) (ho : o.op = .makeSlice t x y) (hti : tab t = some ti) (hk : ti.kind = .slice e)
    (hte : tab e = some te) (hz : 0 < te.sz ∧ te.zero.length = te.sz) (hx : ev T x = .one (.int kk m)) (hy : ev T y = .one (.int kk m)) (hm : m = n) (hb : te.bytes * n ≤ 140737488355328 ∧ n ≤ 140737488355328)
    (h : k (.one (.sl H.length 0 n (some n))) (H ++ [some (.row true e te.sz n fun _ => te.zero)])) : X.other o T H k := by
  subst hX
  subst hm
  show OpS P W0 o T H k
  refine OpS.of_run fun r fz a w hw hT => ?_
  have h3 := ev_one hT hx
  have h4 := ev_one hT hy
  unfold CR at h3 h4
  have hu := kind_slice (ht.tab _ _ hti) hk
  obtain ⟨ie, de, ze, k1, k2, k3, hte'⟩ := tab_info (ht.tab _ _ hte)
  have hsz : ie.size = te.sz := by rw [hte']
  have hby : ie.bytes = te.bytes := by rw [hte']
  have hzs : ze.cells.size = te.sz := by rw [← hz.2, hte']; simp
  have hwr : IntKind.i64.wrap (n : Int) = n := by
    unfold IntKind.wrap
    simp [IntKind.bits, IntKind.signed]
    omega
  have h48 : ¬ (281474976710656 < (te.bytes : Int) * (n : Int)) := by
    have h1 := hb.1
    have e : ((te.bytes * n : Nat) : Int) = (te.bytes : Int) * (n : Int) := by simp
    omega
  have hneg : ¬ ((n : Int) < 0) := by omega
  have hrun : (Instr.makeSlice t (a.eval x) (a.eval y)).run P w = .ok (.slice (some ⟨w.heap.size, 0, none⟩) n n) (w.alloc (.cells (Builtin.zeroCells ze.cells n) e)) := by
    rw [h3, h4]
    rcases Nat.eq_zero_or_pos n with h0 | h0
    · subst h0
      simp [Instr.makeSlice, run_underlying hu, sizeOf, typeInfo, zeroValue, k1, k3, hsz, hby, asInt, asIntOf, wrap_zero, newRow, Builtin.zeroCells]
      have e0 : Array.range 0 = #[] := by simp
      rw [e0]
      simp only [Array.map_empty]
    · have hne : ¬ (n * te.sz = 0) := by have := Nat.mul_pos h0 hz.1; omega
      have hn0 : ¬ (n = 0) := by omega
      have hs0 : ¬ (te.sz = 0) := by have := hz.1; omega
      simp [Instr.makeSlice, run_underlying hu, sizeOf, typeInfo, zeroValue, k1, k3, hsz, hby, asInt, asIntOf, hwr, h48, hneg, hne, hn0, hs0, newRow, Builtin.zeroCells, hzs]
  have hexec : (execOp a.eval o).run P w = .ok (.value (.slice (some ⟨w.heap.size, 0, none⟩) n n)) (w.alloc (.cells (Builtin.zeroCells ze.cells n) e)) := by
    unfold execOp
    rw [ho]
    exact run_value hrun
  have hzr : CRs r te.zero ze.cells.toList := by
    obtain ⟨z, g1, g2⟩ := zero_rel r (ht.tab _ _ hte) w
    simp [zeroValue, typeInfo, k1, k3] at g1
    rw [g1]
    exact g2
  have hreps := rep_rel hzr n
  obtain ⟨r', n1, n2, n3⟩ := hw.alloc (Builtin.zeroCells ze.cells n) e (.row true e te.sz n (fun _ => te.zero)) rfl (fun r' w' hsub hh => by
    refine ⟨_, _, _, hh, rfl, fun _ => ⟨rfl, rfl⟩, fun i hi => ⟨hz.2, fun j c hj => ?_⟩⟩
    have hjl := (List.getElem?_eq_some_iff.1 hj).1
    obtain ⟨u, h3, h4⟩ := CRs.get hreps (i * te.sz + j) c (by rw [← hz.2, rep_get _ _ _ _ hi hjl]; exact hj)
    refine ⟨u, ?_, h4.mono hsub⟩
    have e : (Builtin.zeroCells ze.cells n).toList = (List.replicate n ze.cells.toList).flatten := zeros_eq _ _
    rw [← e] at h3
    rw [Nat.zero_add]
    simpa using h3)
  refine ⟨_, _, _, r', fz, _, hexec, h, ?_, n1, n2⟩
  unfold VR CR
  refine .inl ⟨_, _, _, _, _, _, _, n3, rfl, .inl ⟨by simp, ?_⟩, Nat.le_refl _, fun n hn => by cases hn; rfl⟩
  simp only [B.sz, size_zeroCells, hzs]
  first | rw [Nat.zero_mul, Nat.zero_add, Nat.zero_add] | rw [Nat.zero_mul, Nat.zero_add]
  exact Nat.le_refl _
end
end Go.Proofs.YtdijdlkljeibjaaDoor.AM
