/- More operations of the abstract machine: how much room a slice has, a part of nil, nil grown by zeros. -/
import Derived.Test.YtdijdlkljeibjaaDoorAm15
namespace Go.Proofs.YtdijdlkljeibjaaDoor.AM
open Go Go.RowKit
set_option linter.unusedVariables false
set_option linter.unusedSimpArgs false

section
variable {P : Program} {W0 : World} {tab : TypeId → Option TI} {X : Ext} {md : Md} {o : Oper} {T : List V} {H : Heap}

theorem one_arg {a : Act} {c : Call} {v : V} {r : Pl} (hT : TR r T a.tmps) (hv : evs T c.args.toList = [v]) : ∃ x, c.args = #[x] ∧ VR r v (a.eval x) := by
  have h1 := evs_rel hT c.args.toList
  rw [hv] at h1
  have this : c.args.toList.length = 1 := by have := congrArg List.length hv; simpa [evs] using this
  cases hl : c.args.toList with
  | nil => rw [hl] at this; cases this
  | cons x l =>
    cases l with
    | nil =>
      refine ⟨x, by rw [← Array.toArray_toList (xs := c.args), hl], ?_⟩
      rw [hl] at h1
      simp only [List.map_cons, List.map_nil] at h1
      unfold VRs at h1
      exact h1.1
    | cons _ _ => rw [hl] at this; simp at this
theorem two_args {a : Act} {c : Call} {u v : V} {r : Pl} (hT : TR r T a.tmps) (hv : evs T c.args.toList = [u, v]) : ∃ x y, c.args = #[x, y] ∧ VR r u (a.eval x) ∧ VR r v (a.eval y) := by
  have h1 := evs_rel hT c.args.toList
  rw [hv] at h1
  have this : c.args.toList.length = 2 := by have := congrArg List.length hv; simpa [evs] using this
  cases hl : c.args.toList with
  | nil => rw [hl] at this; cases this
  | cons x l =>
    cases l with
    | nil => rw [hl] at this; simp at this
    | cons y l =>
      cases l with
      | nil =>
        refine ⟨x, y, by rw [← Array.toArray_toList (xs := c.args), hl], ?_⟩
        rw [hl] at h1
        simp only [List.map_cons, List.map_nil] at h1
        unfold VRs VRs at h1
        exact ⟨h1.1, h1.2.1⟩
      | cons _ _ => rw [hl] at this; simp at this

/-- cap of nil, and of a slice whose room is known. -/
theorem m_cap (ht : Tab P tab) (hX : X = std P W0 md) {k : V → Heap → Prop} {c : Call} {t e : TypeId} {ti : TI} {v : V} (n : Nat) (ho : o.op = .call c) (hc : c.callee = .builtin .cap) (hat : c.argTypes = #[t]) (hti : tab t = some ti) (hk : ti.kind = .slice e) (hev : evs T c.args.toList = [v])
    (hn : (v = .one .nils ∧ n = 0) ∨ ∃ id i l, v = .one (.sl id i l (some n))) (h : k (.one (.int .i64 n)) H) : X.other o T H k := by
  subst hX
  show OpS P W0 o T H k
  refine OpT.opS (v := .one (.int .i64 n)) (OpT.of_pure fun r fz a w hw hT => ⟨.int .i64 n, fun w => ?_, by unfold VR CR; rfl⟩) h
  obtain ⟨x, hx, hvx⟩ := one_arg hT hev
  unfold execOp
  rw [ho]
  have hcap : (Builtin.cap_ c.argTypes o.type #[a.eval x]).run P w = .ok (.int .i64 n) w := by
    have hu := kind_slice (ht.tab _ _ hti) hk
    rcases hn with ⟨rfl, rfl⟩ | ⟨id, i, l, rfl⟩
    · unfold VR CR at hvx
      simp [Builtin.cap_, hat, run_underlying hu, hvx, goInt]
    · unfold VR CR at hvx
      rcases hvx with ⟨rw_, b, o, s, e, ad, c, h1, h2, h3, h4, h5⟩ | ⟨h1, ⟨ad, h2, h3⟩, h4⟩
      · have := h5 n rfl
        subst this
        simp [Builtin.cap_, hat, run_underlying hu, h2, goInt]
      · rcases h3 with h3 | ⟨h3, _⟩
        · cases h3
        · cases h3
          simp [Builtin.cap_, hat, run_underlying hu, h2, goInt]
  simp [resolve, hc, hx, invoke, builtin, hcap]

/-- nil's first none. -/
theorem m_sliceNil (ht : Tab P tab) (hX : X = std P W0 md) {k : V → Prop} {t e : TypeId} {x y : Operand} {ti te : TI} {kk : IntKind} {n : Int} (ho : o.op = .slice t x none (some y) none) (hti : tab t = some ti) (hk : ti.kind = .slice e) (hte : tab e = some te)
    (hx : ev T x = .one .nils) (hy : ev T y = .one (.int kk n)) (hn : n = 0) (h : k (.one .nils)) : X.otherP o T H k := by
  subst hX
  subst hn
  refine ⟨.one .nils, h, OpT.of_pure fun r fz a w hw hT => ⟨.slice none 0 0, fun w => ?_, by unfold VR CR; rfl⟩⟩
  have h3 := ev_one hT hx
  have h4 := ev_one hT hy
  unfold CR at h3 h4
  have hu := kind_slice (ht.tab _ _ hti) hk
  unfold execOp
  rw [ho]
  have := run_bounds (P := P) true 0 0 none (some 0) 0 0 rfl rfl (Nat.le_refl _) (Nat.le_refl _) w kk kk
  have hs := size_of (ht.tab _ _ hte) w
  have h5 := sliceAt_not (P := P) t (.slice none 0 0) none (some (.int kk 0)) none w ⟨_, hu, by simp⟩
  simp only [Option.map_none, Option.map_some, h3, h4]
  refine run_value ?_
  rw [h5]
  simp only [Option.map_none, Option.map_some] at this
  simp [Instr.slice, run_underlying hu, this, hs]

theorem rep_get (z : List C) : ∀ n i j, i < n → j < z.length → (rep z n)[i * z.length + j]? = z[j]?
  | 0, i, j, h, _ => by omega
  | n + 1, 0, j, h, hj => by
    unfold rep
    rw [Nat.zero_mul, Nat.zero_add, List.getElem?_append_left hj]
  | n + 1, i + 1, j, h, hj => by
    unfold rep
    rw [Nat.add_mul, Nat.one_mul, List.getElem?_append_right (by omega), show i * z.length + z.length + j - z.length = i * z.length + j by omega]
    exact rep_get z n i j (by omega) hj
/-- A number's value (kept shut, for the evaluation turns what it meets). -/
structure IsN (s : Int) (n : Nat) : Prop where
  eq : s = n
theorem wrap_zero : IntKind.i64.wrap 0 = 0 := by decide
/-- nil, with n zeros. -/
theorem m_zeros (ht : Tab P tab) (hX : X = std P W0 md) {k : V → Heap → Prop} {c : Call} {t t' e : TypeId} {ti ti' te : TI} {ki kk : IntKind} {m : Int} (n : Nat) (ho : o.op = .call c) (hc : c.callee = .builtin .append) (hat : c.argTypes = #[t, t']) (hti : tab t = some ti) (hk : ti.kind = .slice e) (hti' : tab t' = some ti') (hk' : ti'.kind = .int ki)
    (hte : tab e = some te) (hz : 0 < te.sz ∧ te.zero.length = te.sz) (hok : allOk te.zero = true) (hev : evs T c.args.toList = [.one .nils, .one (.int kk m)]) (hm : m = n) (hb : n * te.bytes ≤ 140737488355328 ∧ n ≤ 140737488355328)
    (h : k (.one (.sl H.length 0 n none)) (H ++ [some (.row true e te.sz n fun _ => te.zero)])) : X.other o T H k := by
  subst hX
  subst hm
  show OpS P W0 o T H k
  refine OpS.of_run fun r fz a w hw hT => ?_
  obtain ⟨x, y, hxy, hx, hy⟩ := two_args hT hev
  unfold VR CR at hx hy
  have hu := kind_slice (ht.tab _ _ hti) hk
  obtain ⟨ie, de, ze, k1, k2, k3, hte'⟩ := tab_info (ht.tab _ _ hte)
  have hu' : ∃ kq, P.underlying t' = some (.int kq) := by
    obtain ⟨i, d, z, g1, g2, g3, g4⟩ := tab_info (ht.tab _ _ hti')
    rw [g4] at hk'
    cases d <;> simp [kindOf] at hk'
    exact ⟨_, g2⟩
  obtain ⟨kq, hu'⟩ := hu'
  have hsz : ie.size = te.sz := by rw [hte']
  have hby : ie.bytes = te.bytes := by rw [hte']
  have hzs : ze.cells.size = te.sz := by rw [← hz.2, hte']; simp
  have hexec : ∀ (u : Value) (w' : World), (Builtin.append_ #[t, t'] o.type #[a.eval x, a.eval y]).run P w = .ok u w' → (execOp a.eval o).run P w = .ok (.value u) w' := by
    intro u w' hr
    unfold execOp
    rw [ho]
    simp [resolve, hc, hxy, invoke, builtin, hat, hr]
  have hwr : IntKind.i64.wrap (n : Int) = n := by
    unfold IntKind.wrap
    simp [IntKind.bits, IntKind.signed]
    omega
  rcases Nat.eq_zero_or_pos n with h0 | h0
  · subst h0
    have hrun : (Builtin.append_ #[t, t'] o.type #[a.eval x, a.eval y]).run P w = .ok (.slice none 0 0) w := by
      rw [hx, hy]
      simp [Builtin.append_, run_underlying hu, run_underlying hu', sizeOf, typeInfo, k1, hsz, asInt, asIntOf, storeCells, wrap_zero]
    obtain ⟨r', n1, n2, n3⟩ := hw.nilrow true e te.sz (fun _ => te.zero)
    refine ⟨_, _, _, r', fz, _, hexec _ _ hrun, h, ?_, n1, n2⟩
    unfold VR CR
    exact .inr ⟨n3, ⟨none, rfl, .inl rfl⟩, rfl⟩
  · have hn0 : ¬ (n ≤ 0) := by omega
    have hfit := growslice_fits (bytes := te.bytes) (need := n) (old := 0) h0 hb.1
    have h48' : ¬ (281474976710656 < Builtin.nextslicecap n 0 * te.bytes) := by omega
    have h48 : ¬ (281474976710656 < (n : Int) * (te.bytes : Int)) := by
      have h1 := hb.1
      have e : ((n * te.bytes : Nat) : Int) = (n : Int) * (te.bytes : Int) := by simp
      omega
    have h63 : ¬ (9223372036854775807 < (n : Int)) := by have := hb.2; omega
    have hne : ¬ (n * te.sz = 0) := by have := Nat.mul_pos h0 hz.1; omega
    have hrun : (Builtin.append_ #[t, t'] o.type #[a.eval x, a.eval y]).run P w = .ok (.slice (some ⟨w.heap.size, 0, none⟩) n (grownCap w n 0 e)) (w.drew.alloc (.cells (Builtin.zeroCells ze.cells n ++ Builtin.zeroCells ze.cells (grownCap w n 0 e - n)) e)) := by
      rw [hx, hy]
      simp [Builtin.append_, run_underlying hu, run_underlying hu', sizeOf, typeInfo, zeroValue, k1, k3, hsz, hby, asInt, asIntOf, hwr, hn0, h48', h48, h63, hne, Question.forced, newRow, grownCap, Builtin.firstCells]
      rw [if_neg (by omega), if_neg (by omega)]
    obtain ⟨hwd, hstd⟩ := hw.drew (w' := w.drew) rfl rfl rfl rfl
    have hcap := grownCap_ge w n 0 e
    have hzr : CRs r te.zero ze.cells.toList := by
      obtain ⟨z, g1, g2⟩ := zero_rel r (ht.tab _ _ hte) w
      simp [zeroValue, typeInfo, k1, k3] at g1
      rw [g1]
      exact g2
    have hreps := rep_rel hzr n
    obtain ⟨r', n1, n2, n3⟩ := hwd.alloc (Builtin.zeroCells ze.cells n ++ Builtin.zeroCells ze.cells (grownCap w n 0 e - n)) e (.row true e te.sz n (fun _ => te.zero)) rfl (fun r' w' hsub hh => by
      refine ⟨_, _, _, hh, rfl, fun _ => ⟨rfl, rfl⟩, fun i hi => ⟨hz.2, fun j c hj => ?_⟩⟩
      have hjl := (List.getElem?_eq_some_iff.1 hj).1
      obtain ⟨u, h3, h4⟩ := CRs.get hreps (i * te.sz + j) c (by rw [← hz.2, rep_get _ _ _ _ hi hjl]; exact hj)
      refine ⟨u, ?_, h4.mono hsub⟩
      rw [Nat.zero_add, Array.getElem?_append_left (by
        have := (List.getElem?_eq_some_iff.1 h3).1
        have e : (Builtin.zeroCells ze.cells n).toList = (List.replicate n ze.cells.toList).flatten := zeros_eq _ _
        rw [← e] at this
        simpa using this)]
      have e : (Builtin.zeroCells ze.cells n).toList = (List.replicate n ze.cells.toList).flatten := zeros_eq _ _
      rw [← e] at h3
      simpa using h3)
    refine ⟨_, _, _, r', fz, _, hexec _ _ hrun, h, ?_, n1, hstd.trans n2⟩
    unfold VR CR
    refine .inl ⟨_, _, _, _, _, _, _, n3, rfl, .inl ⟨by simp, ?_⟩, hcap, fun n hn => by cases hn⟩
    simp only [B.sz, Array.size_append, size_zeroCells, hzs, ← Nat.add_mul]
    first | rw [Nat.zero_mul, Nat.zero_add, Nat.zero_add] | rw [Nat.zero_mul, Nat.zero_add]
    exact Nat.mul_le_mul_right _ (by omega)
end
end Go.Proofs.YtdijdlkljeibjaaDoor.AM
