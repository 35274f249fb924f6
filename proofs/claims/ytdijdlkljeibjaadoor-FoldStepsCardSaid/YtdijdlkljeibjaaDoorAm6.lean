/- The same: operators, parts of strings and slices, composite values. -/
import Derived.Test.YtdijdlkljeibjaaDoorAm5
namespace Go.Proofs.YtdijdlkljeibjaaDoor.AM
open Go Go.RowKit
set_option linter.unusedVariables false
set_option linter.unusedSimpArgs false

section
variable {P : Program} {W0 : World} {tab : TypeId → Option TI} {o : Oper} {T : List V} {H : Heap} {k : V → Heap → Prop}

theorem kind_ptr {t : TypeId} {ti : TI} (ht : tabOf P t = some ti) (hk : ti.kind = .ptr) : ∃ e, P.underlying t = some (.pointer e) := by
  obtain ⟨i, d, z', h1, h2, h3, rfl⟩ := tab_info ht
  cases d <;> simp [kindOf] at hk
  exact ⟨_, h2⟩
theorem kind_func {t : TypeId} {ti : TI} (ht : tabOf P t = some ti) (hk : ti.kind = .func) : ∃ a b c, P.underlying t = some (.func a b c) := by
  obtain ⟨i, d, z', h1, h2, h3, rfl⟩ := tab_info ht
  cases d <;> simp [kindOf] at hk
  exact ⟨_, _, _, h2⟩
theorem kind_slice {t e : TypeId} {ti : TI} (ht : tabOf P t = some ti) (hk : ti.kind = .slice e) : P.underlying t = some (.slice e) := by
  obtain ⟨i, d, z', h1, h2, h3, rfl⟩ := tab_info ht
  cases d <;> simp [kindOf] at hk
  rw [h2, hk]
theorem kind_str {t : TypeId} {ti : TI} (ht : tabOf P t = some ti) (hk : ti.kind = .str) : P.underlying t = some .string := by
  obtain ⟨i, d, z', h1, h2, h3, rfl⟩ := tab_info ht
  cases d <;> simp [kindOf] at hk
  exact h2
theorem kind_int {t : TypeId} {kk : IntKind} {ti : TI} (ht : tabOf P t = some ti) (hk : ti.kind = .int kk) : P.underlying t = some (.int kk) := by
  obtain ⟨i, d, z', h1, h2, h3, rfl⟩ := tab_info ht
  cases d <;> simp [kindOf] at hk
  rw [h2, hk]

theorem bin_ok (op : BinOp) (t : TypeId) (x y : Operand) (yt : TypeId) (ho : o.op = .binOp op t x y yt) {v : V}
    (h : ∀ r (a : Act), TR r T a.tmps → ∃ u, (∀ w, (do eqGuard op t x y (a.eval x) (a.eval y); binOp op t (a.eval x) (a.eval y) : Sem Value).run P w = .ok u w) ∧ VR r v u) : OpT P W0 o T H v :=
  s_op (fun ρ => do eqGuard op t x y (ρ x) (ρ y); binOp op t (ρ x) (ρ y)) (fun ρ => by unfold execOp; rw [ho]) fun r fz a w hw hT => h r a hT

theorem guard_none (op : BinOp) (t : TypeId) (x y : Operand) (a b : Value) (w : World) (h : (∀ c, a ≠ .agg c) ∧ a ≠ .nilIface) : (eqGuard op t x y a b).run P w = .ok () w := by
  cases a <;> first | exact absurd rfl h.2 | exact absurd rfl (h.1 _) | (unfold eqGuard; cases op <;> rfl)

theorem equal_step (t : TypeId) (a b : Value) : Op.equal t a b = Op.equalIn (9999 + 1) t a b := rfl

theorem s_nil {op : BinOp} {t : TypeId} {x y : Operand} {yt : TypeId} (ho : o.op = .binOp op t x y yt) {ti : TI} (ht : tabOf P t = some ti) {c : Bool} (hn : nilP ti.kind op (ev T x) (ev T y) = some c) : OpT P W0 o T H (.one (.bool c)) := by
  refine bin_ok op t x y yt ho fun r a hT => ?_
  have key : ∀ (va vb : Value) (ca cb : Bool), (∃ z, isNil ti.kind z = some ca ∧ VR r z va) → (∃ z, isNil ti.kind z = some cb ∧ VR r z vb) → (ca = true ∨ cb = true) →
      (∀ w, (Op.equal t va vb).run P w = .ok (ca && cb) w) ∧ (∀ c, va ≠ .agg c) ∧ va ≠ .nilIface ∧ (op = .eql ∨ op = .neq → ∀ w q, (Op.equal t va vb).run P w = .ok q w → (binOp op t va vb).run P w = .ok (.bool (if op = .eql then q else !q)) w) := by
    intro va vb ca cb ⟨za, h1, h2⟩ ⟨zb, h3, h4⟩ hor
    have hva : (∃ e, ti.kind = .ptr ∧ P.underlying t = some (.pointer e) ∧ (∃ pa, va = .pointer pa ∧ pa.isNone = ca) ∧ (∃ pb, vb = .pointer pb ∧ pb.isNone = cb)) ∨
        (∃ e, P.underlying t = some (.slice e) ∧ (∃ pa n c, va = .slice pa n c ∧ pa.isNone = ca) ∧ (∃ pb n c, vb = .slice pb n c ∧ pb.isNone = cb)) ∨
        (∃ x y z, P.underlying t = some (.func x y z) ∧ ((va = .nilFunc ∧ ca = true) ∨ (∃ f a b, va = .func f a b ∧ ca = false)) ∧ ((vb = .nilFunc ∧ cb = true) ∨ (∃ f a b, vb = .func f a b ∧ cb = false))) := by
      cases hkd : ti.kind with
      | ptr =>
        obtain ⟨e, he⟩ := kind_ptr ht hkd
        left
        rw [hkd] at h1 h3
        refine ⟨e, rfl, he, ?_, ?_⟩
        · unfold isNil at h1
          split at h1 <;> cases h1
          · unfold VR CR at h2; exact ⟨none, h2, rfl⟩
          · unfold VR CR at h2; obtain ⟨rw_, b, o, s, q, _, e2⟩ := h2; exact ⟨_, e2, rfl⟩
          · unfold VR CR at h2; exact ⟨_, h2, rfl⟩
          all_goals (rename_i hh; cases hh)
        · unfold isNil at h3
          split at h3 <;> cases h3
          · unfold VR CR at h4; exact ⟨none, h4, rfl⟩
          · unfold VR CR at h4; obtain ⟨rw_, b, o, s, q, _, e2⟩ := h4; exact ⟨_, e2, rfl⟩
          · unfold VR CR at h4; exact ⟨_, h4, rfl⟩
          all_goals (rename_i hh; cases hh)
      | slice e =>
        have he := kind_slice ht hkd
        right; left
        rw [hkd] at h1 h3
        refine ⟨e, he, ?_, ?_⟩
        · unfold isNil at h1
          split at h1 <;> cases h1
          all_goals first | (rename_i hh; cases hh; done) | skip
          · unfold VR CR at h2; exact ⟨none, _, _, h2, rfl⟩
          · unfold VR CR at h2; rcases h2 with ⟨rw_, b, o, s, q, ad, c, _, e2, _⟩ | ⟨_, ⟨ad, e2, h0⟩, _⟩
            · exact ⟨_, _, _, e2, rfl⟩
            · refine ⟨_, _, _, e2, ?_⟩
              rcases h0 with h0 | ⟨_, h0⟩
              · cases h0
              · cases ad with
                | none => cases h0
                | some _ => rfl
          · unfold VR CR at h2; exact ⟨_, _, _, h2, rfl⟩
        · unfold isNil at h3
          split at h3 <;> cases h3
          all_goals first | (rename_i hh; cases hh; done) | skip
          · unfold VR CR at h4; exact ⟨none, _, _, h4, rfl⟩
          · unfold VR CR at h4; rcases h4 with ⟨rw_, b, o, s, q, ad, c, _, e2, _⟩ | ⟨_, ⟨ad, e2, h0⟩, _⟩
            · exact ⟨_, _, _, e2, rfl⟩
            · refine ⟨_, _, _, e2, ?_⟩
              rcases h0 with h0 | ⟨_, h0⟩
              · cases h0
              · cases ad with
                | none => cases h0
                | some _ => rfl
          · unfold VR CR at h4; exact ⟨_, _, _, h4, rfl⟩
      | func =>
        obtain ⟨a, b, c, he⟩ := kind_func ht hkd
        right; right
        rw [hkd] at h1 h3
        refine ⟨a, b, c, he, ?_, ?_⟩
        · unfold isNil at h1
          split at h1 <;> cases h1
          all_goals first | (rename_i hh; cases hh; done) | skip
          · unfold VR CR at h2; exact .inl ⟨h2, rfl⟩
          · unfold VR CR at h2; obtain ⟨vs, e2, _⟩ := h2; exact .inr ⟨_, _, _, e2, rfl⟩
        · unfold isNil at h3
          split at h3 <;> cases h3
          all_goals first | (rename_i hh; cases hh; done) | skip
          · unfold VR CR at h4; exact .inl ⟨h4, rfl⟩
          · unfold VR CR at h4; obtain ⟨vs, e2, _⟩ := h4; exact .inr ⟨_, _, _, e2, rfl⟩
      | _ => rw [hkd] at h1; simp [isNil] at h1
    rcases hva with ⟨e, _, he, ⟨pa, rfl, rfl⟩, ⟨pb, rfl, rfl⟩⟩ | ⟨e, he, ⟨pa, n, c, rfl, rfl⟩, ⟨pb, n', c', rfl, rfl⟩⟩ | ⟨x, y, z, he, ha, hb⟩
    · refine ⟨fun w => ?_, by simp, by simp, fun hop w q hq => ?_⟩
      · clear h1 h2 h3 h4
        rw [equal_step, Op.equalIn]
        cases pa <;> cases pb <;> simp_all [run_underlying he]
      · rcases hop with rfl | rfl <;> (cases pa <;> cases pb <;> simp [binOp, hq])
    · refine ⟨fun w => ?_, by simp, by simp, fun hop w q hq => ?_⟩
      · clear h1 h2 h3 h4
        rw [equal_step, Op.equalIn]
        cases pa <;> cases pb <;> simp_all [run_underlying he]
      · rcases hop with rfl | rfl <;> (cases pa <;> cases pb <;> simp [binOp, hq])
    · rcases ha with ⟨rfl, rfl⟩ | ⟨f, a, b, rfl, rfl⟩ <;> rcases hb with ⟨rfl, rfl⟩ | ⟨f', a', b', rfl, rfl⟩
      all_goals refine ⟨fun w => ?_, by simp, by simp, fun hop w q hq => ?_⟩
      all_goals first
        | (rw [equal_step, Op.equalIn]; simp [run_underlying he]; done)
        | (exfalso; simp at hor; done)
        | (rcases hop with rfl | rfl <;> simp [binOp, hq])
  unfold nilP at hn
  have hx := ev_rel hT x
  have hy := ev_rel hT y
  have fin : ∀ ca cb, isNil ti.kind (ev T x) = some ca → isNil ti.kind (ev T y) = some cb → (ca = true ∨ cb = true) → ((op = .eql ∧ c = (ca && cb)) ∨ (op = .neq ∧ c = !(ca && cb))) →
      ∃ u, (∀ w, (do eqGuard op t x y (a.eval x) (a.eval y); binOp op t (a.eval x) (a.eval y) : Sem Value).run P w = .ok u w) ∧ VR r (.one (.bool c)) u := by
    intro ca cb h1 h2 h3 h4
    obtain ⟨g1, g2, g3, g4⟩ := key (a.eval x) (a.eval y) ca cb ⟨_, h1, hx⟩ ⟨_, h2, hy⟩ h3
    refine ⟨.bool c, fun w => ?_, by unfold VR CR; rfl⟩
    simp only [Sem.run_bind, guard_none op t x y (a.eval x) (a.eval y) w ⟨g2, g3⟩, Result.andThen]
    rcases h4 with ⟨rfl, rfl⟩ | ⟨rfl, rfl⟩
    · rw [g4 (.inl rfl) _ _ (g1 w)]; simp
    · rw [g4 (.inr rfl) _ _ (g1 w)]; simp
  split at hn
  · rename_i c' h1 h2
    split at hn <;> cases hn
    · exact fin _ _ h1 h2 (.inl rfl) (.inl ⟨rfl, by simp⟩)
    · exact fin _ _ h1 h2 (.inl rfl) (.inr ⟨rfl, by simp⟩)
  · rename_i c' h1 h2
    split at hn <;> cases hn
    · exact fin _ _ h1 h2 (.inr rfl) (.inl ⟨rfl, by simp⟩)
    · exact fin _ _ h1 h2 (.inr rfl) (.inr ⟨rfl, by simp⟩)
  · cases hn

def arithB : BinOp → Bool
  | .add | .sub | .mul | .and | .or | .xor | .andNot => true
  | _ => false
def cmpB : BinOp → Bool
  | .eql | .neq | .lss | .leq | .gtr | .geq => true
  | _ => false
theorem run_arith {op : BinOp} (h : arithB op = true) (t : TypeId) (ka : IntKind) (p q : Int) (w : World) : (binOp op t (.int ka p) (.int ka q)).run P w = .ok (.int ka (binS op ka p q)) w := by
  cases op <;> first | (cases h; done) | simp [binOp, Op.intArith, Op.intBits, binS]
theorem run_cmp {op : BinOp} (h : cmpB op = true) (t : TypeId) (ka : IntKind) (p q : Int) (w : World) : (binOp op t (.int ka p) (.int ka q)).run P w = .ok (.bool (cmpS op p q)) w := by
  cases op <;> first | (cases h; done) | simp [binOp, Op.intCmp, cmpS]
theorem run_scmp {op : BinOp} (h : cmpB op = true) (t : TypeId) (p q : ByteArray) (w : World) : (binOp op t (.string p) (.string q)).run P w = .ok (.bool (scmpS op p q)) w := by
  cases op <;> first | (cases h; done) | rfl | simp [binOp, Op.stringOp, scmpS]

theorem s_bin {op : BinOp} {t : TypeId} {x y : Operand} {yt : TypeId} (ho : o.op = .binOp op t x y yt) (h : binP (std P W0) op t (ev T x) (ev T y) (fun v => k v H)) : ∃ v, k v H ∧ OpT P W0 o T H v := by
  unfold binP at h
  split at h
  · rename_i ka p kb q hx hy
    have go : ∀ (v : V), k v H → (∀ r, ∃ u, (∀ w, (binOp op t (.int ka p) (.int kb q)).run P w = .ok u w) ∧ VR r v u) → ∃ v, k v H ∧ OpT P W0 o T H v := by
      intro v hk hr
      refine ⟨v, hk, bin_ok op t x y yt ho fun r a hT => ?_⟩
      have h1 := ev_one hT hx
      have h2 := ev_one hT hy
      unfold CR at h1 h2
      obtain ⟨u, h3, h4⟩ := hr r
      refine ⟨u, fun w => ?_, h4⟩
      rw [h1, h2]
      simp only [Sem.run_bind, guard_none op t x y (.int ka p) (.int kb q) w ⟨by simp, by simp⟩, Result.andThen]
      exact h3 w
    have hk : sameK ka kb = true → ka = kb := by cases ka <;> cases kb <;> simp [sameK]
    cases op <;> simp only [std] at h
    case shl =>
      have : ¬ q < 0 := by have := h.1; omega
      exact go _ h.2 fun r => ⟨_, fun w => by simp [binOp, Op.shift, this]; rfl, by unfold VR CR; rfl⟩
    case shr =>
      have : ¬ q < 0 := by have := h.1; omega
      exact go _ h.2 fun r => ⟨_, fun w => by simp [binOp, Op.shift, this]; rfl, by unfold VR CR; rfl⟩
    all_goals
      split at h
      · rename_i hs
        obtain rfl := hk hs
        first
          | exact go _ h fun r => ⟨_, run_arith rfl t ka p q, by unfold VR CR; rfl⟩
          | exact go _ h fun r => ⟨_, run_cmp rfl t ka p q, by unfold VR CR; rfl⟩
          | (have hz : q ≠ 0 := h.1
             exact go _ h.2 fun r => ⟨.int ka _, fun w => by simp [binOp, Op.intDiv, hz, binS]; rfl, by unfold VR CR; rfl⟩)
      · exact h.elim
  · rename_i p q hx hy
    have go : ∀ (v : V), k v H → (∀ r, ∃ u, (∀ w, (binOp op t (.string p) (.string q)).run P w = .ok u w) ∧ VR r v u) → ∃ v, k v H ∧ OpT P W0 o T H v := by
      intro v hk hr
      refine ⟨v, hk, bin_ok op t x y yt ho fun r a hT => ?_⟩
      have h1 := ev_one hT hx
      have h2 := ev_one hT hy
      unfold CR at h1 h2
      obtain ⟨u, h3, h4⟩ := hr r
      refine ⟨u, fun w => ?_, h4⟩
      rw [h1, h2]
      simp only [Sem.run_bind, guard_none op t x y (.string p) (.string q) w ⟨by simp, by simp⟩, Result.andThen]
      exact h3 w
    cases op <;> simp only [std] at h
    case add =>
      refine go _ h.2 fun r => ⟨.string (p ++ q), fun w => ?_, by unfold VR CR; rfl⟩
      have : ¬ (((p.size + q.size : Nat) : Int) > IntKind.i64.max) := by have := h.1; omega
      simp only [binOp, Op.stringOp, this, if_false]
      rfl
    all_goals first
      | exact h.elim
      | exact go _ h fun r => ⟨_, run_scmp rfl t p q, by unfold VR CR; rfl⟩
  · obtain ⟨v, hk, hr⟩ := h
    exact ⟨v, hk, bin_ok op t x y yt ho fun r a hT => hr r _ _ x y (ev_rel hT x) (ev_rel hT y)⟩
end
end Go.Proofs.YtdijdlkljeibjaaDoor.AM
