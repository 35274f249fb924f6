/- All kinds of operations together; the texts: what the abstract machine says of a text, the model does. -/
import Derived.Test.YtdijdlkljeibjaaDoorAm7
import Derived.CallAlone
namespace Go.Proofs.YtdijdlkljeibjaaDoor.AM
open Go Go.RowKit
set_option linter.unusedVariables false
set_option linter.unusedSimpArgs false

section
variable {P : Program} {W0 : World} {tab : TypeId → Option TI} {o : Oper} {T : List V} {H : Heap} {k : V → Heap → Prop}

theorem run_callFunc {f : FuncId} (hb : Bodied P f) (args : Array Value) (w : World) : (callFunc f args).run P w = .ok (.enter f args) w := by
  obtain ⟨fn, h1, h2, h3⟩ := hb
  simp only [callFunc, Sem.run_bind, run_program, Result.andThen, h1, h3, h2, Bool.false_eq_true, if_false]
  rfl

theorem s_call {c : Call} (ho : o.op = .call c) {x : Operand} (hc : c.callee = .value x) {f : FuncId} {caps : List V} (hf : callee T x = some (f, caps)) (hb : Bodied P f) (h : ACall P W0 f (evs T c.args.toList ++ caps) H k) : OpS P W0 o T H k := by
  intro r fz a w hw hT K Q hK
  have hfun : ∃ vs : List Value, a.eval x = .func (.func f) #[] ⟨vs⟩ ∧ VRs r caps vs := by
    unfold callee at hf
    split at hf
    · cases hf
      exact ⟨[], rfl, by simp [VRs]⟩
    · split at hf
      · rename_i g cs hx
        cases hf
        have h1 := ev_one hT hx
        unfold CR at h1
        obtain ⟨vs, e1, e2⟩ := h1
        refine ⟨vs, e1, ?_⟩
        clear e1 h hx
        induction cs generalizing vs with
        | nil => cases vs <;> simp_all [CRs, VRs]
        | cons c cs ih =>
          cases vs with
          | nil => simp [CRs] at e2
          | cons v vs =>
            unfold CRs at e2
            simp only [List.map_cons]
            unfold VRs
            exact ⟨by unfold VR; exact e2.1, ih _ e2.2⟩
      · cases hf
  obtain ⟨vs, hv, hcaps⟩ := hfun
  have hrun : (execOp a.eval o).run P w = .ok (.enter f ⟨c.args.toList.map a.eval ++ vs⟩) w := by
    unfold execOp
    rw [ho]
    have hargs : c.args.map a.eval = ⟨c.args.toList.map a.eval⟩ := by simp [← Array.toList_map]
    simp only [resolve, hc, hv, Deferred.ofValue, Sem.run_bind, Sem.run_pure, Result.andThen, invoke]
    rw [run_callFunc hb]
    simp [hargs]
  unfold Oper.wp
  rw [hrun]
  show Calls P f _ w _
  refine (h r fz w (c.args.toList.map a.eval ++ vs) hw ((evs_rel hT _).append hcaps)).mono fun e w' ⟨v, u, H', r', fz', he, hk, hw', hv', hst⟩ => ?_
  subst he
  exact hK _ _ _ _ _ _ hk hv' hw' hst

theorem s_len {c : Call} (ho : o.op = .call c) (hc : c.callee = .builtin .len) {t : TypeId} {ti : TI} (ht : c.argTypes[0]? = some t) (hti : tabOf P t = some ti) {v : V} (hv : evs T c.args.toList = [v]) {n : Int}
    (hn : (∃ e, ti.kind = .slice e ∧ ((∃ id i l cap, v = .one (.sl id i l cap) ∧ n = l) ∨ (v = .one .nils ∧ n = 0) ∨ ∃ a l c, v = .one (.raw (.slice a l c)) ∧ n = l)) ∨ (ti.kind = .str ∧ ∃ s, v = .one (.str s) ∧ n = s.size))
    : OpT P W0 o T H (.one (.int .i64 n)) := by
  refine OpT.of_pure fun r fz a w hw hT => ⟨.int .i64 n, fun w => ?_, by unfold VR CR; rfl⟩
  have h1 := evs_rel hT c.args.toList
  rw [hv] at h1
  have harg : ∃ x, c.args = #[x] := by
    have : c.args.toList.length = 1 := by have := congrArg List.length hv; simpa [evs] using this
    cases hl : c.args.toList with
    | nil => rw [hl] at this; cases this
    | cons x l =>
      cases l with
      | nil => exact ⟨x, by rw [← Array.toArray_toList (xs := c.args), hl]⟩
      | cons _ _ => rw [hl] at this; simp at this
  obtain ⟨x, hx⟩ := harg
  rw [hx] at h1
  simp only [List.map_cons, List.map_nil] at h1
  unfold VRs at h1
  have hvx := h1.1
  unfold execOp
  rw [ho]
  have hlen : (Builtin.len_ c.argTypes o.type #[a.eval x]).run P w = .ok (.int .i64 n) w := by
    rcases hn with ⟨e, hk, ⟨id, i, l, cap, rfl, rfl⟩ | ⟨rfl, rfl⟩ | ⟨ad, l, cp, rfl, rfl⟩⟩ | ⟨hk, s, rfl, rfl⟩
    · unfold VR CR at hvx
      rcases hvx with ⟨rw_, b, o', s', q, ad, cc, _, e2, _⟩ | ⟨_, ⟨ad, e2, _⟩, rfl⟩ <;> simp [Builtin.len_, ht, e2, run_underlying (kind_slice hti hk), goInt]
    · unfold VR CR at hvx
      simp [Builtin.len_, ht, hvx, run_underlying (kind_slice hti hk), goInt]
    · unfold VR CR at hvx
      simp [Builtin.len_, ht, hvx, run_underlying (kind_slice hti hk), goInt]
    · unfold VR CR at hvx
      simp [Builtin.len_, ht, hvx, run_underlying (kind_str hti hk), goInt]
  simp [resolve, hc, hx, invoke, builtin, hlen]

theorem s_mm {c : Call} (ho : o.op = .call c) {b : Builtin} (hb : b = .min ∨ b = .max) (hc : c.callee = .builtin b) {p q : Int} (hv : evs T c.args.toList = [.one (.int .i64 p), .one (.int .i64 q)]) : OpT P W0 o T H (.one (.int .i64 ((std P W0).mm b p q))) := by
  refine OpT.of_pure fun r fz a w hw hT => ⟨.int .i64 ((std P W0).mm b p q), fun w => ?_, by unfold VR CR; rfl⟩
  have h1 := evs_rel hT c.args.toList
  rw [hv] at h1
  have harg : ∃ x y, c.args = #[x, y] := by
    have : c.args.toList.length = 2 := by have := congrArg List.length hv; simpa [evs] using this
    cases hl : c.args.toList with
    | nil => rw [hl] at this; cases this
    | cons x l =>
      cases l with
      | nil => rw [hl] at this; simp at this
      | cons y l =>
        cases l with
        | nil => exact ⟨x, y, by rw [← Array.toArray_toList (xs := c.args), hl]⟩
        | cons _ _ => rw [hl] at this; simp at this
  obtain ⟨x, y, hx⟩ := harg
  rw [hx] at h1
  simp only [List.map_cons, List.map_nil] at h1
  unfold VRs VRs at h1
  obtain ⟨h1, h2, _⟩ := h1
  unfold VR CR at h1 h2
  unfold execOp
  rw [ho]
  rcases hb with rfl | rfl
  · simp [resolve, hc, hx, invoke, builtin, Builtin.min_, Builtin.min2, h1, h2, std]
  · simp [resolve, hc, hx, invoke, builtin, Builtin.max_, Builtin.max2, h1, h2, std]

end

/-- What is asked of the table and of the program. -/
structure Tab (P : Program) (tab : TypeId → Option TI) : Prop where
  tab : ∀ t ti, tab t = some ti → tabOf P t = some ti
  mixed : P.follows .mixedOrders = true

section
variable {P : Program} {W0 : World} {tab : TypeId → Option TI} {o : Oper} {T : List V} {H : Heap} {k : V → Heap → Prop}

theorem is_none (d : Nat) : Is none d d := rfl
theorem is_some {n : Int} {d : Nat} (h : 0 ≤ n) : Is (some n) n.toNat d := (Int.toNat_of_nonneg h).symm

theorem row_of {H : Heap} {id : Nat} {te : TI} {rw_ : Bool} {t' : TypeId} {sz' m : Nat} {f : Nat → List C} (h5 : H.getD id none = some (B.row rw_ t' sz' m f)) (hs : te.sz = sz') : ∃ rw t' m f, H[id]? = some (some (B.row rw t' te.sz m f)) := by
  rw [List.getD_eq_getElem?_getD] at h5
  refine ⟨rw_, t', m, f, ?_⟩
  cases hh : H[id]? with
  | none => rw [hh] at h5; cases h5
  | some q => rw [hh] at h5; simp at h5; rw [h5, hs]

/-- An operation that may be taken first. -/
theorem aop_take (ht : Tab P tab) {md : Md} (hb : takeB o = true) (h : aop (std P W0 md) tab o T H k) : ∃ v, k v H ∧ OpT P W0 o T H v := by
  unfold aop at h
  split at h
  · rename_i x ho; exact ⟨_, h, s_move ho⟩
  · rename_i x ho; exact ⟨_, h, s_assign ho⟩
  · rename_i c x y ho
    split at h
    · rename_i t hc
      split at h
      · rename_i p q hx hy; exact ⟨_, h, s_pick_b ho hc hx hy⟩
      · exact s_pick ho hc h
    · exact h.elim
  · rename_i t x ho
    split at h
    · rename_i ti id i j h1 h2; exact s_load ho (ht.tab _ _ h1) h2 h
    · rename_i ti v h1 h2; exact s_rload ho h2 h
    · exact h.elim
  · rename_i t x y ho; simp [takeB, ho] at hb
  · rename_i t x n ho
    split at h
    · rename_i sz by_ fs z id i j h1 h2
      split at h
      · rename_i off s hn; exact ⟨_, h, s_fieldAddr ho (ht.tab _ _ h1) hn h2⟩
      · exact h.elim
    · rename_i sz by_ fs z ad h1 h2
      split at h
      · rename_i off s hn; exact ⟨_, h, s_fieldAddr_raw ho (ht.tab _ _ h1) hn h2⟩
      · exact h.elim
    · exact h.elim
  · rename_i t x y ho
    split at h
    · rename_i sz by_ e z id i len cap kk n h1 h2 h3
      split at h
      · rename_i te rw_ t' sz' m f h4 h5
        obtain ⟨hb, h⟩ := h
        split at h
        · rename_i hs; exact ⟨_, h, s_indexAddr ho (ht.tab _ _ h1) (ht.tab _ _ h4) h2 h3 (row_of h5 hs) hb⟩
        · exact h.elim
      · exact h.elim
    · rename_i sz by_ e z ad len cap kk n h1 h2 h3
      split at h
      · rename_i te h4; exact ⟨_, h.2, s_indexAddr_raw ho (ht.tab _ _ h1) (ht.tab _ _ h4) h2 h3 h.1⟩
      · exact h.elim
    · rename_i sz by_ len e z id i j kk n h1 h2 h3
      split at h
      · rename_i te h4
        split at h
        · rename_i hlt; exact ⟨_, h, s_indexAddr_arr ho (ht.tab _ _ h1) (ht.tab _ _ h4) h2 h3 hlt⟩
        · exact h.elim
      · exact h.elim
    · exact h.elim
  · rename_i t x ho; simp [takeB, ho] at hb
  · rename_i t ho; simp [takeB, ho] at hb
  · rename_i t parts ho
    split at h
    · rename_i sz by_ fs z h1
      split at h
      · rename_i cs hf
        split at hf
        · rename_i hall; exact ⟨_, h, s_build ho (ht.tab _ _ h1) hall hf⟩
        · cases hf
      · exact h.elim
    · rename_i sz by_ n e z h1
      split at h
      · rename_i te h2
        split at h
        · rename_i cs hf; exact ⟨_, h, s_buildArr ho (ht.tab _ _ h1) (ht.tab _ _ h2) hf⟩
        · exact h.elim
      · exact h.elim
    · exact h.elim
  · rename_i t n parts ho; simp [takeB, ho] at hb
  · rename_i x ho
    split at h
    · rename_i id i j hx; exact ⟨_, h, hx ▸ s_nilCheck ho (.inl ⟨_, _, _, hx⟩)⟩
    · rename_i ad hx; exact ⟨_, h, hx ▸ s_nilCheck ho (.inr (.inl ⟨_, hx⟩))⟩
    · rename_i f caps hx; exact ⟨_, h, hx ▸ s_nilCheck ho (.inr (.inr ⟨_, _, hx⟩))⟩
    · exact h.elim
  · rename_i op t x y yt ho
    split at h
    · rename_i sz by_ kd z h1
      split at h
      · rename_i c hc; exact ⟨_, h, s_nil ho (ht.tab _ _ h1) hc⟩
      · exact s_bin ho h
    · exact h.elim
  · rename_i op t x ho
    split at h
    · rename_i b hx; exact ⟨_, h, s_not ho hx⟩
    · rename_i kk n hx; exact ⟨_, h, s_neg ho hx⟩
    · exact h.elim
  · rename_i s d x ho
    split at h
    · rename_i h1 h2 hx; exact ⟨_, h, s_conv ho (ht.tab _ _ h1) (ht.tab _ _ h2) rfl rfl hx⟩
    · rename_i h1 h2 hx; exact ⟨_, h, s_convStr ho (ht.tab _ _ h1) (ht.tab _ _ h2) rfl rfl hx⟩
    · exact h
  · rename_i t x lo hi mx ho
    split at h
    · rename_i h1 hx
      split at h
      · rename_i hl hh
        refine ⟨_, h, ?_⟩
        have := s_slStr (P := P) (W0 := W0) (T := T) (H := H) ho (ht.tab _ _ h1) rfl hx (vl := none) (vh := none) (kl := .i64) (kh := .i64) (by simpa using hl) (by simpa using hh) (is_none 0) (is_none _) (Nat.zero_le _) (Nat.le_refl _)
        rw [ByteArray.extract_zero_size] at this
        exact this
      · rename_i ka a hl hh
        obtain ⟨⟨g1, g2⟩, h⟩ := h
        simp only [std] at g1 g2 h
        exact ⟨_, h, s_slStr ho (ht.tab _ _ h1) rfl hx (vl := some a) (vh := none) (kh := .i64) hl (by simpa using hh) (is_some g1) (is_none _) (by omega) (Nat.le_refl _)⟩
      · rename_i kb b hl hh
        obtain ⟨⟨_, g1⟩, g2, h⟩ := h
        simp only [std] at g1 g2 h
        exact ⟨_, h, s_slStr ho (ht.tab _ _ h1) rfl hx (vl := none) (vh := some b) (kl := .i64) (by simpa using hl) hh (is_none 0) (is_some g1) (Nat.zero_le _) (by omega)⟩
      · rename_i ka a kb b hl hh
        obtain ⟨⟨g0, g1⟩, g2, h⟩ := h
        simp only [std] at g0 g1 g2 h
        exact ⟨_, h, s_slStr ho (ht.tab _ _ h1) rfl hx (vl := some a) (vh := some b) hl hh (is_some g0) (is_some (by omega)) (by omega) (by omega)⟩
      · exact h.elim
    · rename_i sz0 by0 e0 z0 id0 i0 len0 cap0 h1 hx
      split at h
      · rename_i te rw_ t' sz' m f h4 h5
        split at h
        · rename_i hs
          have hrow := row_of h5 hs
          split at h
          · rename_i ka a hl hh
            obtain ⟨⟨g1, g2⟩, h⟩ := h
            simp only [std] at g1 g2 h
            exact ⟨_, h, s_slSl ho (ht.tab _ _ h1) rfl (ht.tab _ _ h4) hx hrow (vl := some a) (vh := none) (kh := .i64) hl (by simpa using hh) (is_some g1) (is_none _) (by omega) (Nat.le_refl _)⟩
          · rename_i kb b hl hh
            obtain ⟨⟨_, g1⟩, g2, h⟩ := h
            simp only [std] at g1 g2 h
            refine ⟨_, h, ?_⟩
            have := s_slSl (P := P) (W0 := W0) (T := T) (H := H) ho (ht.tab _ _ h1) rfl (ht.tab _ _ h4) hx hrow (vl := none) (vh := some b) (kl := .i64) (by simpa using hl) hh (is_none 0) (is_some g1) (Nat.zero_le _) (by omega)
            simpa using this
          · rename_i ka a kb b hl hh
            obtain ⟨⟨g0, g1⟩, g2, h⟩ := h
            simp only [std] at g0 g1 g2 h
            exact ⟨_, h, s_slSl ho (ht.tab _ _ h1) rfl (ht.tab _ _ h4) hx hrow (vl := some a) (vh := some b) hl hh (is_some g0) (is_some (by omega)) (by omega) (by omega)⟩
          · rename_i kb b y hl hh
            split at h
            · rename_i kc c hc
              split at h
              · rename_i cp
                obtain ⟨⟨_, g0⟩, ⟨_, g1⟩, g2, h⟩ := h
                simp only [std] at g0 g1 g2 h
                obtain rfl : lo = none := by simpa using hl
                obtain ⟨x2, rfl, hx2⟩ : ∃ x2, hi = some x2 ∧ ev T x2 = .one (.int kb b) := by
                  cases hi with
                  | none => simp at hh
                  | some x2 => exact ⟨x2, rfl, by simpa using hh⟩
                exact ⟨_, h, s_slSl3 ho (ht.tab _ _ h1) rfl (ht.tab _ _ h4) hx hx2 hc g0 g1 g2⟩
              · exact h.elim
            · exact h.elim
          · exact h
        · exact h.elim
      · exact h.elim
    · exact h
  · rename_i fn first captured ho
    split at h
    · rename_i f cs h1 h2; exact ⟨_, h, s_makeFunc ho h1 h2⟩
    · exact h.elim
  · rename_i x n ho
    split at h
    · rename_i vs hx
      split at h
      · rename_i v hv; exact ⟨_, h, s_extract ho hx hv⟩
      · exact h.elim
    · exact h.elim
  · rename_i t x n ho
    split at h
    · split at h
      · exact h
      · exact h.elim
    · exact h.elim
  · rename_i t x y ho
    split at h
    · rename_i h1 hx hy; exact ⟨_, h.2, s_strIndex ho (ht.tab _ _ h1) rfl hx hy h.1⟩
    · exact h
  · rename_i t x y ho; simp [takeB, ho] at hb
  · rename_i c ho
    split at h
    · rename_i x hc; simp [takeB, ho, hc] at hb
    · rename_i hc
      split at h
      · rename_i hti hv
        obtain ⟨t, h1, h2⟩ := Option.bind_eq_some_iff.1 hti
        exact ⟨_, h, s_len ho hc h1 (ht.tab _ _ h2) hv (.inl ⟨_, rfl, .inl ⟨_, _, _, _, rfl, rfl⟩⟩)⟩
      · rename_i hti hv
        obtain ⟨t, h1, h2⟩ := Option.bind_eq_some_iff.1 hti
        exact ⟨_, h, s_len ho hc h1 (ht.tab _ _ h2) hv (.inl ⟨_, rfl, .inr (.inl ⟨rfl, rfl⟩)⟩)⟩
      · rename_i hti hv
        obtain ⟨t, h1, h2⟩ := Option.bind_eq_some_iff.1 hti
        exact ⟨_, h, s_len ho hc h1 (ht.tab _ _ h2) hv (.inl ⟨_, rfl, .inr (.inr ⟨_, _, _, rfl, rfl⟩)⟩)⟩
      · rename_i hti hv
        obtain ⟨t, h1, h2⟩ := Option.bind_eq_some_iff.1 hti
        exact ⟨_, h, s_len ho hc h1 (ht.tab _ _ h2) hv (.inr ⟨rfl, _, rfl, rfl⟩)⟩
      · exact h
    · rename_i hc
      split at h
      · rename_i hv; exact ⟨_, h, s_mm ho (.inl rfl) hc hv⟩
      · exact h
    · rename_i hc
      split at h
      · rename_i hv; exact ⟨_, h, s_mm ho (.inr rfl) hc hv⟩
      · exact h
    · rename_i b h1 h2 h3 hc
      simp [takeB, ho, hc] at hb
      exfalso
      cases b <;> simp_all
    · exact h.elim
  · exact h.elim
  · rename_i hbin hun hconv hslice hmf hext hfld hidx hms hcall hdf
    exfalso
    unfold takeB at hb
    cases ho : o.op <;> rw [ho] at hb <;> first
      | (cases hb; done)
      | exact hbin _ _ _ _ _ ho
      | exact hslice _ _ _ _ _ ho
      | (simp_all; done)

theorem aop_sound (ht : Tab P tab) {md : Md} (hm : ∀ N r0, md ≠ .it N r0) (h : aop (std P W0 md) tab o T H k) : OpS P W0 o T H k := by
  cases hb : takeB o with
  | true =>
    obtain ⟨v, h1, h2⟩ := aop_take ht hb h
    exact h2.opS h1
  | false =>
    unfold aop at h
    split at h
    case h_5 t x y ho =>
      split at h
      · rename_i ti id i j h1 h2; exact s_store ho (ht.tab _ _ h1) h2 h
      · exact h.elim
    case h_8 t x ho =>
      split at h
      · rename_i hok; exact s_box ho hok h
      · exact h.elim
    case h_9 t ho =>
      split at h
      · rename_i ti h1; exact s_alloc ho (ht.tab _ _ h1) h
      · exact h.elim
    case h_11 t n parts ho =>
      split at h
      · rename_i sz by_ e z h1
        split at h
        · rename_i te h2
          split at h
          · rename_i cs hf
            split at h
            · rename_i hb; exact s_buildSlice ho (ht.tab _ _ h1) (ht.tab _ _ h2) hf hb h
            · exact h.elim
          · exact h.elim
        · exact h.elim
      · exact h.elim
    case h_21 => exact h
    case h_22 c ho =>
      split at h
      · rename_i x hc
        split at h
        · rename_i g caps hg; exact s_call ho hc hg h.1 h.2
        · cases md with
          | it N r0 => exact absurd rfl (hm N r0)
          | _ => exact h.elim
      · rename_i hc; simp [takeB, ho, hc] at hb
      · rename_i hc; simp [takeB, ho, hc] at hb
      · rename_i hc; simp [takeB, ho, hc] at hb
      · exact h
      · exact h.elim
    case h_23 => exact h.elim
    case h_24 => exact h
    all_goals (rename_i ho; simp [takeB, ho] at hb)

theorem aop_eq {md : Md} (hm : ∀ (c : Call) x, o.op = .call c → c.callee = .value x → callee T x ≠ none) (h : aop (std P W0 md) tab o T H k) : aop (std P W0) tab o T H k := by
  unfold aop at h ⊢
  cases ho : o.op
  case call c =>
    rw [ho] at h
    simp only at h ⊢
    cases hc : c.callee
    case value f =>
      rw [hc] at h
      simp only at h ⊢
      cases hf : callee T f with
      | some q => rw [hf] at h; exact h
      | none => exact absurd hf (hm c f ho hc)
    case builtin b =>
      rw [hc] at h
      cases b <;> exact h
    all_goals (rw [hc] at h; exact h)
  all_goals (rw [ho] at h; exact h)
theorem notDefer {X : Ext} (h : aop X tab o T H k) : ∀ c, o.op ≠ .defer c := by
  intro c hc
  unfold aop at h
  rw [hc] at h
  exact h.elim
/-- In any frame: what an operation does. -/
theorem aop_yield {N : Nat} {r0 : Pl} {c : Call} {x : Operand} (ho : o.op = .call c) (hc : c.callee = .value x) (hf : callee T x = none) (h : aop (std P W0 (.it N r0)) tab o T H k) : OpY P W0 (.it N r0) o T H k := by
  unfold aop at h
  rw [ho] at h
  simp only at h
  rw [hc] at h
  simp only at h
  rw [hf] at h
  exact h
end
end Go.Proofs.YtdijdlkljeibjaaDoor.AM
