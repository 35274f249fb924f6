/- That an operation of the model does what the abstract machine says of it, one lemma for each kind. The condition: the table of types is the program's own. -/
import Derived.Test.YtdijdlkljeibjaaDoorAm3
import Derived.ArgAppend
import Derived.BigRegion
namespace Go.Proofs.YtdijdlkljeibjaaDoor.AM
open Go Go.RowKit
set_option linter.unusedVariables false
set_option linter.unusedSimpArgs false

section
variable {P : Program} {W0 : World} {tab : TypeId → Option TI} {o : Oper} {T : List V} {H : Heap} {k : V → Heap → Prop}

theorem CRs.drop {r : Pl} : ∀ (n : Nat) {c : List C} {v : List Value}, CRs r c v → CRs r (c.drop n) (v.drop n)
  | 0, _, _, h => h
  | n + 1, [], [], h => by simp [CRs]
  | n + 1, c :: cs, v :: vs, h => by
    unfold CRs at h
    simpa using CRs.drop n h.2
  | _ + 1, [], _ :: _, h => by simp [CRs] at h
  | _ + 1, _ :: _, [], h => by simp [CRs] at h

/-- What a type's table row says of a load. -/
theorem run_loadVar_of {t : TypeId} {ti : TI} (ht : tabOf P t = some ti) {r : Pl} {w : World} {a : Addr} {cs : List C} {v : V} (hv : mkV ti cs = some v) (hl : cs.length = ti.sz)
    (hc : ∀ (j : Nat) (c : C), cs[j]? = some c → ∃ u, w.cell? (a.add j) = some u ∧ CR r c u) : ∃ u, (loadVar t a).run P w = .ok u w ∧ VR r v u := by
  obtain ⟨i, d, z, h1, h2, h3, rfl⟩ := tab_info ht
  have hsz : (sizeOf t).run P w = .ok i.size w := by simp [sizeOf, typeInfo, h1]
  have hus : ∃ us : List Value, us.length = cs.length ∧ CRs r cs us ∧ ∀ j u, us[j]? = some u → w.cell? (a.add j) = some u := by
    clear hv hl ht hsz
    have : ∀ (n : Nat) (l : List C), (∀ j c, l[j]? = some c → ∃ u, w.cell? (a.add (n + j)) = some u ∧ CR r c u) → ∃ us : List Value, us.length = l.length ∧ CRs r l us ∧ ∀ j u, us[j]? = some u → w.cell? (a.add (n + j)) = some u := by
      intro n l
      induction l generalizing n with
      | nil => exact fun _ => ⟨[], rfl, by simp [CRs], fun j u h => by simp at h⟩
      | cons c l ih =>
        intro h
        obtain ⟨u, hu, hcu⟩ := h 0 c (by simp)
        obtain ⟨us, e1, e2, e3⟩ := ih (n + 1) (fun j c hc => by have := h (j + 1) c (by simpa using hc); rwa [show n + (j + 1) = n + 1 + j by omega] at this)
        refine ⟨u :: us, by simp [e1], by unfold CRs; exact ⟨hcu, e2⟩, fun j x hx => ?_⟩
        cases j with
        | zero => simp at hx; subst hx; exact hu
        | succ j => have := e3 j x (by simpa using hx); rwa [show n + 1 + j = n + (j + 1) by omega] at this
    simpa using this 0 cs (by simpa using hc)
  obtain ⟨us, e1, e2, e3⟩ := hus
  have hlen : us.length = i.size := by rw [e1, hl]
  unfold mkV at hv
  cases d with
  | struct fs =>
    simp [kindOf] at hv
    subst hv
    refine ⟨.agg ⟨us⟩, ?_, by unfold VR; exact ⟨us, rfl, e2⟩⟩
    have := run_loadCells_list (P := P) w a us e3
    rw [hlen] at this
    simp [loadVar, isAgg, run_underlying h2, hsz, this]
  | array n e =>
    simp [kindOf] at hv
    subst hv
    refine ⟨.agg ⟨us⟩, ?_, by unfold VR; exact ⟨us, rfl, e2⟩⟩
    have := run_loadCells_list (P := P) w a us e3
    rw [hlen] at this
    simp [loadVar, isAgg, run_underlying h2, hsz, this]
  | _ =>
    simp [kindOf] at hv
    split at hv
    · rename_i c
      simp only [Option.some.injEq] at hv
      subst hv
      cases us with
      | nil => simp at e1
      | cons u us =>
        have h0 := e3 0 u (by simp)
        simp only [Addr.add, if_true] at h0
        unfold CRs at e2
        exact ⟨u, by simp [loadVar, isAgg, run_underlying h2, run_load, h0], by unfold VR; exact e2.1⟩
    · cases hv

theorem addr_add (b o j : Nat) : (⟨b, o, none⟩ : Addr).add j = ⟨b, o + j, none⟩ := by
  unfold Addr.add
  split <;> simp_all

/-- A load where the block is the same gives the same. -/
theorem run_loadVar_same {t : TypeId} {ti : TI} (ht : tabOf P t = some ti) {w w' : World} {b off : Nat} (hb : w'.heap[b]? = w.heap[b]?) (hsome : ∀ q, q < ti.sz → (w.cell? ((⟨b, off, none⟩ : Addr).add q)).isSome = true) {cs : List C} {v : V} (hv : mkV ti cs = some v) (hcl : cs.length = ti.sz) {u u' : Value}
    (h' : (loadVar t ⟨b, off, none⟩).run P w' = .ok u' w') (h : (loadVar t ⟨b, off, none⟩).run P w = .ok u w) : u' = u := by
  obtain ⟨i, d, z, h1, h2, h3, rfl⟩ := tab_info ht
  have hc : ∀ q, w'.cell? ((⟨b, off, none⟩ : Addr).add q) = w.cell? ((⟨b, off, none⟩ : Addr).add q) := fun q => by
    rw [addr_add]
    simp only [World.cell?, hb]
  have hsz : ∀ w : World, (sizeOf t).run P w = .ok i.size w := fun w => by simp [sizeOf, typeInfo, h1]
  have hl : ∀ w : World, (∀ q, q < i.size → (w.cell? ((⟨b, off, none⟩ : Addr).add q)).isSome = true) → (loadCells ⟨b, off, none⟩ i.size).run P w = .ok ((List.range i.size).map fun q => (w.cell? ((⟨b, off, none⟩ : Addr).add q)).getD undef).toArray w := fun w hw =>
    run_loadCells w _ _ _ (fun j hj => by
      obtain ⟨x, hx⟩ := Option.isSome_iff_exists.1 (hw j hj)
      simp [hx])
  cases d
  case struct fs =>
    simp only [loadVar, isAgg, Sem.run_bind, run_underlying h2, Result.andThen, Sem.run_pure, if_true, hsz, hl w hsome] at h
    simp only [loadVar, isAgg, Sem.run_bind, run_underlying h2, Result.andThen, Sem.run_pure, if_true, hsz, hl w' (fun q hq => by rw [hc]; exact hsome q hq)] at h'
    simp only [hc] at h'
    cases h
    cases h'
    rfl
  case array n e =>
    simp only [loadVar, isAgg, Sem.run_bind, run_underlying h2, Result.andThen, Sem.run_pure, if_true, hsz, hl w hsome] at h
    simp only [loadVar, isAgg, Sem.run_bind, run_underlying h2, Result.andThen, Sem.run_pure, if_true, hsz, hl w' (fun q hq => by rw [hc]; exact hsome q hq)] at h'
    simp only [hc] at h'
    cases h
    cases h'
    rfl
  all_goals
    have h0 := hc 0
    simp only [Addr.add, if_true] at h0
    simp only [loadVar, isAgg, Sem.run_bind, run_underlying h2, Result.andThen, Sem.run_pure, if_false, Bool.false_eq_true, run_load] at h h'
    rw [h0] at h'
    cases hx : w.cell? ⟨b, off, none⟩ with
    | none =>
      unfold mkV at hv
      simp [kindOf] at hv
      split at hv
      · simp only [List.length_singleton] at hcl
        have := hsome 0 (Nat.lt_of_lt_of_eq Nat.one_pos hcl)
        rw [Addr.add, if_pos rfl, hx] at this
        cases this
      · cases hv
    | some x =>
      rw [hx] at h h'
      cases h
      cases h'
      rfl

theorem loadP_sound {t : TypeId} {ti : TI} (ht : tabOf P t = some ti) {id i j : Nat} {k : V → Prop} (h : loadP (std P W0) H ti id i j k) :
    ∃ v, k v ∧ ∀ {r : Pl} {fz : Fz} {w : World}, WR W0 r fz H w → ∀ {u0 : Value}, CR r (.ptr id i j) u0 → ∃ u ad, u0 = .pointer (some ad) ∧ VR r v u ∧ ∀ w', (∀ rw b q s e, r id = some (.at_ rw b q s e) → w'.heap[b]? = w.heap[b]?) → (loadVar t ad).run P w' = .ok u w' := by
  have hmain : ∀ (B' : B) (cs : List C) (v : V), mkV ti cs = some v → cs.length = ti.sz → ∀ {r : Pl} {fz : Fz} {w : World}, WR W0 r fz H w → ∀ {u0 : Value}, CR r (.ptr id i j) u0 →
      (∀ rw b o' s e, r id = some (.at_ rw b o' s e) → s = B'.sz → BR r w b o' e B' → ∀ (q : Nat) (c : C), cs[q]? = some c → ∃ us t fr u, w.heap[b]? = some (.cells us t fr) ∧ us[o' + (i * s + j) + q]? = some u ∧ CR r c u) → H[id]? = some (some B') →
      ∃ u ad, u0 = .pointer (some ad) ∧ VR r v u ∧ ∀ w', (∀ rw b q s e, r id = some (.at_ rw b q s e) → w'.heap[b]? = w.heap[b]?) → (loadVar t ad).run P w' = .ok u w' := by
    intro B' cs v hv hl r fz w hw u0 hr hc hH
    unfold CR at hr
    obtain ⟨rw_, b, o', s, e, e1, e2⟩ := hr
    obtain ⟨rfl, frw, f2, f4, f3⟩ := (hw.live id B' hH).at_ e1
    have hcell : ∀ w' : World, (∀ rw b q s e, r id = some (.at_ rw b q s e) → w'.heap[b]? = w.heap[b]?) → ∀ q (c : C), cs[q]? = some c → ∃ u, w'.cell? ((⟨b, o' + (i * B'.sz + j), none⟩ : Addr).add q) = some u ∧ CR r c u := by
      intro w' hsame q c hq
      obtain ⟨us, t', fr, u, h1, h2, h3⟩ := hc _ b o' _ e e1 rfl f3 q c hq
      refine ⟨u, ?_, h3⟩
      rw [addr_add]
      simp only [World.cell?, hsame _ b o' _ e e1, h1]
      simpa using h2
    obtain ⟨u, hu, hvu⟩ := run_loadVar_of ht (r := r) (w := w) (a := ⟨b, o' + (i * B'.sz + j), none⟩) hv hl (hcell w (fun _ _ _ _ _ _ => rfl))
    refine ⟨u, _, e2, hvu, fun w' hsame => ?_⟩
    have hb : w'.heap[b]? = w.heap[b]? := hsame _ b o' _ e e1
    obtain ⟨u', hu', _⟩ := run_loadVar_of ht (r := r) (w := w') (a := ⟨b, o' + (i * B'.sz + j), none⟩) hv hl (hcell w' hsame)
    rw [hu']
    congr 1
    exact run_loadVar_same ht hb (fun q hq => by
      obtain ⟨x, h1, _⟩ := hcell w (fun _ _ _ _ _ _ => rfl) q cs[q] (List.getElem?_eq_getElem (by omega))
      rw [h1]; rfl) hv hl hu' hu
  unfold loadP at h
  rw [List.getD_eq_getElem?_getD] at h
  cases hH : H[id]? with
  | none => rw [hH] at h; exact h.elim
  | some B' =>
    rw [hH] at h
    cases B' with
    | none => exact h.elim
    | some B' =>
      cases B' with
      | obj ob => exact h.elim
      | box t' cs =>
        simp only [Option.getD_some] at h
        cases i with
        | succ i => exact h.elim
        | zero =>
          simp only at h
          split at h
          · rename_i v hv
            split at h
            · rename_i hle
              refine ⟨v, h, fun {r fz w} hw {u0} hr => hmain _ _ v hv (by simp; omega) hw hr (fun rw_ b o' s e e1 es hB q c hq => ?_) hH⟩
              obtain ⟨us, g1, g0, g2⟩ := hB
              rw [List.getElem?_take] at hq
              split at hq
              · rw [List.getElem?_drop] at hq
                obtain ⟨u, g3, g4⟩ := g2 (j + q) c hq
                refine ⟨us, _, _, u, g1, ?_, g4⟩
                rw [show o' + (0 * s + j) + q = o' + (j + q) by omega]
                exact g3
              · cases hq
            · exact h.elim
          · exact h.elim
      | row rw_ t' sz n f =>
        simp only [Option.getD_some] at h
        obtain ⟨hlt, h⟩ := h
        replace hlt : i < n := hlt
        split at h
        · rename_i hle
          split at h
          · rename_i v hv
            refine ⟨v, h, fun {r fz w} hw {u0} hr => ?_⟩
            have hfl : (f i).length = sz := by
              rcases hw.live id _ hH with ⟨b2, o2, e2, f1, f2, f4, f3⟩ | ⟨_, rw2, t, sz', f', hx⟩
              · obtain ⟨us, t2, fr, g1, g0, g3, g2⟩ := f3
                exact (g2 i hlt).1
              · cases hx; omega
            refine hmain _ (((f i).drop j).take ti.sz) v hv (by simp; omega) hw hr (fun rw_ b o' s e e1 es hB q c hq => ?_) hH
            obtain ⟨us, t2, fr, g1, g0, g5, g2⟩ := hB
            rw [List.getElem?_take] at hq
            split at hq
            · rw [List.getElem?_drop] at hq
              obtain ⟨u, g3, g4⟩ := (g2 i hlt).2 (j + q) c hq
              refine ⟨us, _, _, u, g1, ?_, g4⟩
              subst es
              rw [Nat.add_assoc, Nat.add_assoc]
              exact g3
            · cases hq
          · exact h.elim
        · exact h.elim

theorem s_load {t : TypeId} {x : Operand} (ho : o.op = .load t x) {ti : TI} (ht : tabOf P t = some ti) {id i j : Nat} (hx : ev T x = .one (.ptr id i j)) (h : loadP (std P W0) H ti id i j (fun v => k v H)) : ∃ v, k v H ∧ OpT P W0 o T H v := by
  obtain ⟨v, hk, hv⟩ := loadP_sound ht h
  refine ⟨v, hk, fun r fz a w hw hT => ?_⟩
  have hr := ev_rel hT x
  rw [hx] at hr
  unfold VR at hr
  obtain ⟨u, ad, e1, e2, e3⟩ := hv hw hr
  refine ⟨u, e2, fun w' _ hs => ?_⟩
  unfold execOp
  rw [ho]
  refine run_value ?_
  simp only [Instr.loadAt, e1, Instr.sureAddr]
  exact e3 w' (fun rw_ b q s e hb => hs id rw_ b q s e (by unfold loadId; rw [ho]; simp only [hx]) hb)

theorem s_move {x : Operand} (ho : o.op = .move x) : OpT P W0 o T H (ev T x) :=
  OpT.of_pure fun r fz a w hw hT => ⟨_, fun w => by unfold execOp; rw [ho]; rfl, ev_rel hT x⟩
theorem s_assign {x : Operand} (ho : o.op = .assign x) : OpT P W0 o T H (ev T x) :=
  OpT.of_pure fun r fz a w hw hT => ⟨_, fun w => by unfold execOp; rw [ho]; rfl, ev_rel hT x⟩

theorem run_pick {c x y : Operand} (ho : o.op = .pick c x y) {a : Act} {t : Bool} (hc : a.eval c = .bool t) (w : World) : (execOp a.eval o).run P w = .ok (.value (if t then a.eval x else a.eval y)) w := by
  unfold execOp
  rw [ho]
  simp [hc, asBool]

theorem s_pick_b {c x y : Operand} (ho : o.op = .pick c x y) {t p q : Bool} (hc : ev T c = .one (.bool t)) (hx : ev T x = .one (.bool p)) (hy : ev T y = .one (.bool q)) : OpT P W0 o T H (.one (.bool (if t then p else q))) :=
  OpT.of_pure fun r fz a w hw hT => by
    have h1 := ev_rel hT c
    have h2 := ev_rel hT x
    have h3 := ev_rel hT y
    rw [hc] at h1
    rw [hx] at h2
    rw [hy] at h3
    unfold VR CR at h1 h2 h3
    refine ⟨_, fun w => run_pick ho h1 w, ?_⟩
    rw [h2, h3]
    unfold VR CR
    cases t <;> rfl
theorem s_pick {c x y : Operand} (ho : o.op = .pick c x y) {t : Bool} (hc : ev T c = .one (.bool t)) (h : (t = true → k (ev T x) H) ∧ (t = false → k (ev T y) H)) : ∃ v, k v H ∧ OpT P W0 o T H v := by
  refine ⟨if t then ev T x else ev T y, by cases t; exact h.2 rfl; exact h.1 rfl, OpT.of_pure fun r fz a w hw hT => ?_⟩
  have h1 := ev_rel hT c
  rw [hc] at h1
  unfold VR CR at h1
  refine ⟨_, fun w => run_pick ho h1 w, ?_⟩
  cases t
  · exact ev_rel hT y
  · exact ev_rel hT x

theorem s_rload {t : TypeId} {x : Operand} (ho : o.op = .load t x) {v : Value} (hx : ev T x = .one (.raw v)) (h : (std P W0).rload t v (fun v => k v H)) : ∃ v, k v H ∧ OpT P W0 o T H v := by
  obtain ⟨y, u, hk, h2, h1⟩ := h
  refine ⟨y, hk, fun r fz a w hw hT => ⟨u, h2 r, fun w' hs _ => ?_⟩⟩
  have h3 := ev_rel hT x
  rw [hx] at h3
  unfold VR CR at h3
  unfold execOp
  rw [ho]
  refine run_value ?_
  rw [h3]
  exact h1 w' hs

theorem splice_length : ∀ (cs : List C) (o : Nat) (l : List C), (splice cs o l).length = cs.length
  | cs, o, [] => rfl
  | cs, o, c :: r => by rw [splice, splice_length]; simp
theorem splice_get : ∀ (cs : List C) (o : Nat) (l : List C), o + l.length ≤ cs.length → ∀ i, (splice cs o l)[i]? = if o ≤ i ∧ i < o + l.length then l[i - o]? else cs[i]?
  | cs, o, [], _, i => by simp [splice]; omega
  | cs, o, c :: r, h, i => by
    simp only [List.length_cons] at h
    rw [splice, splice_get (cs.set o c) (o + 1) r (by simp; omega)]
    by_cases h1 : o + 1 ≤ i ∧ i < o + 1 + r.length
    · rw [if_pos h1, if_pos (by simp only [List.length_cons]; omega), show i - o = (i - (o + 1)) + 1 by omega, List.getElem?_cons_succ]
    · rw [if_neg h1]
      by_cases h2 : i = o
      · subst h2
        rw [if_pos (by simp only [List.length_cons]; omega), List.getElem?_set_self (by omega)]
        simp
      · rw [if_neg (by simp only [List.length_cons]; omega), List.getElem?_set_ne (fun e => h2 e.symm)]

theorem allOk_get : ∀ {l : List C}, allOk l = true → ∀ (i : Nat) (c : C), l[i]? = some c → c.ok = true
  | [], _, i, c, h => by simp at h
  | x :: l, h, i, c, hc => by
    unfold allOk at h
    cases hx : x.ok with
    | false => simp [hx] at h
    | true =>
      simp only [hx] at h
      cases i with
      | zero => simp at hc; subst hc; exact hx
      | succ i => exact allOk_get h i c (by simpa using hc)

/-- A run of cells of a live block is written. -/
theorem run_storeVar_of {t : TypeId} {ti : TI} (ht : tabOf P t = some ti) {r : Pl} {w : World} {b off : Nat} {us : Array Value} {tb : TypeId} (hb : w.heap[b]? = some (.cells us tb (0, 0))) {v : V} {u : Value} (hv : VR r v u) (hok : v.ok = true) (hall : allOk v.cells = true)
    (hsz : v.cells.length = ti.sz) (hle : ∀ q, q < ti.sz → off + q < us.size) : (storeVar t ⟨b, off, none⟩ u).run P w = .ok () (w.setCells b off u.cells.toList) := by
  obtain ⟨i, d, z, h1, h2, h3, rfl⟩ := tab_info ht
  have hc := cells_of hv hok
  have hl : u.cells.size = i.size := by rw [← Array.length_toList, ← hc.length, hsz]
  have hones : ∀ x ∈ u.cells.toList, x.oneCell' = true := by
    intro x hx
    obtain ⟨n, hn, rfl⟩ := List.getElem_of_mem hx
    have hn' : n < v.cells.length := by rw [hc.length]; exact hn
    obtain ⟨y, h5, h6⟩ := hc.get n v.cells[n] (List.getElem?_eq_getElem hn')
    rw [List.getElem?_eq_getElem hn] at h5
    simp only [Option.some.injEq] at h5
    rw [h5]
    exact ok_cell h6 (allOk_get hall n _ (List.getElem?_eq_getElem hn'))
  have hst := run_storeCells_cells (P := P) b off u.cells.toList 0 w (fun j hj => by
      simp only [Array.length_toList] at hj
      have hlt : off + j < us.size := hle j (by rw [hl] at hj; exact hj)
      simp [World.cell?, hb, hlt]) (fun j hj => by simp [World.frozen?, hb]) hones
  simp only [Nat.add_zero] at hst
  simp [storeVar, sizeOf, typeInfo, h1, hl, hst]

theorem setCells_heap_ne : ∀ (l : List Value) (w : World) (b off k : Nat), k ≠ b → (w.setCells b off l).heap[k]? = w.heap[k]?
  | [], w, b, off, k, h => by simp [World.setCells]
  | v :: l, w, b, off, k, h => by
    unfold World.setCells
    rw [setCells_heap_ne l _ b _ k h]
    exact Below.heap_setCell _ _ _ _ h

theorem setCells_same : ∀ (l : List Value) (w : World) (b off : Nat), (w.setCells b off l).heap.size = w.heap.size ∧ (w.setCells b off l).os = w.os ∧ (w.setCells b off l).tape = w.tape ∧ (w.setCells b off l).output = w.output
  | [], w, b, off => ⟨rfl, rfl, rfl, rfl⟩
  | v :: l, w, b, off => by
    obtain ⟨h1, h2, h3, h4⟩ := setCells_same l (w.setCell ⟨b, off, none⟩ v) b (off + 1)
    unfold World.setCells
    exact ⟨h1.trans (by simp [World.setCell]), h2, h3, h4⟩

theorem setCells_at : ∀ (l : List Value) (w : World) (b off : Nat) (us : Array Value) (t : TypeId), w.heap[b]? = some (.cells us t (0, 0)) →
    ∃ us' : Array Value, (w.setCells b off l).heap[b]? = some (.cells us' t (0, 0)) ∧ us'.size = us.size ∧ ∀ i, us'[i]? = if off ≤ i ∧ i < off + l.length ∧ i < us.size then l[i - off]? else us[i]?
  | [], w, b, off, us, t, h => ⟨us, h, rfl, fun i => by rw [if_neg (by simp; omega)]⟩
  | v :: l, w, b, off, us, t, h => by
    have h1 : (w.setCell ⟨b, off, none⟩ v).heap[b]? = some (.cells (us.setIfInBounds off v) t (0, 0)) := by
      simp [World.setCell, Array.getElem?_modify, h]
    obtain ⟨us', e1, e2, e3⟩ := setCells_at l _ b (off + 1) _ t h1
    refine ⟨us', e1, by simpa using e2, fun i => ?_⟩
    rw [e3]
    simp only [Array.size_setIfInBounds, List.length_cons, Array.getElem?_setIfInBounds]
    by_cases c1 : off + 1 ≤ i ∧ i < off + 1 + l.length ∧ i < us.size
    · rw [if_pos c1, if_pos (by omega), show i - off = (i - (off + 1)) + 1 by omega, List.getElem?_cons_succ]
    · rw [if_neg c1]
      by_cases c2 : off = i
      · subst c2
        by_cases c3 : off < us.size
        · rw [if_pos rfl, if_pos c3, if_pos (by omega)]
          simp
        · rw [if_pos rfl, if_neg c3, if_neg (by omega), Array.getElem?_eq_none (by omega)]
      · rw [if_neg c2, if_neg (by omega)]

theorem s_store {t : TypeId} {x y : Operand} (ho : o.op = .store t x y) {ti : TI} (ht : tabOf P t = some ti) {id i j : Nat} (hx : ev T x = .one (.ptr id i j)) (h : storeP (std P W0) H ti id i j (ev T y) (fun H' => k (.one .undef) H')) : OpS P W0 o T H k := by
  have hmain : ∀ (B1 B2 : B), B1.isObj = false → H[id]? = some (some B1) → B1.rw = true → B2.rw = true → B2.sz = B1.sz → (ev T y).ok = true → allOk (ev T y).cells = true → (ev T y).cells.length = ti.sz →
      (∀ (r : Pl) (w : World) (b o' e : Nat) (us : Array Value) (tb : TypeId), w.heap[b]? = some (.cells us tb (0, 0)) → BR r w b o' e B1 → (∀ q, q < ti.sz → o' + (i * B1.sz + j) + q < us.size) ∧
        ∀ (w' : World) (us' : Array Value) (l : List Value), w'.heap[b]? = some (.cells us' tb (0, 0)) → us'.size = us.size → l.length = ti.sz → CRs r (ev T y).cells l → (∀ q, us'[q]? = if o' + (i * B1.sz + j) ≤ q ∧ q < o' + (i * B1.sz + j) + l.length ∧ q < us.size then l[q - (o' + (i * B1.sz + j))]? else us[q]?) → BR r w' b o' e B2) →
      k (.one .undef) (H.set id (some B2)) → OpS P W0 o T H k := by
    intro B1 B2 hob hH hrw1 hrw2 hB hok hall hsz hbr hk r fz a w hw hT K Q hK
    have hr := ev_rel hT x
    rw [hx] at hr
    unfold VR CR at hr
    obtain ⟨rw_, b, o', s, e, e1, e2⟩ := hr
    obtain ⟨rfl, frw, f2, f4, f3⟩ := (hw.live id B1 hH).at_ e1
    rw [hrw1] at frw
    subst frw
    have hv := ev_rel hT y
    obtain ⟨us, tb, hb⟩ : ∃ us tb, w.heap[b]? = some (.cells us tb (0, 0)) := by
      obtain ⟨us, t2, fr, h, _, h2⟩ := f3.cells hob
      obtain ⟨rfl, rfl⟩ := h2 hrw1
      exact ⟨us, _, h⟩
    obtain ⟨g1, g2⟩ := hbr r w b o' e us tb hb f3
    have hrun := run_storeVar_of ht hb hv hok hall hsz g1
    have hc := cells_of hv hok
    obtain ⟨us', e3, e4, e5⟩ := setCells_at (a.eval y).cells.toList w b (o' + (i * B1.sz + j)) us tb hb
    obtain ⟨p1, p2, p3, p4⟩ := setCells_same (a.eval y).cells.toList w b (o' + (i * B1.sz + j))
    have hll : (a.eval y).cells.toList.length = ti.sz := by rw [← hc.length, hsz]
    obtain ⟨n1, n2⟩ := hw.write hH e1 hB hrw2 us' tb e3 (fun b' hb' => setCells_heap_ne _ _ _ _ _ hb') p1 p2 p3 p4 (g2 _ us' _ e3 e4 hll hc e5)
    unfold Oper.wp
    have : (execOp a.eval o).run P w = .ok .skip (w.setCells b (o' + (i * B1.sz + j)) (a.eval y).cells.toList) := by
      unfold execOp
      rw [ho]
      simp only [Instr.storeAt, e2, Instr.sureAddr]
      simp [hrun]
    rw [this]
    exact hK (.one .undef) undef _ _ _ _ hk (by unfold VR CR; trivial) n1 n2
  unfold storeP at h
  rw [List.getD_eq_getElem?_getD] at h
  cases hH : H[id]? with
  | none => rw [hH] at h; exact h.elim
  | some B' =>
    rw [hH] at h
    cases B' with
    | none => exact h.elim
    | some B' =>
      cases B' with
      | obj ob => exact h.elim
      | box t' cs =>
        simp only [Option.getD_some] at h
        cases i with
        | succ i => exact h.elim
        | zero =>
          simp only at h
          split at h
          · rename_i h1 h2
            split at h
            · rename_i hle
              refine hmain (.box t' cs) (.box t' (splice cs j (ev T y).cells)) rfl hH rfl rfl rfl h1 h2 hle.1 (fun r w b o' e us tb hb hB => ?_) h
              obtain ⟨us0, g1, g0, g2⟩ := hB
              rw [hb] at g1
              cases g1
              have hin : ∀ q, q < ti.sz → o' + (0 * B.sz (.box t' cs) + j) + q < us.size := by
                intro q hq
                obtain ⟨u, hu, _⟩ := g2 (j + q) _ (List.getElem?_eq_getElem (by omega))
                have := (Array.getElem?_eq_some_iff.1 hu).1
                omega
              refine ⟨hin, fun w' us' l hb' hs' hl hcl hus => ⟨us', hb', hs'.trans g0, fun q c hq => ?_⟩⟩
              rw [splice_get _ _ _ (by omega)] at hq
              rw [hus]
              by_cases hc : j ≤ q ∧ q < j + (ev T y).cells.length
              · rw [if_pos hc] at hq
                obtain ⟨u, hu, hcu⟩ := hcl.get _ _ hq
                have := hin (q - j) (by omega)
                rw [if_pos (by omega)]
                exact ⟨u, by rw [show o' + q - (o' + (0 * B.sz (.box t' cs) + j)) = q - j by omega]; exact hu, hcu⟩
              · rw [if_neg hc] at hq
                rw [if_neg (by omega)]
                exact g2 q c hq
            · exact h.elim
          · exact h.elim
      | row rw_ t' sz n f =>
        cases rw_ with
        | false => exact h.elim
        | true =>
        simp only [Option.getD_some] at h
        obtain ⟨hlt, h⟩ := h
        replace hlt : i < n := hlt
        split at h
        · rename_i h1 h2
          split at h
          · rename_i hle
            refine hmain (.row true t' sz n f) (.row true t' sz n (fun q => if q = i then splice (f q) j (ev T y).cells else f q)) rfl hH rfl rfl rfl h1 h2 hle.1 (fun r w b o' e us tb hb hB => ?_) h
            obtain ⟨us0, t2, fr, g1, g0, g5, g2⟩ := hB
            obtain ⟨rfl, rfl⟩ := g5 rfl
            rw [hb] at g1
            cases g1
            obtain ⟨gl, gi⟩ := g2 i hlt
            have hin : ∀ q, q < ti.sz → o' + (i * sz + j) + q < us.size := by
              intro q hq
              obtain ⟨u, hu, _⟩ := gi (j + q) _ (List.getElem?_eq_getElem (by omega))
              have := (Array.getElem?_eq_some_iff.1 hu).1
              omega
            refine ⟨hin, fun w' us' l hb' hs' hl hcl hus => ⟨us', _, _, hb', hs'.trans g0, fun _ => ⟨rfl, rfl⟩, fun i' hi' => ?_⟩⟩
            replace hus : ∀ q, us'[q]? = if o' + (i * sz + j) ≤ q ∧ q < o' + (i * sz + j) + l.length ∧ q < us.size then l[q - (o' + (i * sz + j))]? else us[q]? := hus
            by_cases he : i' = i
            · subst he
              simp only [if_true]
              refine ⟨by rw [splice_length, gl], fun q c hq => ?_⟩
              have hqs : q < sz := by
                have := (List.getElem?_eq_some_iff.1 hq).1
                rw [splice_length, gl] at this
                exact this
              rw [splice_get _ _ _ (by omega)] at hq
              rw [hus]
              by_cases hc : j ≤ q ∧ q < j + (ev T y).cells.length
              · rw [if_pos hc] at hq
                obtain ⟨u, hu, hcu⟩ := hcl.get _ _ hq
                have := hin (q - j) (by omega)
                rw [if_pos (by omega)]
                exact ⟨u, by rw [show o' + (i' * sz + q) - (o' + (i' * sz + j)) = q - j by omega]; exact hu, hcu⟩
              · rw [if_neg hc] at hq
                rw [if_neg (by omega)]
                exact gi q c hq
            · simp only [if_neg he]
              obtain ⟨gl', gi'⟩ := g2 i' hi'
              refine ⟨gl', fun q c hq => ?_⟩
              have hqs : q < sz := by
                have := (List.getElem?_eq_some_iff.1 hq).1
                rw [gl'] at this
                exact this
              rw [hus]
              have hll : l.length = ti.sz := hl
              have hno : ¬ (o' + (i * sz + j) ≤ o' + (i' * sz + q) ∧ o' + (i' * sz + q) < o' + (i * sz + j) + l.length ∧ o' + (i' * sz + q) < us.size) := by
                intro ⟨c1, c2, _⟩
                rcases Nat.lt_or_gt_of_ne he with h0 | h0
                · have : (i' + 1) * sz ≤ i * sz := Nat.mul_le_mul_right _ h0
                  rw [Nat.add_mul] at this
                  omega
                · have : (i + 1) * sz ≤ i' * sz := Nat.mul_le_mul_right _ h0
                  rw [Nat.add_mul] at this
                  omega
              rw [if_neg hno]
              exact gi' q c hq
          · exact h.elim
        · exact h.elim
end
end Go.Proofs.YtdijdlkljeibjaaDoor.AM
