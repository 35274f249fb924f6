/- A range over a function on the abstract machine: the iterator's text is walked, and a round of the body at each of its yields. No condition. -/
import Derived.Test.YtdijdlkljeibjaaDoorAm18
namespace Go.Proofs.YtdijdlkljeibjaaDoor.AM
open Go Go.RowKit
set_option linter.unusedVariables false
set_option linter.unusedSimpArgs false

def others (H : Heap) (lid : Nat) : List Nat := (List.range H.length).filter fun q => !(q == lid)
theorem others_contains (H : Heap) (lid i : Nat) : (others H lid).contains i = (decide (i < H.length) && !(i == lid)) := by
  rw [Bool.eq_iff_iff]
  simp [others]
theorem hide_eq (H : Heap) (lid : Nat) : maskH (others H lid) 0 H = H.set lid none := by
  apply List.ext_getElem?
  intro i
  rw [mask_get, List.getElem?_set]
  cases hi : H[i]? with
  | none =>
    have := List.getElem?_eq_none_iff.1 hi
    by_cases h : lid = i
    · subst h; simp; omega
    · simp [h]
  | some b =>
    have hl := (List.getElem?_eq_some_iff.1 hi).1
    simp only [Option.map_some, Nat.zero_add, others_contains]
    by_cases h : lid = i
    · subst h; simp [hl]
    · have h' : ¬ i = lid := fun e => h e.symm
      simp [h, h', hl]
theorem unhide_eq {H H' : Heap} {lid : Nat} {x : Option B} (hx : H[lid]? = some x) (hle : H.length ≤ H'.length) : unmaskH (others H lid) 0 H H' = H'.set lid x := by
  apply List.ext_getElem?
  intro i
  rw [unmask_get _ _ _ _ _ hle, List.getElem?_set]
  have hl := (List.getElem?_eq_some_iff.1 hx).1
  cases hi : H[i]? with
  | none =>
    have := List.getElem?_eq_none_iff.1 hi
    rw [if_neg (by omega)]
  | some b =>
    have hl := (List.getElem?_eq_some_iff.1 hi).1
    simp only [Nat.zero_add, others_contains]
    by_cases h : lid = i
    · subst h
      rw [hx] at hi
      cases hi
      simp [Nat.lt_of_lt_of_le hl hle]
    · have h' : ¬ i = lid := fun e => h e.symm
      simp [h, h', hl]

section
variable {W0 : World} {r r' : Pl} {fz fz' : Fz} {H H' : Heap} {w w' : World}

theorem WR.hide (h : WR W0 r fz H w) (lid : Nat) : WR W0 r fz (H.set lid none) w := hide_eq H lid ▸ h.mask _
theorem WR.hideStp (h : WR W0 r fz H w) (lid : Nat) : Stp r fz H w r fz (H.set lid none) w :=
  ⟨by simp, fun _ _ => rfl, fun _ _ h => h, Nat.le_refl _, fun id b o s e hid he => (by rw [h.dom id hid] at he; cases he), fun id x hid hx => by
    rw [List.getElem?_set] at hx
    split at hx
    · split at hx <;> cases hx
    · exact ⟨x, hx⟩, fun _ _ _ => rfl, fun _ _ h => .inl h⟩
theorem WR.unhide (hw : WR W0 r fz H w) {lid : Nat} {x : Option B} (hx : H[lid]? = some x) (hw' : WR W0 r' fz' H' w') (hst : Stp r fz (H.set lid none) w r' fz' H' w') :
    WR W0 r' fz' (H'.set lid x) w' ∧ Stp r fz H w r' fz' (H'.set lid x) w' := by
  have hle : H.length ≤ H'.length := by have := hst.len; simpa using this
  rw [← hide_eq] at hst
  obtain ⟨h1, h2, _⟩ := unmask hw hw' hst
  rw [unhide_eq hx hle] at h1 h2
  exact ⟨h1, h2⟩
/-- The block that was hidden is hidden still. -/
theorem hid_still {lid : Nat} (hl : lid < H.length) (hst : Stp r fz (H.set lid none) w r' fz' H' w') (x : Option B) : (H'.set lid x).set lid none = H' := by
  have hle : H.length ≤ H'.length := by have := hst.len; simpa using this
  have h1 : H'[lid]? = some none := by
    cases hh : H'[lid]? with
    | none => have := List.getElem?_eq_none_iff.1 hh; omega
    | some q =>
      cases q with
      | none => rfl
      | some q =>
        obtain ⟨y, hy⟩ := hst.dead lid q (by simpa using hl) hh
        rw [List.getElem?_set] at hy
        simp at hy
  rw [List.set_set]
  apply List.ext_getElem?
  intro i
  rw [List.getElem?_set]
  by_cases h : lid = i
  · subst h
    rw [if_pos rfl, h1, if_pos (by omega)]
  · rw [if_neg h]
/-- An object is turned. -/
theorem WR.putO (h : WR W0 r fz H w) {lid b : Nat} {o1 o2 : Obj} (hx : H[lid]? = some (some (.obj o1))) (hr : r lid = some (.at_ true b 0 0 0)) :
    WR W0 r fz (H.set lid (some (.obj o2))) (w.putObj b o2) ∧ Stp r fz H w r fz (H.set lid (some (.obj o2))) (w.putObj b o2) := by
  have hb : w.heap[b]? = some o1 := ((h.live lid _ hx).at_ hr).2.2.2.2.1
  have hlt := (Array.getElem?_eq_some_iff.1 hb).1
  exact h.writeO (x := .obj o1) (y := .obj o2) hx hr rfl rfl o2 (World.putObj_heap_same hlt) (fun b' hb' => World.putObj_heap_other hb') World.putObj_size rfl rfl rfl ⟨World.putObj_heap_same hlt, rfl, rfl⟩
/-- A new block that is frozen. -/
theorem WR.allocF (h : WR W0 r fz H w) (ob : Obj) : WR W0 r (fun b => if b = w.heap.size then some ob else fz b) H (w.alloc ob) ∧ Stp r fz H w r (fun b => if b = w.heap.size then some ob else fz b) H (w.alloc ob) := by
  have hold : ∀ b, b < w.heap.size → (w.alloc ob).heap[b]? = w.heap[b]? := fun b hb => Below.heap_alloc w _ b hb
  have hne : ∀ {b o}, fz b = some o → b ≠ w.heap.size := fun {b o} hb he => by
    have := (Array.getElem?_eq_some_iff.1 (h.froz _ _ hb)).1
    omega
  refine ⟨⟨h.below.alloc h.below.size _, fun b o hb => ?_, fun b hb => ?_, h.dom, fun id x hx => ?_, h.inj⟩, ⟨Nat.le_refl _, fun _ _ => rfl, fun b o hb => ?_, by simp, fun id b o s e hid he => (by rw [h.dom id hid] at he; cases he), fun _ x _ hx => ⟨x, hx⟩, fun b hb _ => hold b hb, fun b o hb => ?_⟩⟩
  · by_cases he : b = w.heap.size
    · subst he
      rw [if_pos rfl] at hb
      cases hb
      exact World.alloc_heap_new w ob
    · rw [if_neg he] at hb
      rw [hold b (Array.getElem?_eq_some_iff.1 (h.froz _ _ hb)).1]
      exact h.froz _ _ hb
  · rw [if_neg (by have := h.below.size; omega)]
    exact h.old b hb
  · rcases h.live id x hx with ⟨b, o, e, e1, e2, e4, e3⟩ | e
    · have hlt := e3.lt
      refine .inl ⟨b, o, e, e1, fun hr => ?_, fun hr => ?_, e3.of_block (hold b hlt)⟩
      · show (if b = w.heap.size then some ob else fz b) = none
        rw [if_neg (by omega)]; exact e2 hr
      · show ∃ o, (if b = w.heap.size then some ob else fz b) = some o
        rw [if_neg (by omega)]; exact e4 hr
    · exact .inr e
  · rw [if_neg (hne hb)]; exact hb
  · by_cases he : b = w.heap.size
    · exact .inr (.inl (by omega))
    · rw [if_neg he] at hb; exact .inl hb
end

/-- A loop's record: e, n: the jump that is pending, as awp tells it. -/
def pendO (e n : Nat) : Option Code := match e with | 0 => none | 1 => some .ret | _ => some (.exit n)
def stateO (e : Nat) : LoopState := match e with | 0 => .ready | _ => .done
theorem stateO_ne (e : Nat) : stateO e ≠ .busy := by unfold stateO; split <;> simp
def recL (fn : FuncId) (tmps : Array Value) (ps : Array Tmp) (s c : Code) (D e n : Nat) : Obj :=
  .loop { state := stateO e, pending := pendO e n, fn, tmps, params := ps, assign := s, body := c, defers := D }
def busyL (fn : FuncId) (tmps : Array Value) (ps : Array Tmp) (s c : Code) (D : Nat) : Loop :=
  { state := .busy, pending := none, fn, tmps, params := ps, assign := s, body := c, defers := D }

/-- The temporaries with the yielded values put in. -/
def putps : List V → List Tmp → List V → List V
  | T, p :: ps, v :: vs => putps (T.set p v) ps vs
  | T, _, _ => T

theorem putps_rel {r : Pl} : ∀ {ps : List Tmp} {args : List V} {us : List Value} {T : List V} {tmps : Array Value}, TR r T tmps → VRs r args us → TR r (putps T ps args) ((ps.zip us).foldl (fun tmps (t, a) => tmps.setIfInBounds t a) tmps)
  | [], _, _, T, tmps, h, _ => by simpa [putps] using h
  | p :: ps, [], [], T, tmps, h, _ => by simpa [putps] using h
  | p :: ps, a :: args, u :: us, T, tmps, h, ha => by
    unfold VRs at ha
    simp only [List.zip_cons_cons, List.foldl_cons, putps]
    refine putps_rel ?_ ha.2
    have := TR.put (a := { tmps := tmps, defers := [] }) h (some p) ha.1
    simpa [AM.put, Act.put] using this
  | p :: ps, [], _ :: _, T, tmps, h, ha => by simp [VRs] at ha
  | p :: ps, _ :: _, [], T, tmps, h, ha => by simp [VRs] at ha

section
variable {P : Program} {W0 : World} {tab : TypeId → Option TI}

/-- A yield: a round. -/
theorem s_yield (ht : Tab P tab) {N : Nat} {r0 : Pl} {l lid D : Nat} {fn : FuncId} {tmps : Array Value} {ps : Array Tmp} {s c : Code} {T0 : List V} (hT0 : TR r0 T0 tmps) (hlid : lid < N) (hl : r0 lid = some (.at_ true l 0 0 0)) (hr0 : ∀ id, N ≤ id → r0 id = none)
    {o : Oper} {cl : Call} {x : Operand} {T : List V} {H : Heap} {k : V → Heap → Prop} {args : List V} (ho : o.op = .call cl) (hc : cl.callee = .value x) (hx : ev T x = .one (.raw (.func (.yield l) #[] #[]))) (ha : evs T cl.args.toList = args) (hn : args.length = ps.size)
    (hH : H.getD lid none = some (.obj (recL fn tmps ps s c D 0 0)))
    (h : awp (std P W0 (.rnd l)) tab s (putps T0 ps.toList args) (H.set lid none) fun e n T2 H2 => match e with
      | 0 => awp (std P W0 (.rnd l)) tab c T2 H2 fun e n T3 H3 => match e with
        | 0 => k (.one (.bool true)) (H3.set lid (some (.obj (recL fn tmps ps s c D 0 0))))
        | e + 1 => k (.one (.bool false)) (H3.set lid (some (.obj (recL fn tmps ps s c D (e + 1) n))))
      | _ => False) : OpY P W0 (.it N r0) o T H k := by
  intro n r fz a w hw hT hA K Q hK
  have hH' : H[lid]? = some (some (.obj (recL fn tmps ps s c D 0 0))) := heap_get hH
  have hHl := (List.getElem?_eq_some_iff.1 hH').1
  have hrl : r lid = some (.at_ true l 0 0 0) := by rw [hA.2 lid hlid]; exact hl
  have hsub : Sub r0 r := fun id q hq => by
    rcases Nat.lt_or_ge id N with h1 | h1
    · rw [hA.2 id h1]; exact hq
    · rw [hr0 id h1] at hq; cases hq
  have hb : w.heap[l]? = some (recL fn tmps ps s c D 0 0) := ((hw.live lid _ hH').at_ hrl).2.2.2.2.1
  have hargs := evs_rel hT cl.args.toList
  rw [ha] at hargs
  have hal : cl.args.size = ps.size := by rw [← hn, hargs.length]; simp
  have hev : a.eval x = .func (.yield l) #[] #[] := by
    have := ev_rel hT x
    rw [hx] at this
    unfold VR CR at this
    exact this
  have hy := run_yield (P := P) (args := ⟨cl.args.toList.map a.eval⟩) hb (by simpa using hal)
  have hrun : (execOp a.eval o).run P w = .ok (.round l fn ((ps.zip ⟨cl.args.toList.map a.eval⟩).foldl (fun tmps (t, a) => tmps.setIfInBounds t a) tmps) s c) w := by
    unfold execOp
    rw [ho]
    have hargs' : cl.args.map a.eval = ⟨cl.args.toList.map a.eval⟩ := by simp [← Array.toList_map]
    simp only [resolve, hc, hev, Deferred.ofValue, Sem.run_bind, Sem.run_pure, Result.andThen, invoke]
    rw [hargs']
    first | exact hy | simpa using hy
  unfold Oper.wpIn
  refine ⟨fun _ _ => trivial, ?_⟩
  rw [Oper.semAt_eq _ _ _ (fun c' hc' => by rw [ho] at hc'; cases hc'), hrun]
  show (_ → _) ∧ RoundIn Fence.wide (n - 1) P l fn _ s c w _
  refine ⟨fun hd => (by cases hd), ?_⟩
  refine roundIn_of_wpIn (F := Fence.wide) trivial ?_
  have hT1 : TR r (putps T0 ps.toList args) ((ps.zip ⟨cl.args.toList.map a.eval⟩).foldl (fun tmps (t, a) => tmps.setIfInBounds t a) tmps) := by
    have := putps_rel (ps := ps.toList) (hT0.mono hsub) hargs
    rw [← Array.foldl_toList]
    simpa using this
  refine wpIn_mono (awp_sound (md := .rnd l) ht s h (n - 1) 0 r fz { tmps := _, defers := [] } w (hw.hide lid) hT1 ⟨Nat.zero_le _, [], rfl, List.nodup_nil, fun _ h => by cases h⟩ trivial) fun ex a2 w2 hq => ?_
  obtain ⟨e, m, T2, H2, r2, fz2, h1, h2, h3, h4, h5, h6⟩ := hq
  have key : e = 0 → ∃ w3, (Instr.beginRound l).run P w2 = .ok () w3 ∧ c.wpIn (Fence.wide.inRound l) (n - 1) P (roundPost P l fun
      | .returned v, w'' => K (a.put o.dst v) w''
      | .panicked chain, w'' => Q (.panic chain) a w''
      | .outgrown, _ => LetsOut Q) a2 w3 := by
    intro he
    subst he
    simp only at h2
    have hHe2 := hid_still hHl h6
    obtain ⟨u1, u2⟩ := hw.unhide hH' h3 h6
    have hle2 : H.length ≤ H2.length := by have := h6.len; simpa using this
    have hx2 : (H2.set lid (some (.obj (recL fn tmps ps s c D 0 0))))[lid]? = some (some (.obj (recL fn tmps ps s c D 0 0))) := List.getElem?_set_self (by omega)
    have hrl2 : r2 lid = some (.at_ true l 0 0 0) := by rw [u2.ext lid hHl]; exact hrl
    have hb2 : w2.heap[l]? = some (recL fn tmps ps s c D 0 0) := ((u1.live lid _ hx2).at_ hrl2).2.2.2.2.1
    obtain ⟨v1, v2⟩ := u1.putO (o2 := .loop (busyL fn tmps ps s c D)) hx2 hrl2
    refine ⟨_, run_beginRound hb2 rfl, ?_⟩
    rw [List.set_set] at v1 v2
    have v3 := v1.hide lid
    rw [hHe2] at v3
    refine wpIn_mono (awp_sound (md := .rnd l) ht c h2 (n - 1) 0 r2 fz2 a2 _ v3 h4 ⟨Nat.zero_le _, (h5.mono v2).2⟩ trivial) fun ex a3 w3 hq => ?_
    obtain ⟨e, m, T3, H3, r3, fz3, g1, g2, g3, g4, g5, g6⟩ := hq
    have hx2' : (H2.set lid (some (.obj (.loop (busyL fn tmps ps s c D)))))[lid]? = some (some (.obj (.loop (busyL fn tmps ps s c D)))) := List.getElem?_set_self (by omega)
    obtain ⟨y1, y2⟩ := v1.unhide hx2' g3 (by rw [hHe2]; exact g6)
    have hle3 : H2.length ≤ H3.length := g6.len
    have hx3 : (H3.set lid (some (.obj (.loop (busyL fn tmps ps s c D)))))[lid]? = some (some (.obj (.loop (busyL fn tmps ps s c D)))) := List.getElem?_set_self (by omega)
    have hrl3 : r3 lid = some (.at_ true l 0 0 0) := by rw [g6.ext lid (by omega)]; exact hrl2
    have hb3 : w3.heap[l]? = some (.loop (busyL fn tmps ps s c D)) := ((y1.live lid _ hx3).at_ hrl3).2.2.2.2.1
    have fin : ∀ (j : Option Code) (e n : Nat), recL fn tmps ps s c D e n = .loop { busyL fn tmps ps s c D with state := if j.isNone then .ready else .done, pending := j } → k (.one (.bool j.isNone)) (H3.set lid (some (.obj (recL fn tmps ps s c D e n)))) →
        ∃ v w', (Instr.endRound l j).run P w3 = .ok v w' ∧ K (a.put o.dst v) w' := by
      intro j e n he hk
      obtain ⟨z1, z2⟩ := y1.putO (o2 := recL fn tmps ps s c D e n) hx3 hrl3
      rw [List.set_set] at z1 z2
      refine ⟨_, _, run_endRound j hb3, ?_⟩
      rw [he] at z1 z2 hk
      exact hK _ _ _ _ _ _ hk (by unfold VR CR; rfl) z1 (((u2.trans v2).trans y2).trans z2)
    cases ex with
    | normal => simp only [ExM] at g1; subst g1; exact fin none 0 0 rfl g2
    | ret => simp only [ExM] at g1; subst g1; exact fin (some .ret) 1 m rfl g2
    | exit id => obtain ⟨rfl, rfl⟩ := g1; exact fin (some (.exit _)) 2 _ rfl g2
    | _ => exact g1.elim
  cases ex with
  | normal => simp only [ExM] at h1; exact key h1
  | ret => simp only [ExM] at h1; subst h1; exact h2.elim
  | exit id => obtain ⟨rfl, rfl⟩ := h1; exact h2.elim
  | _ => exact h1.elim

/-- What follows, closed to evaluation. -/
theorem m_gen {A : (List V → Heap → Prop) → Prop} {k : List V → Heap → Prop} (h : ∀ K : List V → Heap → Prop, (∀ T H, k T H → K T H) → A K) : A k := h k fun _ _ h => h
theorem m_genV {A : (V → Heap → Prop) → Prop} {k : V → Heap → Prop} (h : ∀ K : V → Heap → Prop, (∀ T H, k T H → K T H) → A K) : A k := h k fun _ _ h => h

/-- A range over a function. -/
theorem m_rangef (ht : Tab P tab) {X : Ext} (hX : X = std P W0) {g : Operand} {ps : Array Tmp} {s c : Code} {T : List V} {H : Heap} {k : Nat → Nat → List V → Heap → Prop} {F : FuncId} {caps : List V} {fn : Func} {cit : Code}
    (hg : callee T g = some (F, caps)) (hb : Bodied P F) (hf : P.funcs[F]? = some fn) (hc : fn.body = some cit) (hres : fn.results = #[])
    (h : ∀ (X1 X2 : Ext) (md1 md2 : Md) (L : Nat → Nat → Obj) (yv : Value) (KF : Nat → Nat → Heap → Prop), (∀ e n H', k e n T H' → KF e n H') → X1 = std P W0 md1 → X2 = std P W0 md2 → (∀ N r0, md2 ≠ .it N r0) →
      (∀ {o : Oper} {cl : Call} {x : Operand} {T' : List V} {H' : Heap} {k' : V → Heap → Prop} {args : List V}, o.op = .call cl → cl.callee = .value x → ev T' x = .one (.raw yv) → evs T' cl.args.toList = args → args.length = ps.size → H'.getD H.length none = some (.obj (L 0 0)) →
        (∀ K : V → Heap → Prop, (∀ v H', k' v H' → K v H') → awp X2 tab s (putps T ps.toList args) (H'.set H.length none) fun e n T2 H2 => match e with
          | 0 => awp X2 tab c T2 H2 fun e n T3 H3 => match e with
            | 0 => K (.one (.bool true)) (H3.set H.length (some (.obj (L 0 0))))
            | e + 1 => K (.one (.bool false)) (H3.set H.length (some (.obj (L (e + 1) n))))
          | _ => False) → X1.yld o T' H' k') →
      awp X1 tab cit ((.one (.raw yv) :: caps) ++ List.replicate (fn.ntmps - (caps.length + 1)) (.one .undef)) (H ++ [some (.obj (L 0 0))]) fun e n T' H' => match e with
        | 0 | 1 => ∃ e2 n2, e2 ≤ 2 ∧ H'.getD H.length none = some (.obj (L e2 n2)) ∧ KF e2 n2 (H'.set H.length none)
        | _ => False) : X.rangef g ps s c T H k := by
  subst hX
  intro n lo r fz a w hw hT hd _
  show (Code.rangeFunc g ps s c).wpIn Fence.wide n P _ a w
  have hfun : ∃ vs : List Value, a.eval g = .func (.func F) #[] ⟨vs⟩ ∧ VRs r caps vs := by
    unfold callee at hg
    split at hg
    · cases hg
      exact ⟨[], rfl, by simp [VRs]⟩
    · split at hg
      · rename_i g' cs hx
        cases hg
        have h1 := ev_one hT hx
        unfold CR at h1
        obtain ⟨vs, e1, e2⟩ := h1
        refine ⟨vs, e1, ?_⟩
        clear e1 h hx
        induction cs generalizing vs with
        | nil => cases vs <;> simp_all [CRs, VRs]
        | cons c cs ih =>
          cases vs with
          | nil => simp [CRs] at e2
          | cons v vs =>
            unfold CRs at e2
            simp only [List.map_cons]
            unfold VRs
            exact ⟨by unfold VR; exact e2.1, ih _ e2.2⟩
      · cases hg
  obtain ⟨vs, hv, hcaps⟩ := hfun
  refine wpIn_rangeFunc fun fid _ => ?_
  obtain ⟨f1, f2⟩ := hw.allocF (.deferred (some []))
  obtain ⟨r1, g1, g2, g3⟩ := f1.allocO (recL fid a.tmps ps s c w.heap.size 0 0) 0 (.obj (recL fid a.tmps ps s c w.heap.size 0 0)) rfl (fun r' w' _ hh => ⟨hh, rfl, rfl⟩)
  have hsz : (w.alloc (.deferred (some []))).heap.size = w.heap.size + 1 := World.size_alloc _ _
  rw [hsz] at g3
  have hst := f2.trans g2
  have h0 := h _ _ (.it (H.length + 1) r1) (.rnd (w.heap.size + 1)) (recL fid a.tmps ps s c w.heap.size) (.func (.yield (w.heap.size + 1)) #[] #[]) (fun e n H' => k e n T H') (fun _ _ _ h => h) rfl rfl (fun _ _ h => by cases h)
    (fun ho hc hx ha hn hH hh => s_yield ht (hT.mono (hst.sub hw)) (Nat.lt_succ_self _) g3 (fun id hid => g1.dom id (by simpa using hid)) ho hc hx ha hn hH (hh _ fun _ _ h => h))
  refine ⟨w.heap.size + 1, [{ target := .collected w.heap.size, args := #[] }], (w.alloc (.deferred (some []))).alloc (recL fid a.tmps ps s c w.heap.size 0 0), { target := .fn (.func F) ⟨vs⟩, args := #[.func (.yield (w.heap.size + 1)) #[] #[]] }, (w.alloc (.deferred (some []))).alloc (recL fid a.tmps ps s c w.heap.size 0 0), F,
    #[.func (.yield (w.heap.size + 1)) #[] #[]] ++ ⟨vs⟩, (w.alloc (.deferred (some []))).alloc (recL fid a.tmps ps s c w.heap.size 0 0), run_enterLoop_outer _ _ _ _ _, ?_, fun _ _ => trivial, ?_, fun hd => (by cases hd), ?_⟩
  · simp only [resolve, hv]
    simp [go_sem]
  · simp [invoke, go_sem, run_callFunc hb]
  have harg : (#[.func (.yield (w.heap.size + 1)) #[] #[]] ++ ⟨vs⟩ : Array Value) = ⟨.func (.yield (w.heap.size + 1)) #[] #[] :: vs⟩ := by
    simp
  rw [harg]
  have hcb := calls_body ht (md := .it (H.length + 1) r1) rfl (k := fun _ H' => ∃ e2 n2, e2 ≤ 2 ∧ H'.getD H.length none = some (.obj (recL fid a.tmps ps s c w.heap.size e2 n2)) ∧ k e2 n2 T (H'.set H.length none)) hf hc (args := .one (.raw (.func (.yield (w.heap.size + 1)) #[] #[])) :: caps) (H := H ++ [some (.obj (recL fid a.tmps ps s c w.heap.size 0 0))]) (by
      refine (awp_sound ht _ h0).mono fun e n T' H' hk => ?_
      rw [hres]
      match e with
      | 0 => exact hk
      | 1 => exact hk
      | e + 2 => exact hk) g1 (vs := .func (.yield (w.heap.size + 1)) #[] #[] :: vs) (by
      unfold VRs
      exact ⟨by unfold VR CR; rfl, (VRs.mono (hst.sub hw) hcaps)⟩) ⟨by simp, fun _ _ => rfl⟩ (n - 1)
  refine hcb.mono fun e w3 hq => ?_
  obtain ⟨v, u, H3, r3, fz3, rfl, ⟨e2, n2, hle, hH3, hk⟩, q3, _, q5⟩ := hq
  have hH3' := heap_get hH3
  have hrl3 : r3 H.length = some (.at_ true (w.heap.size + 1) 0 0 0) := by rw [q5.ext _ (by simp)]; exact g3
  have hb3 : w3.heap[w.heap.size + 1]? = some (recL fid a.tmps ps s c w.heap.size e2 n2) := ((q3.live _ _ hH3').at_ hrl3).2.2.2.2.1
  obtain ⟨z1, z2⟩ := q3.putO (o2 := .loop { busyL fid a.tmps ps s c w.heap.size with state := .exhausted, pending := pendO e2 n2 }) hH3' hrl3
  have z3 := z1.hide H.length
  have z4 := ((hst.trans q5).trans z2).trans (z1.hideStp H.length)
  rw [List.set_set] at z3 z4
  refine ⟨_, _, run_endLoop hb3 (stateO_ne e2), ?_⟩
  have hT3 : TR r3 T a.tmps := hT.mono (z4.sub hw)
  have hD3 : DZ lo fz3 (w3.putObj (w.heap.size + 1) (.loop { busyL fid a.tmps ps s c w.heap.size with state := .exhausted, pending := pendO e2 n2 })) ([{ target := .collected w.heap.size, args := #[] }] ++ a.defers) := by
    obtain ⟨d0, bs, d1, d2, d3⟩ := hd
    refine ⟨Nat.le_trans d0 z4.size, w.heap.size :: bs, by rw [d1]; rfl, List.nodup_cons.2 ⟨fun hm => ?_, d2⟩, fun b hb => ?_⟩
    · have := (Array.getElem?_eq_some_iff.1 (hw.froz _ _ (d3 _ hm).2)).1
      omega
    · rcases List.mem_cons.1 hb with rfl | hb
      · exact ⟨d0, ((g2.trans q5).trans z2).phi _ _ (if_pos rfl)⟩
      · exact ⟨(d3 b hb).1, z4.phi _ _ (d3 b hb).2⟩
  match e2, hle, hk, z3, z4, hD3 with
  | 0, _, hk, z3, z4, hD3 => exact ⟨0, n2, T, _, r3, fz3, rfl, hk, z3, hT3, hD3, z4⟩
  | 1, _, hk, z3, z4, hD3 => exact wpIn_ret ⟨1, n2, T, _, r3, fz3, rfl, hk, z3, hT3, hD3, z4⟩
  | 2, _, hk, z3, z4, hD3 => exact wpIn_exit ⟨2, n2, T, _, r3, fz3, ⟨rfl, rfl⟩, hk, z3, hT3, hD3, z4⟩
end
end Go.Proofs.YtdijdlkljeibjaaDoor.AM
