/- Texts and functions: what the abstract machine says of a text, the model does. -/
import Derived.Test.YtdijdlkljeibjaaDoorAm8
import Derived.Tactics
namespace Go.Proofs.YtdijdlkljeibjaaDoor.AM
open Go Go.RowKit
set_option linter.unusedVariables false
set_option linter.unusedSimpArgs false

section
variable {P : Program} {W0 : World} {tab : TypeId → Option TI}

theorem yielded_of {r : Pl} {T : List V} {a : Act} (hT : TR r T a.tmps) {ops : Array Oper} {j : Nat} {d : Tmp} {b : Bool} (hd : (ops.toList[j]?).bind (·.dst) = some d) (hb : T.getD d (.one .undef) = .one (.bool b)) : yielded ops a.tmps j = some b := by
  have h1 := hT.get d
  rw [hb] at h1
  unfold VR CR at h1
  have hd' : (ops[j]?).bind (·.dst) = some d := by simpa using hd
  unfold yielded
  rw [hd', Option.bind_some]
  rw [Array.getD_eq_getD_getElem?] at h1
  cases hh : a.tmps[d]? with
  | none => rw [hh] at h1; simp [undef] at h1
  | some v => rw [hh] at h1; simp at h1; rw [h1]

/-- What one step of a region does. -/
theorem astep_sound (ht : Tab P tab) {md : Md} (hm : ∀ N r0, md ≠ .it N r0) {ops : Array Oper} {o : Oper} {T : List V} {H : Heap} {k : List V → Heap → Prop} (h : astep (std P W0 md) tab ops.toList o T H k)
    {r : Pl} {fz : Fz} {a : Act} {w : World} (hw : WR W0 r fz H w) (hT : TR r T a.tmps) {K : Act → World → Prop} {Q : Exit → Act → World → Prop}
    (hK : ∀ T' a' H' r' fz' w', k T' H' → TR r' T' a'.tmps → a'.defers = a.defers → WR W0 r' fz' H' w' → Stp r fz H w r' fz' H' w' → K a' w') :
    if Region.wanted o (yielded ops a.tmps) then o.wp P a w K Q ∨ (o.asks P a w ∧ LetsOut Q) else K (a.put o.dst undef) w := by
  have hput : ∀ (u : Value), (a.put o.dst u).defers = a.defers := fun u => by cases ho : o.dst <;> simp [Act.put]
  have hyes : aop (std P W0 md) tab o T H (fun v H' => k (AM.put T o.dst v) H') → o.wp P a w K Q := fun hh =>
    aop_sound ht hm hh r fz a w hw hT K Q fun v u H' r' fz' w' hk hv hw' hst => hK _ _ _ _ _ _ hk ((hT.mono (hst.sub hw)).put _ hv) (hput u) hw' hst
  have hno : k (AM.put T o.dst (.one .undef)) H → K (a.put o.dst undef) w := fun hh =>
    hK _ _ _ _ _ _ hh (hT.put _ (by unfold VR CR; trivial)) (hput _) hw (Stp.refl hw)
  unfold astep at h
  cases hg : guardOf ops.toList T o with
  | none =>
    rw [hg] at h
    have : o.guard = none := by
      unfold guardOf at hg
      split at hg
      · assumption
      · split at hg
        · split at hg <;> cases hg
        · cases hg
    rw [if_pos (by simp [Region.wanted, this])]
    exact .inl (hyes h)
  | some q =>
    obtain ⟨ob, want⟩ := q
    rw [hg] at h
    unfold guardOf at hg
    split at hg
    · cases hg
    · rename_i j want' hgd
      split at hg
      · rename_i d hd
        split at hg
        · rename_i b hb
          cases hg
          have hy := yielded_of hT hd hb
          have hwant : Region.wanted o (yielded ops a.tmps) = (b == want) := by simp [Region.wanted, hgd, hy]
          rw [hwant]
          cases want <;> cases b
          · simp only [beq_self_eq_true, if_true]; exact .inl (hyes (h.2 rfl))
          · simp only [Bool.true_beq, Bool.false_eq_true, if_false]; exact hno (h.1 rfl)
          · simp only [Bool.false_beq, Bool.not_true, Bool.false_eq_true, if_false]; exact hno (h.2 rfl)
          · simp only [beq_self_eq_true, if_true]; exact .inl (hyes (h.1 rfl))
        · cases hg; exact h.elim
      · cases hg; exact h.elim

theorem upon_in {o : Oper} {a : Act} {K : Act → World → Prop} {Q : Exit → Act → World → Prop} {md : Md} {n : Nat} {x : Result Next} (h : o.upon P a K Q x) : o.uponIn md.fence n P a K Q x := by
  have hd : md.fence.depth.isSome = true → 1 ≤ n := fun hd => by cases md <;> cases hd
  have hc : ∀ {f : FuncId} {args : Array Value} {w : World} {R : Ending → World → Prop}, Calls P f args w R → CallsIn md.fence (n - 1) P f args w R := fun h => by
    cases md with
    | rnd l => exact CallsIn.inRound l (callsIn_wide.2 h)
    | _ => exact callsIn_wide.2 h
  have hs : ∀ {m m' : Machine}, Steps P m m' → StepsIn (Machine.fenced P md.fence) P m m' := fun h => by
    cases md with
    | rnd l => exact stepsIn_wide.2 h
    | _ => exact stepsIn_wide.2 h
  unfold Oper.upon at h
  split at h
  · exact h
  · exact h
  · exact h
  · exact ⟨hd, hc h⟩
  · exact ⟨hd, fun c cs _ => let ⟨v, w', r, s⟩ := h c cs; ⟨v, w', r, hs s⟩⟩
  · exact h
  · exact h.elim
theorem oper_in {o : Oper} {a : Act} {w : World} {K : Act → World → Prop} {Q : Exit → Act → World → Prop} {md : Md} {n : Nat} (hd : ∀ c, o.op ≠ .defer c) (h : o.wp P a w K Q) : o.wpIn md.fence n P a w K Q := by
  unfold Oper.wpIn
  refine ⟨fun _ _ => by cases md <;> trivial, ?_⟩
  rw [Oper.semAt_eq _ _ _ hd]
  exact upon_in h

/-- What one step of a region does, in any frame. -/
theorem astepM_sound (ht : Tab P tab) {md : Md} {ops : Array Oper} {o : Oper} {n : Nat} {T : List V} {H : Heap} {k : List V → Heap → Prop} (h : astep (std P W0 md) tab ops.toList o T H k)
    {r : Pl} {fz : Fz} {a : Act} {w : World} (hw : WR W0 r fz H w) (hT : TR r T a.tmps) (hA : An md r H) {K : Act → World → Prop} {Q : Exit → Act → World → Prop}
    (hK : ∀ T' a' H' r' fz' w', k T' H' → TR r' T' a'.tmps → a'.defers = a.defers → WR W0 r' fz' H' w' → Stp r fz H w r' fz' H' w' → K a' w') :
    if Region.wanted o (yielded ops a.tmps) then o.wpIn md.fence n P a w K Q else (∀ f, o.about P w a.eval = some f → md.fence.fn f) ∧ K (a.put o.dst undef) w := by
  have hput : ∀ (u : Value), (a.put o.dst u).defers = a.defers := fun u => by cases ho : o.dst <;> simp [Act.put]
  have hk : ∀ v u H' r' fz' w', k (AM.put T o.dst v) H' → VR r' v u → WR W0 r' fz' H' w' → Stp r fz H w r' fz' H' w' → K (a.put o.dst u) w' := fun v u H' r' fz' w' hk hv hw' hst =>
    hK _ _ _ _ _ _ hk ((hT.mono (hst.sub hw)).put _ hv) (hput u) hw' hst
  have hyes : aop (std P W0 md) tab o T H (fun v H' => k (AM.put T o.dst v) H') → o.wpIn md.fence n P a w K Q := fun hh => by
    by_cases hr : ∀ (c : Call) x, o.op = .call c → c.callee = .value x → callee T x ≠ none
    · exact oper_in (notDefer hh) (aop_sound ht (fun _ _ => by simp) (aop_eq hr hh) r fz a w hw hT K Q hk)
    · have hr : ∃ (c : Call) (x : Operand), o.op = .call c ∧ c.callee = .value x ∧ callee T x = none := Classical.byContradiction fun hn => hr fun c x h1 h2 h3 => hn ⟨c, x, h1, h2, h3⟩
      obtain ⟨c, x, h1, h2, h3⟩ := hr
      cases md with
      | it N r0 => exact aop_yield h1 h2 h3 hh n r fz a w hw hT hA K Q hk
      | _ => unfold aop at hh; rw [h1] at hh; simp only at hh; rw [h2] at hh; simp only at hh; rw [h3] at hh; exact hh.elim
  have hno : k (AM.put T o.dst (.one .undef)) H → K (a.put o.dst undef) w := fun hh =>
    hK _ _ _ _ _ _ hh (hT.put _ (by unfold VR CR; trivial)) (hput _) hw (Stp.refl hw)
  have hfn : ∀ f, o.about P w a.eval = some f → md.fence.fn f := fun _ _ => by cases md <;> trivial
  unfold astep at h
  cases hg : guardOf ops.toList T o with
  | none =>
    rw [hg] at h
    have : o.guard = none := by
      unfold guardOf at hg
      split at hg
      · assumption
      · split at hg
        · split at hg <;> cases hg
        · cases hg
    rw [if_pos (by simp [Region.wanted, this])]
    exact hyes h
  | some q =>
    obtain ⟨ob, want⟩ := q
    rw [hg] at h
    unfold guardOf at hg
    split at hg
    · cases hg
    · rename_i j want' hgd
      split at hg
      · rename_i d hd
        split at hg
        · rename_i b hb
          cases hg
          have hy := yielded_of hT hd hb
          have hwant : Region.wanted o (yielded ops a.tmps) = (b == want) := by simp [Region.wanted, hgd, hy]
          rw [hwant]
          cases want <;> cases b
          · simp only [beq_self_eq_true, if_true]; exact hyes (h.2 rfl)
          · simp only [Bool.true_beq, Bool.false_eq_true, if_false]; exact ⟨hfn, hno (h.1 rfl)⟩
          · simp only [Bool.false_beq, Bool.not_true, Bool.false_eq_true, if_false]; exact ⟨hfn, hno (h.2 rfl)⟩
          · simp only [beq_self_eq_true, if_true]; exact hyes (h.1 rfl)
        · cases hg; exact h.elim
      · cases hg; exact h.elim

theorem aops_sound (ht : Tab P tab) {md : Md} {ops : Array Oper} {Q : Exit → Act → World → Prop} {n : Nat} : ∀ (l : List Oper) {T : List V} {H : Heap} {k : List V → Heap → Prop}, aops (std P W0 md) tab ops.toList l T H k → ∀ {r : Pl} {fz : Fz} {a : Act} {w : World}, WR W0 r fz H w → TR r T a.tmps → An md r H →
    (∀ T' a' H' r' fz' w', k T' H' → TR r' T' a'.tmps → a'.defers = a.defers → WR W0 r' fz' H' w' → Stp r fz H w r' fz' H' w' → Q .normal a' w') → wpListIn md.fence n P ops Q l a w
  | [], T, H, k, h, r, fz, a, w, hw, hT, hA, hQ => by
    unfold aops at h
    unfold wpListIn
    exact hQ _ _ _ _ _ _ h hT rfl hw (Stp.refl hw)
  | o :: l, T, H, k, h, r, fz, a, w, hw, hT, hA, hQ => by
    unfold aops at h
    unfold wpListIn
    refine astepM_sound ht h hw hT hA fun T' a' H' r' fz' w' hk hT' hd hw' hst => ?_
    exact aops_sound ht l hk hw' hT' (hA.mono hst) fun T2 a2 H2 r2 fz2 w2 hk2 hT2 hd2 hw2 hst2 => hQ _ _ _ _ _ _ hk2 hT2 (hd2.trans hd) hw2 (hst.trans hst2)

variable {md : Md}
theorem Lift.mono {lo : Nat} {r : Pl} {fz : Fz} {H : Heap} {w : World} {k k' : Nat → Nat → List V → Heap → Prop} (hk : ∀ e n T H, k e n T H → k' e n T H) {ex : Exit} {a' : Act} {w' : World} (h : Lift W0 lo r fz H w k ex a' w') : Lift W0 lo r fz H w k' ex a' w' := by
  obtain ⟨e, n, T', H', r', fz', h1, h2, h3⟩ := h
  exact ⟨e, n, T', H', r', fz', h1, hk _ _ _ _ h2, h3⟩

theorem SemM.mono {c : Code} {T : List V} {H : Heap} {k k' : Nat → Nat → List V → Heap → Prop} (h : SemM P W0 md c T H k) (hk : ∀ e n T H, k e n T H → k' e n T H) : SemM P W0 md c T H k' :=
  fun m lo r fz a w hw hT hd hA => wpIn_mono (h m lo r fz a w hw hT hd hA) fun _ _ _ hq => hq.mono hk

/-- A step, then what is lifted from there. -/
theorem Lift.after {lo : Nat} {r r1 : Pl} {fz fz1 : Fz} {H H1 : Heap} {w w1 : World} {k : Nat → Nat → List V → Heap → Prop} (hst : Stp r fz H w r1 fz1 H1 w1) {ex : Exit} {a' : Act} {w' : World} (h : Lift W0 lo r1 fz1 H1 w1 k ex a' w') : Lift W0 lo r fz H w k ex a' w' := by
  obtain ⟨e, n, T', H', r', fz', h1, h2, h3, h4, h5, h6⟩ := h
  exact ⟨e, n, T', H', r', fz', h1, h2, h3, h4, h5, hst.trans h6⟩

theorem SemM.seq {c d : Code} {T : List V} {H : Heap} {k : Nat → Nat → List V → Heap → Prop} (h : SemM P W0 md c T H fun e n T' H' => match e with | 0 => SemM P W0 md d T' H' k | e + 1 => k (e + 1) n T' H') : SemM P W0 md (.seq c d) T H k := by
  intro m lo r fz a w hw hT hd hA
  refine wpIn_seq (wpIn_mono (h m lo r fz a w hw hT hd hA) fun ex a' w' hq => ?_)
  obtain ⟨e, n, T', H', r', fz', h1, h2, h3, h4, h5, h6⟩ := hq
  cases ex with
  | normal =>
    simp only [ExM] at h1
    subst h1
    exact wpIn_mono (h2 m lo r' fz' a' w' h3 h4 h5 (hA.mono h6)) fun _ _ _ hq => hq.after h6
  | ret => simp only [ExM] at h1; subst h1; exact ⟨1, n, T', H', r', fz', rfl, h2, h3, h4, h5, h6⟩
  | exit id => obtain ⟨rfl, rfl⟩ := h1; exact ⟨2, _, T', H', r', fz', ⟨rfl, rfl⟩, h2, h3, h4, h5, h6⟩
  | _ => exact h1.elim

theorem awp_sound (ht : Tab P tab) : ∀ (c : Code) {T : List V} {H : Heap} {k : Nat → Nat → List V → Heap → Prop}, awp (std P W0 md) tab c T H k → SemM P W0 md c T H k
  | .skip, T, H, k, h => fun m lo r fz a w hw hT hd hA => wpIn_skip ⟨0, 0, T, H, r, fz, rfl, h, hw, hT, hd, Stp.refl hw⟩
  | .label _, T, H, k, h => fun m lo r fz a w hw hT hd hA => wpIn_label ⟨0, 0, T, H, r, fz, rfl, h, hw, hT, hd, Stp.refl hw⟩
  | .ret, T, H, k, h => fun m lo r fz a w hw hT hd hA => wpIn_ret ⟨1, 0, T, H, r, fz, rfl, h, hw, hT, hd, Stp.refl hw⟩
  | .exit n, T, H, k, h => fun m lo r fz a w hw hT hd hA => wpIn_exit ⟨2, n, T, H, r, fz, ⟨rfl, rfl⟩, h, hw, hT, hd, Stp.refl hw⟩
  | .seq c d, T, H, k, h => by
    unfold awp at h
    refine SemM.seq ((awp_sound ht c h).mono fun e n T' H' hk => ?_)
    cases e with
    | zero => exact awp_sound ht d hk
    | succ e => exact hk
  | .cond x c d, T, H, k, h => by
    intro m lo r fz a w hw hT hd hA
    unfold awp at h
    split at h
    · rename_i t hx
      have h1 := ev_one hT hx
      unfold CR at h1
      refine wpIn_cond_split h1 (fun e => ?_) (fun e => ?_)
      · exact awp_sound ht c (h.1 e) m lo r fz a w hw hT hd hA
      · exact awp_sound ht d (h.2 e) m lo r fz a w hw hT hd hA
    · exact h.elim
  | .block id c, T, H, k, h => by
    intro m lo r fz a w hw hT hd hA
    unfold awp at h
    refine wpIn_block (wpIn_mono (awp_sound ht c h m lo r fz a w hw hT hd hA) fun ex a' w' hq => ?_)
    obtain ⟨e, n, T', H', r', fz', h1, h2, h3, h4, h5, h6⟩ := hq
    cases ex with
    | normal => simp only [ExM] at h1; subst h1; exact ⟨0, n, T', H', r', fz', rfl, h2, h3, h4, h5, h6⟩
    | ret => simp only [ExM] at h1; subst h1; exact ⟨1, n, T', H', r', fz', rfl, h2, h3, h4, h5, h6⟩
    | exit id' =>
      obtain ⟨rfl, rfl⟩ := h1
      rw [show Nat.beq 2 2 = true from rfl] at h2
      simp only at h2
      show if _ then _ else _
      by_cases he : n = id
      · subst he
        rw [if_pos rfl]
        rw [show Nat.beq n n = true from Nat.beq_refl n] at h2
        exact ⟨0, 0, T', H', r', fz', rfl, h2, h3, h4, h5, h6⟩
      · rw [if_neg he]
        have hb : Nat.beq n id = false := by
          cases hb : Nat.beq n id with
          | true => exact absurd (Nat.eq_of_beq_eq_true hb) he
          | false => rfl
        rw [hb] at h2
        exact ⟨2, n, T', H', r', fz', ⟨rfl, rfl⟩, h2, h3, h4, h5, h6⟩
    | _ => exact h1.elim
  | .loop c, T, H, k, h => by unfold awp at h; exact h
  | .region id ops d, T, H, k, h => by
    intro m lo r fz a w hw hT hd hA
    unfold awp at h
    cases d with
    | true =>
      refine wpIn_mono (h id m lo r fz a w hw hT hd hA) fun ex a' w' hq => ?_
      obtain ⟨e, n, T', H', r', fz', h1, ⟨rfl, rfl, h2⟩, h3⟩ := hq
      exact ⟨0, 0, T', H', r', fz', h1, h2, h3⟩
    | false =>
      refine wpIn_region_list (aops_sound ht _ h hw hT hA fun T' a' H' r' fz' w' hk hT' hd' hw' hst => ?_)
      exact ⟨0, 0, T', H', r', fz', rfl, hk, hw', hT', hd' ▸ hd.mono hst, hst⟩
  | .rangeFunc f ps s c, T, H, k, h => by unfold awp at h; exact h
  | .scope c, T, H, k, h => by simp [awp] at h
  | .goto l, T, H, k, h => by simp [awp] at h
  | .refuse l, T, H, k, h => by simp [awp] at h

/-- What a function's results read as. -/
def ares (X : Ext) (tab : TypeId → Option TI) : List ResultVar → List V → Heap → (List V → Prop) → Prop
  | [], T, H, k => k []
  | .tmp t :: l, T, H, k => ares X tab l T H fun vs => k (T.getD t (.one .undef) :: vs)
  | .cell x t :: l, T, H, k => match tab t, T.getD x (.one .undef) with
    | some ti, .one (.ptr id i j) => loadP X H ti id i j fun v => ares X tab l T H fun vs => k (v :: vs)
    | _, _ => False

def packV : List V → V
  | [v] => v
  | vs => .tup vs

theorem ares_sound (ht : Tab P tab) : ∀ (l : List ResultVar) {T : List V} {H : Heap} {k : List V → Prop}, ares (std P W0) tab l T H k → ∀ {r : Pl} {fz : Fz} {tmps : Array Value} {w : World}, WR W0 r fz H w → TR r T tmps →
    ∃ vs us, k vs ∧ VRs r vs us ∧ (l.mapM (fun (x : ResultVar) => (match x with
      | .tmp t => pure (tmps.getD t undef)
      | .cell a t => do loadVar t (← asAddr (tmps.getD a undef)) : Sem Value))).run P w = .ok us w
  | [], T, H, k, h, r, fz, tmps, w, hw, hT => ⟨[], [], h, by simp [VRs], by simp⟩
  | .tmp t :: l, T, H, k, h, r, fz, tmps, w, hw, hT => by
    unfold ares at h
    obtain ⟨vs, us, h1, h2, h3⟩ := ares_sound ht l h hw hT
    refine ⟨_, tmps.getD t undef :: us, h1, by unfold VRs; exact ⟨hT.get t, h2⟩, ?_⟩
    simp only [List.mapM_cons, Sem.run_bind, Sem.run_pure, Result.andThen, h3]
  | .cell x t :: l, T, H, k, h, r, fz, tmps, w, hw, hT => by
    unfold ares at h
    split at h
    · rename_i ti id i j h1 h2
      have hx := hT.get x
      rw [h2] at hx
      unfold VR at hx
      obtain ⟨v, e1, hv⟩ := loadP_sound (ht.tab _ _ h1) h
      obtain ⟨u, ad, e2, e4, e3⟩ := hv hw hx
      replace e3 := e3 w (fun _ _ _ _ _ _ => rfl)
      obtain ⟨vs, us, g1, g2, g3⟩ := ares_sound ht l e1 hw hT
      refine ⟨_, u :: us, g1, by unfold VRs; exact ⟨e4, g2⟩, ?_⟩
      have hA : (asAddr (tmps.getD x undef)).run P w = .ok ad w := by rw [e2]; rfl
      simp only [List.mapM_cons, Sem.run_bind, Sem.run_pure, Result.andThen, g3, hA, e3]
    · exact h.elim

theorem pack_rel {r : Pl} : ∀ {vs : List V} {us : List Value}, VRs r vs us → VR r (packV vs) (if h : us.toArray.size = 1 then us.toArray[0] else .tuple us.toArray)
  | [], [], h => by
    show VR r (.tup []) (.tuple #[])
    unfold VR
    exact ⟨[], rfl, h⟩
  | [v], [u], h => by simp [packV]; unfold VRs at h; exact h.1
  | v :: v' :: vs, u :: u' :: us, h => by
    have : ¬ (u :: u' :: us).toArray.size = 1 := by simp
    rw [dif_neg this]
    unfold packV VR
    exact ⟨_, rfl, h⟩
  | [], _ :: _, h => by simp [VRs] at h
  | [v], [], h => by simp [VRs] at h
  | [v], _ :: _ :: _, h => by simp [VRs] at h
  | _ :: _ :: _, [], h => by simp [VRs] at h
  | _ :: _ :: _, [_], h => by simp [VRs] at h

/-- A frozen block that holds no cells, come since, is let go and turned. -/
theorem WR.thaw {W0 : World} {r0 r : Pl} {fz0 fz : Fz} {H0 H : Heap} {w0 w : World} (h0 : WR W0 r0 fz0 H0 w0) (h : WR W0 r fz H w) (hst : Stp r0 fz0 H0 w0 r fz H w) {b : Nat} (hb : w0.heap.size ≤ b) {ds : Option (List Deferred)} (hf : fz b = some (.deferred ds)) (ob : Obj) :
    WR W0 r (fun b' => if b' = b then none else fz b') H (w.putObj b ob) ∧ Stp r0 fz0 H0 w0 r (fun b' => if b' = b then none else fz b') H (w.putObj b ob) := by
  have hwb := h.froz b _ hf
  have hne : ∀ id x b' o e, H[id]? = some (some x) → r id = some (.at_ x.rw b' o x.sz e) → b' ≠ b := by
    intro id x b' o e hx hr he
    subst he
    obtain ⟨_, _, h3, h4, h5⟩ := (h.live id x hx).at_ hr
    cases hrw : x.rw with
    | true => rw [h3 hrw] at hf; cases hf
    | false =>
      have hob : x.isObj = false := by cases x <;> first | rfl | cases hrw
      obtain ⟨us, t, fr, h6, _⟩ := h5.cells hob
      rw [hwb] at h6; cases h6
  have hW : W0.heap.size ≤ b := Nat.le_trans h0.below.size hb
  refine ⟨⟨⟨h.below.os, h.below.tape, h.below.output, by rw [World.putObj_size]; exact h.below.size, fun k hk => by rw [World.putObj_heap_other (by omega)]; exact h.below.block k hk⟩, fun b' o hb' => ?_, fun b' hb' => ?_, h.dom, fun id x hx => ?_, h.inj⟩,
    ⟨hst.len, hst.ext, fun b' o hb' => ?_, by rw [World.putObj_size]; exact hst.size, hst.fresh, hst.dead, fun b' hb' hn => by rw [World.putObj_heap_other (by omega)]; exact hst.frame b' hb' hn, fun b' o hb' => ?_⟩⟩
  · by_cases he : b' = b
    · subst he; simp at hb'
    · rw [if_neg he] at hb'; rw [World.putObj_heap_other he]; exact h.froz _ _ hb'
  · rw [if_neg (by omega)]; exact h.old b' hb'
  · rcases h.live id x hx with ⟨b', o, e, e1, e2, e4, e3⟩ | e
    · have hbb := hne id x b' o e hx e1
      refine .inl ⟨b', o, e, e1, fun hr => ?_, fun hr => ?_, e3.of_block (World.putObj_heap_other hbb)⟩
      · show (if b' = b then none else fz b') = none
        rw [if_neg hbb]; exact e2 hr
      · show ∃ ob, (if b' = b then none else fz b') = some ob
        rw [if_neg hbb]; exact e4 hr
    · exact .inr e
  · have h1 := hst.phi b' o hb'
    by_cases he : b' = b
    · subst he
      have := (Array.getElem?_eq_some_iff.1 (h0.froz _ _ hb')).1
      omega
    · show (if b' = b then none else fz b') = some o
      rw [if_neg he]; exact h1
  · by_cases he : b' = b
    · subst he; simp at hb'
    · rw [if_neg he] at hb'; exact hst.newf _ _ hb'

/-- A function is what its text is, an iterator's too. -/
theorem calls_body (ht : Tab P tab) {md : Md} (hfe : md.fence = Fence.wide) {f : FuncId} {fn : Func} {c : Code} {args : List V} {H : Heap} {k : V → Heap → Prop} (hf : P.funcs[f]? = some fn) (hb : fn.body = some c)
    (h : SemM P W0 md c (args ++ List.replicate (fn.ntmps - args.length) (.one .undef)) H fun e n T' H' => match e with
      | 0 | 1 => ares (std P W0) tab fn.results.toList T' H' fun vs => k (packV vs) H'
      | _ => False) {r : Pl} {fz : Fz} {w : World} {vs : List Value} (hw : WR W0 r fz H w) (hvs : VRs r args vs) (hA : An md r H) (n : Nat) : CallsIn Fence.wide n P f ⟨vs⟩ w fun e w' =>
    ∃ v u H' r' fz', e = .returned u ∧ k v H' ∧ WR W0 r' fz' H' w' ∧ VR r' v u ∧ Stp r fz H w r' fz' H' w' := by
  refine callsIn_of_wp_marks (F := Fence.wide) hf hb trivial ?_
  have hT : TR r (args ++ List.replicate (fn.ntmps - args.length) (.one .undef)) ((⟨vs⟩ : Array Value) ++ Array.replicate (fn.ntmps - (⟨vs⟩ : Array Value).size) undef) := by
    have hl := hvs.length
    refine ⟨by simp [hl], fun t => ?_⟩
    simp only [List.getD_eq_getElem?_getD, Array.getD_eq_getD_getElem?]
    rcases Nat.lt_or_ge t args.length with hlt | hge
    · rw [List.getElem?_append_left hlt]
      obtain ⟨u, h1, h2⟩ := hvs.get t args[t] (List.getElem?_eq_getElem hlt)
      rw [List.getElem?_eq_getElem hlt, Array.getElem?_append_left (by simp; omega)]
      simp [h1, h2]
    · rw [List.getElem?_append_right hge]
      have h0 : ∀ q, VR r ((List.replicate q (V.one C.undef))[t - args.length]?.getD (.one .undef)) ((((⟨vs⟩ : Array Value) ++ Array.replicate (fn.ntmps - (⟨vs⟩ : Array Value).size) undef)[t]?).getD undef) := by
        intro q
        have : (List.replicate q (V.one C.undef))[t - args.length]?.getD (.one .undef) = .one .undef := by
          rw [List.getElem?_replicate]
          split <;> rfl
        rw [this]
        unfold VR CR
        trivial
      exact h0 _
  have hbody := h n w.heap.size r fz { tmps := (⟨vs⟩ : Array Value) ++ Array.replicate (fn.ntmps - (⟨vs⟩ : Array Value).size) undef, defers := [] } w hw hT ⟨Nat.le_refl _, [], rfl, List.nodup_nil, fun _ h => by cases h⟩ hA
  rw [hfe] at hbody
  refine wpIn_mono hbody fun ex a' w' hq => ?_
  obtain ⟨e, m, T', H', r', fz', h1, h2, h3, h4, h5, h6⟩ := hq
  have hfin : ares (std P W0) tab fn.results.toList T' H' (fun vs => k (packV vs) H') → LeavesInM Fence.wide n P fn a'.tmps (fun e w' => ∃ v u H' r' fz', e = .returned u ∧ k v H' ∧ WR W0 r' fz' H' w' ∧ VR r' v u ∧ Stp r fz H w r' fz' H' w') a'.defers .returning w' := by
    intro hh
    obtain ⟨_, bs, hbs, hnd, hbz⟩ := h5
    rw [hbs]
    have hnew : ∀ b ∈ bs, w.heap.size ≤ b ∧ fz' b = some (.deferred (some [])) := hbz
    have key : ∀ (bs : List Nat) (fz' : Fz) (w' : World), bs.Nodup → (∀ b ∈ bs, w.heap.size ≤ b ∧ fz' b = some (.deferred (some []))) → WR W0 r' fz' H' w' → Stp r fz H w r' fz' H' w' →
        LeavesInM Fence.wide n P fn a'.tmps (fun e w' => ∃ v u H' r' fz', e = .returned u ∧ k v H' ∧ WR W0 r' fz' H' w' ∧ VR r' v u ∧ Stp r fz H w r' fz' H' w') (bs.map (fun b => ({ target := .collected b, args := #[] } : Deferred))) .returning w' := by
      intro bs
      induction bs with
      | nil =>
        intro fz' w' _ _ h3 h6
        obtain ⟨vs, us, g1, g2, g3⟩ := ares_sound ht _ hh h3 h4
        unfold LeavesInM
        refine ⟨_, ?_, packV vs, _, H', r', fz', rfl, g1, h3, pack_rel g2, h6⟩
        unfold results
        rw [Array.mapM_eq_mapM_toList]
        simp only [Sem.run_bind, Sem.run_map]
        erw [g3]
        simp
      | cons b bs ih =>
        intro fz' w' hnd hbz h3 h6
        obtain ⟨hnb, hnd⟩ := List.nodup_cons.1 hnd
        obtain ⟨hb0, hb1⟩ := hbz b (by simp)
        have hb2 := h3.froz b _ hb1
        obtain ⟨g1, g2⟩ := WR.thaw hw h3 h6 hb0 hb1 (Obj.deferred none)
        exact ⟨by simp, .inl ⟨b, _, rfl, run_takeDeferred hb2, ih _ _ hnd (fun b' hb' => ⟨(hbz b' (by simp [hb'])).1, by
          show (if b' = b then none else fz' b') = _
          rw [if_neg (fun e : b' = b => hnb (e ▸ hb'))]
          exact (hbz b' (by simp [hb'])).2⟩) g1 g2⟩⟩
    exact key bs fz' w' hnd hnew h3 h6
  cases ex with
  | normal => simp only [ExM] at h1; subst h1; exact hfin h2
  | ret => simp only [ExM] at h1; subst h1; exact hfin h2
  | exit id => obtain ⟨rfl, rfl⟩ := h1; exact h2.elim
  | _ => exact h1.elim

theorem ACall.of_body (ht : Tab P tab) {f : FuncId} {fn : Func} {c : Code} {args : List V} {H : Heap} {k : V → Heap → Prop} (hf : P.funcs[f]? = some fn) (hb : fn.body = some c)
    (h : ∀ X, X = std P W0 → awp X tab c (args ++ List.replicate (fn.ntmps - args.length) (.one .undef)) H fun e n T' H' => match e with
      | 0 | 1 => ares X tab fn.results.toList T' H' fun vs => k (packV vs) H'
      | _ => False) : ACall P W0 f args H k :=
  fun r fz w vs hw hvs => callsIn_wide.1 (calls_body ht (md := .top) rfl hf hb (awp_sound ht c (h _ rfl)) hw hvs trivial 0)
end
end Go.Proofs.YtdijdlkljeibjaaDoor.AM
