/- Texts and functions: what the abstract machine says of a text, the model does. -/
import Derived.Test.YtnfoibgafmeenaaAm8
import Derived.Tactics
namespace Go.Proofs.Ytnfoibgafmeenaa.AM
open Go Go.RowKit
set_option linter.unusedVariables false
set_option linter.unusedSimpArgs false

section
variable {P : Program} {W0 : World} {tab : TypeId → Option TI}

theorem yielded_of {r : Pl} {T : List V} {a : Act} (hT : TR r T a.tmps) {ops : Array Oper} {j : Nat} {d : Tmp} {b : Bool} (hd : (ops.toList[j]?).bind (·.dst) = some d) (hb : T.getD d (.one .undef) = .one (.bool b)) : yielded ops a.tmps j = some b := by
  have h1 := hT.get d
  rw [hb] at h1
  unfold VR CR at h1
  have hd' : (ops[j]?).bind (·.dst) = some d := by simpa using hd
  unfold yielded
  rw [hd', Option.bind_some]
  rw [Array.getD_eq_getD_getElem?] at h1
  cases hh : a.tmps[d]? with
  | none => rw [hh] at h1; simp [undef] at h1
  | some v => rw [hh] at h1; simp at h1; rw [h1]

/-- What one step of a region does. -/
theorem astep_sound (ht : Tab P tab) {ops : Array Oper} {o : Oper} {T : List V} {H : Heap} {k : List V → Heap → Prop} (h : astep (std P W0) tab ops.toList o T H k)
    {r : Pl} {fz : Fz} {a : Act} {w : World} (hw : WR W0 r fz H w) (hT : TR r T a.tmps) {K : Act → World → Prop} {Q : Exit → Act → World → Prop}
    (hK : ∀ T' a' H' r' fz' w', k T' H' → TR r' T' a'.tmps → a'.defers = a.defers → WR W0 r' fz' H' w' → Stp r fz H w r' fz' H' w' → K a' w') :
    if Region.wanted o (yielded ops a.tmps) then o.wp P a w K Q ∨ (o.asks P a w ∧ LetsOut Q) else K (a.put o.dst undef) w := by
  have hput : ∀ (u : Value), (a.put o.dst u).defers = a.defers := fun u => by cases ho : o.dst <;> simp [Act.put]
  have hyes : aop (std P W0) tab o T H (fun v H' => k (AM.put T o.dst v) H') → o.wp P a w K Q := fun hh =>
    aop_sound ht hh r fz a w hw hT K Q fun v u H' r' fz' w' hk hv hw' hst => hK _ _ _ _ _ _ hk ((hT.mono (hst.sub hw)).put _ hv) (hput u) hw' hst
  have hno : k (AM.put T o.dst (.one .undef)) H → K (a.put o.dst undef) w := fun hh =>
    hK _ _ _ _ _ _ hh (hT.put _ (by unfold VR CR; trivial)) (hput _) hw (Stp.refl hw)
  unfold astep at h
  cases hg : guardOf ops.toList T o with
  | none =>
    rw [hg] at h
    have : o.guard = none := by
      unfold guardOf at hg
      split at hg
      · assumption
      · split at hg
        · split at hg <;> cases hg
        · cases hg
    rw [if_pos (by simp [Region.wanted, this])]
    exact .inl (hyes h)
  | some q =>
    obtain ⟨ob, want⟩ := q
    rw [hg] at h
    unfold guardOf at hg
    split at hg
    · cases hg
    · rename_i j want' hgd
      split at hg
      · rename_i d hd
        split at hg
        · rename_i b hb
          cases hg
          have hy := yielded_of hT hd hb
          have hwant : Region.wanted o (yielded ops a.tmps) = (b == want) := by simp [Region.wanted, hgd, hy]
          rw [hwant]
          cases want <;> cases b
          · simp only [beq_self_eq_true, if_true]; exact .inl (hyes (h.2 rfl))
          · simp only [Bool.true_beq, Bool.false_eq_true, if_false]; exact hno (h.1 rfl)
          · simp only [Bool.false_beq, Bool.not_true, Bool.false_eq_true, if_false]; exact hno (h.2 rfl)
          · simp only [beq_self_eq_true, if_true]; exact .inl (hyes (h.1 rfl))
        · cases hg; exact h.elim
      · cases hg; exact h.elim

theorem aops_sound (ht : Tab P tab) {ops : Array Oper} {Q : Exit → Act → World → Prop} : ∀ (l : List Oper) {T : List V} {H : Heap} {k : List V → Heap → Prop}, aops (std P W0) tab ops.toList l T H k → ∀ {r : Pl} {fz : Fz} {a : Act} {w : World}, WR W0 r fz H w → TR r T a.tmps →
    (∀ T' a' H' r' fz' w', k T' H' → TR r' T' a'.tmps → a'.defers = a.defers → WR W0 r' fz' H' w' → Stp r fz H w r' fz' H' w' → Q .normal a' w') → wpList P ops Q l a w
  | [], T, H, k, h, r, fz, a, w, hw, hT, hQ => by
    unfold aops at h
    unfold wpList
    exact hQ _ _ _ _ _ _ h hT rfl hw (Stp.refl hw)
  | o :: l, T, H, k, h, r, fz, a, w, hw, hT, hQ => by
    unfold aops at h
    unfold wpList
    refine astep_sound ht h hw hT fun T' a' H' r' fz' w' hk hT' hd hw' hst => ?_
    exact aops_sound ht l hk hw' hT' fun T2 a2 H2 r2 fz2 w2 hk2 hT2 hd2 hw2 hst2 => hQ _ _ _ _ _ _ hk2 hT2 (hd2.trans hd) hw2 (hst.trans hst2)

theorem Lift.mono {r : Pl} {fz : Fz} {H : Heap} {w : World} {k k' : Nat → Nat → List V → Heap → Prop} (hk : ∀ e n T H, k e n T H → k' e n T H) {ex : Exit} {a' : Act} {w' : World} (h : Lift W0 r fz H w k ex a' w') : Lift W0 r fz H w k' ex a' w' := by
  obtain ⟨e, n, T', H', r', fz', h1, h2, h3⟩ := h
  exact ⟨e, n, T', H', r', fz', h1, hk _ _ _ _ h2, h3⟩

theorem SemC.mono {c : Code} {T : List V} {H : Heap} {k k' : Nat → Nat → List V → Heap → Prop} (h : SemC P W0 c T H k) (hk : ∀ e n T H, k e n T H → k' e n T H) : SemC P W0 c T H k' :=
  fun r fz a w hw hT hd => wp_mono (h r fz a w hw hT hd) fun _ _ _ hq => hq.mono hk

/-- A step, then what is lifted from there. -/
theorem Lift.after {r r1 : Pl} {fz fz1 : Fz} {H H1 : Heap} {w w1 : World} {k : Nat → Nat → List V → Heap → Prop} (hst : Stp r fz H w r1 fz1 H1 w1) {ex : Exit} {a' : Act} {w' : World} (h : Lift W0 r1 fz1 H1 w1 k ex a' w') : Lift W0 r fz H w k ex a' w' := by
  obtain ⟨e, n, T', H', r', fz', h1, h2, h3, h4, h5, h6⟩ := h
  exact ⟨e, n, T', H', r', fz', h1, h2, h3, h4, h5, hst.trans h6⟩

theorem SemC.seq {c d : Code} {T : List V} {H : Heap} {k : Nat → Nat → List V → Heap → Prop} (h : SemC P W0 c T H fun e n T' H' => match e with | 0 => SemC P W0 d T' H' k | e + 1 => k (e + 1) n T' H') : SemC P W0 (.seq c d) T H k := by
  intro r fz a w hw hT hd
  refine wp_seq (wp_mono (h r fz a w hw hT hd) fun ex a' w' hq => ?_)
  obtain ⟨e, n, T', H', r', fz', h1, h2, h3, h4, h5, h6⟩ := hq
  cases ex with
  | normal =>
    simp only [ExM] at h1
    subst h1
    exact wp_mono (h2 r' fz' a' w' h3 h4 h5) fun _ _ _ hq => hq.after h6
  | ret => simp only [ExM] at h1; subst h1; exact ⟨1, n, T', H', r', fz', rfl, h2, h3, h4, h5, h6⟩
  | exit id => obtain ⟨rfl, rfl⟩ := h1; exact ⟨2, _, T', H', r', fz', ⟨rfl, rfl⟩, h2, h3, h4, h5, h6⟩
  | _ => exact h1.elim

theorem awp_sound (ht : Tab P tab) : ∀ (c : Code) {T : List V} {H : Heap} {k : Nat → Nat → List V → Heap → Prop}, awp (std P W0) tab c T H k → SemC P W0 c T H k
  | .skip, T, H, k, h => fun r fz a w hw hT hd => wp_skip ⟨0, 0, T, H, r, fz, rfl, h, hw, hT, hd, Stp.refl hw⟩
  | .label _, T, H, k, h => fun r fz a w hw hT hd => wp_label ⟨0, 0, T, H, r, fz, rfl, h, hw, hT, hd, Stp.refl hw⟩
  | .ret, T, H, k, h => fun r fz a w hw hT hd => wp_ret ⟨1, 0, T, H, r, fz, rfl, h, hw, hT, hd, Stp.refl hw⟩
  | .exit n, T, H, k, h => fun r fz a w hw hT hd => wp_exit ⟨2, n, T, H, r, fz, ⟨rfl, rfl⟩, h, hw, hT, hd, Stp.refl hw⟩
  | .seq c d, T, H, k, h => by
    unfold awp at h
    refine SemC.seq ((awp_sound ht c h).mono fun e n T' H' hk => ?_)
    cases e with
    | zero => exact awp_sound ht d hk
    | succ e => exact hk
  | .cond x c d, T, H, k, h => by
    intro r fz a w hw hT hd
    unfold awp at h
    split at h
    · rename_i t hx
      have h1 := ev_one hT hx
      unfold CR at h1
      refine wp_cond_split h1 (fun e => ?_) (fun e => ?_)
      · exact awp_sound ht c (h.1 e) r fz a w hw hT hd
      · exact awp_sound ht d (h.2 e) r fz a w hw hT hd
    · exact h.elim
  | .block id c, T, H, k, h => by
    intro r fz a w hw hT hd
    unfold awp at h
    refine wp_block (wp_mono (awp_sound ht c h r fz a w hw hT hd) fun ex a' w' hq => ?_)
    obtain ⟨e, n, T', H', r', fz', h1, h2, h3, h4, h5, h6⟩ := hq
    cases ex with
    | normal => simp only [ExM] at h1; subst h1; exact ⟨0, n, T', H', r', fz', rfl, h2, h3, h4, h5, h6⟩
    | ret => simp only [ExM] at h1; subst h1; exact ⟨1, n, T', H', r', fz', rfl, h2, h3, h4, h5, h6⟩
    | exit id' =>
      obtain ⟨rfl, rfl⟩ := h1
      simp only at h2
      show if _ then _ else _
      by_cases he : n = id
      · subst he
        rw [if_pos rfl]
        rw [show Nat.beq n n = true from Nat.beq_refl n] at h2
        exact ⟨0, 0, T', H', r', fz', rfl, h2, h3, h4, h5, h6⟩
      · rw [if_neg he]
        have hb : Nat.beq n id = false := by
          cases hb : Nat.beq n id with
          | true => exact absurd (Nat.eq_of_beq_eq_true hb) he
          | false => rfl
        rw [hb] at h2
        exact ⟨2, n, T', H', r', fz', ⟨rfl, rfl⟩, h2, h3, h4, h5, h6⟩
    | _ => exact h1.elim
  | .loop c, T, H, k, h => by unfold awp at h; exact h
  | .region id ops d, T, H, k, h => by
    intro r fz a w hw hT hd
    unfold awp at h
    cases d with
    | true =>
      refine wp_mono (h id r fz a w hw hT hd) fun ex a' w' hq => ?_
      obtain ⟨e, n, T', H', r', fz', h1, ⟨rfl, rfl, h2⟩, h3⟩ := hq
      exact ⟨0, 0, T', H', r', fz', h1, h2, h3⟩
    | false =>
      refine wp_region_list (aops_sound ht _ h hw hT fun T' a' H' r' fz' w' hk hT' hd' hw' hst => ?_)
      exact ⟨0, 0, T', H', r', fz', rfl, hk, hw', hT', hd'.trans hd, hst⟩
  | .rangeFunc f ps s c, T, H, k, h => by unfold awp at h; exact h
  | .scope c, T, H, k, h => by simp [awp] at h
  | .goto l, T, H, k, h => by simp [awp] at h
  | .refuse l, T, H, k, h => by simp [awp] at h

/-- What a function's results read as. -/
def ares (X : Ext) (tab : TypeId → Option TI) : List ResultVar → List V → Heap → (List V → Prop) → Prop
  | [], T, H, k => k []
  | .tmp t :: l, T, H, k => ares X tab l T H fun vs => k (T.getD t (.one .undef) :: vs)
  | .cell x t :: l, T, H, k => match tab t, T.getD x (.one .undef) with
    | some ti, .one (.ptr id i j) => loadP X H ti id i j fun v => ares X tab l T H fun vs => k (v :: vs)
    | _, _ => False

def packV : List V → V
  | [v] => v
  | vs => .tup vs

theorem ares_sound (ht : Tab P tab) : ∀ (l : List ResultVar) {T : List V} {H : Heap} {k : List V → Prop}, ares (std P W0) tab l T H k → ∀ {r : Pl} {fz : Fz} {tmps : Array Value} {w : World}, WR W0 r fz H w → TR r T tmps →
    ∃ vs us, k vs ∧ VRs r vs us ∧ (l.mapM (fun (x : ResultVar) => (match x with
      | .tmp t => pure (tmps.getD t undef)
      | .cell a t => do loadVar t (← asAddr (tmps.getD a undef)) : Sem Value))).run P w = .ok us w
  | [], T, H, k, h, r, fz, tmps, w, hw, hT => ⟨[], [], h, by simp [VRs], by simp⟩
  | .tmp t :: l, T, H, k, h, r, fz, tmps, w, hw, hT => by
    unfold ares at h
    obtain ⟨vs, us, h1, h2, h3⟩ := ares_sound ht l h hw hT
    refine ⟨_, tmps.getD t undef :: us, h1, by unfold VRs; exact ⟨hT.get t, h2⟩, ?_⟩
    simp only [List.mapM_cons, Sem.run_bind, Sem.run_pure, Result.andThen, h3]
  | .cell x t :: l, T, H, k, h, r, fz, tmps, w, hw, hT => by
    unfold ares at h
    split at h
    · rename_i ti id i j h1 h2
      have hx := hT.get x
      rw [h2] at hx
      unfold VR at hx
      obtain ⟨v, e1, hv⟩ := loadP_sound (ht.tab _ _ h1) h
      obtain ⟨u, ad, e2, e4, e3⟩ := hv hw hx
      replace e3 := e3 w (fun _ _ _ _ _ _ => rfl)
      obtain ⟨vs, us, g1, g2, g3⟩ := ares_sound ht l e1 hw hT
      refine ⟨_, u :: us, g1, by unfold VRs; exact ⟨e4, g2⟩, ?_⟩
      have hA : (asAddr (tmps.getD x undef)).run P w = .ok ad w := by rw [e2]; rfl
      simp only [List.mapM_cons, Sem.run_bind, Sem.run_pure, Result.andThen, g3, hA, e3]
    · exact h.elim

theorem pack_rel {r : Pl} : ∀ {vs : List V} {us : List Value}, VRs r vs us → VR r (packV vs) (if h : us.toArray.size = 1 then us.toArray[0] else .tuple us.toArray)
  | [], [], h => by
    show VR r (.tup []) (.tuple #[])
    unfold VR
    exact ⟨[], rfl, h⟩
  | [v], [u], h => by simp [packV]; unfold VRs at h; exact h.1
  | v :: v' :: vs, u :: u' :: us, h => by
    have : ¬ (u :: u' :: us).toArray.size = 1 := by simp
    rw [dif_neg this]
    unfold packV VR
    exact ⟨_, rfl, h⟩
  | [], _ :: _, h => by simp [VRs] at h
  | [v], [], h => by simp [VRs] at h
  | [v], _ :: _ :: _, h => by simp [VRs] at h
  | _ :: _ :: _, [], h => by simp [VRs] at h
  | _ :: _ :: _, [_], h => by simp [VRs] at h

/-- A function is what its text is. -/
theorem ACall.of_body (ht : Tab P tab) {f : FuncId} {fn : Func} {c : Code} {args : List V} {H : Heap} {k : V → Heap → Prop} (hf : P.funcs[f]? = some fn) (hb : fn.body = some c)
    (h : ∀ X, X = std P W0 → awp X tab c (args ++ List.replicate (fn.ntmps - args.length) (.one .undef)) H fun e n T' H' => match e with
      | 0 | 1 => ares X tab fn.results.toList T' H' fun vs => k (packV vs) H'
      | _ => False) : ACall P W0 f args H k := by
  intro r fz w vs hw hvs
  have h := h _ rfl
  refine calls_of_wp hf hb ?_
  have hT : TR r (args ++ List.replicate (fn.ntmps - args.length) (.one .undef)) ((⟨vs⟩ : Array Value) ++ Array.replicate (fn.ntmps - (⟨vs⟩ : Array Value).size) undef) := by
    have hl := hvs.length
    refine ⟨by simp [hl], fun t => ?_⟩
    simp only [List.getD_eq_getElem?_getD, Array.getD_eq_getD_getElem?]
    rcases Nat.lt_or_ge t args.length with hlt | hge
    · rw [List.getElem?_append_left hlt]
      obtain ⟨u, h1, h2⟩ := hvs.get t args[t] (List.getElem?_eq_getElem hlt)
      rw [List.getElem?_eq_getElem hlt, Array.getElem?_append_left (by simp; omega)]
      simp [h1, h2]
    · rw [List.getElem?_append_right hge]
      have h0 : ∀ q, VR r ((List.replicate q (V.one C.undef))[t - args.length]?.getD (.one .undef)) ((((⟨vs⟩ : Array Value) ++ Array.replicate (fn.ntmps - (⟨vs⟩ : Array Value).size) undef)[t]?).getD undef) := by
        intro q
        have : (List.replicate q (V.one C.undef))[t - args.length]?.getD (.one .undef) = .one .undef := by
          rw [List.getElem?_replicate]
          split <;> rfl
        rw [this]
        unfold VR CR
        trivial
      exact h0 _
  refine wp_mono (awp_sound ht c h r fz { tmps := (⟨vs⟩ : Array Value) ++ Array.replicate (fn.ntmps - (⟨vs⟩ : Array Value).size) undef, defers := [] } w hw hT rfl) fun ex a' w' hq => ?_
  obtain ⟨e, n, T', H', r', fz', h1, h2, h3, h4, h5, h6⟩ := hq
  have hfin : ares (std P W0) tab fn.results.toList T' H' (fun vs => k (packV vs) H') → a'.defers = [] ∧ ∃ v, (results fn a'.tmps).run P w' = .ok v w' ∧ ∃ v1 u H' r' fz', Ending.returned v = .returned u ∧ k v1 H' ∧ WR W0 r' fz' H' w' ∧ VR r' v1 u ∧ Stp r fz H w r' fz' H' w' := by
    intro hh
    obtain ⟨vs, us, g1, g2, g3⟩ := ares_sound ht _ hh h3 h4
    refine ⟨h5, _, ?_, packV vs, _, H', r', fz', rfl, g1, h3, pack_rel g2, h6⟩
    unfold results
    rw [Array.mapM_eq_mapM_toList]
    simp only [Sem.run_bind, Sem.run_map]
    erw [g3]
    simp
  cases ex with
  | normal => simp only [ExM] at h1; subst h1; exact hfin h2
  | ret => simp only [ExM] at h1; subst h1; exact hfin h2
  | exit id => obtain ⟨rfl, rfl⟩ := h1; exact h2.elim
  | _ => exact h1.elim
end
end Go.Proofs.Ytnfoibgafmeenaa.AM

