/- The same: parts of strings and slices, composite values, lengths, calls; and all kinds together. -/
import Derived.Test.YtdijdlkljeibjaaDoorAm6
import Derived.Laws.Tables
namespace Go.Proofs.YtdijdlkljeibjaaDoor.AM
open Go Go.RowKit
set_option linter.unusedVariables false
set_option linter.unusedSimpArgs false

section
variable {P : Program} {W0 : World} {tab : TypeId → Option TI} {o : Oper} {T : List V} {H : Heap} {k : V → Heap → Prop}

theorem s_conv {s d : TypeId} {x : Operand} (ho : o.op = .convert s d x) {ts td : TI} (hs : tabOf P s = some ts) (hd : tabOf P d = some td) {ks kd kk : IntKind} (h1 : ts.kind = .int ks) (h2 : td.kind = .int kd) {n : Int} (hx : ev T x = .one (.int kk n)) : OpT P W0 o T H (.one (.int kd (kd.wrap n))) :=
  s_op (fun ρ => convert s d (ρ x)) (fun ρ => by unfold execOp; rw [ho]) fun r fz a w hw hT => by
    have h3 := ev_one hT hx
    unfold CR at h3
    refine ⟨.int kd (kd.wrap n), fun w => ?_, by unfold VR CR; rfl⟩
    rw [h3]
    simp [convert, run_underlying (kind_int hs h1), run_underlying (kind_int hd h2), Conv.intToInt]

theorem s_convStr {s d : TypeId} {x : Operand} (ho : o.op = .convert s d x) {ts td : TI} (hs : tabOf P s = some ts) (hd : tabOf P d = some td) (h1 : ts.kind = .str) (h2 : td.kind = .str) {n : ByteArray} (hx : ev T x = .one (.str n)) : OpT P W0 o T H (.one (.str n)) :=
  s_op (fun ρ => convert s d (ρ x)) (fun ρ => by unfold execOp; rw [ho]) fun r fz a w hw hT => by
    have h3 := ev_one hT hx
    unfold CR at h3
    refine ⟨.string n, fun w => ?_, by unfold VR CR; rfl⟩
    rw [h3]
    simp [convert, run_underlying (kind_str hs h1), run_underlying (kind_str hd h2)]

theorem sliceAt_not (t : TypeId) (x : Value) (lo hi mx : Option Value) (w : World) (h : ∃ d, P.underlying t = some d ∧ ∀ n e, d ≠ .array n e) : (Instr.sliceAt t x lo hi mx).run P w = (Instr.slice t x lo hi mx).run P w := by
  obtain ⟨d, h1, h2⟩ := h
  cases d <;> first | (simp [Instr.sliceAt, run_underlying h1]; done) | exact absurd rfl (h2 _ _)

/-- The bounds of a part. -/
theorem run_bounds (isS : Bool) (len cap : Nat) (lo hi : Option Int) (l h : Nat) (hl : match lo with | some a => a = (l : Int) | none => l = 0) (hh : match hi with | some b => b = (h : Int) | none => h = len) (h1 : l ≤ h) (h2 : h ≤ cap)
    (w : World) (kl kh : IntKind) : (Instr.sliceBounds isS len cap (lo.map (.int kl)) (hi.map (.int kh)) none).run P w = .ok (l, h, cap) w := by
  cases lo with
  | none =>
    simp only at hl
    cases hi with
    | none =>
      simp only at hh
      subst hl hh
      simp [Instr.sliceBounds]
    | some b =>
      simp only at hh
      subst hl hh
      simp [Instr.sliceBounds, Instr.sliceBound, asIntOf, h2]
  | some a =>
    simp only at hl
    subst hl
    cases hi with
    | none =>
      simp only at hh
      subst hh
      simp [Instr.sliceBounds, Instr.sliceBound, asIntOf, h1]
    | some b =>
      simp only at hh
      subst hh
      simp [Instr.sliceBounds, Instr.sliceBound, asIntOf, h1, h2]

def Is (v : Option Int) (a d : Nat) : Prop := match v with
  | some n => n = (a : Int)
  | none => a = d

theorem s_slStr {t : TypeId} {x : Operand} {lo hi : Option Operand} (ho : o.op = .slice t x lo hi none) {ti : TI} (ht : tabOf P t = some ti) (hk : ti.kind = .str) {s : ByteArray} (hx : ev T x = .one (.str s)) {vl vh : Option Int} {kl kh : IntKind}
    (hlo : lo.map (ev T) = vl.map (fun n => .one (.int kl n))) (hhi : hi.map (ev T) = vh.map (fun n => .one (.int kh n))) {a b : Nat} (ha : Is vl a 0) (hb : Is vh b s.size)
    (h1 : a ≤ b) (h2 : b ≤ s.size) : OpT P W0 o T H (.one (.str (s.extract a b))) :=
  s_op (fun ρ => Instr.sliceAt t (ρ x) (lo.map ρ) (hi.map ρ) (none.map ρ)) (fun ρ => by unfold execOp; rw [ho]) fun r fz ac w hw hT => by
    have h3 := ev_one hT hx
    unfold CR at h3
    have conv : ∀ (q : Option Operand) (v : Option Int) (kk : IntKind), q.map (ev T) = v.map (fun n => .one (.int kk n)) → q.map ac.eval = v.map (.int kk) := by
      intro q v kk hq
      cases q with
      | none => cases v <;> simp_all
      | some q =>
        cases v with
        | none => simp at hq
        | some n =>
          simp only [Option.map_some, Option.some.injEq] at hq ⊢
          have := ev_one hT hq
          unfold CR at this
          exact this
    refine ⟨.string (s.extract a b), fun w => ?_, by unfold VR CR; rfl⟩
    rw [h3, conv lo vl kl hlo, conv hi vh kh hhi, sliceAt_not t _ _ _ _ w ⟨_, kind_str ht hk, by simp⟩]
    have := run_bounds (P := P) false s.size s.size vl vh a b ha hb h1 h2 w kl kh
    simp [Instr.slice, run_underlying (kind_str ht hk), this]

theorem s_slSl {t e : TypeId} {x : Operand} {lo hi : Option Operand} (ho : o.op = .slice t x lo hi none) {ti te : TI} (ht : tabOf P t = some ti) (hk : ti.kind = .slice e) (hte : tabOf P e = some te) {id i len : Nat} {cap : Option Nat} (hx : ev T x = .one (.sl id i len cap))
    (hrow : ∃ rw t' m f, H[id]? = some (some (.row rw t' te.sz m f))) {vl vh : Option Int} {kl kh : IntKind}
    (hlo : lo.map (ev T) = vl.map (fun n => .one (.int kl n))) (hhi : hi.map (ev T) = vh.map (fun n => .one (.int kh n))) {a b : Nat} (ha : Is vl a 0) (hb : Is vh b len)
    (h1 : a ≤ b) (h2 : b ≤ len) : OpT P W0 o T H (.one (.sl id (i + a) (b - a) (cap.map fun c => c - a))) :=
  s_op (fun ρ => Instr.sliceAt t (ρ x) (lo.map ρ) (hi.map ρ) (none.map ρ)) (fun ρ => by unfold execOp; rw [ho]) fun r fz ac w hw hT => by
    have h3 := ev_one hT hx
    unfold CR at h3
    have conv : ∀ (q : Option Operand) (v : Option Int) (kk : IntKind), q.map (ev T) = v.map (fun n => .one (.int kk n)) → q.map ac.eval = v.map (.int kk) := by
      intro q v kk hq
      cases q with
      | none => cases v <;> simp_all
      | some q =>
        cases v with
        | none => simp at hq
        | some n =>
          simp only [Option.map_some, Option.some.injEq] at hq ⊢
          have := ev_one hT hq
          unfold CR at this
          exact this
    have hu := kind_slice ht hk
    obtain ⟨rw2, t', m, f, hrow⟩ := hrow
    rcases h3 with ⟨rw_, bl, o', s, e, ad, c, e1, e2, e3, e4, e5⟩ | ⟨e1, ⟨ad, e2, hcap⟩, rfl⟩
    case inr =>
      obtain rfl : b = 0 := by omega
      obtain rfl : a = 0 := by omega
      refine ⟨.slice ad 0 0, fun w => ?_, ?_⟩
      · rw [e2, conv lo vl kl hlo, conv hi vh kh hhi, sliceAt_not t _ _ _ _ w ⟨_, hu, by simp⟩]
        have := run_bounds (P := P) true 0 0 vl vh 0 0 ha hb (Nat.le_refl _) (Nat.le_refl _) w kl kh
        have hs := size_of hte w
        simp [Instr.slice, run_underlying hu, this, hs]
      · unfold VR CR
        refine .inr ⟨e1, ⟨ad, rfl, ?_⟩, rfl⟩
        rcases hcap with rfl | ⟨rfl, h0⟩
        · exact .inl rfl
        · exact .inr ⟨rfl, h0⟩
    obtain ⟨rfl, _, _⟩ := (hw.live id _ hrow).at_ e1
    refine ⟨.slice (some (if c = a then ad else ad.add (a * te.sz))) (b - a) (c - a), fun w => ?_, ?_⟩
    · rw [e2, conv lo vl kl hlo, conv hi vh kh hhi, sliceAt_not t _ _ _ _ w ⟨_, hu, by simp⟩]
      have := run_bounds (P := P) true len c vl vh a b ha hb h1 (by omega) w kl kh
      have hs := size_of hte w
      simp only [Instr.slice, Sem.run_bind, run_underlying hu, Result.andThen, Option.map_none, this, hs]
      by_cases hc : c = a <;> simp [hc]
    · unfold VR CR
      refine .inl ⟨_, bl, o', _, _, _, _, e1, rfl, ?_, by omega, fun n hn => ?_⟩
      · by_cases hc : c = a
        · right; omega
        · rw [if_neg hc]
          rcases e3 with ⟨rfl, hle⟩ | h0
          · left
            have hac : a * te.sz + (c - a) * te.sz = c * te.sz := by rw [← Nat.add_mul]; congr 1; omega
            simp only [B.sz] at hle ⊢
            rw [addr_add, Nat.add_mul]
            exact ⟨by congr 1; omega, by omega⟩
          · omega
      · cases cap with
        | none => simp at hn
        | some q => simp at hn; have := e5 q rfl; omega

theorem s_slSl3 {t e : TypeId} {x y z : Operand} (ho : o.op = .slice t x none (some y) (some z)) {ti te : TI} (ht : tabOf P t = some ti) (hk : ti.kind = .slice e) (hte : tabOf P e = some te) {id i len cap : Nat} (hx : ev T x = .one (.sl id i len (some cap))) {kb kc : IntKind} {b c : Int}
    (hy : ev T y = .one (.int kb b)) (hz : ev T z = .one (.int kc c)) (h0 : 0 ≤ b) (h1 : b ≤ c) (h2 : c ≤ len) : OpT P W0 o T H (.one (.sl id i b.toNat (some c.toNat))) :=
  s_op (fun ρ => Instr.sliceAt t (ρ x) (none.map ρ) ((some y).map ρ) ((some z).map ρ)) (fun ρ => by unfold execOp; rw [ho]) fun r fz ac w hw hT => by
    have h3 := ev_one hT hx
    have h4 := ev_one hT hy
    have h5 := ev_one hT hz
    unfold CR at h3 h4 h5
    have hu := kind_slice ht hk
    have hrun : ∀ (ad : Option Addr) (cc : Nat) (w : World), ac.eval x = .slice ad len cc → len ≤ cc → (Instr.sliceAt t (ac.eval x) (none.map ac.eval) ((some y).map ac.eval) ((some z).map ac.eval)).run P w = .ok (.slice ad b.toNat c.toNat) w := by
      intro ad cc w e1 e2
      rw [sliceAt_not t _ _ _ _ w ⟨_, hu, by simp⟩, e1]
      have hs := size_of hte w
      have g1 : 0 ≤ c := by omega
      have g2 : c ≤ cc := by omega
      have g3 : b ≤ (c.toNat : Int) := by omega
      have hbd : (Instr.sliceBounds true len cc none (some (ac.eval y)) (some (ac.eval z))).run P w = .ok (0, b.toNat, c.toNat) w := by
        rw [h4, h5]
        have g4 : ¬ (max c 0 < b) := by omega
        simp [Instr.sliceBounds, Instr.sliceBound, asIntOf, g1, g2, h0, g3, g4]
      simp only [Instr.slice, Sem.run_bind, run_underlying hu, Result.andThen, Option.map_none, Option.map_some, hbd, hs]
      have hadd : ∀ a : Addr, a.add 0 = a := fun a => by simp [Addr.add]
      cases ad <;> by_cases hc : c.toNat = 0 <;> simp [hc, hadd]
    rcases h3 with ⟨rw_, bl, o', s, e, ad, cc, e1, e2, e3, e4, e5⟩ | ⟨e1, ⟨ad, e2, hcap⟩, rfl⟩
    · refine ⟨_, fun w => hrun _ cc w e2 e4, ?_⟩
      unfold VR CR
      refine .inl ⟨rw_, bl, o', s, e, ad, c.toNat, e1, rfl, ?_, by omega, fun n hn => by cases hn; rfl⟩
      rcases e3 with ⟨h6, h7⟩ | h6
      · left
        have : c.toNat * s ≤ cc * s := Nat.mul_le_mul_right _ (by omega)
        exact ⟨h6, by omega⟩
      · right; omega
    · refine ⟨_, fun w => hrun _ 0 w e2 (Nat.le_refl _), ?_⟩
      unfold VR CR
      obtain rfl : b = 0 := by omega
      obtain rfl : c = 0 := by omega
      rcases hcap with h | ⟨_, h⟩
      · cases h
      · exact .inr ⟨e1, ⟨ad, rfl, .inr ⟨rfl, h⟩⟩, rfl⟩

def spliceV : List Value → Nat → List Value → List Value
  | cs, _, [] => cs
  | cs, o, c :: r => spliceV (cs.set o c) (o + 1) r

theorem fold_splice : ∀ (l : List Value) (off n : Nat) (cs : Array Value), (l.zipIdx n).foldl (fun (cs : Array Value) (x : Value × Nat) => cs.setIfInBounds (off + x.2) x.1) cs = ⟨spliceV cs.toList (off + n) l⟩
  | [], off, n, cs => by simp [spliceV]
  | v :: l, off, n, cs => by
    rw [List.zipIdx_cons, List.foldl_cons, fold_splice l off (n + 1)]
    simp [spliceV, Nat.add_assoc]

theorem CRs.set {r : Pl} {c : C} {v : Value} (hc : CR r c v) : ∀ {cs : List C} {us : List Value} (i : Nat), CRs r cs us → CRs r (cs.set i c) (us.set i v)
  | [], [], i, h => by simpa using h
  | x :: cs, u :: us, 0, h => by
    unfold CRs at h
    simp only [List.set_cons_zero]
    unfold CRs
    exact ⟨hc, h.2⟩
  | x :: cs, u :: us, i + 1, h => by
    unfold CRs at h
    simp only [List.set_cons_succ]
    unfold CRs
    exact ⟨h.1, CRs.set hc i h.2⟩
  | [], _ :: _, _, h => by simp [CRs] at h
  | _ :: _, [], _, h => by simp [CRs] at h

theorem CRs.splice {r : Pl} : ∀ {l : List C} {vs : List Value} {cs : List C} {us : List Value} (o : Nat), CRs r cs us → CRs r l vs → CRs r (AM.splice cs o l) (spliceV us o vs)
  | [], [], cs, us, o, h, _ => h
  | c :: l, v :: vs, cs, us, o, h, hl => by
    unfold CRs at hl
    unfold AM.splice spliceV
    exact CRs.splice (o + 1) (CRs.set hl.1 o h) hl.2
  | [], _ :: _, _, _, _, _, h => by simp [CRs] at h
  | _ :: _, [], _, _, _, _, h => by simp [CRs] at h

theorem fill_rel {r : Pl} {T : List V} {a : Act} (hT : TR r T a.tmps) (place : Nat → Option (Nat × Nat)) : ∀ (parts : List (Nat × Operand)) {cells : List C} {us : Array Value} {cs : List C},
    CRs r cells us.toList → fillC place cells (parts.map fun p => (p.1, ev T p.2)) = some cs → ∃ us', Instr.fill place us (parts.map fun p => (p.1, a.eval p.2)) = some us' ∧ CRs r cs us'.toList
  | [], cells, us, cs, h, hf => by
    simp only [List.map_nil, fillC, Option.some.injEq] at hf
    subst hf
    exact ⟨us, rfl, h⟩
  | (i, x) :: parts, cells, us, cs, h, hf => by
    simp only [List.map_cons] at hf ⊢
    unfold fillC at hf
    unfold Instr.fill
    cases hp : place i with
    | none => rw [hp] at hf; cases hf
    | some q =>
      obtain ⟨off, sz⟩ := q
      rw [hp] at hf
      simp only at hf ⊢
      split at hf
      · rename_i hok
        split at hf
        · rename_i hle
          have hc := cells_of (ev_rel hT x) hok
          have h1 : (a.eval x).cells.size = sz := by rw [← Array.length_toList, ← hc.length, hle.1]
          have h2 : us.size = cells.length := by rw [← Array.length_toList, h.length]
          rw [if_neg (by rw [h1, h2]; simp; omega)]
          have hz : (a.eval x).cells.zipIdx.foldl (fun (cs : Array Value) (x : Value × Nat) => cs.setIfInBounds (off + x.2) x.1) us = ⟨spliceV us.toList off (a.eval x).cells.toList⟩ := by
            rw [← Array.foldl_toList, Array.toList_zipIdx, fold_splice]
            simp
          have := fill_rel hT place parts (cells := splice cells off (ev T x).cells) (us := ⟨spliceV us.toList off (a.eval x).cells.toList⟩) (CRs.splice off h hc) hf
          rw [← hz] at this
          exact this
        · cases hf
      · cases hf

theorem zero_rel (r : Pl) {t : TypeId} {ti : TI} (ht : tabOf P t = some ti) (w : World) : ∃ z, (zeroValue t).run P w = .ok z w ∧ CRs r ti.zero z.cells.toList := by
  obtain ⟨z, h1, h2⟩ := zero_of ht w
  exact ⟨z, h1, by rw [h2]; exact ofCells_rel r _⟩

theorem s_build {t : TypeId} {parts : Array (Nat × Operand)} (ho : o.op = .build t parts) {sz by_ : Nat} {fs : List (Nat × Nat × Bool)} {z : List C} (ht : tabOf P t = some ⟨sz, by_, .struct fs, z⟩) (hall : fs.all (·.2.2) = true) {cs : List C}
    (hf : fillC (fun i => (fs[i]?).map fun f => (f.1, f.2.1)) z (parts.toList.map fun p => (p.1, ev T p.2)) = some cs) : OpT P W0 o T H (.agg cs) :=
  s_op (fun ρ => Instr.build t (parts.map fun (i, x) => (i, ρ x))) (fun ρ => by unfold execOp; rw [ho]) fun r fz a w hw hT => by
    obtain ⟨i, d, z', g1, g2, g3, g4⟩ := tab_info ht
    cases d <;> simp [kindOf] at g4
    rename_i fields
    obtain ⟨_, _, g5, g6⟩ := g4
    subst g5 g6
    have hsome : ∀ f ∈ fields.toList, ∃ i, P.info? f.type = some i := by
      intro f hf
      have := List.all_eq_true.1 hall _ (List.mem_map_of_mem hf)
      cases hi : P.info? f.type with
      | none => simp [szOf, hi] at this
      | some i => exact ⟨i, rfl⟩
    have hpl : ∀ l : List Field, (∀ f ∈ l, ∃ i, P.info? f.type = some i) → l.mapM (fun f => (P.info? f.type).map fun i => (f.offset, i.size)) = some (l.map fun f => (f.offset, szOf P f.type)) := by
      intro l hl
      induction l with
      | nil => rfl
      | cons f l ih =>
        obtain ⟨i, hi⟩ := hl f (by simp)
        simp [List.mapM_cons, ih (fun f hf => hl f (by simp [hf])), hi, szOf]
    obtain ⟨us', e1, e2⟩ := fill_rel hT (fun i => ((fields.toList.map fun f => (f.offset, szOf P f.type)).toArray)[i]?) parts.toList (ofCells_rel r z'.cells.toList) (cs := cs) (by
      rw [← hf]
      congr 1
      funext i
      simp [Function.comp_def])
    refine ⟨.agg us', fun w => ?_, by unfold VR; exact ⟨us'.toList, rfl, e2⟩⟩
    refine run_build w t _ us' ?_
    simp only [Program.built, g1, g2, g3, hpl _ hsome]
    rw [← e1]
    simp

theorem s_buildArr {t e : TypeId} {parts : Array (Nat × Operand)} (ho : o.op = .build t parts) {sz by_ n : Nat} {z : List C} (ht : tabOf P t = some ⟨sz, by_, .array n e, z⟩) {te : TI} (hte : tabOf P e = some te) {cs : List C}
    (hf : fillC (fun i => some (i * te.sz, te.sz)) z (parts.toList.map fun p => (p.1, ev T p.2)) = some cs) : OpT P W0 o T H (.agg cs) :=
  s_op (fun ρ => Instr.build t (parts.map fun (i, x) => (i, ρ x))) (fun ρ => by unfold execOp; rw [ho]) fun r fz a w hw hT => by
    obtain ⟨ie, de, ze, k1, k2, k3, rfl⟩ := tab_info hte
    obtain ⟨i, d, z', g1, g2, g3, g4⟩ := tab_info ht
    cases d <;> simp [kindOf] at g4
    obtain ⟨_, _, ⟨rfl, rfl⟩, rfl⟩ := g4
    obtain ⟨us', e1, e2⟩ := fill_rel hT (fun i => some (i * ie.size, ie.size)) parts.toList (ofCells_rel r z'.cells.toList) (cs := cs) hf
    refine ⟨.agg us', fun w => ?_, by unfold VR; exact ⟨us'.toList, rfl, e2⟩⟩
    refine run_build w t _ us' ?_
    simp only [Program.built, g1, g2, g3, k1]
    rw [← e1]
    simp

theorem CRs.append {r : Pl} : ∀ {c d : List C} {v u : List Value}, CRs r c v → CRs r d u → CRs r (c ++ d) (v ++ u)
  | [], d, [], u, _, K => K
  | c :: cs, d, v :: vs, u, H, K => by
    unfold CRs at H
    simp only [List.cons_append]
    unfold CRs
    exact ⟨H.1, CRs.append H.2 K⟩
  | [], _, _ :: _, _, H, _ => by simp [CRs] at H
  | _ :: _, _, [], _, H, _ => by simp [CRs] at H

theorem rep_rel {r : Pl} {z : List C} {us : List Value} (h : CRs r z us) : ∀ n, CRs r (rep z n) (List.replicate n us).flatten
  | 0 => by simp [rep, CRs]
  | n + 1 => by
    rw [List.replicate_succ, List.flatten_cons]
    exact CRs.append h (rep_rel h n)

theorem zeros_eq (us : Array Value) (n : Nat) : ((Array.range (n * us.size)).map (us[· % us.size]!)).toList = (List.replicate n us.toList).flatten := by
  apply List.ext_getElem?
  intro i
  by_cases hi : i < n * us.size
  · have hpos : 0 < us.size := by
      rcases Nat.eq_zero_or_pos us.size with h | h
      · rw [h] at hi; simp at hi
      · exact h
    have hm : i % us.size < us.size := Nat.mod_lt _ hpos
    have h2 : (List.replicate n us.toList).flatten[i]? = us[i % us.size]? := by
      clear hm
      induction n generalizing i with
      | zero => simp at hi
      | succ n ih =>
        rw [List.replicate_succ, List.flatten_cons]
        by_cases hlt : i < us.size
        · rw [List.getElem?_append_left (by simpa using hlt), Nat.mod_eq_of_lt hlt]
          simp
        · rw [List.getElem?_append_right (by simp; omega)]
          have := ih (i := i - us.size) (by rw [Nat.add_mul] at hi; omega)
          simp only [Array.length_toList]
          rw [this]
          congr 1
          conv => rhs; rw [show i = i - us.size + us.size by omega, Nat.add_mod_right]
    rw [h2]
    simp [hi, hm]
  · rw [List.getElem?_eq_none (by simp; omega), List.getElem?_eq_none (by simp; omega)]

theorem s_buildSlice {t e : TypeId} {n : Nat} {parts : Array (Nat × Operand)} (ho : o.op = .buildSlice t n parts) {sz by_ : Nat} {z : List C} (ht : tabOf P t = some ⟨sz, by_, .slice e, z⟩) {te : TI} (hte : tabOf P e = some te) {cs : List C}
    (hf : fillC (fun i => some (i * te.sz, te.sz)) (rep te.zero n) (parts.toList.map fun p => (p.1, ev T p.2)) = some cs) (hb : n * te.sz ≤ 1000 ∧ te.zero.length = te.sz ∧ 0 < te.sz)
    (h : k (.one (.sl H.length 0 n (some n))) (H ++ [some (.row true e te.sz n (fun i => (cs.drop (i * te.sz)).take te.sz))])) : OpS P W0 o T H k := by
  refine OpS.of_run fun r fz a w hw hT => ?_
  obtain ⟨h0, hzl, hpos⟩ := hb
  have hte' := hte
  obtain ⟨ie, de, ze, k1, k2, k3, rfl⟩ := tab_info hte
  have hzs : ze.cells.size = ie.size := by simpa using hzl
  have hz0 := rep_rel (ofCells_rel r ze.cells.toList) n
  rw [← zeros_eq] at hz0
  obtain ⟨us', e1, e2⟩ := fill_rel hT (fun i => some (i * ie.size, ie.size)) parts.toList hz0 (cs := cs) hf
  have hlen : cs.length = n * ie.size := by
    have h3 : ∀ (l : List (Nat × V)) (c c' : List C), fillC (fun i => some (i * ie.size, ie.size)) c l = some c' → c'.length = c.length := by
      intro l
      induction l with
      | nil => intro c c' h; simp [fillC] at h; rw [h]
      | cons p l ih =>
        intro c c' h
        obtain ⟨i, v⟩ := p
        unfold fillC at h
        simp only at h
        split at h
        · split at h
          · rw [ih _ _ h, splice_length]
          · cases h
        · cases h
    rw [h3 _ _ _ hf]
    have : ∀ m, (rep (ze.cells.toList.map ofCell) m).length = m * ie.size := by
      intro m
      induction m with
      | zero => simp [rep]
      | succ m ih => rw [rep, List.length_append, ih, Nat.add_mul]; simp [hzs]; omega
    exact this n
  obtain ⟨r', n1, n2, n3⟩ := hw.alloc us' e (.row true e ie.size n (fun i => (cs.drop (i * ie.size)).take ie.size)) rfl (fun r' w' hs hh => ⟨_, _, _, hh, rfl, fun _ => ⟨rfl, rfl⟩, fun i hi => by
    have hle : (i + 1) * ie.size ≤ n * ie.size := Nat.mul_le_mul_right _ hi
    rw [Nat.add_mul] at hle
    refine ⟨by simp; omega, fun j c hj => ?_⟩
    rw [List.getElem?_take] at hj
    split at hj
    · rw [List.getElem?_drop] at hj
      obtain ⟨u, h1, h2⟩ := e2.get _ c hj
      exact ⟨u, by simpa using h1, h2.mono hs⟩
    · cases hj⟩)
  refine ⟨_, .slice (some ⟨w.heap.size, 0, none⟩) n n, _, r', fz, _, ?_, h, ?_, n1, n2⟩
  · unfold execOp
    rw [ho]
    refine run_value ?_
    have hsz : (sizeOf e).run P w = .ok ie.size w := by simp [sizeOf, typeInfo, k1]
    have hzz : (zeroValue e).run P w = .ok ze w := by simp [zeroValue, typeInfo, k1, k3]
    have hbig : ¬ n * ie.size > 2 ^ 24 := by simp only at h0; omega
    have hfin : Instr.fill (fun i => some (i * ie.size, ie.size)) ((Array.range (n * ie.size)).map (ze.cells[· % ze.cells.size]!)) (parts.map fun (i, x) => (i, a.eval x)).toList = some us' := by
      rw [← e1, hzs]
      simp
    simp only [Instr.buildSlice, Sem.run_bind, run_underlying (slice_of ht), Result.andThen, hsz]
    rw [Sem.run_ite, if_neg hbig]
    by_cases hz : n * ie.size = 0
    · have h00 : n = 0 := by
        rcases Nat.mul_eq_zero.1 hz with h | h
        · exact h
        · simp only at hpos; omega
      subst h00
      have hfin0 : Instr.fill (fun i => some (i * ie.size, ie.size)) #[] (parts.map fun (i, x) => (i, a.eval x)).toList = some us' := by
        rw [← hfin]
        congr 1
        simp
      have hr0 : Array.range 0 = #[] := rfl
      simp only [Nat.zero_mul, if_true, hr0, Array.map_empty, Sem.run_bind, Sem.run_pure, Result.andThen, hfin0]
      simp [newRow]
    · simp only [if_neg hz, Sem.run_bind, hzz, Result.andThen, Sem.run_pure, hfin]
      simp [newRow]
  · unfold VR CR
    refine .inl ⟨_, _, _, _, _, _, _, n3, rfl, .inl ⟨by simp, ?_⟩, Nat.le_refl _, fun m hm => by cases hm; rfl⟩
    have := e2.length
    simp only [B.sz, Array.length_toList] at this ⊢
    omega
end
end Go.Proofs.YtdijdlkljeibjaaDoor.AM
