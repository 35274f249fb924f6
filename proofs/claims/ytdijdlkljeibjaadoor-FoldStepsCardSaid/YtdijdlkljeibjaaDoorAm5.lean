/- The same, the other kinds of operations. -/
import Derived.Test.YtdijdlkljeibjaaDoorAm4
namespace Go.Proofs.YtdijdlkljeibjaaDoor.AM
open Go Go.RowKit
set_option linter.unusedVariables false
set_option linter.unusedSimpArgs false

section
variable {P : Program} {W0 : World} {tab : TypeId → Option TI} {o : Oper} {T : List V} {H : Heap} {k : V → Heap → Prop}

theorem ev_one {r : Pl} {T : List V} {a : Act} (hT : TR r T a.tmps) {x : Operand} {c : C} (hx : ev T x = .one c) : CR r c (a.eval x) := by
  have := ev_rel hT x
  rw [hx] at this
  unfold VR at this
  exact this

theorem s_op (s : (Operand → Value) → Sem Value) (ho : ∀ ρ, execOp ρ o = (do pure (.value (← s ρ)))) {v : V}
    (h : ∀ r fz (a : Act) w, WR W0 r fz H w → TR r T a.tmps → ∃ u, (∀ w, (s a.eval).run P w = .ok u w) ∧ VR r v u) : OpT P W0 o T H v :=
  OpT.of_pure fun r fz a w hw hT => let ⟨u, h1, h2⟩ := h r fz a w hw hT; ⟨u, fun w => by rw [ho]; exact run_value (h1 w), h2⟩

theorem struct_field {t : TypeId} {sz by_ n : Nat} {fs : List (Nat × Nat × Bool)} {z : List C} (ht : tabOf P t = some ⟨sz, by_, .struct fs, z⟩) {off s : Nat} (hn : fs[n]? = some (off, s, true)) :
    ∃ fields f i, P.underlying t = some (.struct fields) ∧ fields[n]? = some f ∧ f.offset = off ∧ P.info? f.type = some i ∧ i.size = s ∧ s ≠ 0 := by
  obtain ⟨i, d, z', h1, h2, h3, h4⟩ := tab_info ht
  cases d <;> simp [kindOf] at h4
  rename_i fields
  obtain ⟨_, _, h5, _⟩ := h4
  subst h5
  simp only [List.getElem?_map, Array.getElem?_toList] at hn
  cases hf : fields[n]? with
  | none => simp [hf] at hn
  | some f =>
    simp [hf] at hn
    obtain ⟨e1, e2, e3⟩ := hn
    have : ∃ i, P.info? f.type = some i := by
      cases hi : P.info? f.type with
      | none => simp [szOf, hi] at e3
      | some i => exact ⟨i, rfl⟩
    obtain ⟨i', hi'⟩ := this
    refine ⟨fields, f, i', h2, hf, e1, hi', ?_, ?_⟩
    · simpa [szOf, hi'] using e2
    · rw [← e2]; simpa using e3

theorem run_fieldAt {t : TypeId} {sz by_ n : Nat} {fs : List (Nat × Nat × Bool)} {z : List C} (ht : tabOf P t = some ⟨sz, by_, .struct fs, z⟩) {off s : Nat} (hn : fs[n]? = some (off, s, true)) (a : Addr) (w : World) :
    (Instr.fieldAt t (.pointer (some a)) n).run P w = .ok (.pointer (some (a.add off))) w := by
  obtain ⟨fields, f, i, h1, h2, h3, h4, h5, h6⟩ := struct_field ht hn
  have hs : i.size ≠ 0 := by rw [h5]; exact h6
  simp [Instr.fieldAt, run_underlying h1, h2, Instr.sureAddr, fieldPlace, sizeOf, typeInfo, h4, hs, h3]

theorem s_fieldAddr {t : TypeId} {x : Operand} {n : Nat} (ho : o.op = .fieldAddr t x n) {sz by_ : Nat} {fs : List (Nat × Nat × Bool)} {z : List C} (ht : tabOf P t = some ⟨sz, by_, .struct fs, z⟩) {off s : Nat} (hn : fs[n]? = some (off, s, true))
    {id i j : Nat} (hx : ev T x = .one (.ptr id i j)) : OpT P W0 o T H (.one (.ptr id i (j + off))) :=
  s_op (fun ρ => Instr.fieldAt t (ρ x) n) (fun ρ => by unfold execOp; rw [ho]) fun r fz a w hw hT => by
    have h1 := ev_one hT hx
    unfold CR at h1
    obtain ⟨rw_, b, o', s', e, e1, e2⟩ := h1
    refine ⟨_, fun w => by rw [e2]; exact run_fieldAt ht hn _ w, ?_⟩
    unfold VR CR
    exact ⟨rw_, b, o', s', e, e1, by rw [addr_add]; congr 3; omega⟩

theorem s_fieldAddr_raw {t : TypeId} {x : Operand} {n : Nat} (ho : o.op = .fieldAddr t x n) {sz by_ : Nat} {fs : List (Nat × Nat × Bool)} {z : List C} (ht : tabOf P t = some ⟨sz, by_, .struct fs, z⟩) {off s : Nat} (hn : fs[n]? = some (off, s, true))
    {ad : Addr} (hx : ev T x = .one (.raw (.pointer (some ad)))) : OpT P W0 o T H (.one (.raw (.pointer (some (ad.add off))))) :=
  s_op (fun ρ => Instr.fieldAt t (ρ x) n) (fun ρ => by unfold execOp; rw [ho]) fun r fz a w hw hT => by
    have h1 := ev_one hT hx
    unfold CR at h1
    refine ⟨_, fun w => by rw [h1]; exact run_fieldAt ht hn _ w, ?_⟩
    unfold VR CR
    rfl

theorem slice_of {t e : TypeId} {sz by_ : Nat} {z : List C} (ht : tabOf P t = some ⟨sz, by_, .slice e, z⟩) : P.underlying t = some (.slice e) := by
  obtain ⟨i, d, z', h1, h2, h3, h4⟩ := tab_info ht
  cases d <;> simp [kindOf] at h4
  rw [h2, h4.2.2.1]

theorem array_of {t e : TypeId} {sz by_ n : Nat} {z : List C} (ht : tabOf P t = some ⟨sz, by_, .array n e, z⟩) : P.underlying t = some (.array n e) := by
  obtain ⟨i, d, z', h1, h2, h3, h4⟩ := tab_info ht
  cases d <;> simp [kindOf] at h4
  rw [h2, h4.2.2.1.1, h4.2.2.1.2]

theorem size_of {t : TypeId} {ti : TI} (ht : tabOf P t = some ti) (w : World) : (sizeOf t).run P w = .ok ti.sz w := by
  obtain ⟨i, d, z', h1, h2, h3, rfl⟩ := tab_info ht
  simp [sizeOf, typeInfo, h1]

/-- A row's element size is its element type's. -/
theorem s_indexAddr {t e : TypeId} {x y : Operand} (ho : o.op = .indexAddr t x y) {sz by_ : Nat} {z : List C} (ht : tabOf P t = some ⟨sz, by_, .slice e, z⟩) {te : TI} (hte : tabOf P e = some te) {id i len : Nat} {cap : Option Nat} {kk : IntKind} {n : Int}
    (hx : ev T x = .one (.sl id i len cap)) (hy : ev T y = .one (.int kk n)) (hrow : ∃ rw t' m f, H[id]? = some (some (.row rw t' te.sz m f))) (h : 0 ≤ n ∧ n < len) : OpT P W0 o T H (.one (.ptr id (i + n.toNat) 0)) :=
  s_op (fun ρ => Instr.indexAt t (ρ x) (ρ y)) (fun ρ => by unfold execOp; rw [ho]) fun r fz a w hw hT => by
    have h1 := ev_one hT hx
    have h2 := ev_one hT hy
    unfold CR at h1 h2
    obtain ⟨hn0, hn1⟩ := h
    rcases h1 with ⟨rw_, b, o', s, e, ad, c, e1, e2, e3, e4, e5⟩ | ⟨_, _, h0⟩
    case inr => omega
    obtain ⟨rw2, t', m, f, hrow⟩ := hrow
    obtain ⟨rfl, _, _⟩ := (hw.live id _ hrow).at_ e1
    rcases e3 with ⟨rfl, _⟩ | h0
    · refine ⟨.pointer (some ⟨b, o' + i * B.sz (.row rw2 t' te.sz m f) + n.toNat * te.sz, none⟩), ?_, ?_⟩
      · intro w
        rw [e2, h2]
        have hs := size_of hte w
        simp [Instr.indexAt, asIntOf, run_underlying (slice_of ht), hn0, hn1, hs, addr_add]
      · unfold VR CR
        refine ⟨_, b, o', _, _, e1, ?_⟩
        congr 3
        simp only [B.sz]
        rw [Nat.add_mul]
        omega
    · omega

theorem s_indexAddr_raw {t e : TypeId} {x y : Operand} (ho : o.op = .indexAddr t x y) {sz by_ : Nat} {z : List C} (ht : tabOf P t = some ⟨sz, by_, .slice e, z⟩) {te : TI} (hte : tabOf P e = some te) {ad : Addr} {len cap : Nat} {kk : IntKind} {n : Int}
    (hx : ev T x = .one (.raw (.slice (some ad) len cap))) (hy : ev T y = .one (.int kk n)) (h : 0 ≤ n ∧ n < len) : OpT P W0 o T H (.one (.raw (.pointer (some (ad.add (n.toNat * te.sz)))))) :=
  s_op (fun ρ => Instr.indexAt t (ρ x) (ρ y)) (fun ρ => by unfold execOp; rw [ho]) fun r fz a w hw hT => by
    have h1 := ev_one hT hx
    have h2 := ev_one hT hy
    unfold CR at h1 h2
    obtain ⟨hn0, hn1⟩ := h
    refine ⟨_, fun w => by rw [h1, h2]; simp [Instr.indexAt, asIntOf, run_underlying (slice_of ht), hn0, hn1, size_of hte w]; rfl, ?_⟩
    unfold VR CR
    rfl

theorem s_indexAddr_arr {t e : TypeId} {x y : Operand} (ho : o.op = .indexAddr t x y) {sz by_ len : Nat} {z : List C} (ht : tabOf P t = some ⟨sz, by_, .array len e, z⟩) {te : TI} (hte : tabOf P e = some te) {id i j n : Nat} {kk : IntKind}
    (hx : ev T x = .one (.ptr id i j)) (hy : ev T y = .one (.int kk (.ofNat n))) (hn : n < len) : OpT P W0 o T H (.one (.ptr id i (j + n * te.sz))) :=
  s_op (fun ρ => Instr.indexAt t (ρ x) (ρ y)) (fun ρ => by unfold execOp; rw [ho]) fun r fz a w hw hT => by
    have h1 := ev_one hT hx
    have h2 := ev_one hT hy
    unfold CR at h1 h2
    obtain ⟨rw_, b, o', s, e, e1, e2⟩ := h1
    refine ⟨.pointer (some ((⟨b, o' + (i * s + j), none⟩ : Addr).add (n * te.sz))), ?_, ?_⟩
    · intro w
      have hs := size_of hte w
      rw [e2, h2]
      have : (Int.ofNat n) = (n : Int) := rfl
      simp [Instr.indexAt, asIntOf, run_underlying (array_of ht), Instr.sureAddr, hn, hs, this]
    · unfold VR CR
      exact ⟨rw_, b, o', s, e, e1, by rw [addr_add]; congr 3; omega⟩

theorem s_box {t : TypeId} {x : Operand} (ho : o.op = .box t x) (hok : (ev T x).ok = true) (h : k (.one (.ptr H.length 0 0)) (H ++ [some (.box t (ev T x).cells)])) : OpS P W0 o T H k := by
  refine OpS.of_run fun r fz a w hw hT => ?_
  have hv := ev_rel hT x
  have hc := cells_of hv hok
  obtain ⟨r', n1, n2, n3⟩ := hw.alloc (a.eval x).cells t (.box t (ev T x).cells) rfl (fun r' w' hs hh => ⟨_, hh, rfl, fun j c hj => by
    obtain ⟨u, h1, h2⟩ := hc.get j c hj
    exact ⟨u, by simpa using h1, h2.mono hs⟩⟩)
  refine ⟨_, .pointer (some ⟨w.heap.size, 0, none⟩), _, r', fz, _, ?_, h, ?_, n1, n2⟩
  · unfold execOp
    rw [ho]
    refine run_value ?_
    simp [Instr.box, newVar, newRow]
  · unfold VR CR
    exact ⟨_, _, _, _, _, n3, by simp⟩

theorem zero_of {t : TypeId} {ti : TI} (ht : tabOf P t = some ti) (w : World) : ∃ z, (zeroValue t).run P w = .ok z w ∧ ti.zero = z.cells.toList.map ofCell := by
  obtain ⟨i, d, z', h1, h2, h3, rfl⟩ := tab_info ht
  exact ⟨z', by simp [zeroValue, typeInfo, h1, h3], rfl⟩

theorem s_alloc {t : TypeId} (ho : o.op = .alloc t) {ti : TI} (ht : tabOf P t = some ti) (h : k (.one (.ptr H.length 0 0)) (H ++ [some (.box t ti.zero)])) : OpS P W0 o T H k := by
  refine OpS.of_run fun r fz a w hw hT => ?_
  obtain ⟨z, hz, hzc⟩ := zero_of ht w
  obtain ⟨r', n1, n2, n3⟩ := hw.alloc z.cells t (.box t ti.zero) rfl (fun r' w' hs hh => ⟨_, hh, rfl, fun j c hj => by
    rw [hzc] at hj
    have hc := ofCells_rel r' z.cells.toList
    obtain ⟨u, h1, h2⟩ := hc.get j c hj
    exact ⟨u, by simpa using h1, h2⟩⟩)
  refine ⟨_, .pointer (some ⟨w.heap.size, 0, none⟩), _, r', fz, _, ?_, h, ?_, n1, n2⟩
  · unfold execOp
    rw [ho]
    refine run_value ?_
    simp [Instr.alloc, hz, newVar, newRow]
  · unfold VR CR
    exact ⟨_, _, _, _, _, n3, by simp⟩

theorem s_nilCheck {x : Operand} (ho : o.op = .nilCheck x) (hx : (∃ id i j, ev T x = .one (.ptr id i j)) ∨ (∃ ad, ev T x = .one (.raw (.pointer (some ad)))) ∨ ∃ f caps, ev T x = .one (.fn f caps)) : OpT P W0 o T H (ev T x) := by
  refine OpT.of_pure fun r fz a w hw hT => ⟨a.eval x, fun w => ?_, ev_rel hT x⟩
  unfold execOp
  rw [ho]
  rcases hx with ⟨id, i, j, hx⟩ | ⟨ad, hx⟩ | ⟨f, caps, hx⟩
  · have h1 := ev_one hT hx
    unfold CR at h1
    obtain ⟨rw_, b, o', s, e, e1, e2⟩ := h1
    simp [e2]
  · have h1 := ev_one hT hx
    unfold CR at h1
    simp [h1]
  · have h1 := ev_one hT hx
    unfold CR at h1
    obtain ⟨vs, e1, e2⟩ := h1
    simp [e1]

theorem s_not {t : TypeId} {x : Operand} (ho : o.op = .unOp .not t x) {b : Bool} (hx : ev T x = .one (.bool b)) : OpT P W0 o T H (.one (.bool (!b))) :=
  s_op (fun ρ => Op.unary .not (ρ x)) (fun ρ => by unfold execOp; rw [ho]) fun r fz a w hw hT => by
    have h1 := ev_one hT hx
    unfold CR at h1
    exact ⟨.bool (!b), fun w => by rw [h1]; rfl, by unfold VR CR; rfl⟩
theorem s_neg {t : TypeId} {x : Operand} (ho : o.op = .unOp .neg t x) {kk : IntKind} {n : Int} (hx : ev T x = .one (.int kk n)) : OpT P W0 o T H (.one (.int kk (kk.wrap (0 - n)))) :=
  s_op (fun ρ => Op.unary .neg (ρ x)) (fun ρ => by unfold execOp; rw [ho]) fun r fz a w hw hT => by
    have h1 := ev_one hT hx
    unfold CR at h1
    exact ⟨.int kk (kk.wrap (0 - n)), fun w => by rw [h1]; rfl, by unfold VR CR; rfl⟩

theorem s_extract {x : Operand} {n : Nat} (ho : o.op = .extract x n) {vs : List V} (hx : ev T x = .tup vs) {v : V} (hn : vs[n]? = some v) : OpT P W0 o T H v :=
  s_op (fun ρ => Instr.extract (ρ x) n) (fun ρ => by unfold execOp; rw [ho]) fun r fz a w hw hT => by
    have h1 := ev_rel hT x
    rw [hx] at h1
    unfold VR at h1
    obtain ⟨us, e1, e2⟩ := h1
    obtain ⟨u, h2, h3⟩ := e2.get n v hn
    exact ⟨u, fun w => by rw [e1]; simp [Instr.extract, h2], h3⟩

theorem ones_rel {r : Pl} {T : List V} {a : Act} (hT : TR r T a.tmps) : ∀ (l : List Operand) {cs : List C}, ones (l.map (ev T)) = some cs → CRs r cs (l.map a.eval)
  | [], cs, h => by simp [ones] at h; subst h; simp [CRs]
  | x :: l, cs, h => by
    simp only [List.map_cons] at h ⊢
    cases hx : ev T x with
    | one c =>
      rw [hx] at h
      simp only [ones] at h
      cases hl : ones (l.map (ev T)) with
      | none => rw [hl] at h; cases h
      | some l' =>
        rw [hl] at h
        simp only [Option.some.injEq] at h
        subst h
        unfold CRs
        exact ⟨ev_one hT hx, ones_rel hT l hl⟩
    | agg _ => rw [hx] at h; simp [ones] at h
    | tup _ => rw [hx] at h; simp [ones] at h

theorem s_makeFunc {f : FuncId} {first captured : Array Operand} (ho : o.op = .makeFunc (.func f) first captured) (hf : first.size = 0) {cs : List C} (hc : ones (captured.toList.map (ev T)) = some cs) : OpT P W0 o T H (.one (.fn f cs)) :=
  s_op (fun ρ => Instr.makeFunc (.func f) (first.map ρ) (captured.map ρ)) (fun ρ => by unfold execOp; rw [ho]) fun r fz a w hw hT => by
    have h1 := ones_rel hT captured.toList hc
    have : first = #[] := Array.eq_empty_of_size_eq_zero hf
    subst this
    refine ⟨.func (.func f) #[] (captured.map a.eval), fun w => by simp [Instr.makeFunc], ?_⟩
    unfold VR CR
    exact ⟨captured.toList.map a.eval, by simp [← Array.toList_map], h1⟩

theorem s_strIndex {t : TypeId} {x y : Operand} (ho : o.op = .index t x y) {ti : TI} (ht : tabOf P t = some ti) (hk : ti.kind = .str) {s : ByteArray} {kk : IntKind} {n : Int} (hx : ev T x = .one (.str s)) (hy : ev T y = .one (.int kk n))
    (h : 0 ≤ n ∧ n < s.size) : OpT P W0 o T H (.one (.int .u8 ((std P W0).sat s n.toNat))) :=
  s_op (fun ρ => Instr.index t (ρ x) (ρ y)) (fun ρ => by unfold execOp; rw [ho]) fun r fz a w hw hT => by
    have h1 := ev_one hT hx
    have h2 := ev_one hT hy
    unfold CR at h1 h2
    obtain ⟨i, d, z', g1, g2, g3, rfl⟩ := tab_info ht
    cases d <;> simp [kindOf] at hk
    have hlt : n.toNat < s.size := by omega
    refine ⟨.int .u8 ((std P W0).sat s n.toNat), ?_, by unfold VR CR; rfl⟩
    intro w
    rw [h1, h2]
    simp [Instr.index, asIntOf, run_underlying g2, h.1, std, hlt]

end
end Go.Proofs.YtdijdlkljeibjaaDoor.AM
