/- append, on the abstract machine: what was appended to is used up; the result is a row of its own. -/
import Derived.Test.YtdijdlkljeibjaaDoorAm13
import Derived.Laws.Append
import Derived.Laws.AppendOwn
namespace Go.Proofs.YtdijdlkljeibjaaDoor.AM
open Go Go.RowKit
set_option linter.unusedVariables false
set_option linter.unusedSimpArgs false

section
variable {P : Program} {W0 : World} {o : Oper} {T : List V} {H : Heap} {k : V → Heap → Prop}

theorem WR.kill {r : Pl} {fz : Fz} {w : World} (h : WR W0 r fz H w) (id : Nat) : WR W0 r fz (H.set id none) w := by
  have hg : ∀ i x, (H.set id none)[i]? = some (some x) → H[i]? = some (some x) := fun i x hx => by
    by_cases he : id = i
    · subst he
      rcases Nat.lt_or_ge id H.length with hl | hl
      · rw [List.getElem?_set_self hl] at hx; cases hx
      · rw [List.getElem?_eq_none (by simpa using hl)] at hx; cases hx
    · rwa [List.getElem?_set_ne he] at hx
  exact ⟨h.below, h.froz, h.old, fun i hi => h.dom i (by simpa using hi), fun i x hx => h.live i x (hg i x hx), fun a b x y c d e f g i j h1 h2 => h.inj a b x y c d e f g i j (hg _ _ h1) (hg _ _ h2)⟩

theorem kill_get {H : Heap} {id i : Nat} {x : B} (hx : (H.set id none)[i]? = some (some x)) : H[i]? = some (some x) := by
  by_cases he : id = i
  · subst he
    rcases Nat.lt_or_ge id H.length with hl | hl
    · rw [List.getElem?_set_self hl] at hx; cases hx
    · rw [List.getElem?_eq_none (by simpa using hl)] at hx; cases hx
  · rwa [List.getElem?_set_ne he] at hx

/-- Behind a step, a block is forgotten. -/
theorem Stp.kill {r r' : Pl} {fz fz' : Fz} {H H' : Heap} {w w' : World} (h : Stp r fz H w r' fz' H' w') (id : Nat) : Stp r fz H w r' fz' (H'.set id none) w' :=
  ⟨by simpa using h.len, h.ext, h.phi, h.size, h.fresh, fun i x hi hx => h.dead i x hi (kill_get hx), h.frame, h.newf⟩

/-- An empty row that is nowhere. -/
theorem WR.nilrow {r : Pl} {fz : Fz} {w : World} (h : WR W0 r fz H w) (rw_ : Bool) (t : TypeId) (sz : Nat) (f : Nat → List C) :
    ∃ r', WR W0 r' fz (H ++ [some (.row rw_ t sz 0 f)]) w ∧ Stp r fz H w r' fz (H ++ [some (.row rw_ t sz 0 f)]) w ∧ r' H.length = some .nil := by
  let r' : Pl := fun id => if id = H.length then some .nil else r id
  have hsub : Sub r r' := fun id y hy => by
    show (if id = H.length then _ else r id) = some y
    rw [if_neg (fun e => by rw [e, h.dom _ (Nat.le_refl _)] at hy; cases hy)]
    exact hy
  have hne : ∀ id, id ≠ H.length → r' id = r id := fun id hid => if_neg hid
  have hr : r' H.length = some .nil := if_pos rfl
  have hcase : ∀ id x, (H ++ [some (B.row rw_ t sz 0 f)])[id]? = some (some x) → (id < H.length ∧ H[id]? = some (some x)) ∨ (id = H.length ∧ x = .row rw_ t sz 0 f) := by
    intro id x hx
    rcases Nat.lt_or_ge id H.length with hl | hl
    · rw [List.getElem?_append_left hl] at hx; exact .inl ⟨hl, hx⟩
    · rw [List.getElem?_append_right hl] at hx
      have : id - H.length = 0 := by
        have := (List.getElem?_eq_some_iff.1 hx).1
        simpa using this
      rw [this] at hx
      simp at hx
      exact .inr ⟨by omega, hx.symm⟩
  refine ⟨r', ⟨h.below, h.froz, h.old, fun id hid => ?_, fun id x hx => ?_, fun id id' x x' b o s e o' s' e' hx hx' he he' => ?_⟩, ⟨by simp, fun id hid => hne id (by omega), fun _ _ h => h, Nat.le_refl _, fun id b o s e hid he => ?_, fun id x hid hx => ?_, fun _ _ _ => rfl, fun _ _ h => .inl h⟩, hr⟩
  · simp only [List.length_append, List.length_singleton] at hid
    rw [hne id (by omega)]
    exact h.dom id (by omega)
  · rcases hcase id x hx with ⟨hl, hx⟩ | ⟨rfl, rfl⟩
    · rcases h.live id x hx with ⟨b, o, e, e1, e2, e4, e3⟩ | ⟨e1, e2⟩
      · exact .inl ⟨b, o, e, hsub _ _ e1, e2, e4, e3.mono hsub⟩
      · exact .inr ⟨hsub _ _ e1, e2⟩
    · exact .inr ⟨hr, _, _, _, _, rfl⟩
  · rcases hcase id x hx with ⟨hl, hx⟩ | ⟨rfl, rfl⟩
    · rcases hcase id' x' hx' with ⟨hl', hx'⟩ | ⟨rfl, rfl⟩
      · rw [hne _ (by omega)] at he he'
        exact h.inj _ _ _ _ _ _ _ _ _ _ _ hx hx' he he'
      · rw [hr] at he'; cases he'
    · rw [hr] at he; cases he
  · by_cases hh : id = H.length
    · subst hh; rw [hr] at he; cases he
    · rw [hne id hh, h.dom id hid] at he; cases he
  · rw [List.getElem?_append_left hid] at hx; exact ⟨x, hx⟩

/-- A block goes on under a new name, in a world where it alone was written. -/
theorem WR.move {r : Pl} {fz : Fz} {w w' : World} (h : WR W0 r fz H w) {id b o s e : Nat} {x : B} (hx : H[id]? = some (some x)) (hr : r id = some (.at_ true b o s e)) (hsame : ∀ b', b' ≠ b → w'.heap[b']? = w.heap[b']?)
    (hsize : w'.heap.size = w.heap.size) (hos : w'.os = w.os) (htape : w'.tape = w.tape) (hout : w'.output = w.output) (y : B) (hrw : y.rw = true) (o2 : Nat) (hy : ∀ r', Sub r r' → BR r' w' b o2 e y) :
    ∃ r', WR W0 r' fz (H.set id none ++ [some y]) w' ∧ Stp r fz H w r' fz (H.set id none ++ [some y]) w' ∧ r' H.length = some (.at_ true b o2 y.sz e) := by
  obtain ⟨_, _, hf, _, hbr⟩ := (h.live id x hx).at_ hr
  have hfz := hf rfl
  have hlt : id < H.length := (List.getElem?_eq_some_iff.1 hx).1
  have hbW : W0.heap.size ≤ b := by
    rcases Nat.lt_or_ge b W0.heap.size with hl | hl
    · rw [h.old b hl] at hfz
      simp [Array.getElem?_eq_getElem hl] at hfz
    · exact hl
  let r' : Pl := fun i => if i = H.length then some (.at_ true b o2 y.sz e) else r i
  have hsub : Sub r r' := fun i z hz => by
    show (if i = H.length then _ else r i) = some z
    rw [if_neg (fun e => by rw [e, h.dom _ (Nat.le_refl _)] at hz; cases hz)]
    exact hz
  have hne : ∀ i, i ≠ H.length → r' i = r i := fun i hi => if_neg hi
  have hr' : r' H.length = some (.at_ true b o2 y.sz e) := if_pos rfl
  have hcase : ∀ i z, (H.set id none ++ [some y])[i]? = some (some z) → (i < H.length ∧ i ≠ id ∧ H[i]? = some (some z)) ∨ (i = H.length ∧ z = y) := by
    intro i z hz
    rcases Nat.lt_or_ge i H.length with hl | hl
    · rw [List.getElem?_append_left (by simpa using hl)] at hz
      refine .inl ⟨hl, fun e => ?_, kill_get hz⟩
      subst e
      rw [List.getElem?_set_self hl] at hz
      cases hz
    · rw [List.getElem?_append_right (by simpa using hl)] at hz
      simp only [List.length_set] at hz
      have : i - H.length = 0 := by
        have := (List.getElem?_eq_some_iff.1 hz).1
        simpa using this
      rw [this] at hz
      simp at hz
      exact .inr ⟨by omega, hz.symm⟩
  have hown : Own r H b := ⟨id, x, o, s, e, hx, hr⟩
  refine ⟨r', ⟨⟨hos.trans h.below.os, htape.trans h.below.tape, hout.trans h.below.output, by rw [hsize]; exact h.below.size, fun q hq => ?_⟩, fun b' o' hb' => ?_, h.old, fun i hi => ?_, fun i z hz => ?_, fun i i' z z' b1 o1 s1 e1 o3 s3 e3 hz hz' he he' => ?_⟩,
    ⟨by simp, fun i hi => hne i (by omega), fun _ _ h => h, by omega, fun i b1 o1 s1 e1 hi he => ?_, fun i z hi hz => ?_, fun b' _ hn => hsame b' (fun e => hn (e ▸ hown)), fun _ _ h => .inl h⟩, hr'⟩
  · rw [hsame q (by omega)]; exact h.below.block q hq
  · rw [hsame b' (fun e => by rw [e, hfz] at hb'; cases hb')]; exact h.froz _ _ hb'
  · simp only [List.length_append, List.length_set, List.length_singleton] at hi
    rw [hne i (by omega)]
    exact h.dom i (by omega)
  · rcases hcase i z hz with ⟨hl, hni, hz⟩ | ⟨rfl, rfl⟩
    · rcases h.live i z hz with ⟨b', o', q', e1, e2, e4, e3⟩ | ⟨e1, e2⟩
      · refine .inl ⟨b', o', q', hsub _ _ e1, e2, e4, (e3.of_block (hsame b' (fun e => ?_))).mono hsub⟩
        cases hzr : z.rw with
        | true => rw [hzr] at e1; exact hni (h.inj _ _ _ _ _ _ _ _ _ _ _ hz hx (e ▸ e1) hr)
        | false => obtain ⟨ob, hob⟩ := e4 hzr; rw [e, hfz] at hob; cases hob
      · exact .inr ⟨hsub _ _ e1, e2⟩
    · exact .inl ⟨b, o2, e, by rw [hrw]; exact hr', fun _ => hfz, fun hh => (by rw [hrw] at hh; cases hh), hy r' hsub⟩
  · rcases hcase i z hz with ⟨hl, hni, k1⟩ | ⟨k0, _⟩
    · rw [hne i (by omega)] at he
      rcases hcase i' z' hz' with ⟨hl', hni', k2⟩ | ⟨k0', _⟩
      · rw [hne i' (by omega)] at he'
        exact h.inj _ _ _ _ _ _ _ _ _ _ _ k1 k2 he he'
      · rw [k0', hr'] at he'
        cases he'
        exact absurd (h.inj _ _ _ _ _ _ _ _ _ _ _ k1 hx he hr) hni
    · rw [k0, hr'] at he
      cases he
      rcases hcase i' z' hz' with ⟨hl', hni', k2⟩ | ⟨k0', _⟩
      · rw [hne i' (by omega)] at he'
        exact absurd (h.inj _ _ _ _ _ _ _ _ _ _ _ k2 hx he' hr) hni'
      · rw [k0, k0']
  · by_cases hh : i = H.length
    · subst hh
      rw [hr'] at he
      cases he
      exact .inr hown
    · rw [hne i hh, h.dom i hi] at he; cases he
  · rcases hcase i z hz with ⟨hl, hni, hz⟩ | ⟨rfl, _⟩
    · exact ⟨z, hz⟩
    · omega

/-- What a slice that is read holds. -/
theorem sl_read {r : Pl} {fz : Fz} {w : World} (hw : WR W0 r fz H w) {id i m : Nat} {cap : Option Nat} {v : Value} (hv : CR r (.sl id i m cap) v) {rw_ : Bool} {t : TypeId} {sz n : Nat} {f : Nat → List C} (hH : H[id]? = some (some (.row rw_ t sz n f))) (hn : i + m ≤ n) :
    ∃ ad c news, v = .slice ad m c ∧ m ≤ c ∧ news.length = m * sz ∧ (∀ w' : World, w'.heap = w.heap → (Builtin.firstCells sz m v).run P w' = .ok ⟨news⟩ w') ∧
      ∀ q, q < m → (f (i + q)).length = sz ∧ ∀ j c, (f (i + q))[j]? = some c → ∃ u, news[q * sz + j]? = some u ∧ CR r c u := by
  unfold CR at hv
  rcases hv with ⟨rw2, b, o, s, e, ad, c, e1, rfl, e3, e4, e5⟩ | ⟨e1, ⟨ad, rfl, _⟩, rfl⟩
  · obtain ⟨es, _, _, _, hbr⟩ := (hw.live id _ hH).at_ e1
    obtain rfl : sz = s := es.symm
    obtain ⟨us, t', fr, g1, g0, _, g2⟩ := hbr
    rcases e3 with ⟨rfl, hle⟩ | h0
    · have hmc : m * sz ≤ c * sz := Nat.mul_le_mul_right _ e4
      have hlen : ((us.toList.drop (o + i * sz)).take (m * sz)).length = m * sz := by simp; omega
      refine ⟨_, c, (us.toList.drop (o + i * sz)).take (m * sz), rfl, e4, hlen, fun w' hw' => ?_, fun q hq => ⟨(g2 (i + q) (by omega)).1, fun j cc hj => ?_⟩⟩
      · refine run_firstCells_some w' sz m _ m c _ hlen (fun j u hu => ?_)
        rw [List.getElem?_take] at hu
        split at hu
        · rw [List.getElem?_drop] at hu
          rw [addr_add]
          simp only [World.cell?, hw', g1]
          simpa using hu
        · cases hu
      · obtain ⟨u, h1, h2⟩ := (g2 (i + q) (by omega)).2 j cc hj
        refine ⟨u, ?_, h2⟩
        have hjs : j < sz := by
          have := (List.getElem?_eq_some_iff.1 hj).1
          rw [(g2 (i + q) (by omega)).1] at this
          exact this
        have hqm : (q + 1) * sz ≤ m * sz := Nat.mul_le_mul_right _ hq
        rw [Nat.add_mul] at hqm
        rw [List.getElem?_take, if_pos (by omega), List.getElem?_drop]
        rw [Nat.add_mul] at h1
        rw [show o + i * sz + (q * sz + j) = o + (i * sz + q * sz + j) by omega]
        simpa using h1
    · obtain rfl : m = 0 := by omega
      refine ⟨_, c, [], rfl, e4, by simp, fun w' _ => ?_, fun q hq => by omega⟩
      simp [Builtin.firstCells, loadCells, loadCellsFrom]
  · refine ⟨ad, 0, [], rfl, Nat.le_refl _, by simp, fun w' _ => ?_, fun q hq => by omega⟩
    cases ad <;> simp [Builtin.firstCells, loadCells, loadCellsFrom]

/-- What is appended: nothing, or a part of a row. -/
def Src (H : Heap) (sz : Nat) (x : V) (m : Nat) (g : Nat → List C) : Prop :=
  (x = .one .nils ∧ m = 0) ∨ ∃ id i cap rw t n f, x = .one (.sl id i m cap) ∧ H[id]? = some (some (.row rw t sz n f)) ∧ i + m ≤ n ∧ ∀ q, q < m → g q = f (i + q)

/-- What is appended to: nothing, a row to its end (it is used up), or no place at all. -/
def Base (H : Heap) (sz : Nat) (e : TypeId) (x : V) (len : Nat) (g : Nat → List C) (H' : Heap) : Prop :=
  (x = .one .nils ∧ len = 0 ∧ H' = H) ∨ (∃ id i cap n f, x = .one (.sl id i len cap) ∧ H[id]? = some (some (.row true e sz n f)) ∧ i + len = n ∧ (∀ q, q < len → g q = f (i + q)) ∧ H' = H.set id none) ∨
  (∃ id i rw t n f, x = .one (.sl id i 0 (some 0)) ∧ H[id]? = some (some (.row rw t sz n f)) ∧ i ≤ n ∧ len = 0 ∧ H' = H)

theorem set_append_none (H : Heap) (id : Nat) (x : Option B) (h : id < H.length) : (H ++ [x]).set id none = H.set id none ++ [x] := by
  rw [List.set_append_left _ _ h]

theorem joined_row {r : Pl} {sz len m : Nat} {olds news : List Value} {g0 g : Nat → List C} (hlo : olds.length = len * sz) (hln : news.length = m * sz)
    (ho : ∀ q, q < len → (g0 q).length = sz ∧ ∀ j c, (g0 q)[j]? = some c → ∃ u, olds[q * sz + j]? = some u ∧ CR r c u) (hn : ∀ q, q < m → (g q).length = sz ∧ ∀ j c, (g q)[j]? = some c → ∃ u, news[q * sz + j]? = some u ∧ CR r c u) :
    ∀ i, i < len + m → (if i < len then g0 i else g (i - len)).length = sz ∧ ∀ j c, (if i < len then g0 i else g (i - len))[j]? = some c → ∃ v, (olds ++ news)[i * sz + j]? = some v ∧ CR r c v := by
  intro i hi
  by_cases hl : i < len
  · simp only [if_pos hl]
    obtain ⟨h1, h2⟩ := ho i hl
    refine ⟨h1, fun j c hj => ?_⟩
    obtain ⟨u, h3, h4⟩ := h2 j c hj
    refine ⟨u, ?_, h4⟩
    rw [List.getElem?_append_left (List.getElem?_eq_some_iff.1 h3).1]
    exact h3
  · simp only [if_neg hl]
    obtain ⟨h1, h2⟩ := hn (i - len) (by omega)
    refine ⟨h1, fun j c hj => ?_⟩
    obtain ⟨u, h3, h4⟩ := h2 j c hj
    refine ⟨u, ?_, h4⟩
    have hm : len * sz + (i - len) * sz = i * sz := by rw [← Nat.add_mul]; congr 1; omega
    rw [List.getElem?_append_right (by rw [hlo]; omega), hlo, show i * sz + j - len * sz = (i - len) * sz + j by omega]
    exact h3

theorem s_append {c : Call} (ho : o.op = .call c) (hc : c.callee = .builtin .append) {t e : TypeId} (hat : c.argTypes = #[t, t]) {ti te : TI} (ht : tabOf P t = some ti) (hk : ti.kind = .slice e) (hte : tabOf P e = some te) (hpos : 0 < te.sz) (hzl : te.zero.length = te.sz)
    {s x : V} (hs : evs T c.args.toList = [s, x]) {m len : Nat} {g g0 : Nat → List C} {H' : Heap} (hx : Src H te.sz x m g) (hok : ∀ q, q < m → allOk (g q) = true) (hb : Base H te.sz e s len g0 H') (hbytes : (len + m) * te.bytes ≤ 140737488355328) (hlen : len + m ≤ 140737488355328)
    (h : k (.one (.sl H.length 0 (len + m) none)) (H' ++ [some (.row true e te.sz (len + m) (fun q => if q < len then g0 q else g (q - len)))])) : OpS P W0 o T H k := by
  refine OpS.of_run fun r fz a w hw hT => ?_
  have h1 := evs_rel hT c.args.toList
  rw [hs] at h1
  have harg : ∃ y z, c.args = #[y, z] := by
    have : c.args.toList.length = 2 := by have := congrArg List.length hs; simpa [evs] using this
    cases hl : c.args.toList with
    | nil => rw [hl] at this; cases this
    | cons x l =>
      cases l with
      | nil => rw [hl] at this; simp at this
      | cons y l =>
        cases l with
        | nil => exact ⟨x, y, by rw [← Array.toArray_toList (xs := c.args), hl]⟩
        | cons _ _ => rw [hl] at this; simp at this
  obtain ⟨y, z, hyz⟩ := harg
  rw [hyz] at h1
  simp only [List.map_cons, List.map_nil] at h1
  unfold VRs VRs at h1
  obtain ⟨hsv, hxv, _⟩ := h1
  -- what is appended
  have hnew : ∃ ad cx news, a.eval z = .slice ad m cx ∧ news.length = m * te.sz ∧ (∀ w' : World, w'.heap = w.heap → (Builtin.firstCells te.sz m (a.eval z)).run P w' = .ok ⟨news⟩ w') ∧
      (∀ q, q < m → (g q).length = te.sz ∧ ∀ j c, (g q)[j]? = some c → ∃ u, news[q * te.sz + j]? = some u ∧ CR r c u) := by
    rcases hx with ⟨rfl, rfl⟩ | ⟨id, i, cap, rw_, t', n, f, rfl, hH, hin, hg⟩
    · unfold VR CR at hxv
      exact ⟨none, 0, [], hxv, by simp, fun w' _ => by rw [hxv]; simp [Builtin.firstCells], fun q hq => by omega⟩
    · unfold VR at hxv
      obtain ⟨ad, cx, news, e1, e2, e3, e4, e5⟩ := sl_read (P := P) hw hxv hH hin
      exact ⟨ad, cx, news, e1, e3, e4, fun q hq => by rw [hg q hq]; exact e5 q hq⟩
  obtain ⟨adx, cx, news, ez, hnl, hnr, hng⟩ := hnew
  have hones : ∀ u ∈ news, u.oneCell' = true := by
    intro u hu
    obtain ⟨n, hn, rfl⟩ := List.getElem_of_mem hu
    have hq : n / te.sz < m := by rw [Nat.div_lt_iff_lt_mul hpos, ← hnl]; exact hn
    have hj : n % te.sz < te.sz := Nat.mod_lt _ hpos
    obtain ⟨g1, g2⟩ := hng _ hq
    obtain ⟨u, h3, h4⟩ := g2 (n % te.sz) _ (List.getElem?_eq_getElem (by omega))
    have hdm : n / te.sz * te.sz + n % te.sz = n := by rw [Nat.mul_comm]; exact Nat.div_add_mod n te.sz
    rw [hdm, List.getElem?_eq_getElem hn] at h3
    simp only [Option.some.injEq] at h3
    rw [h3]
    exact ok_cell h4 (allOk_get (hok _ hq) _ _ (List.getElem?_eq_getElem (by omega)))
  have hu := kind_slice ht hk
  obtain ⟨ie, de, ze, k1, k2, k3, hte'⟩ := tab_info hte
  have hsz : ie.size = te.sz := by rw [hte']
  have hby : ie.bytes = te.bytes := by rw [hte']
  have hzs : ze.cells.size = te.sz := by rw [← hzl, hte']; simp
  have hexec : ∀ (u : Value) (w' : World), (Builtin.append_ #[t, t] o.type #[a.eval y, a.eval z]).run P w = .ok u w' → (execOp a.eval o).run P w = .ok (.value u) w' := by
    intro u w' hr
    unfold execOp
    rw [ho]
    simp [resolve, hc, hyz, invoke, builtin, hat, hr]
  -- where there is no room
  have hgrow : ∀ (ad : Option Addr) (cap : Nat) (olds : List Value), a.eval y = .slice ad len cap → olds.length = len * te.sz → (∀ w' : World, w'.heap = w.heap → (Builtin.firstCells te.sz len (a.eval y)).run P w' = .ok ⟨olds⟩ w') →
      (∀ q, q < len → (g0 q).length = te.sz ∧ ∀ j c, (g0 q)[j]? = some c → ∃ u, olds[q * te.sz + j]? = some u ∧ CR r c u) → cap < len + m → (∃ id, H' = H.set id none ∨ H' = H) → H'.length = H.length →
      ∃ v u H' r' fz' w', (execOp a.eval o).run P w = .ok (.value u) w' ∧ k v H' ∧ VR r' v u ∧ WR W0 r' fz' H' w' ∧ Stp r fz H w r' fz' H' w' := by
    intro ad cap olds ey hol hor hog hlt hH' hHl
    have hn : ¬ (len + m ≤ cap) := by omega
    have h63' : ¬ (9223372036854775807 < ((len : Int) + (m : Int))) := by omega
    have hfit := growslice_fits (bytes := te.bytes) hlt hbytes
    have h48' : ¬ (281474976710656 < Builtin.nextslicecap (len + m) cap * te.bytes) := by omega
    have hfx := hnr w.drew rfl
    have hfo := hor w.drew rfl
    rw [ez] at hfx
    rw [ey] at hfo
    have hrun : (Builtin.append_ #[t, t] o.type #[a.eval y, a.eval z]).run P w = .ok (.slice (some ⟨w.heap.size, 0, none⟩) (len + m) (grownCap w (len + m) cap e)) (w.drew.alloc (.cells (olds.toArray ++ news.toArray ++ Builtin.zeroCells ze.cells (grownCap w (len + m) cap e - (len + m))) e)) := by
      rw [ey, ez]
      simp [Builtin.append_, run_underlying hu, sizeOf, typeInfo, zeroValue, k1, k3, hsz, hby, Builtin.lenOf, hn, h63', h48', Question.forced, hfx, hfo, newRow, grownCap]
      congr 2
      apply Array.ext'
      simp [List.append_assoc]
    obtain ⟨hwd, hstd⟩ := hw.drew (w' := w.drew) rfl rfl rfl rfl
    have hcap := grownCap_ge w (len + m) cap e
    obtain ⟨r', n1, n2, n3⟩ := hwd.alloc (olds.toArray ++ news.toArray ++ Builtin.zeroCells ze.cells (grownCap w (len + m) cap e - (len + m))) e (.row true e te.sz (len + m) (fun q => if q < len then g0 q else g (q - len))) rfl (fun r' w' hsub hh => by
      refine ⟨_, _, _, hh, rfl, fun _ => ⟨rfl, rfl⟩, fun i hi => ?_⟩
      have := joined_row hol hnl hog hng i hi
      refine ⟨this.1, fun j c hj => ?_⟩
      obtain ⟨u, h3, h4⟩ := this.2 j c hj
      refine ⟨u, ?_, h4.mono hsub⟩
      rw [Array.getElem?_append_left (by have := (List.getElem?_eq_some_iff.1 h3).1; simp at this ⊢; omega)]
      simpa using h3)
    have hkill : ∃ id, H' ++ [some (B.row true e te.sz (len + m) (fun q => if q < len then g0 q else g (q - len)))] = (H ++ [some (B.row true e te.sz (len + m) (fun q => if q < len then g0 q else g (q - len)))]).set id none ∨ H' ++ [some (B.row true e te.sz (len + m) (fun q => if q < len then g0 q else g (q - len)))] = H ++ [some (B.row true e te.sz (len + m) (fun q => if q < len then g0 q else g (q - len)))] := by
      obtain ⟨id, h5 | h5⟩ := hH'
      · rcases Nat.lt_or_ge id H.length with hl | hl
        · exact ⟨id, .inl (by rw [h5, set_append_none _ _ _ hl])⟩
        · exact ⟨id, .inr (by rw [h5, List.set_eq_of_length_le hl])⟩
      · exact ⟨0, .inr (by rw [h5])⟩
    have hvr : VR r' (.one (.sl H.length 0 (len + m) none)) (.slice (some ⟨w.heap.size, 0, none⟩) (len + m) (grownCap w (len + m) cap e)) := by
      unfold VR CR
      refine .inl ⟨_, _, _, _, _, _, _, n3, rfl, .inl ⟨by simp, ?_⟩, hcap, fun n hn => by cases hn⟩
      simp only [B.sz, Array.size_append, List.size_toArray, size_zeroCells, hzs, hol, hnl, ← Nat.add_mul]
      first | rw [Nat.zero_mul, Nat.zero_add, Nat.zero_add] | rw [Nat.zero_mul, Nat.zero_add]
      exact Nat.mul_le_mul_right _ (by omega)
    obtain ⟨id, h5 | h5⟩ := hkill
    · exact ⟨_, _, _, r', fz, _, hexec _ _ hrun, h, hvr, by rw [h5]; exact n1.kill id, by rw [h5]; exact (hstd.trans n2).kill id⟩
    · exact ⟨_, _, _, r', fz, _, hexec _ _ hrun, h, hvr, by rw [h5]; exact n1, by rw [h5]; exact hstd.trans n2⟩
  -- nothing is there, and nothing comes
  have hnil : ∀ (ad : Option Addr), a.eval y = .slice ad 0 0 → len = 0 → m = 0 → (∃ id, H' = H.set id none ∨ H' = H) → ∃ v u H' r' fz' w', (execOp a.eval o).run P w = .ok (.value u) w' ∧ k v H' ∧ VR r' v u ∧ WR W0 r' fz' H' w' ∧ Stp r fz H w r' fz' H' w' := by
    intro ad ey h0 hm0 hH'
    subst h0
    subst hm0
    have hfx := hnr w rfl
    rw [ez] at hfx
    have hrun : (Builtin.append_ #[t, t] o.type #[a.eval y, a.eval z]).run P w = .ok (.slice ad 0 0) w := by
      rw [ey, ez]
      have hnews : news = [] := by cases news with
        | nil => rfl
        | cons _ _ => simp at hnl
      subst hnews
      cases ad <;> simp [Builtin.append_, run_underlying hu, sizeOf, typeInfo, k1, hsz, Builtin.lenOf, hfx, storeCells]
    obtain ⟨r', n1, n2, n3⟩ := hw.nilrow true e te.sz (fun q => if q < 0 then g0 q else g (q - 0))
    have hvr : VR r' (.one (.sl H.length 0 (0 + 0) none)) (.slice ad 0 0) := by
      unfold VR CR
      exact .inr ⟨n3, ⟨ad, rfl, .inl rfl⟩, rfl⟩
    obtain ⟨id, h5 | h5⟩ := hH'
    · rcases Nat.lt_or_ge id H.length with hl | hl
      · refine ⟨_, _, _, r', fz, _, hexec _ _ hrun, h, hvr, ?_, ?_⟩
        · rw [h5, ← set_append_none _ _ _ hl]; exact n1.kill id
        · rw [h5, ← set_append_none _ _ _ hl]; exact n2.kill id
      · refine ⟨_, _, _, r', fz, _, hexec _ _ hrun, h, hvr, ?_, ?_⟩
        · rw [h5, List.set_eq_of_length_le hl]; exact n1
        · rw [h5, List.set_eq_of_length_le hl]; exact n2
    · refine ⟨_, _, _, r', fz, _, hexec _ _ hrun, h, hvr, ?_, ?_⟩
      · rw [h5]; exact n1
      · rw [h5]; exact n2
  have hempty : ∀ (ad : Option Addr), a.eval y = .slice ad 0 0 → len = 0 → (∃ id, H' = H.set id none ∨ H' = H) → H'.length = H.length → ∃ v u H' r' fz' w', (execOp a.eval o).run P w = .ok (.value u) w' ∧ k v H' ∧ VR r' v u ∧ WR W0 r' fz' H' w' ∧ Stp r fz H w r' fz' H' w' := by
    intro ad ey h0 hH' hHl
    rcases Nat.eq_zero_or_pos m with hm0 | hm0
    · exact hnil ad ey h0 hm0 hH'
    · refine hgrow ad 0 [] (by rw [h0]; exact ey) (by simp [h0]) (fun w' _ => by rw [ey, h0]; cases ad <;> simp [Builtin.firstCells, loadCells, loadCellsFrom]) (fun q hq => by omega) (by omega) hH' hHl
  rcases hb with ⟨rfl, h0, hH'⟩ | ⟨id, i, cap, n, f, rfl, hH, hin, hg0, hH'⟩ | ⟨id, i, rw_, t', n, f, rfl, hH, hin, h0, hH'⟩
  · unfold VR CR at hsv
    exact hempty none hsv h0 ⟨0, .inr hH'⟩ (by rw [hH'])
  · unfold VR at hsv
    obtain ⟨ad, cy, olds, e1, e2, e3, e4, e5⟩ := sl_read (P := P) hw hsv hH (by omega)
    have hog : ∀ q, q < len → (g0 q).length = te.sz ∧ ∀ j c, (g0 q)[j]? = some c → ∃ u, olds[q * te.sz + j]? = some u ∧ CR r c u := fun q hq => by rw [hg0 q hq]; exact e5 q hq
    by_cases hroom : cy < len + m
    · exact hgrow ad cy olds e1 e3 e4 hog hroom ⟨id, .inl hH'⟩ (by rw [hH']; simp)
    · unfold CR at hsv
      rcases hsv with ⟨rw2, b, o', s, ee, ad', c', f1, f2, f3, f4, f5⟩ | ⟨f1, ⟨ad', f2, f4⟩, f3⟩
      · rw [e1] at f2
        simp only [Value.slice.injEq] at f2
        obtain ⟨rfl, _, rfl⟩ := f2
        rcases f3 with ⟨rfl, hle⟩ | hc0
        · obtain ⟨es, er, _, _, hbr⟩ := (hw.live id _ hH).at_ f1
          simp only [B.rw] at er
          subst er
          obtain rfl : te.sz = s := es.symm
          obtain ⟨us, t2, fr, g1, gs, g3, g2⟩ := hbr
          obtain ⟨ht2, rfl⟩ := g3 rfl
          obtain rfl : e = t2 := ht2.symm
          have hcm : (len + m) * te.sz ≤ cy * te.sz := Nat.mul_le_mul_right _ (by omega)
          rw [Nat.add_mul] at hcm
          have hfx := hnr w rfl
          rw [ez] at hfx
          have hst := run_storeCells_cells (P := P) b (o' + i * te.sz + len * te.sz) news 0 w (fun j hj => by
            have hlt : o' + i * te.sz + len * te.sz + j < us.size := by rw [hnl] at hj; omega
            simp [World.cell?, g1, hlt]) (fun j hj => by simp [World.frozen?, g1]) hones
          simp only [Nat.add_zero] at hst
          have hrun : (Builtin.append_ #[t, t] o.type #[a.eval y, a.eval z]).run P w = .ok (.slice (some ⟨b, o' + i * te.sz, none⟩) (len + m) cy) (w.setCells b (o' + i * te.sz + len * te.sz) news) := by
            rw [e1, ez]
            have hroom' : len + m ≤ cy := by omega
            simp [Builtin.append_, run_underlying hu, sizeOf, typeInfo, k1, hsz, Builtin.lenOf, hroom', hfx, addr_add, hst]
          obtain ⟨us', p1, p2, p3⟩ := setCells_at news w b (o' + i * te.sz + len * te.sz) us _ g1
          obtain ⟨q1, q2, q3, q4⟩ := setCells_same news w b (o' + i * te.sz + len * te.sz)
          obtain ⟨r', n1, n2, n3⟩ := hw.move hH f1 (fun b' hb' => setCells_heap_ne _ _ _ _ _ hb') q1 q2 q3 q4 (.row true e te.sz (len + m) (fun q => if q < len then g0 q else g (q - len))) rfl (o' + i * te.sz) (fun r' hsub => by
            refine ⟨us', _, _, p1, p2.trans gs, fun _ => ⟨rfl, rfl⟩, fun q hq => ?_⟩
            by_cases hql : q < len
            · simp only [if_pos hql]
              rw [hg0 q hql]
              refine ⟨(g2 (i + q) (by omega)).1, fun j cc hj => ?_⟩
              obtain ⟨u, h3, h4⟩ := (g2 (i + q) (by omega)).2 j cc hj
              refine ⟨u, ?_, h4.mono hsub⟩
              have hjs : j < te.sz := by
                have := (List.getElem?_eq_some_iff.1 hj).1
                rw [(g2 (i + q) (by omega)).1] at this
                exact this
              have hqm : (q + 1) * te.sz ≤ len * te.sz := Nat.mul_le_mul_right _ hql
              rw [Nat.add_mul] at hqm h3
              rw [p3, if_neg (by omega), show o' + i * te.sz + (q * te.sz + j) = o' + (i * te.sz + q * te.sz + j) by omega]
              exact h3
            · simp only [if_neg hql]
              obtain ⟨u1, u2⟩ := hng (q - len) (by omega)
              refine ⟨u1, fun j cc hj => ?_⟩
              obtain ⟨u, h3, h4⟩ := u2 j cc hj
              refine ⟨u, ?_, h4.mono hsub⟩
              have hlt := (List.getElem?_eq_some_iff.1 h3).1
              have hm : len * te.sz + (q - len) * te.sz = q * te.sz := by rw [← Nat.add_mul]; congr 1; omega
              rw [hnl] at hlt
              rw [p3, if_pos (by rw [hnl]; omega), show o' + i * te.sz + (q * te.sz + j) - (o' + i * te.sz + len * te.sz) = (q - len) * te.sz + j by omega]
              exact h3)
          refine ⟨_, _, _, r', fz, _, hexec _ _ hrun, h, ?_, by rw [hH']; exact n1, by rw [hH']; exact n2⟩
          unfold VR CR
          refine .inl ⟨_, _, _, _, _, _, _, n3, rfl, .inl ⟨by simp, ?_⟩, by omega, fun n hn => by cases hn⟩
          simp only [B.sz]
          omega
        · obtain rfl : cy = 0 := hc0
          exact hempty _ (by rw [e1]; congr 1; omega) (by omega) ⟨id, .inl hH'⟩ (by rw [hH']; simp)
      · exact hempty ad' f2 f3 ⟨id, .inl hH'⟩ (by rw [hH']; simp)
  · unfold VR CR at hsv
    rcases hsv with ⟨rw2, b, o', s, ee, ad', c', f1, f2, f3, f4, f5⟩ | ⟨f1, ⟨ad', f2, f4⟩, f3⟩
    · have := f5 0 rfl
      subst this
      exact hempty _ f2 h0 ⟨0, .inr hH'⟩ (by rw [hH'])
    · exact hempty ad' f2 h0 ⟨0, .inr hH'⟩ (by rw [hH'])
end
end Go.Proofs.YtdijdlkljeibjaaDoor.AM
