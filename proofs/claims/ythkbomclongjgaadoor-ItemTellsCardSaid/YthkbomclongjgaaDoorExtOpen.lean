/- How data of any of the printed kinds are opened: an argument that can be read as data, within the form's reach, is a Lean value of its kind, with its bounds. No condition. -/
import Derived.Test.YthkbomclongjgaaDoorWWords
import Derived.Test.YthkbomclongjgaaDoorWMore
import Derived.ProofKit
import Derived.OpenShut
import Derived.SizedLaws
import Derived.Lib.SmallJoins
namespace Go.Proofs.YthkbomclongjgaaDoor.ExtOpen
open Go.ChangeShapes Go.WideShapes Go.ChangeAt Go.RowKit Go.Proofs.YthkbomclongjgaaDoorW.PrintWords Go.Proofs.YthkbomclongjgaaDoorW.PrintMore
set_option linter.unusedVariables false
set_option linter.unusedSimpArgs false

def Opens {α : Type} (P : Program) (d : Kd α) (t : TypeId) (Pr : α → Prop) : Prop :=
  ∀ {H : Type} {enc : TypeId × Value → H} {w : World} {base : Nat} {spare : Nat → Bool} {held : Bool} {fuel : Nat} {cs : List Value} {x : DataW H} {ps : List MemPlace},
    DataW.trod enc P w base spare held fuel t cs = some (x, ps) → (x.weights P t).all (· ≤ reachBytes) = true → ∃ v : α, d.K w v cs ∧ Pr v

theorem opens_int {P : Program} {t : TypeId} {k : IntKind} (ht : P.underlying t = some (.int k)) : Opens P (Kd.int k) t (fun n => (Lit.int k n).wf = true) := by
  intro H enc w base spare held fuel cs x ps h _
  obtain ⟨n, rfl, _, hw⟩ := DataW.trod_int ht h
  exact ⟨n, rfl, hw⟩
theorem opens_bool {P : Program} {t : TypeId} (ht : P.underlying t = some .bool) : Opens P Kd.bool t (fun _ => True) := by
  intro H enc w base spare held fuel cs x ps h _
  obtain ⟨n, rfl, _⟩ := DataW.trod_bool ht h
  exact ⟨n, rfl, trivial⟩
theorem opens_string {P : Program} {t : TypeId} (ht : P.underlying t = some .string) : Opens P Kd.string t (fun s => s.size ≤ 140737488351232) := by
  intro H enc w base spare held fuel cs x ps h hw
  obtain ⟨s, rfl, hx, _⟩ := DataW.trod_string ht h
  obtain ⟨rfl, _⟩ := Prod.mk.inj hx
  refine ⟨s, rfl, ?_⟩
  simp only [DataW.weights, List.all_cons, List.all_nil, Bool.and_true, decide_eq_true_eq] at hw
  rw [Array.length_toList] at hw
  exact hw

theorem weightsAll_mem {H : Type} {P : Program} {e : TypeId} : ∀ {l : List (DataW H)}, (DataW.weightsAll P e l).all (· ≤ reachBytes) = true → ∀ d ∈ l, (d.weights P e).all (· ≤ reachBytes) = true
  | [], _, d, h => by cases h
  | c :: l, hw, d, h => by
    rw [DataW.weightsAll, List.all_append, Bool.and_eq_true] at hw
    rcases List.mem_cons.1 h with rfl | h
    · exact hw.1
    · exact weightsAll_mem hw.2 d h

theorem cells_read {w : World} {base : Nat} {a : Addr} {n : Nat} {cs : List Value} (h : w.cells? base a n = some cs) : cs.length = n ∧ ∀ i u, cs[i]? = some u → w.cell? (a.add i) = some u := by
  unfold World.cells? at h
  split at h
  · have hl := Lib.mapM_length h
    rw [List.length_range] at hl
    refine ⟨hl, fun i u hu => ?_⟩
    have hi : i < n := by
      rw [← hl]
      exact (List.getElem?_eq_some_iff.1 hu).1
    obtain ⟨b, hb, hb2⟩ := Lib.mapM_at h i i (by simp [hi])
    rw [hu] at hb
    rw [hb2, Option.some.inj hb]
  · cases h

theorem opens_slice {α : Type} {P : Program} {d : Kd α} {e t : TypeId} {Pr : α → Prop} (ho : Opens P d e Pr) (ht : P.underlying t = some (.slice e)) (hc : P.cellsOf e = d.sz) {B : Nat} (hB : P.bytesOf e = B) :
    Opens P (Kd.slice e d) t (fun xs => xs.length ≤ maxLen ∧ xs.length * B ≤ 140737488351232 ∧ ∀ x ∈ xs, Pr x) := by
  intro H enc w base spare held fuel cs x ps h hw
  rcases DataW.trod_slice ht h with ⟨rfl, hx⟩ | ⟨a, len, cap, elems, rest, n, _, rfl, hx, _, hl, hcap, hlen, hel, _⟩
  · refine ⟨[], ⟨none, 0, rfl, Nat.le_refl _, ?_⟩, by simp, by simp, by simp⟩
    exact Kd.C_nil _ _
  · obtain ⟨rfl, _⟩ := Prod.mk.inj hx
    simp only [DataW.weights, ht, List.all_cons, List.all_append, Bool.and_eq_true, decide_eq_true_eq] at hw
    obtain ⟨hw1, hw2, hw3⟩ := hw
    have hall : ∀ i, i < len → ∃ (v : α) (c : List Value), d.K w v c ∧ Pr v ∧ c.length = d.sz ∧ ∀ j u, c[j]? = some u → w.cell? ((a.add (i * d.sz)).add j) = some u := by
      intro i hi
      have h1 := hel i hi
      have hie : i < elems.length := by omega
      rw [List.getElem?_eq_getElem hie] at h1
      obtain ⟨c, hc1, hc2⟩ := Option.bind_eq_some_iff.1 h1
      obtain ⟨hcl, hcc⟩ := cells_read hc1
      obtain ⟨v, hK, hP⟩ := ho (x := (elems[i]).1) (ps := (elems[i]).2) hc2 (weightsAll_mem hw2 _ (List.mem_map.2 ⟨elems[i], List.getElem_mem hie, rfl⟩))
      rw [hc] at hcl hcc
      exact ⟨v, c, hK, hP, hcl, hcc⟩
    have gather : ∀ (Q : Nat → α → Prop) (m : Nat), (∀ i, i < m → ∃ v, Q i v) → ∃ xs : List α, xs.length = m ∧ ∀ i v, xs[i]? = some v → Q i v := by
      intro Q m
      induction m with
      | zero => intro _; exact ⟨[], rfl, fun i v h => by simp at h⟩
      | succ m ih =>
        intro hall
        obtain ⟨xs, hl, hx⟩ := ih (fun i hi => hall i (by omega))
        obtain ⟨v, hv⟩ := hall m (by omega)
        refine ⟨xs ++ [v], by simp [hl], fun i u hu => ?_⟩
        by_cases hi : i < xs.length
        · rw [List.getElem?_append_left hi] at hu
          exact hx i u hu
        · have : i = xs.length := by
            have := (List.getElem?_eq_some_iff.1 hu).1
            simp at this; omega
          subst this
          simp at hu
          subst hu
          rw [hl]
          exact hv
    have hex : ∃ xs : List α, xs.length = len ∧ ∀ i v, xs[i]? = some v → ∃ c : List Value, d.K w v c ∧ Pr v ∧ c.length = d.sz ∧ ∀ j u, c[j]? = some u → w.cell? ((a.add (i * d.sz)).add j) = some u := by
      exact gather (fun i v => ∃ c : List Value, d.K w v c ∧ Pr v ∧ c.length = d.sz ∧ ∀ j u, c[j]? = some u → w.cell? ((a.add (i * d.sz)).add j) = some u) len hall
    obtain ⟨xs, hxl, hx⟩ := hex
    have hmax : len ≤ maxLen := Nat.le_trans hl hcap
    refine ⟨xs, ⟨some a, cap, by rw [hxl], by omega, hxl ▸ rfl, by rw [hxl]; unfold maxLen at hmax; omega, fun _ => ⟨a, rfl, fun j p hj => ?_⟩⟩, by omega, ?_, ?_⟩
    · obtain ⟨c, hK, _, hcl, hcc⟩ := hx j p hj
      refine ⟨c, hcl, hK, fun i u hu => ?_⟩
      have := hcc i u hu
      rwa [Addr.add_add] at this
    · rw [hB] at hw1
      have e1 : (elems.map (·.1)).length = len := by simpa using hlen
      rw [e1] at hw1
      rw [hxl]
      exact Nat.le_trans (Nat.mul_le_mul_right _ (Nat.le_add_right _ _)) hw1
    · intro v hv
      obtain ⟨i, hi⟩ := List.getElem?_of_mem hv
      obtain ⟨c, _, hP, _⟩ := hx i v hi
      exact hP

/-! #### structs -/
/-- Cells that are read type by type. -/
inductive FieldsRead {H : Type} (enc : TypeId × Value → H) (P : Program) (w : World) (base : Nat) (spare : Nat → Bool) (held : Bool) (n : Nat) : List TypeId → List Value → List (DataW H) → Prop
  | none : FieldsRead enc P w base spare held n [] [] []
  | cons {t : TypeId} {ts : List TypeId} {c1 c2 : List Value} {d : DataW H} {ds : List (DataW H)} {ps : List MemPlace} (h : DataW.trod enc P w base spare held n t c1 = some (d, ps)) (r : FieldsRead enc P w base spare held n ts c2 ds) : FieldsRead enc P w base spare held n (t :: ts) (c1 ++ c2) (d :: ds)
def OpensF {α : Type} (P : Program) (d : Kd α) (ts : List TypeId) (Pr : α → Prop) : Prop :=
  ∀ {H : Type} {enc : TypeId × Value → H} {w : World} {base : Nat} {spare : Nat → Bool} {held : Bool} {n : Nat} {cs : List Value} {ds : List (DataW H)},
    FieldsRead enc P w base spare held n ts cs ds → (DataW.weightsEach P ts ds).all (· ≤ reachBytes) = true → ∃ v : α, d.K w v cs ∧ Pr v
theorem opensF_one {α : Type} {P : Program} {d : Kd α} {t : TypeId} {Pr : α → Prop} (h : Opens P d t Pr) : OpensF P d [t] Pr := by
  intro H enc w base spare held n cs ds hr hw
  cases hr with
  | cons h1 r =>
    cases r with
    | none =>
      rw [List.append_nil]
      simp only [DataW.weightsEach, List.append_nil] at hw
      exact h h1 hw
theorem opensF_cons {α β : Type} {P : Program} {a : Kd α} {b : Kd β} {t : TypeId} {ts : List TypeId} {Pa : α → Prop} {Pb : β → Prop} (ha : Opens P a t Pa) (hb : OpensF P b ts Pb) : OpensF P (Kd.pair a b) (t :: ts) (fun x => Pa x.1 ∧ Pb x.2) := by
  intro H enc w base spare held n cs ds hr hw
  cases hr with
  | cons h1 r =>
    simp only [DataW.weightsEach, List.all_append, Bool.and_eq_true] at hw
    obtain ⟨v1, k1, p1⟩ := ha h1 hw.1
    obtain ⟨v2, k2, p2⟩ := hb r hw.2
    exact ⟨(v1, v2), ⟨_, _, rfl, k1, k2⟩, p1, p2⟩
/-- Do fields lie one behind the other? -/
def inLine (P : Program) : List Field → Nat → Nat → Bool
  | [], o, m => o == m
  | f :: r, o, m => f.offset == o && inLine P r (o + P.cellsOf f.type) m
theorem fieldsRead_of {H : Type} {enc : TypeId × Value → H} {P : Program} {w : World} {base : Nat} {spare : Nat → Bool} {held : Bool} {n : Nat} {cs : List Value} : ∀ (fs : List Field) (o : Nat) (xs : List (DataW H × List MemPlace)), inLine P fs o cs.length = true → xs.length = fs.length → o ≤ cs.length →
    (∀ (i : Nat) (f : Field), fs[i]? = some f → DataW.trod enc P w base spare held n f.type ((cs.drop f.offset).take (P.cellsOf f.type)) = xs[i]?) →
    FieldsRead enc P w base spare held n (fs.map (·.type)) (cs.drop o) (xs.map (·.1)) := by
  intro fs
  induction fs with
  | nil =>
    intro o xs hl hx ho _
    have : xs = [] := List.length_eq_zero_iff.1 (by simpa using hx)
    subst this
    simp only [inLine, beq_iff_eq] at hl
    rw [List.drop_of_length_le (by omega)]
    exact .none
  | cons f r ih =>
    intro o xs hl hx ho hall
    cases xs with
    | nil => simp at hx
    | cons x xs =>
      simp only [inLine, Bool.and_eq_true, beq_iff_eq] at hl
      obtain ⟨h1, h2⟩ := hl
      have hf := hall 0 f rfl
      rw [h1] at hf
      have hle : o + P.cellsOf f.type ≤ cs.length := by
        have : ∀ (l : List Field) (o m : Nat), inLine P l o m = true → o ≤ m := by
          intro l
          induction l with
          | nil => intro o m h; simp [inLine] at h; omega
          | cons g l ih => intro o m h; simp only [inLine, Bool.and_eq_true] at h; have := ih _ _ h.2; omega
        exact this r _ _ h2
      have rest := ih (o + P.cellsOf f.type) xs h2 (by simpa using hx) hle (fun i g hg => by
        have := hall (i + 1) g (by simpa using hg)
        simpa using this)
      have e : cs.drop o = (cs.drop o).take (P.cellsOf f.type) ++ cs.drop (o + P.cellsOf f.type) := by
        rw [← List.drop_drop, List.take_append_drop]
      rw [e]
      exact .cons (ps := x.2) (by rw [hf]; rfl) rest
theorem opens_struct {α β : Type} {P : Program} {d : Kd α} {t : TypeId} {fs : Array Field} {Pr : α → Prop} (f : β → α) (g : α → β) (hfg : ∀ y, f (g y) = y) (ht : P.underlying t = some (.struct fs)) (hl : inLine P fs.toList 0 (P.cellsOf t) = true) (ho : OpensF P d (fs.toList.map (·.type)) Pr) :
    Opens P (Kd.iso d f) t (fun x => Pr (f x)) := by
  intro H enc w base spare held fuel cs x ps h hw
  obtain ⟨xs, n, rfl, hx, hcl, hxl, hall⟩ := DataW.trod_struct ht h
  obtain ⟨rfl, _⟩ := Prod.mk.inj hx
  have hr := fieldsRead_of (enc := enc) (P := P) (w := w) (base := base) (spare := spare) (held := held) (n := n) (cs := cs) fs.toList 0 xs (by rw [hcl]; exact hl) (by simpa using hxl) (Nat.zero_le _) (fun i f hf => hall i f (by simpa using hf))
  rw [List.drop_zero] at hr
  simp only [DataW.weights, ht] at hw
  obtain ⟨v, hK, hP⟩ := ho hr hw
  refine ⟨g v, ?_, ?_⟩
  · show d.K w (f (g v)) cs
    rw [hfg]; exact hK
  · show Pr (f (g v))
    rw [hfg]; exact hP

/-! #### arguments -/
theorem weights_at {H : Type} {P : Program} {ts : List TypeId} {ds : List (DataW H)} {j : Nat} {t : TypeId} {d : DataW H} (h : (DataW.weightsEach P ts ds).all (· ≤ reachBytes) = true) (ht : ts[j]? = some t) (hd : ds[j]? = some d) : (d.weights P t).all (· ≤ reachBytes) = true := by
  rw [List.all_eq_true] at h ⊢
  intro x hx
  exact h x (DataW.weights_mem_each ht hd x hx)
/-- An argument that is a struct. -/
theorem arg_struct {H : Type} {enc : TypeId × Value → H} {α : Type} {P : Program} {W : World} {d : Kd α} {t : TypeId} {fs : Array Field} {Pr : α → Prop} {base : Nat} {r : Reach} {b0 : Nat} {spare : Nat → Bool} {held : Bool} {v : Value} {x : DataW H} {ps : List MemPlace} (ho : Opens P d t Pr) (ht : P.underlying t = some (.struct fs))
    (hv : Value.okWide P W r b0 t v) (h : DataW.Trod enc P W base spare held t v x ps) (hw : (x.weights P t).all (· ≤ reachBytes) = true) : ∃ (y : α) (cs : List Value), v = .agg cs.toArray ∧ d.K W y cs ∧ Pr y := by
  obtain ⟨cs, rfl, hsz⟩ := okWide_struct ht hv
  obtain ⟨fuel, hf⟩ := h
  obtain ⟨y, hK, hP⟩ := ho hf hw
  exact ⟨y, cs.toList, by simp, by simpa [Value.cells] using hK, hP⟩
/-- An argument that is a slice. -/
theorem arg_slice {H : Type} {enc : TypeId × Value → H} {α : Type} {P : Program} {W : World} {d : Kd α} {t e : TypeId} {Pr : List α → Prop} {base : Nat} {r : Reach} {b0 : Nat} {spare : Nat → Bool} {held : Bool} {v : Value} {x : DataW H} {ps : List MemPlace} (ho : Opens P (Kd.slice e d) t Pr) (ht : P.underlying t = some (.slice e))
    (hv : Value.okWide P W r b0 t v) (h : DataW.Trod enc P W base spare held t v x ps) (hw : (x.weights P t).all (· ≤ reachBytes) = true) : ∃ (A : Option Addr) (c : Nat) (xs : List α), v = .slice A xs.length c ∧ xs.length ≤ c ∧ d.C W A xs.length xs ∧ Pr xs := by
  obtain ⟨a, len, cap, rfl⟩ := okWide_slice ht hv
  obtain ⟨fuel, hf⟩ := h
  obtain ⟨y, hK, hP⟩ := ho hf hw
  obtain ⟨A, c, e1, hc, hC⟩ := hK
  simp [Value.cells] at e1
  obtain ⟨rfl, rfl, rfl⟩ := e1
  exact ⟨a, cap, y, rfl, hc, hC, hP⟩
end Go.Proofs.YthkbomclongjgaaDoor.ExtOpen
