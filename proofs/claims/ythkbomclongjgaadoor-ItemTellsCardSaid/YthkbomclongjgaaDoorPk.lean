/- Plain words for the pure statements: strings as lists of bytes, rounds that suffice, numbers that do not wrap. No program in sight; no condition. -/
import Derived.Test.YthkbomclongjgaaDoorWWords
import Derived.Test.YthkbomclongjgaaDoorWMore
import Derived.Lib.SplitLaws
namespace Go.Proofs.YthkbomclongjgaaDoor.Pk
open Go.RowKit Go.Proofs.YthkbomclongjgaaDoorW.PrintWords Go.Proofs.YthkbomclongjgaaDoorW.PrintMore
set_option linter.unusedVariables false
set_option linter.unusedSimpArgs false

/-- A string of these bytes. -/
def mk (l : List UInt8) : ByteArray := ⟨l.toArray⟩
theorem exists_mk (s : ByteArray) : ∃ l, s = mk l := ⟨s.data.toList, rfl⟩
theorem mk_lit (l : List UInt8) : (⟨l.toArray⟩ : ByteArray) = mk l := rfl
theorem mk_inj {a b : List UInt8} : mk a = mk b ↔ a = b := by
  constructor
  · intro h
    have := congrArg (fun s : ByteArray => s.data.toList) h
    simpa [mk] using this
  · rintro rfl; rfl
@[simp] theorem mk_size (l : List UInt8) : (mk l).size = l.length := by simp [mk, ByteArray.size]
@[simp] theorem mk_data (l : List UInt8) : (mk l).data.toList = l := by simp [mk]
@[simp] theorem mk_toList (l : List UInt8) : (mk l).toList = l := by rw [ByteArray.toList_eq]; simp [mk]
theorem mk_data_eq (s : ByteArray) : mk s.data.toList = s := rfl
theorem ext_ (a b : ByteArray) (h : a.data.toList = b.data.toList) : a = b := by
  rw [← mk_data_eq a, ← mk_data_eq b, h]
theorem mk_append (a b : List UInt8) : mk a ++ mk b = mk (a ++ b) := by
  apply ext_
  simp [mk]
theorem mk_extract (l : List UInt8) (a b : Nat) : (mk l).extract a b = mk ((l.take b).drop a) := by
  apply ext_
  rw [Lib.extract_data]
  simp [mk, List.drop_take]
theorem mk_extract_to_end (l : List UInt8) (a : Nat) : (mk l).extract a (mk l).size = mk (l.drop a) := by
  rw [mk_extract]; simp [List.take_of_length_le]
theorem bt_mk (l : List UInt8) (i : Nat) (h : i < l.length) : bt (mk l) (i : Int) = (l[i].toNat : Int) := by
  unfold bt
  rw [dif_pos (by simpa using h)]
  rfl
theorem bt_mk0 (c : UInt8) (l : List UInt8) : bt (mk (c :: l)) 0 = (c.toNat : Int) := bt_mk (c :: l) 0 (by simp)
theorem bt_app (p : List UInt8) (c : UInt8) (l : List UInt8) (i : Int) (h : i = p.length) : bt (mk (p ++ c :: l)) i = (c.toNat : Int) := by
  subst h
  rw [bt_mk _ _ (by simp)]
  simp
theorem rdOf_app {α : Type} (d : α) (p : List α) (c : α) (l : List α) (i : Int) (h : i = p.length) : rdOf d (p ++ c :: l) i = c := by
  subst h
  simp [rdOf]
theorem rd_app (p : List Int) (c : Int) (l : List Int) (i : Int) (h : i = p.length) : rd (p ++ c :: l) i = c := by
  subst h
  simp [rd]

theorem wr {n : Int} (h1 : -9223372036854775808 ≤ n) (h2 : n ≤ 9223372036854775807) : wrap64 n = n := by unfold wrap64; omega

theorem wf_i64 {n : Int} (h : (Lit.int .i64 n).wf = true) : -9223372036854775808 ≤ n ∧ n ≤ 9223372036854775807 := by
  simp [Lit.wf, IntKind.min, IntKind.max, IntKind.signed, IntKind.bits] at h
  omega
theorem wf_u8 {n : Int} (h : (Lit.int .u8 n).wf = true) : 0 ≤ n ∧ n ≤ 255 := by
  simp [Lit.wf, IntKind.min, IntKind.max, IntKind.signed, IntKind.bits] at h
  omega
/-! #### rounds -/
theorem ev_of {α : Type} {g : Nat → Option α} {r : α} (K : Nat) (h : ∀ k, K ≤ k → g k = some r) : Ev g r := ⟨K, h⟩
theorem ev_now {α : Type} {g : Nat → Option α} {r : α} (h : ∀ k, g k = some r) : Ev g r := ⟨0, fun k _ => h k⟩
theorem ev_step {α β : Type} {g : Nat → Option α} {f : Nat → Option β} {r : α} {s : β} (k : Ev f s) (h : ∀ k, f k = some s → g (k + 1) = some r) : Ev g r := by
  obtain ⟨K, k⟩ := k
  refine ⟨K + 1, fun n hn => ?_⟩
  obtain ⟨m, rfl⟩ : ∃ m, n = m + 1 := ⟨n - 1, by omega⟩
  exact h m (k m (by omega))
theorem ev_end {α : Type} {g : Nat → Option α} {r : α} (h : ∀ k, g (k + 1) = some r) : Ev g r := by
  refine ⟨1, fun n hn => ?_⟩
  obtain ⟨m, rfl⟩ : ∃ m, n = m + 1 := ⟨n - 1, by omega⟩
  exact h m
theorem ev_step2 {α β γ : Type} {g : Nat → Option α} {f : Nat → Option β} {q : Nat → Option γ} {r : α} {s : β} {t : γ} (k : Ev f s) (l : Ev q t) (h : ∀ k, f k = some s → q k = some t → g (k + 1) = some r) : Ev g r := by
  obtain ⟨K, k⟩ := k
  obtain ⟨L, l⟩ := l
  refine ⟨max K L + 1, fun n hn => ?_⟩
  obtain ⟨m, rfl⟩ : ∃ m, n = m + 1 := ⟨n - 1, by omega⟩
  exact h m (k m (by omega)) (l m (by omega))
theorem ev_map {α β : Type} {g : Nat → Option α} {f : Nat → Option β} {r : α} {s : β} (k : Ev f s) (h : ∀ k, f k = some s → g k = some r) : Ev g r := by
  obtain ⟨K, k⟩ := k
  exact ⟨K, fun n hn => h n (k n hn)⟩
theorem ev_map2 {α β γ : Type} {g : Nat → Option α} {f : Nat → Option β} {q : Nat → Option γ} {r : α} {s : β} {t : γ} (k : Ev f s) (l : Ev q t) (h : ∀ k, f k = some s → q k = some t → g k = some r) : Ev g r := by
  obtain ⟨K, k⟩ := k
  obtain ⟨L, l⟩ := l
  exact ⟨max K L, fun n hn => h n (k n (by omega)) (l n (by omega))⟩
theorem ev_map3 {α β γ δ : Type} {g : Nat → Option α} {f : Nat → Option β} {q : Nat → Option γ} {p : Nat → Option δ} {r : α} {s : β} {t : γ} {u : δ} (k : Ev f s) (l : Ev q t) (m : Ev p u) (h : ∀ k, f k = some s → q k = some t → p k = some u → g k = some r) : Ev g r := by
  obtain ⟨K, k⟩ := k
  obtain ⟨L, l⟩ := l
  obtain ⟨M, m⟩ := m
  exact ⟨max K (max L M), fun n hn => h n (k n (by omega)) (l n (by omega)) (m n (by omega))⟩
theorem ev_and {α β : Type} {f : Nat → Option α} {q : Nat → Option β} {s : α} {t : β} (k : Ev f s) (l : Ev q t) : Ev (fun k => (f k).bind fun a => (q k).bind fun b => some (a, b)) (s, t) :=
  ev_map2 k l fun k a b => by simp [a, b]
theorem ev_map5 {α β γ δ ε ζ : Type} {g : Nat → Option α} {f : Nat → Option β} {q : Nat → Option γ} {p : Nat → Option δ} {m : Nat → Option ε} {n : Nat → Option ζ} {r : α} {s : β} {t : γ} {u : δ} {v : ε} {w : ζ} (a : Ev f s) (b : Ev q t) (c : Ev p u) (d : Ev m v) (e : Ev n w)
    (h : ∀ k, f k = some s → q k = some t → p k = some u → m k = some v → n k = some w → g k = some r) : Ev g r := by
  obtain ⟨A, a⟩ := a
  obtain ⟨B, b⟩ := b
  obtain ⟨C, c⟩ := c
  obtain ⟨D, d⟩ := d
  obtain ⟨E, e⟩ := e
  exact ⟨A + B + C + D + E, fun k hk => h k (a k (by omega)) (b k (by omega)) (c k (by omega)) (d k (by omega)) (e k (by omega))⟩
theorem ev_done {α : Type} {g : Nat → Option α} {r : α} (h : Ev g r) : ∃ k, g k = some r := h.rounds
theorem bind_of {α β : Type} {g : Option α} {a : α} {f : α → Option β} {r : β} (h : g = some a) (h2 : f a = some r) : g.bind f = some r := by rw [h]; exact h2
end Go.Proofs.YthkbomclongjgaaDoor.Pk
