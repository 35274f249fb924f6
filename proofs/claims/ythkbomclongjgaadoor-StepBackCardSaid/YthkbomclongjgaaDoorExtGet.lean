/- The contract of words.Get (slices.Index in the words of a table), out of the shelf's contract of slices.Index; its condition: the library's table of blanks lies as listed. -/
import Derived.Test.YthkbomclongjgaaDoorExtWords
import Derived.Test.YthkbomclongjgaaDoorShelfIdx
namespace Go.Proofs.YthkbomclongjgaaDoor.ExtGet
open Go.RowKit Go.Proofs.YthkbomclongjgaaDoorW.PrintWords Go.Proofs.YthkbomclongjgaaDoorW.PrintMore Go.Proofs.YthkbomclongjgaaDoor.ExtBase Go.Proofs.YthkbomclongjgaaDoor.ExtWords
set_option linter.unusedVariables false
set_option linter.unusedSimpArgs false

theorem idx_lt : ∀ (zs : List ByteArray) (x : ByteArray) (k : Nat), Lib.idxFromS zs x k < (k : Int) + zs.length + 1 ∧ -1 ≤ Lib.idxFromS zs x k
  | [], x, k => by simp [Lib.idxFromS] <;> omega
  | z :: zs, x, k => by
    have := idx_lt zs x (k + 1)
    unfold Lib.idxFromS
    simp only [List.length_cons]
    split <;> omega
theorem index_at {e base : Nat} {ok : Nat → Prop} {w : World} {v : Value} {xs : List ByteArray} (h : Kd.R Kd.string e w base ok v xs) (x : ByteArray) :
    Calls Tryd.prog 96 #[v, .string x] w fun e w' => e = .returned (.int .i64 (Lib.idxOfS xs x)) ∧ w' = w := by
  obtain ⟨A, c, rfl⟩ := Kd.R_slice h
  obtain ⟨_, hc, hC⟩ := Kd.R_reads' h
  by_cases h0 : xs = []
  · subst h0
    exact Tryd.slices_Index_string_empty A c x w
  · have hl : 0 < xs.length := List.length_pos_iff.2 h0
    obtain ⟨k1, inner, ho, h2⟩ := h
    rcases ho.2 with ⟨hn, _⟩ | ⟨g, cap, cur, he, hg, hh, r⟩
    · simp at hn; omega
    · obtain ⟨rfl, _, _⟩ := Value.slice.inj he
      have := Tryd.slices_Index_string g 0 xs.length c xs x w (Nat.le_refl _) (by have := hC.2.1; omega) (fun j hj => by
        obtain ⟨ad, e1, e2⟩ := Kd.at_string hC (j : Int) (by omega) (by omega)
        cases e1
        rw [show (⟨g, 0 + j, none⟩ : Addr) = (⟨g, 0, none⟩ : Addr).add (j : Int).toNat by simp [Addr.add]]
        rw [e2]
        simp [rdOf])
      rw [List.take_length] at this
      exact this
def words_Get.f (a0 : Int) (a1 : ByteArray) : Option (Int × Bool) :=
  some (Lib.idxOfS ((wordsL a0).map fun l => ⟨l.toArray⟩) a1 + 1, decide (0 < Lib.idxOfS ((wordsL a0).map fun l => ⟨l.toArray⟩) a1 + 1))
theorem words_Get.calls (a0 : Int) (a1 : ByteArray) (r1 : Int) (r2 : Bool) (w : World) (hG : GS w) (h : words_Get.f a0 a1 = some (r1, r2)) :
    Calls Tryd.prog 71 #[.int .i64 a0, .string a1] w fun e w' => e = .returned (.tuple #[.int .i64 r1, .bool r2]) ∧ Below w.heap.size w w' := by
  have h := Option.some.inj h
  simp only [Prod.mk.injEq] at h
  obtain ⟨rfl, rfl⟩ := h
  have hi : ∃ i, Lib.idxOfS ((wordsL a0).map fun l => (⟨l.toArray⟩ : ByteArray)) a1 = i ∧ -1 ≤ i ∧ i < 100 := by
    refine ⟨_, rfl, (idx_lt _ _ 0).2, ?_⟩
    have := (idx_lt ((wordsL a0).map fun l => (⟨l.toArray⟩ : ByteArray)) a1 0).1
    have hw : (wordsL a0).length ≤ 7 := by
      unfold wordsL
      split
      · decide
      · split
        · decide
        · split
          · decide
          · split <;> decide
    rw [List.length_map] at this
    unfold Lib.idxOfS
    omega
  obtain ⟨i, e, h1, h2⟩ := hi
  have ew : IntKind.i64.wrap (i + 1) = i + 1 := by rw [IntKind.wrap_i64]; omega
  rw [e]
  have E := Aside0.mk e
  have HG := Aside0.mk hG
  clear e hG h1 h2
  go_enter Tryd.func71, Tryd.ntmps71
  go_wp2_with fail
  refine (words_All.calls a0 _ _ HG.out rfl).mono ?_
  rintro e w1 ⟨v, rfl, hr, hb⟩
  have HB := Aside0.mk hb
  have HR := Aside0.mk hr
  clear hb hr
  go_wp2_with fail
  refine (index_at HR.out a1).mono ?_
  rintro e w2 ⟨rfl, rfl⟩
  rw [E.out]
  go_wp2
  go_ret2
  exact ⟨by simp [ew], HB.out⟩
end Go.Proofs.YthkbomclongjgaaDoor.ExtGet
