/- What one step leaves, in plain terms. No condition beyond the range of a 64-bit number. -/
import Derived.Test.YthkbomclongjgaaDoorExtAfter
import Derived.Test.YthkbomclongjgaaDoorPkDec
namespace Go.Proofs.YthkbomclongjgaaDoor.PkStep
open Go.RowKit Go.Proofs.YthkbomclongjgaaDoorW.PrintWords Go.Proofs.YthkbomclongjgaaDoorW.PrintLast Go.Proofs.YthkbomclongjgaaDoor.Pk Go.Proofs.YthkbomclongjgaaDoor.PPutStep Go.Proofs.YthkbomclongjgaaDoor.ExtAfter
set_option linter.unusedSimpArgs false
set_option linter.unusedVariables false

theorem put_ext {v : Int} (h : In64 v) : ExtBase.dec_Put.f v = some (mk (Lib.itoa v)) := by
  unfold ExtBase.dec_Put.f
  rw [if_pos (show -9223372036854775808 ≤ v ∧ v ≤ 9223372036854775807 from h)]
  rfl
theorem words_ext (t : Int) : ExtWords.words_All.f t = some ((ExtWords.wordsL t).map mk) := rfl
theorem sides : ExtWords.wordsL 3 = [[76], [82], [66], [84]] := rfl
def side (s : Int) : List UInt8 := if s = 1 then [76] else if s = 2 then [82] else if s = 3 then [66] else if s = 4 then [84] else []
theorem put_word (s : Int) (h : In64 s) : words_Put.f 3 s = some (mk (side s)) := by
  unfold In64 at h
  unfold words_Put.f side
  rw [words_ext, sides]
  simp only [Option.bind_some, List.map_cons, List.map_nil, List.length_cons, List.length_nil]
  by_cases c1 : s < 1
  · rw [if_pos c1, if_neg (by omega), if_neg (by omega), if_neg (by omega), if_neg (by omega)]; rfl
  · rw [if_neg c1]
    by_cases c2 : s > 4
    · rw [if_pos (by omega), if_neg (by omega), if_neg (by omega), if_neg (by omega), if_neg (by omega)]; rfl
    · rw [if_neg (by omega)]
      have hw : wrap64 (s - 1) = s - 1 := wr (by omega) (by omega)
      rw [hw, if_pos (by omega), if_pos (by omega)]
      by_cases e1 : s = 1
      · subst e1; rfl
      · by_cases e2 : s = 2
        · subst e2; rfl
        · by_cases e3 : s = 3
          · subst e3; rfl
          · have e4 : s = 4 := by omega
            subst e4; rfl
theorem in_num (a b c : Int) : num_In.f a b c = some (decide (b ≤ a ∧ a ≤ c)) := by
  unfold num_In.f
  by_cases h : b ≤ a
  · rw [if_pos h]; simp [h]
  · rw [if_neg h]; simp [h]
def okStep (s n : Int) : Bool := decide (1 ≤ s ∧ s ≤ 4 ∧ 1 ≤ n ∧ n ≤ 64)
def txt (s n : Int) (u : Bool) : List UInt8 := if okStep s n = true then side s ++ Lib.itoa n ++ (if u = true then [117] else []) else []
theorem side_len (s : Int) : (side s).length ≤ 1 := by
  unfold side; repeat' split
  all_goals simp
theorem side_ne (s : Int) (h : 1 ≤ s ∧ s ≤ 4) : side s ≠ [] := by
  unfold side; repeat' split
  all_goals first | (exfalso; omega) | simp
theorem side_nil (s : Int) (h : ¬ (1 ≤ s ∧ s ≤ 4)) : side s = [] := by
  unfold side; repeat' split
  all_goals first | rfl | omega
theorem put_step (k : Nat) (s n : Int) (u : Bool) (hs : In64 s) (hn : In64 n) : step_Put.f (k + 1) s n u = some (mk (txt s n u), okStep s n) := by
  unfold step_Put.f
  rw [put_word s hs]
  simp only [Option.bind_some, mk_toList]
  by_cases c1 : 1 ≤ s ∧ s ≤ 4
  · rw [if_neg (side_ne s c1), in_num]
    simp only [Option.bind_some]
    by_cases c2 : 1 ≤ n ∧ n ≤ 64
    · have ho : okStep s n = true := by unfold okStep; simp; omega
      have hl := itoa_len hn
      have hsl := side_len s
      simp only [c2, and_self, decide_true, Bool.not_true, step_Put.j0, Bool.false_eq_true, if_false, put_ext hn, Option.bind_some]
      rw [if_pos (by simp only [mk_size]; omega)]
      unfold txt
      rw [if_pos ho, ho]
      cases u with
      | true =>
        simp only [if_true]
        rw [if_pos (by rw [mk_append, mk_size]; simp; omega), mk_lit, mk_append, mk_append]
      | false =>
        simp only [Bool.false_eq_true, if_false]
        rw [mk_append, List.append_nil]
    · have ho : okStep s n = false := by unfold okStep; simp; omega
      simp only [c2, decide_false, Bool.not_false, step_Put.j0, if_true]
      unfold txt
      rw [ho]; rfl
  · have ho : okStep s n = false := by unfold okStep; simp; omega
    rw [if_pos (side_nil s c1)]
    simp only [step_Put.j0, if_true]
    unfold txt
    rw [ho]; rfl
/-- What one step leaves. -/
def aft (c r s n : Int) : Int × Int × Bool := if okStep s n = true then left c r s n else (0, 0, false)
theorem after (k : Nat) (c r s n : Int) (u : Bool) (hs : In64 s) (hn : In64 n) : step_After.f (k + 1) c r s n u = some (aft c r s n) := by
  unfold step_After.f
  rw [put_step k s n u hs hn]
  simp only [Option.bind_some]
  unfold aft
  split <;> rfl
theorem half (c n : Int) (h : 1 ≤ c) (hc : c ≤ 9223372036854775807) : wrap64 (Int.tdiv c 2) < n ↔ c < 2 * n := by
  rw [Int.tdiv_eq_ediv_of_nonneg (by omega), wr (by omega) (by omega)]; omega
/-- The same, in plain numbers. -/
theorem aft_ok (c r s n : Int) (hc : In64 c) (hr : In64 r) : aft c r s n = (if okStep s n = true ∧ 1 ≤ c ∧ 1 ≤ r ∧ (s ≤ 2 ∧ 2 * n ≤ c ∨ 2 < s ∧ 2 * n ≤ r) then (if s ≤ 2 then (c - n, r, true) else (c, r - n, true)) else (0, 0, false)) := by
  unfold In64 at hc hr
  unfold aft
  cases ho : okStep s n with
  | false => simp
  | true =>
    unfold okStep at ho
    simp only [decide_eq_true_eq] at ho
    rw [if_pos rfl]
    unfold left
    by_cases c1 : c < 1
    · rw [if_pos c1, if_neg (by omega)]
    · rw [if_neg c1]
      by_cases c2 : r < 1
      · rw [if_pos c2, if_neg (by omega)]
      · rw [if_neg c2]
        by_cases c3 : s ≤ 2
        · rw [if_neg (by omega : ¬ (s = 3 ∨ s = 4)), if_pos c3]
          by_cases c4 : c < 2 * n
          · rw [if_pos ((half c n (by omega) (by omega)).2 c4), if_neg (by omega)]
          · rw [if_neg (fun h => c4 ((half c n (by omega) (by omega)).1 h)), if_pos ⟨rfl, by omega, by omega, by omega⟩, wr (by omega) (by omega)]
        · rw [if_pos (by omega : s = 3 ∨ s = 4), if_neg c3]
          by_cases c4 : r < 2 * n
          · rw [if_pos ((half r n (by omega) (by omega)).2 c4), if_neg (by omega)]
          · rw [if_neg (fun h => c4 ((half r n (by omega) (by omega)).1 h)), if_pos ⟨rfl, by omega, by omega, by omega⟩, wr (by omega) (by omega)]
end Go.Proofs.YthkbomclongjgaaDoor.PkStep
