/- The pure statement of WordsBack: words come back from kinds; a table has all of its words, in order. No condition beyond the statement's own. -/
import Derived.Test.YtnfoibgafmeenaaDoorPWordsBackx2
import Derived.Test.YtnfoibgafmeenaaDoorPk
namespace Go.Proofs.YtnfoibgafmeenaaDoor.Pure.WordsBackSim
open Go.RowKit Go.Proofs.YtnfoibgafmeenaaDoor.PWordsBack Go.Proofs.YtnfoibgafmeenaaDoorW.PrintWords Go.Proofs.YtnfoibgafmeenaaDoorW.PrintLast Go.Proofs.YtnfoibgafmeenaaDoor.Pk
set_option linter.unusedSimpArgs false
set_option linter.unusedVariables false

/-- The words of a table, as strings. -/
abbrev W (t : Int) : List ByteArray := (ExtWords.wordsL t).map fun l => ⟨l.toArray⟩
def nthL (L : List ByteArray) (n : Int) : ByteArray := if 1 ≤ n ∧ n ≤ L.length then L.getD (n.toNat - 1) ByteArray.empty else ⟨#[]⟩
def G (L : List ByteArray) (a1 : Int) : Option ByteArray := if a1 < 1 then (some (⟨#[]⟩ : ByteArray)) else (if a1 > (L.length : Int) then (some (⟨#[]⟩ : ByteArray)) else (if 0 ≤ (wrap64 (a1 - 1)) then (if (wrap64 (a1 - 1)) < (L.length : Int) then (some (rdOf ByteArray.empty L (wrap64 (a1 - 1)))) else (none)) else (none)))
theorem G_nth (L : List ByteArray) (n : Int) (h : -9223372036854775808 ≤ n ∧ n ≤ 9223372036854775807) : G L n = some (nthL L n) := by
  unfold G nthL
  by_cases h1 : n < 1
  · rw [if_pos h1, if_neg (by omega)]
  · rw [if_neg h1]
    by_cases h2 : n > (L.length : Int)
    · rw [if_pos h2, if_neg (by omega)]
    · rw [if_neg h2, wr (by omega) (by omega), if_pos (by omega), if_pos (by omega), if_pos (by omega)]
      unfold rdOf
      rw [show (n - 1).toNat = n.toNat - 1 by omega]
theorem put_G (t n : Int) : words_Put.f t n = G (W t) n := rfl
theorem W_other {t : Int} (h : ¬ (1 ≤ t ∧ t ≤ 4)) : W t = [] := by
  unfold W ExtWords.wordsL
  rw [if_neg (by omega), if_neg (by omega), if_neg (by omega), if_neg (by omega)]
  rfl
theorem W_len (t : Int) : (W t).length ≤ 7 := by
  unfold W ExtWords.wordsL
  rw [List.length_map]
  split
  · decide
  · split
    · decide
    · split
      · decide
      · split <;> decide
theorem word_G (t n : Int) : gatherumref09_Word.f t n = G (W t) n := by
  unfold gatherumref09_Word.f
  by_cases h1 : t = 1
  · subst h1; rfl
  · by_cases h2 : t = 2
    · subst h2; rfl
    · by_cases h3 : t = 3
      · subst h3; rfl
      · by_cases h4 : t = 4
        · subst h4; rfl
        · simp only [Option.bind_some]
          rw [if_neg h1, if_neg h2, if_neg h3, if_neg h4, W_other (by omega)]
          unfold G
          rfl
theorem words_put (t n : Int) (h : -9223372036854775808 ≤ n ∧ n ≤ 9223372036854775807) : words_Put.f t n = some (nthL (W t) n) := by rw [put_G, G_nth _ _ h]
theorem words_ref (t n : Int) (h : -9223372036854775808 ≤ n ∧ n ≤ 9223372036854775807) : gatherumref09_Word.f t n = some (nthL (W t) n) := by rw [word_G, G_nth _ _ h]
theorem words_get (t : Int) (s : ByteArray) : ExtGet.words_Get.f t s = some (Lib.idxOfS (W t) s + 1, decide (0 < Lib.idxOfS (W t) s + 1)) := rfl
theorem alive_ : gatherumlaw09_alive.f = some true := by kernel_rfl
theorem tl_eq (a b : ByteArray) : a.toList = b.toList ↔ a = b := by
  rw [ByteArray.toList_eq, ByteArray.toList_eq]
  exact ⟨fun h => ext_ _ _ h, fun h => by rw [h]⟩
theorem tl_nil (a : ByteArray) : a.toList = ([] : List UInt8) ↔ a = ⟨#[]⟩ := by
  rw [← tl_eq, show (⟨#[]⟩ : ByteArray).toList = [] by rw [ByteArray.toList_eq]]
def chk (L : List ByteArray) : Bool := (List.range L.length).all fun i => decide ((L.getD i ByteArray.empty).toList ≠ []) && decide (Lib.idxOfS L (L.getD i ByteArray.empty) = (i : Int))
theorem chk_W (t : Int) : chk (W t) = true := by
  by_cases h1 : t = 1
  · subst h1; kernel_rfl
  · by_cases h2 : t = 2
    · subst h2; kernel_rfl
    · by_cases h3 : t = 3
      · subst h3; kernel_rfl
      · by_cases h4 : t = 4
        · subst h4; kernel_rfl
        · rw [W_other (by omega)]; rfl
theorem W_ne (t : Int) (i : Nat) (h : i < (W t).length) : (W t).getD i ByteArray.empty ≠ ⟨#[]⟩ := by
  have := List.all_eq_true.1 (chk_W t) i (List.mem_range.2 h)
  simp only [Bool.and_eq_true, decide_eq_true_eq] at this
  exact fun e => this.1 ((tl_nil _).2 e)
theorem W_idx (t : Int) (i : Nat) (h : i < (W t).length) : Lib.idxOfS (W t) ((W t).getD i ByteArray.empty) = (i : Int) := by
  have := List.all_eq_true.1 (chk_W t) i (List.mem_range.2 h)
  simp only [Bool.and_eq_true, decide_eq_true_eq] at this
  exact this.2
theorem nth_at {L : List ByteArray} {n : Int} (h : 1 ≤ n ∧ n ≤ L.length) : nthL L n = L.getD (n.toNat - 1) ByteArray.empty := by unfold nthL; rw [if_pos h]
theorem nth_no {L : List ByteArray} {n : Int} (h : ¬ (1 ≤ n ∧ n ≤ L.length)) : nthL L n = ⟨#[]⟩ := by unfold nthL; rw [if_neg h]
end Go.Proofs.YtnfoibgafmeenaaDoor.Pure.WordsBackSim
namespace Go.Proofs.YtnfoibgafmeenaaDoor.Pure
open Go.RowKit Go.Proofs.YtnfoibgafmeenaaDoor.PWordsBack Go.Proofs.YtnfoibgafmeenaaDoorW.PrintWords Go.Proofs.YtnfoibgafmeenaaDoorW.PrintLast Go.Proofs.YtnfoibgafmeenaaDoor.Pk WordsBackSim

theorem last_ (t n : Int) (L : List ByteArray) (hL : L = W t) (hn : -9223372036854775808 ≤ n ∧ n ≤ 9223372036854775807) : ∀ (m i : Nat), i + m = (W t).length →
    Ev (fun k => gatherumlaw09_WordsBack.l1 k t n L (L.length : Int) i) true := by
  subst hL
  intro m
  have hl := W_len t
  induction m with
  | zero =>
    intro i hi
    refine ev_end (fun k => ?_)
    simp only [gatherumlaw09_WordsBack.l1]
    rw [if_neg (by omega), words_put t n hn]
    simp only [Option.bind_some]
    by_cases h1 : n ≥ 1
    · rw [if_pos h1]
      by_cases h2 : n ≤ ((W t).length : Int)
      · have hne := W_ne t (n.toNat - 1) (by omega)
        rw [nth_at ⟨h1, h2⟩, decide_eq_true h2]
        have : ((W t).getD (n.toNat - 1) ByteArray.empty).toList ≠ ([] : List UInt8) := fun q => hne ((tl_nil _).1 q)
        rw [bne_iff_ne.2 this]; rfl
      · rw [nth_no (by omega), decide_eq_false h2, (tl_nil _).2 rfl]; rfl
    · rw [if_neg h1, nth_no (by omega), (tl_nil _).2 rfl]; rfl
  | succ m ih =>
    intro i hi
    refine ev_step (ih (i + 1) (by omega)) (fun k hk => ?_)
    have hw : wrap64 ((i : Int) + 1) = ((i + 1 : Nat) : Int) := by rw [wr (by omega) (by omega)]; omega
    have hr : rdOf ByteArray.empty (W t) (i : Int) = (W t).getD i ByteArray.empty := rfl
    simp only [gatherumlaw09_WordsBack.l1]
    rw [if_pos (by omega), if_pos (by omega), if_pos (by omega), hr, words_get, W_idx t i (by omega), hw]
    simp only [Option.bind_some]
    rw [if_pos (by omega), decide_eq_true (by omega), if_pos rfl, words_put t _ (by omega), nth_at (by omega), show (((i + 1 : Nat) : Int).toNat - 1) = i by omega]
    simp only [Option.bind_some, if_true]
    exact hk
theorem many_ (t n : Int) (hn : -9223372036854775808 ≤ n ∧ n ≤ 9223372036854775807) : ∀ (m i : Nat), i + m = (W t).length →
    Ev (fun k => gatherumlaw09_WordsBack.l0 k t n (W t) i) true := by
  intro m
  have hl := W_len t
  induction m with
  | zero =>
    intro i hi
    obtain ⟨K, h⟩ := last_ t n (W t) rfl hn (W t).length 0 (by omega)
    refine ⟨K + 3, fun k hk => ?_⟩
    obtain ⟨q, rfl⟩ : ∃ q, k = q + 2 := ⟨k - 2, by omega⟩
    have h2 := h q (by omega)
    have hw : wrap64 ((i : Int) + 1) = ((i + 1 : Nat) : Int) := by rw [wr (by omega) (by omega)]; omega
    simp only [gatherumlaw09_WordsBack.l0]
    rw [hw, words_ref t _ (by omega), nth_no (by omega)]
    simp only [Option.bind_some]
    rw [if_pos ((tl_nil _).2 rfl)]
    simp only [gatherumlaw09_WordsBack.j2]
    rw [if_pos (by omega), show (i : Int) = ((W t).length : Int) by omega]
    exact h2
  | succ m ih =>
    intro i hi
    refine ev_step (ih (i + 1) (by omega)) (fun k hk => ?_)
    have hw : wrap64 ((i : Int) + 1) = ((i + 1 : Nat) : Int) := by rw [wr (by omega) (by omega)]; omega
    have hne := W_ne t i (by omega)
    simp only [gatherumlaw09_WordsBack.l0]
    rw [hw, words_ref t _ (by omega), nth_at (by omega), show (((i + 1 : Nat) : Int).toNat - 1) = i by omega]
    simp only [Option.bind_some]
    rw [if_neg (fun q => hne ((tl_nil _).1 q))]
    exact hk

theorem WordsBack : gatherumlaw09_WordsBack.Pure := by
  intro t n _ w1
  have hn := wf_i64 w1
  by_cases ht : 1 ≤ t ∧ t ≤ 4
  · obtain ⟨K, hk⟩ := many_ t n hn (W t).length 0 (by omega)
    refine ⟨K + 1, ?_⟩
    unfold gatherumlaw09_WordsBack.f
    rw [alive_, show ExtWords.words_All.f t = some (W t) from rfl]
    simp only [Option.bind_some, if_true]
    rw [if_pos ht.1, decide_eq_true ht.2]
    simp only [gatherumlaw09_WordsBack.j0, if_true]
    exact hk K (by omega)
  · obtain ⟨K, hk⟩ := last_ t n (W t) rfl hn (W t).length 0 (by omega)
    refine ⟨K + 2, ?_⟩
    unfold gatherumlaw09_WordsBack.f
    rw [alive_, show ExtWords.words_All.f t = some (W t) from rfl]
    simp only [Option.bind_some, if_true]
    have h0 : (W t).length = 0 := by rw [W_other ht]; rfl
    have h2 := hk K (by omega)
    have e : gatherumlaw09_WordsBack.j0 (K + 2) t n (W t) 0 false = some true := by
      simp only [gatherumlaw09_WordsBack.j0, Bool.false_eq_true, if_false, gatherumlaw09_WordsBack.j2]
      rw [if_pos (by omega)]
      rw [h0] at h2
      exact h2
    by_cases h1 : t ≥ 1
    · rw [if_pos h1, decide_eq_false (show ¬ t ≤ 4 by omega)]; exact e
    · rw [if_neg h1]; exact e
end Go.Proofs.YtnfoibgafmeenaaDoor.Pure
