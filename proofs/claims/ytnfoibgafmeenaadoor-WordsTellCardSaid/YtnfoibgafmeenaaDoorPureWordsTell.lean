/- The pure statement of WordsTell: each kind has its word, and no other one. No condition beyond the statement's own. -/
import Derived.Test.YtnfoibgafmeenaaDoorPWordsTellx2
import Derived.Test.YtnfoibgafmeenaaDoorPk
namespace Go.Proofs.YtnfoibgafmeenaaDoor.Pure.WordsTellSim
open Go.RowKit Go.Proofs.YtnfoibgafmeenaaDoor.PWordsTell Go.Proofs.YtnfoibgafmeenaaDoorW.PrintWords Go.Proofs.YtnfoibgafmeenaaDoorW.PrintLast Go.Proofs.YtnfoibgafmeenaaDoor.Pk
set_option linter.unusedSimpArgs false
set_option linter.unusedVariables false

/-- The words of a table, as strings. -/
abbrev W (t : Int) : List ByteArray := (ExtWords.wordsL t).map fun l => ⟨l.toArray⟩
def nthL (L : List ByteArray) (n : Int) : ByteArray := if 1 ≤ n ∧ n ≤ L.length then L.getD (n.toNat - 1) ByteArray.empty else ⟨#[]⟩
def G (L : List ByteArray) (a1 : Int) : Option ByteArray := if a1 < 1 then (some (⟨#[]⟩ : ByteArray)) else (if a1 > (L.length : Int) then (some (⟨#[]⟩ : ByteArray)) else (if 0 ≤ (wrap64 (a1 - 1)) then (if (wrap64 (a1 - 1)) < (L.length : Int) then (some (rdOf ByteArray.empty L (wrap64 (a1 - 1)))) else (none)) else (none)))
theorem G_nth (L : List ByteArray) (n : Int) (h : -9223372036854775808 ≤ n ∧ n ≤ 9223372036854775807) : G L n = some (nthL L n) := by
  unfold G nthL
  by_cases h1 : n < 1
  · rw [if_pos h1, if_neg (by omega)]
  · rw [if_neg h1]
    by_cases h2 : n > (L.length : Int)
    · rw [if_pos h2, if_neg (by omega)]
    · rw [if_neg h2, wr (by omega) (by omega), if_pos (by omega), if_pos (by omega), if_pos (by omega)]
      unfold rdOf
      rw [show (n - 1).toNat = n.toNat - 1 by omega]
theorem put_G (t n : Int) : words_Put.f t n = G (W t) n := rfl
theorem W_other {t : Int} (h : ¬ (1 ≤ t ∧ t ≤ 4)) : W t = [] := by
  unfold W ExtWords.wordsL
  rw [if_neg (by omega), if_neg (by omega), if_neg (by omega), if_neg (by omega)]
  rfl
theorem W_len (t : Int) : (W t).length ≤ 7 := by
  unfold W ExtWords.wordsL
  rw [List.length_map]
  split
  · decide
  · split
    · decide
    · split
      · decide
      · split <;> decide
theorem word_G (t n : Int) : gatherumref09_Word.f t n = G (W t) n := by
  unfold gatherumref09_Word.f
  by_cases h1 : t = 1
  · subst h1; rfl
  · by_cases h2 : t = 2
    · subst h2; rfl
    · by_cases h3 : t = 3
      · subst h3; rfl
      · by_cases h4 : t = 4
        · subst h4; rfl
        · simp only [Option.bind_some]
          rw [if_neg h1, if_neg h2, if_neg h3, if_neg h4, W_other (by omega)]
          unfold G
          rfl
theorem words_put (t n : Int) (h : -9223372036854775808 ≤ n ∧ n ≤ 9223372036854775807) : words_Put.f t n = some (nthL (W t) n) := by rw [put_G, G_nth _ _ h]
theorem words_ref (t n : Int) (h : -9223372036854775808 ≤ n ∧ n ≤ 9223372036854775807) : gatherumref09_Word.f t n = some (nthL (W t) n) := by rw [word_G, G_nth _ _ h]
theorem words_get (t : Int) (s : ByteArray) : ExtGet.words_Get.f t s = some (Lib.idxOfS (W t) s + 1, decide (0 < Lib.idxOfS (W t) s + 1)) := rfl
theorem alive_ : gatherumlaw09_alive.f = some true := by kernel_rfl
theorem tl_eq (a b : ByteArray) : a.toList = b.toList ↔ a = b := by
  rw [ByteArray.toList_eq, ByteArray.toList_eq]
  exact ⟨fun h => ext_ _ _ h, fun h => by rw [h]⟩
theorem tl_nil (a : ByteArray) : a.toList = ([] : List UInt8) ↔ a = ⟨#[]⟩ := by
  rw [← tl_eq, show (⟨#[]⟩ : ByteArray).toList = [] by rw [ByteArray.toList_eq]]
def chk (L : List ByteArray) : Bool := (List.range L.length).all fun i => decide ((L.getD i ByteArray.empty).toList ≠ []) && decide (Lib.idxOfS L (L.getD i ByteArray.empty) = (i : Int))
theorem chk_W (t : Int) : chk (W t) = true := by
  by_cases h1 : t = 1
  · subst h1; kernel_rfl
  · by_cases h2 : t = 2
    · subst h2; kernel_rfl
    · by_cases h3 : t = 3
      · subst h3; kernel_rfl
      · by_cases h4 : t = 4
        · subst h4; kernel_rfl
        · rw [W_other (by omega)]; rfl
theorem W_ne (t : Int) (i : Nat) (h : i < (W t).length) : (W t).getD i ByteArray.empty ≠ ⟨#[]⟩ := by
  have := List.all_eq_true.1 (chk_W t) i (List.mem_range.2 h)
  simp only [Bool.and_eq_true, decide_eq_true_eq] at this
  exact fun e => this.1 ((tl_nil _).2 e)
theorem W_idx (t : Int) (i : Nat) (h : i < (W t).length) : Lib.idxOfS (W t) ((W t).getD i ByteArray.empty) = (i : Int) := by
  have := List.all_eq_true.1 (chk_W t) i (List.mem_range.2 h)
  simp only [Bool.and_eq_true, decide_eq_true_eq] at this
  exact this.2
theorem nth_at {L : List ByteArray} {n : Int} (h : 1 ≤ n ∧ n ≤ L.length) : nthL L n = L.getD (n.toNat - 1) ByteArray.empty := by unfold nthL; rw [if_pos h]
theorem nth_no {L : List ByteArray} {n : Int} (h : ¬ (1 ≤ n ∧ n ≤ L.length)) : nthL L n = ⟨#[]⟩ := by unfold nthL; rw [if_neg h]
end Go.Proofs.YtnfoibgafmeenaaDoor.Pure.WordsTellSim
namespace Go.Proofs.YtnfoibgafmeenaaDoor.Pure
open Go.RowKit Go.Proofs.YtnfoibgafmeenaaDoor.PWordsTell Go.Proofs.YtnfoibgafmeenaaDoorW.PrintWords Go.Proofs.YtnfoibgafmeenaaDoorW.PrintLast Go.Proofs.YtnfoibgafmeenaaDoor.Pk WordsTellSim

theorem find_at (t : Int) (s : ByteArray) : ∀ (m n : Nat), n + m = 8 → 1 ≤ n → Ev (fun k => gatherumref09_Find.l0 k t s n) (Lib.idxFromS ((W t).drop (n - 1)) s (n - 1) + 1) := by
  intro m
  induction m with
  | zero =>
    intro n h1 h2
    refine ev_end (fun k => ?_)
    have hL := W_len t
    simp only [gatherumref09_Find.l0]
    rw [if_neg (by omega), List.drop_eq_nil_of_le (by omega)]
    rfl
  | succ m ih =>
    intro n h1 h2
    have hL := W_len t
    have h3 := ih (n + 1) (by omega) (by omega)
    rw [show n + 1 - 1 = n by omega] at h3
    have hw : wrap64 ((n : Int) + 1) = ((n + 1 : Nat) : Int) := by rw [wr (by omega) (by omega)]; omega
    by_cases hs : s = ⟨#[]⟩
    · have e : Lib.idxFromS ((W t).drop (n - 1)) s (n - 1) = Lib.idxFromS ((W t).drop n) s n := by
        by_cases hl : n ≤ (W t).length
        · rw [List.drop_eq_getElem_cons (by omega : n - 1 < (W t).length)]
          have hne := W_ne t (n - 1) (by omega)
          rw [List.getD_eq_getElem?_getD, List.getElem?_eq_getElem (by omega : n - 1 < (W t).length)] at hne
          simp only [Option.getD_some] at hne
          rw [show n - 1 + 1 = n by omega]
          simp only [Lib.idxFromS]
          rw [if_neg (fun q => hne (q.trans hs)), show n - 1 + 1 = n by omega]
        · rw [List.drop_eq_nil_of_le (by omega), List.drop_eq_nil_of_le (by omega)]; rfl
      rw [e]
      refine ev_step h3 (fun k hk => ?_)
      simp only [gatherumref09_Find.l0]
      rw [if_pos (by omega), if_pos ((tl_nil s).2 hs), hw]
      exact hk
    · by_cases hl : n ≤ (W t).length
      · rw [List.drop_eq_getElem_cons (by omega : n - 1 < (W t).length), show n - 1 + 1 = n by omega]
        have hg : nthL (W t) n = (W t)[n - 1]'(by omega) := by
          rw [nth_at (by omega), show ((n : Int).toNat - 1) = n - 1 by omega, List.getD_eq_getElem?_getD, List.getElem?_eq_getElem (by omega : n - 1 < (W t).length)]
          rfl
        simp only [Lib.idxFromS]
        by_cases he : (W t)[n - 1]'(by omega) = s
        · rw [if_pos he]
          refine ev_end (fun k => ?_)
          simp only [gatherumref09_Find.l0]
          rw [if_pos (by omega), if_neg (fun q => hs ((tl_nil s).1 q)), words_ref t n (by omega)]
          simp only [Option.bind_some]
          rw [if_pos ((tl_eq _ _).2 (hg.trans he))]
          congr 1; omega
        · rw [if_neg he, show n - 1 + 1 = n by omega]
          refine ev_step h3 (fun k hk => ?_)
          simp only [gatherumref09_Find.l0]
          rw [if_pos (by omega), if_neg (fun q => hs ((tl_nil s).1 q)), words_ref t n (by omega)]
          simp only [Option.bind_some]
          rw [if_neg (fun q => he (hg.symm.trans ((tl_eq _ _).1 q))), hw]
          exact hk
      · rw [List.drop_eq_nil_of_le (by omega)] at h3 ⊢
        refine ev_step h3 (fun k hk => ?_)
        simp only [gatherumref09_Find.l0]
        rw [if_pos (by omega), if_neg (fun q => hs ((tl_nil s).1 q)), words_ref t n (by omega)]
        simp only [Option.bind_some]
        rw [nth_no (by omega), if_neg (fun q => hs ((tl_eq _ _).1 q).symm), hw]
        exact hk
theorem find_all (t : Int) (s : ByteArray) : Ev (fun k => gatherumref09_Find.f k t s) (Lib.idxOfS (W t) s + 1) := find_at t s 7 1 rfl (by omega)

theorem WordsTell : gatherumlaw09_WordsTell.Pure := by
  intro t n s _ w1 _
  have hn := wf_i64 w1
  by_cases ht : 1 ≤ t ∧ t ≤ 4
  · obtain ⟨K, hk⟩ := find_all t s
    refine ⟨K + 4, ?_⟩
    have hf : gatherumref09_Find.f (K + 3) t s = some (Lib.idxOfS (W t) s + 1) := hk _ (by omega)
    unfold gatherumlaw09_WordsTell.f
    rw [alive_, words_get]
    simp only [Option.bind_some, if_true]
    rw [if_pos ht.1, decide_eq_true ht.2]
    simp only [gatherumlaw09_WordsTell.j0, if_true]
    rw [hf]
    simp only [Option.bind_some, gatherumlaw09_WordsTell.j1, if_true, gatherumlaw09_WordsTell.j2]
    rw [if_neg (by simp), if_neg (by omega), decide_eq_false (by omega)]
    simp only [gatherumlaw09_WordsTell.j3, Bool.false_eq_true, if_false]
    rw [words_put t n hn, words_ref t n hn]
    simp
  · refine ⟨4, ?_⟩
    have hj : ∀ k, gatherumlaw09_WordsTell.j2 (k + 2) t n false = some true := by
      intro k
      have h3 : gatherumlaw09_WordsTell.j3 (k + 1) t n true = some true := by
        simp only [gatherumlaw09_WordsTell.j3, if_true]
        rw [words_put t n hn, W_other ht, nth_no (by simp <;> omega)]
        simp only [Option.bind_some]
        rw [(tl_nil _).2 rfl]; rfl
      simp only [gatherumlaw09_WordsTell.j2, Bool.false_eq_true, if_false]
      by_cases h1 : t < 1
      · rw [if_pos h1]; exact h3
      · rw [if_neg h1, decide_eq_true (by omega)]; exact h3
    unfold gatherumlaw09_WordsTell.f
    rw [alive_, words_get, W_other ht]
    simp only [Option.bind_some, if_true]
    have e : (if t ≥ 1 then gatherumlaw09_WordsTell.j0 4 t n s (Lib.idxOfS [] s + 1) (decide (0 < Lib.idxOfS [] s + 1)) 0 (decide (t ≤ 4)) else gatherumlaw09_WordsTell.j0 4 t n s (Lib.idxOfS [] s + 1) (decide (0 < Lib.idxOfS [] s + 1)) 0 false) = gatherumlaw09_WordsTell.j0 4 t n s 0 false 0 false := by
      by_cases h1 : t ≥ 1
      · rw [if_pos h1, decide_eq_false (show ¬ t ≤ 4 by omega)]; rfl
      · rw [if_neg h1]; rfl
    rw [e]
    simp only [gatherumlaw09_WordsTell.j0, Bool.false_eq_true, if_false, gatherumlaw09_WordsTell.j1, if_true]
    exact hj 0
end Go.Proofs.YtnfoibgafmeenaaDoor.Pure
