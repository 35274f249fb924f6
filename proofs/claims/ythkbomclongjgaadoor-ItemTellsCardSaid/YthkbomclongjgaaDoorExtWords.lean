/- The contract of words.All (strings.Fields of a constant), out of the shelf's contract of strings.Fields; its condition: the library's table of blanks lies as listed. -/
import Derived.Test.YthkbomclongjgaaDoorExtBase
namespace Go.Proofs.YthkbomclongjgaaDoor.ExtWords
open Go.RowKit Go.Proofs.YthkbomclongjgaaDoorW.PrintWords Go.Proofs.YthkbomclongjgaaDoorW.PrintMore Go.Proofs.YthkbomclongjgaaDoor.ExtBase
set_option linter.unusedVariables false
set_option linter.unusedSimpArgs false

def text (t : Int) : ByteArray := if t = 1 then ⟨#[115, 97, 100, 100, 108, 101, 32, 112, 101, 114, 102, 101, 99, 116, 32, 115, 116, 97, 99, 107, 32, 99, 111, 109, 101, 103, 111]⟩ else
  if t = 2 then ⟨#[115, 104, 101, 101, 116, 119, 105, 115, 101, 32, 112, 101, 114, 102, 101, 99, 116, 105, 110, 103, 32, 116, 117, 114, 110, 32, 116, 117, 109, 98, 108, 101]⟩ else
  if t = 3 then ⟨#[76, 32, 82, 32, 66, 32, 84]⟩ else
  if t = 4 then ⟨#[112, 97, 103, 101, 32, 99, 114, 111, 112, 32, 99, 114, 101, 97, 115, 101, 32, 99, 101, 110, 116, 114, 101, 32, 115, 116, 97, 105, 114, 32, 98, 97, 114, 32, 110, 111, 116, 101]⟩ else ⟨#[]⟩
/-- The words of a table. -/
def wordsL (t : Int) : List (List UInt8) := if t = 1 then [[115, 97, 100, 100, 108, 101], [112, 101, 114, 102, 101, 99, 116], [115, 116, 97, 99, 107], [99, 111, 109, 101, 103, 111]] else
  if t = 2 then [[115, 104, 101, 101, 116, 119, 105, 115, 101], [112, 101, 114, 102, 101, 99, 116, 105, 110, 103], [116, 117, 114, 110], [116, 117, 109, 98, 108, 101]] else
  if t = 3 then [[76], [82], [66], [84]] else
  if t = 4 then [[112, 97, 103, 101], [99, 114, 111, 112], [99, 114, 101, 97, 115, 101], [99, 101, 110, 116, 114, 101], [115, 116, 97, 105, 114], [98, 97, 114], [110, 111, 116, 101]] else []
theorem text_words (t : Int) : Lib.fields (text t).data.toList = wordsL t := by
  unfold text wordsL
  by_cases h1 : t = 1
  · rw [if_pos h1, if_pos h1]; kernel_rfl
  · rw [if_neg h1, if_neg h1]
    by_cases h2 : t = 2
    · rw [if_pos h2, if_pos h2]; kernel_rfl
    · rw [if_neg h2, if_neg h2]
      by_cases h3 : t = 3
      · rw [if_pos h3, if_pos h3]; kernel_rfl
      · rw [if_neg h3, if_neg h3]
        by_cases h4 : t = 4
        · rw [if_pos h4, if_pos h4]; kernel_rfl
        · rw [if_neg h4, if_neg h4]; kernel_rfl
theorem text_size (t : Int) : (text t).size < 4294967281 := by
  unfold text
  split
  · decide
  · split
    · decide
    · split
      · decide
      · split <;> decide
theorem text_ascii (t : Int) : ∀ (j : Nat) b, (text t).data.toList[j]? = some b → b.toNat < 128 := by
  have h : ∀ l : List UInt8, l.all (fun b => decide (b.toNat < 128)) = true → ∀ (j : Nat) b, l[j]? = some b → b.toNat < 128 := by
    intro l hl j b hb
    have := List.all_eq_true.1 hl b (List.mem_of_getElem? hb)
    simpa using this
  apply h
  unfold text
  split
  · decide
  · split
    · decide
    · split
      · decide
      · split <;> decide
def words_All.f (a0 : Int) : Option (List ByteArray) := some ((wordsL a0).map fun l => ⟨l.toArray⟩)
theorem words_All.calls (a0 : Int) (r : List ByteArray) (w : World) (hG : GS w) (h : words_All.f a0 = some r) :
    Calls Tryd.prog 97 #[.int .i64 a0] w fun e w' => ∃ v0_ : Value, e = .returned v0_ ∧ Kd.R Kd.string 9 w' w.heap.size (fun _ => True) v0_ r ∧ Below w.heap.size w w' := by
  obtain rfl := Option.some.inj h
  clear h
  have hc := Tryd.strings_Fields_laid (text a0) w (text_size a0) (text_ascii a0) hG.tab
  rw [text_words] at hc
  have HG := Aside0.mk hG
  clear hG
  have fin : ∀ (W : World), ∃ v0_ : Value, (Ending.returned (.slice (some ⟨W.heap.size, 0, none⟩) (wordsL a0).length (wordsL a0).length) = .returned v0_) ∧ Kd.R Kd.string 9 (W.alloc (.cells ((wordsL a0).map fun l => Value.string ⟨l.toArray⟩).toArray 9)) W.heap.size (fun _ => True) v0_ ((wordsL a0).map fun l => (⟨l.toArray⟩ : ByteArray)) ∧ Below W.heap.size W (W.alloc (.cells ((wordsL a0).map fun l => Value.string ⟨l.toArray⟩).toArray 9)) := by
    intro W
    have hm : ((wordsL a0).map fun l => (⟨l.toArray⟩ : ByteArray)).length ≤ maxLen := by
      unfold wordsL maxLen
      split
      · decide
      · split
        · decide
        · split
          · decide
          · split <;> decide
    have := ExtLex.R_scalars Value.string (fun _ => rfl) W ((wordsL a0).map fun l => (⟨l.toArray⟩ : ByteArray)) 9 hm
    rw [List.map_map, List.length_map] at this
    exact ⟨_, rfl, this, below_alloc (Below.refl _ _) _⟩
  by_cases h1 : a0 = 1
  · subst h1
    go_enter Tryd.func97, Tryd.ntmps97
    go_wp2_with (go_at_call 120; refine hc.mono ?_; rintro e w' ⟨rfl, rfl⟩)
    go_ret
    exact fin w
  · by_cases h2 : a0 = 2
    · subst h2
      go_enter Tryd.func97, Tryd.ntmps97
      go_wp2_with (go_at_call 120; refine hc.mono ?_; rintro e w' ⟨rfl, rfl⟩)
      go_ret
      exact fin w
    · by_cases h3 : a0 = 3
      · subst h3
        go_enter Tryd.func97, Tryd.ntmps97
        go_wp2_with (go_at_call 120; refine hc.mono ?_; rintro e w' ⟨rfl, rfl⟩)
        go_ret
        exact fin w
      · by_cases h4 : a0 = 4
        · subst h4
          go_enter Tryd.func97, Tryd.ntmps97
          go_wp2_with (go_at_call 120; refine hc.mono ?_; rintro e w' ⟨rfl, rfl⟩)
          go_ret
          exact fin w
        · have et : text a0 = ⟨#[]⟩ := by unfold text; rw [if_neg h1, if_neg h2, if_neg h3, if_neg h4]
          rw [et] at hc
          have e1 : (a0 == 1) = false := beq_eq_false_iff_ne.2 h1
          have e2 : (a0 == 2) = false := beq_eq_false_iff_ne.2 h2
          have e3 : (a0 == 3) = false := beq_eq_false_iff_ne.2 h3
          have e4 : (a0 == 4) = false := beq_eq_false_iff_ne.2 h4
          clear h1 h2 h3 h4 et
          go_enter Tryd.func97, Tryd.ntmps97
          go_wp2_with (go_at_call 120; refine hc.mono ?_; rintro e w' ⟨rfl, rfl⟩)
          go_ret
          exact fin w
end Go.Proofs.YthkbomclongjgaaDoor.ExtWords
