/- Plain words on numbers and their digits: a number comes back from its digits, and no other text is a number's. No program in sight; numbers of 64 bits. -/
import Derived.Test.YthkbomclongjgaaDoorPkLex
import Derived.Lib.ItoaNum
import Derived.Lib.AtoiAll
import Derived.Lib.AtoiAllCases
namespace Go.Proofs.YthkbomclongjgaaDoor.Pk
open Go.RowKit
set_option linter.unusedVariables false
set_option linter.unusedSimpArgs false

def dgt (d : Nat) : UInt8 := UInt8.ofNat (48 + d)
theorem dgt_nat {d : Nat} (h : d < 10) : (dgt d).toNat = 48 + d := by
  unfold dgt
  rw [UInt8.toNat_ofNat']
  omega
/-- The digits of a number above 0. -/
def digs (u : Nat) : List UInt8 := if h : u = 0 then [] else digs (u / 10) ++ [dgt (u % 10)]
termination_by u
decreasing_by omega
theorem digs_zero : digs 0 = [] := by rw [digs]; rfl
theorem digs_pos {u : Nat} (h : u ≠ 0) : digs u = digs (u / 10) ++ [dgt (u % 10)] := by rw [digs, dif_neg h]
theorem decDigits_digs : ∀ (u : Nat), u ≠ 0 → Lib.decDigits u = digs u := by
  intro u
  induction u using Nat.strongRecOn with
  | _ u ih =>
    intro h
    rw [digs_pos h, Lib.decDigits]
    by_cases h10 : u < 10
    · rw [dif_pos h10, show u / 10 = 0 by omega, digs_zero, show u % 10 = u by omega]; rfl
    · rw [dif_neg h10, ih (u / 10) (by omega) (by omega)]; rfl
theorem decDigits_zero : Lib.decDigits 0 = [48] := by rw [Lib.decDigits]; rfl

def isDig (c : UInt8) : Prop := 48 ≤ c.toNat ∧ c.toNat ≤ 57
theorem dgt_dig {d : Nat} (h : d < 10) : isDig (dgt d) := by unfold isDig; rw [dgt_nat h]; omega
theorem digs_dig : ∀ (u : Nat), ∀ c ∈ digs u, isDig c := by
  intro u
  induction u using Nat.strongRecOn with
  | _ u ih =>
    intro c hc
    by_cases h : u = 0
    · subst h; rw [digs_zero] at hc; cases hc
    · rw [digs_pos h] at hc
      rcases List.mem_append.1 hc with hc | hc
      · exact ih (u / 10) (by omega) c hc
      · rw [List.mem_singleton.1 hc]; exact dgt_dig (by omega)
theorem decDigits_dig (u : Nat) : ∀ c ∈ Lib.decDigits u, isDig c := by
  by_cases h : u = 0
  · subst h; rw [decDigits_zero]; intro c hc; rw [List.mem_singleton.1 hc]; exact ⟨by decide, by decide⟩
  · rw [decDigits_digs u h]; exact digs_dig u
theorem digs_len : ∀ (k u : Nat), u < 10 ^ k → (digs u).length ≤ k := by
  intro k
  induction k with
  | zero => intro u h; have : u = 0 := by simpa using h
            subst this; rw [digs_zero]; simp
  | succ k ih =>
    intro u h
    by_cases h0 : u = 0
    · subst h0; rw [digs_zero]; simp
    · rw [digs_pos h0]
      have := ih (u / 10) (by rw [Nat.pow_succ] at h; omega)
      simp; omega
theorem decDigits_ne (u : Nat) : Lib.decDigits u ≠ [] := by
  by_cases h : u = 0
  · subst h; rw [decDigits_zero]; simp
  · rw [decDigits_digs u h, digs_pos h]; simp

/-- What digits say. -/
def valF (a : Nat) (l : List UInt8) : Nat := l.foldl (fun a c => a * 10 + (c.toNat - 48)) a
theorem valF_app (a : Nat) (l m : List UInt8) : valF a (l ++ m) = valF (valF a l) m := by simp [valF]
theorem valF_ge : ∀ (l : List UInt8) (a : Nat), a ≤ valF a l := by
  intro l
  induction l with
  | nil => intro a; exact Nat.le_refl _
  | cons c l ih =>
    intro a
    have := ih (a * 10 + (c.toNat - 48))
    show a ≤ valF (a * 10 + (c.toNat - 48)) l
    omega
theorem valF_digs : ∀ (u : Nat), valF 0 (digs u) = u := by
  intro u
  induction u using Nat.strongRecOn with
  | _ u ih =>
    by_cases h : u = 0
    · subst h; rw [digs_zero]; rfl
    · rw [digs_pos h, valF_app, ih (u / 10) (by omega)]
      show u / 10 * 10 + ((dgt (u % 10)).toNat - 48) = u
      rw [dgt_nat (by omega)]
      omega
theorem valF_decDigits (u : Nat) : valF 0 (Lib.decDigits u) = u := by
  by_cases h : u = 0
  · subst h; rw [decDigits_zero]; rfl
  · rw [decDigits_digs u h, valF_digs]
theorem parse_val : ∀ (l : List UInt8) (a : Nat), (∀ c ∈ l, isDig c) → valF a l < 18446744073709551616 → Lib.parseUint10 a l = .ok (valF a l) := by
  intro l
  induction l with
  | nil => intro a _ _; rfl
  | cons c l ih =>
    intro a hd hv
    have hc := hd c (by simp)
    have hv' : valF (a * 10 + (c.toNat - 48)) l < 18446744073709551616 := hv
    have := valF_ge l (a * 10 + (c.toNat - 48))
    rw [Lib.parseUint10, if_pos (show 48 ≤ c.toNat ∧ c.toNat ≤ 57 from hc), if_neg (by omega), if_neg (by omega), ih _ (fun d hd' => hd d (by simp [hd'])) hv']
    rfl

def In64 (v : Int) : Prop := -9223372036854775808 ≤ v ∧ v ≤ 9223372036854775807
theorem atoi_itoa {v : Int} (h : In64 v) : Lib.atoiAll (Lib.itoa v) = .ok v := by
  unfold In64 at h
  unfold Lib.itoa
  by_cases hn : v < 0
  · rw [if_pos hn]
    have hp := parse_val (Lib.decDigits v.natAbs) 0 (decDigits_dig _) (by rw [valF_decDigits]; omega)
    rw [valF_decDigits] at hp
    unfold Lib.atoiAll
    simp only []
    rw [if_pos (by decide)]
    unfold Lib.parseMag
    rw [if_neg (decDigits_ne _), hp]
    simp only []
    rw [if_neg (by simp), if_neg (by omega), if_pos (by decide)]
    congr 1
    omega
  · rw [if_neg hn]
    have hp := parse_val (Lib.decDigits v.toNat) 0 (decDigits_dig _) (by rw [valF_decDigits]; omega)
    rw [valF_decDigits] at hp
    have hd := decDigits_dig v.toNat
    have hne := decDigits_ne v.toNat
    rcases hl : Lib.decDigits v.toNat with _ | ⟨c, r⟩
    · exact absurd hl hne
    · rw [hl] at hp hd
      have hc := hd c (by simp)
      unfold isDig at hc
      unfold Lib.atoiAll
      simp only []
      rw [if_neg (by omega)]
      unfold Lib.parseMag
      rw [if_neg (by simp), hp]
      simp only []
      rw [if_neg (by omega), if_neg (by omega), if_neg (by omega)]
      congr 1
      omega
theorem itoa_inj {v w : Int} (hv : In64 v) (hw : In64 w) (h : Lib.itoa v = Lib.itoa w) : v = w := by
  have a := atoi_itoa hv
  rw [h, atoi_itoa hw] at a
  injection a with a
  exact a.symm
theorem itoa_len {v : Int} (h : In64 v) : (Lib.itoa v).length ≤ 20 := by
  unfold In64 at h
  have hl : ∀ u : Nat, u ≤ 9223372036854775808 → (Lib.decDigits u).length ≤ 19 := by
    intro u hu
    by_cases h0 : u = 0
    · subst h0; rw [decDigits_zero]; decide
    · rw [decDigits_digs u h0]; exact digs_len 19 u (by omega)
  unfold Lib.itoa
  split
  · have := hl v.natAbs (by omega); simp; omega
  · have := hl v.toNat (by omega); omega
theorem itoa_ne (v : Int) : Lib.itoa v ≠ [] := by
  unfold Lib.itoa
  split
  · simp
  · exact decDigits_ne _
end Go.Proofs.YthkbomclongjgaaDoor.Pk
