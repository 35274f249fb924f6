/- Contracts of dec.Put, dec.Get, words.All and strings.Join's use, out of the shelf's contracts of strconv.Itoa, strconv.Atoi, strings.Fields and strings.Join; the conditions: the library's tables and errors lie as listed, and texts are not longer than a machine's memory. -/
import Derived.Test.YthkbomclongjgaaDoorProg
import Derived.Test.YthkbomclongjgaaDoorShelfDec
import Derived.Test.YthkbomclongjgaaDoorExtLex
import Derived.WalkSmall
import Derived.Lib.AppendIntMem
import Derived.Lib.AtoiErrMem
import Derived.Lib.ItoaLen
import Derived.Lib.LaidTab
import Derived.Stop.LaidErr
import Derived.WalkSpells
import Derived.Outline
namespace Go.Proofs.YthkbomclongjgaaDoor.ExtBase
open Go.RowKit Go.Proofs.YthkbomclongjgaaDoorW.PrintWords Go.Proofs.YthkbomclongjgaaDoorW.PrintMore
set_option linter.unusedVariables false
set_option linter.unusedSimpArgs false

theorem tab_below {w w' : World} {n : String} {k : IntKind} {zs : List Int} (h : Lib.TabIs Tryd.prog w n k zs) (hb : Below w.heap.size w w') : Lib.TabIs Tryd.prog w' n k zs := by
  unfold Lib.TabIs World.var? at h ⊢
  cases hg : Tryd.prog.globalNamed n with
  | none => simp [hg] at h
  | some g =>
    simp only [hg, Option.bind_some] at h ⊢
    have hlt : g < w.heap.size := by
      rcases Nat.lt_or_ge g w.heap.size with h' | h'
      · exact h'
      · simp [Array.getElem?_eq_none h'] at h
    rw [hb.block g hlt]
    exact h

open Names (pow10 spaces)
/-- The table of powers of ten. -/
structure GP (w : World) : Prop where
  tab : Lib.TabIs Tryd.prog w pow10 .u64 Lib.pow10Tab
/-- The two errors. -/
structure GE (w : World) : Prop where
  syn : ∃ ev, w.cell? ⟨0, 0, none⟩ = some ev ∧ (ev = .nilIface ∨ ∃ te pe, ev = .iface te pe)
  rng : ∃ ev, w.cell? ⟨1, 0, none⟩ = some ev ∧ (ev = .nilIface ∨ ∃ te pe, ev = .iface te pe)
/-- The table of blanks. -/
structure GS (w : World) : Prop where
  tab : Lib.TabIs Tryd.prog w spaces .u8 Lib.asciiSpaceTab
theorem GP.below {w w' : World} (h : GP w) (hb : Below w.heap.size w w') : GP w' := ⟨tab_below h.tab hb⟩
theorem GS.below {w w' : World} (h : GS w) (hb : Below w.heap.size w w') : GS w' := ⟨tab_below h.tab hb⟩
theorem GE.below {w w' : World} (h : GE w) (hb : Below w.heap.size w w') : GE w' := by
  obtain ⟨⟨e1, h1, k1⟩, ⟨e2, h2, k2⟩⟩ := h
  exact ⟨⟨e1, pw_cell_below hb h1, k1⟩, ⟨e2, pw_cell_below hb h2, k2⟩⟩

/-! #### dec -/
def dec_Put.f (a0 : Int) : Option ByteArray := if -9223372036854775808 ≤ a0 ∧ a0 ≤ 9223372036854775807 then some ⟨(Lib.itoa a0).toArray⟩ else none
theorem dec_Put.calls (a0 : Int) (r : ByteArray) (w : World) (hG : GP w) (h : dec_Put.f a0 = some r) :
    Calls Tryd.prog 30 #[.int .i64 a0] w fun e w' => e = .returned (.string r) ∧ Below w.heap.size w w' := by
  unfold dec_Put.f at h
  split at h
  · rename_i hs
    obtain rfl := Option.some.inj h
    clear h
    have HS := Aside0.mk hs
    clear hs
    go_enter Tryd.func30, Tryd.ntmps30
    go_wp2_with (go_at_call 60; refine (Tryd.strconv_Itoa a0 HS.out.1 HS.out.2 _ hG.tab).mono ?_; rintro e w' ⟨rfl, k, os, rfl⟩)
    go_ret
    exact ⟨rfl, Lib.below_grow _ _ (Nat.le_refl _) _ _⟩
  · cases h

/-- The number whose digits these are. -/
def getDec (l : List UInt8) : Int × Bool := match Lib.atoiAll l with
  | .ok v => if Lib.itoa v = l then (v, true) else (0, false)
  | _ => (0, false)
def dec_Get.f (a0 : ByteArray) : Option (Int × Bool) := if a0.size ≤ 281474976710656 then some (getDec a0.data.toList) else none


theorem string_ne (a b : ByteArray) : (a.data.toList = b.data.toList) ↔ a.toList = b.toList := by rw [ByteArray.toList_eq, ByteArray.toList_eq]

theorem atoi_world {w w' : World} (h : w' = w ∨ ∃ t, w' = Lib.bytesWorld w 5 t) : Below w.heap.size w w' := by
  rcases h with rfl | ⟨t, rfl⟩
  · exact Below.refl _ _
  · exact Lib.bytesWorld_below _ _ _

theorem dec_Get.calls_ok (a0 : ByteArray) (v : Int) (w : World) (hP : GP w) (hs : a0.size ≤ 281474976710656) (ha : Lib.atoiAll a0.data.toList = .ok v) :
    Calls Tryd.prog 29 #[.string a0] w fun e w' => e = .returned (.tuple #[.int .i64 (getDec a0.data.toList).1, .bool (getDec a0.data.toList).2]) ∧ Below w.heap.size w w' := by
  have hb := Lib.atoiAll_bounds ha
  have hput := fun (W : World) (hG : GP W) => dec_Put.calls v ⟨(Lib.itoa v).toArray⟩ W hG (by unfold dec_Put.f; rw [if_pos hb])
  have hd : getDec a0.data.toList = if Lib.itoa v = a0.data.toList then (v, true) else (0, false) := by unfold getDec; rw [ha]
  rw [hd]
  have HS := Aside0.mk hs
  have HA := Aside0.mk ha
  have HP := Aside0.mk hP
  clear hb hs ha hP hd
  by_cases he : Lib.itoa v = a0.data.toList
  · rw [if_pos he]
    have e2 : (!(Lib.itoa v == a0.toList)) = false := by rw [ByteArray.toList_eq]; simpa using he
    have e3 := Aside0.mk he
    clear he
    go_enter Tryd.func29, Tryd.ntmps29
    go_wp2_with fail
    refine (Tryd.strconv_Atoi_ok a0 (by have := HS.out; omega) v HA.out _).mono ?_
    rintro e w1 ⟨rfl, hw⟩
    have HB := Aside0.mk (atoi_world hw)
    clear hw
    go_wp2_with (go_at_call 30; refine (hput _ (HP.out.below HB.out)).mono ?_; rintro e w2 ⟨rfl, hb2⟩; have HB2 := Aside0.mk hb2; clear hb2)
    all_goals (go_ret2; first | exact ⟨rfl, HB.out.trans (HB2.out.mono HB.out.size)⟩ | exact ⟨by simp [e3.out], HB.out.trans (HB2.out.mono HB.out.size)⟩)
  · rw [if_neg he]
    have e2 : (!(Lib.itoa v == a0.toList)) = true := by rw [ByteArray.toList_eq]; simpa using he
    have e3 := Aside0.mk he
    clear he
    go_enter Tryd.func29, Tryd.ntmps29
    go_wp2_with fail
    refine (Tryd.strconv_Atoi_ok a0 (by have := HS.out; omega) v HA.out _).mono ?_
    rintro e w1 ⟨rfl, hw⟩
    have HB := Aside0.mk (atoi_world hw)
    clear hw
    go_wp2_with (go_at_call 30; refine (hput _ (HP.out.below HB.out)).mono ?_; rintro e w2 ⟨rfl, hb2⟩; have HB2 := Aside0.mk hb2; clear hb2)
    all_goals (go_ret2; first | exact ⟨rfl, HB.out.trans (HB2.out.mono HB.out.size)⟩ | exact ⟨by simp [e3.out], HB.out.trans (HB2.out.mono HB.out.size)⟩)

theorem dec_Get.calls (a0 : ByteArray) (r1 : Int) (r2 : Bool) (w : World) (hG : GP w ∧ GE w) (h : dec_Get.f a0 = some (r1, r2)) :
    Calls Tryd.prog 29 #[.string a0] w fun e w' => e = .returned (.tuple #[.int .i64 r1, .bool r2]) ∧ Below w.heap.size w w' := by
  unfold dec_Get.f at h
  split at h
  · rename_i hs
    have h := Option.some.inj h
    obtain ⟨hP, hE⟩ := hG
    rcases ha : Lib.atoiAll a0.data.toList with v | _ | _
    · have := dec_Get.calls_ok a0 v w hP hs ha
      rw [h] at this
      exact this
    · obtain ⟨ev1, hv1, he1⟩ := hE.syn
      have hd : getDec a0.data.toList = (0, false) := by unfold getDec; rw [ha]
      rw [hd] at h
      simp only [Prod.mk.injEq] at h
      obtain ⟨rfl, rfl⟩ := h
      have HS := Aside0.mk hs
      have HA := Aside0.mk ha
      have HV := Aside0.mk hv1
      have HE := Aside0.mk he1
      clear hs ha hv1 he1 hd
      go_enter Tryd.func29, Tryd.ntmps29
      go_wp2_with fail
      refine (Tryd.strconv_Atoi_syntax a0 HS.out HA.out ev1 _ HV.out HE.out).mono ?_
      rintro e w1 ⟨N, rfl, _, _, hb⟩
      have HB := Aside0.mk hb
      clear hb
      go_wp2
      go_ret2
      exact ⟨rfl, HB.out⟩
    · obtain ⟨ev1, hv1, he1⟩ := hE.rng
      have hd : getDec a0.data.toList = (0, false) := by unfold getDec; rw [ha]
      rw [hd] at h
      simp only [Prod.mk.injEq] at h
      obtain ⟨rfl, rfl⟩ := h
      have HS := Aside0.mk hs
      have HA := Aside0.mk ha
      have HV := Aside0.mk hv1
      have HE := Aside0.mk he1
      clear hs ha hv1 he1 hd
      go_enter Tryd.func29, Tryd.ntmps29
      go_wp2_with fail
      refine (Tryd.strconv_Atoi_range a0 HS.out HA.out ev1 _ HV.out HE.out).mono ?_
      rintro e w1 ⟨N, rfl, _, _, hb⟩
      have HB := Aside0.mk hb
      clear hb
      go_wp2
      go_ret2
      exact ⟨rfl, HB.out⟩
  · cases h
end Go.Proofs.YthkbomclongjgaaDoor.ExtBase
