/- The library's tables, and words.Put, dec.Put and step.Put, as contracts on the abstract machine. The condition: the library's tables lie as listed. -/
import Derived.Test.YtdijdlkljeibjaaDoorFoC
import Derived.Test.YtdijdlkljeibjaaDoorAm25
import Derived.Test.YtdijdlkljeibjaaDoorShelf
import Derived.Lib.ItoaLen
import Derived.Lib.LaidTab
import Derived.MakeChecks
import Derived.Stop.LaidErr
import Derived.Lib.AppendIntMem
namespace Go.Proofs.YtdijdlkljeibjaaDoor.AM
open Go Go.RowKit
set_option cbv.warning false
set_option maxRecDepth 100000
set_option linter.unusedVariables false
set_option linter.unusedSimpArgs false
theorem bodied_38 : Bodied Tryd.prog 38 := ⟨Tryd.f38, by kernel_rfl, by kernel_rfl, by kernel_rfl⟩
theorem bodied_39 : Bodied Tryd.prog 39 := ⟨Tryd.f39, by kernel_rfl, by kernel_rfl, by kernel_rfl⟩
theorem bodied_40 : Bodied Tryd.prog 40 := ⟨Tryd.f40, by kernel_rfl, by kernel_rfl, by kernel_rfl⟩
theorem bodied_56 : Bodied Tryd.prog 56 := ⟨Tryd.f56, by kernel_rfl, by kernel_rfl, by kernel_rfl⟩
theorem bodied_57 : Bodied Tryd.prog 57 := ⟨Tryd.f57, by kernel_rfl, by kernel_rfl, by kernel_rfl⟩
theorem bodied_65 : Bodied Tryd.prog 65 := ⟨Tryd.f65, by kernel_rfl, by kernel_rfl, by kernel_rfl⟩
theorem bodied_20 : Bodied Tryd.prog 20 := ⟨Tryd.f20, by kernel_rfl, by kernel_rfl, by kernel_rfl⟩
theorem tab_below {w w' : World} {B : Nat} {n : String} {k : IntKind} {zs : List Int} (h : Lib.TabIs Tryd.prog w n k zs) (hb : Below w.heap.size w w') : Lib.TabIs Tryd.prog w' n k zs := by
  unfold Lib.TabIs World.var? at h ⊢
  cases hg : Tryd.prog.globalNamed n with
  | none => simp [hg] at h
  | some g =>
    simp only [hg, Option.bind_some] at h ⊢
    have hlt : g < w.heap.size := by
      rcases Nat.lt_or_ge g w.heap.size with h' | h'
      · exact h'
      · simp [Array.getElem?_eq_none h'] at h
    rw [hb.block g hlt]
    exact h
/-- The library's tables. -/
structure GL (w : World) : Prop where
  p : Lib.TabIs Tryd.prog w Names.pow10 .u64 Lib.pow10Tab
  s : Lib.TabIs Tryd.prog w Names.spaces .u8 Lib.asciiSpaceTab
theorem GL.below {w w' : World} (h : GL w) (hb : Below w.heap.size w w') : GL w' := ⟨tab_below (B := 0) h.p hb, tab_below (B := 0) h.s hb⟩
theorem spacesData : (Rows.laid_strings_asciiSpace : DataW Unit) = Lib.tabData .u8 Lib.asciiSpaceTab := by kernel_rfl
theorem powData : (Rows.laid_internal_strconv_uint64pow10 : DataW Unit) = Lib.tabData .u64 Lib.pow10Tab := by kernel_rfl
theorem gp_of {W : World} {l : List (String × DataW Unit)} {d : DataW Unit} (h : laidMet Tryd.prog ((Names.pow10, d) :: l) W) (e : d = Lib.tabData .u64 Lib.pow10Tab) : Lib.TabIs Tryd.prog W Names.pow10 .u64 Lib.pow10Tab := by
  subst e
  exact Lib.tabIs_of_head (g := 2) (by kernel_rfl) (t := 135) (by kernel_rfl) Tryd.underlying135 (by first | exact Tryd.underlying7 | exact Tryd.underlying8 | exact Tryd.underlying6 | exact Tryd.underlying10 | exact Tryd.underlying11 | exact Tryd.underlying12) (by kernel_rfl) (by kernel_rfl) h
theorem gs_of {W : World} {l : List (String × DataW Unit)} {d : DataW Unit} (h : laidMet Tryd.prog ((Names.spaces, d) :: l) W) (e : d = Lib.tabData .u8 Lib.asciiSpaceTab) : Lib.TabIs Tryd.prog W Names.spaces .u8 Lib.asciiSpaceTab := by
  subst e
  exact Lib.tabIs_of_head (g := 0) (by kernel_rfl) (t := 106) (by kernel_rfl) Tryd.underlying106 Tryd.underlying5 (by kernel_rfl) (by kernel_rfl) h
theorem GL.mk_ (W : World) (h : laidMetH Tryd.prog Rows.foldStepsRow.laid W) (_ : W.ShapedOpen Tryd.prog) : GL W := by
  rw [MakeChecks.laidMetH_plain _ _ _ (by kernel_rfl)] at h
  exact ⟨gp_of h.tail.tail powData, gs_of h.tail.tail.tail.tail spacesData⟩
/-- The words of the sides. -/
def sideT : List ByteArray := [⟨#[76]⟩, ⟨#[82]⟩, ⟨#[66]⟩, ⟨#[84]⟩]
theorem fields_sides : (Lib.fields (⟨#[76, 32, 82, 32, 66, 32, 84]⟩ : ByteArray).data.toList).map (fun l => Value.string ⟨l.toArray⟩) = sideT.map Value.string := by kernel_rfl
theorem fields_sides_n : (Lib.fields (⟨#[76, 32, 82, 32, 66, 32, 84]⟩ : ByteArray).data.toList).length = sideT.length := by kernel_rfl
theorem FieldsSides_c (W0 : World) (hG : GL W0) (k : V → Heap → Prop) (hk : k (.one (.sl 0 0 4 (some 4))) [some (.row true 9 1 4 fun q => [.str (sideT.getD q ByteArray.empty)])]) : ACall Tryd.prog W0 65 [.one (.str ⟨#[76, 32, 82, 32, 66, 32, 84]⟩)] [] k := by
  refine ACall.of_texts (t := 9) (l := sideT) (fun r us h => h.str) (fun w hb => ?_) hk
  have h := Tryd.strings_Fields_laid ⟨#[76, 32, 82, 32, 66, 32, 84]⟩ w (by decide) (fun j b hj => by
    have : ([76, 32, 82, 32, 66, 32, 84] : List UInt8).all (fun b => decide (b.toNat < 128)) = true := by decide
    have := List.all_eq_true.1 this b (List.mem_of_getElem? hj)
    simpa using this) (tab_below (B := 0) hG.s ⟨hb.os, hb.tape, hb.output, hb.size, hb.block⟩)
  rw [fields_sides, fields_sides_n] at h
  exact h
theorem Itoa_c (W0 : World) (hG : GL W0) (n : Int) (h0 : -9223372036854775808 ≤ n) (h1 : n ≤ 9223372036854775807) (k : V → Heap → Prop) (hk : ∀ s : ByteArray, (s.data.toList = Lib.itoa n ∧ s.size ≤ 21) → k (.one (.str s)) []) : ACall Tryd.prog W0 57 [.one (.int .i64 n)] [] k := by
  refine ACall.of_scalar (vs := [.int .i64 n]) (u := .string ⟨(Lib.itoa n).toArray⟩) (v := .one (.str ⟨(Lib.itoa n).toArray⟩)) (fun r us h => h.int) (fun r => by unfold VR CR; rfl) (fun w hb => ?_) (hk _ ⟨rfl, by simpa [ByteArray.size] using Lib.itoa_length_le n h0 h1⟩)
  refine (Tryd.strconv_Itoa n h0 h1 w (tab_below (B := 0) hG.p ⟨hb.os, hb.tape, hb.output, hb.size, hb.block⟩)).mono ?_
  rintro e w' ⟨rfl, k, os, rfl⟩
  exact ⟨rfl, Lib.below_grow _ _ (Nat.le_refl _) _ _⟩
theorem decPut_c (W0 : World) (hG : GL W0) (n : Int) (h0 : -9223372036854775808 ≤ n) (h1 : n ≤ 9223372036854775807) (k : V → Heap → Prop) (hk : ∀ s : ByteArray, (s.data.toList = Lib.itoa n ∧ s.size ≤ 21) → k (.one (.str s)) []) : ACall Tryd.prog W0 40 [.one (.int .i64 n)] [] k := by
  refine m_body tab_ok (fn := Tryd.f40) (by kernel_rfl) rfl ?_
  intro X hX
  cbv
  refine m_callq hX [] bodied_57 (fun k2 hk2 => Itoa_c W0 hG n h0 h1 k2 hk2) ?_ rfl rfl ?_ ?_
  · (first | (simp [MH, MB, MT, MV, MV.MVs, MC.MCs, MC, renC.renCs, renC, up]; done) | (simp [MH, MB, MT, MV, MV.MVs, MC.MCs, MC, renC.renCs, renC, up]; omega) | (simp [MH, MB, MT, MV, MV.MVs, MC.MCs, MC, renC.renCs, renC, up] <;> omega))
  · simp [MV, MV.MVs, MC, MC.MCs]
  intro s hs
  cbv
  refine ⟨_, _, [], by simp [MH], rfl, rfl, ?_, hk s hs⟩
  simp [MV, MC]
theorem NumIn_c (W0 : World) (a lo hi : Int) (k : V → Heap → Prop) (hk : ∀ b : Bool, (b = true ↔ lo ≤ a ∧ a ≤ hi) → k (.one (.bool b)) []) : ACall Tryd.prog W0 39 [.one (.int .i64 a), .one (.int .i64 lo), .one (.int .i64 hi)] [] k := by
  refine m_body tab_ok (fn := Tryd.f39) (by kernel_rfl) rfl ?_
  intro X hX
  cbv
  refine m_cond hX (fun h => ?_) (fun h => ?_) <;> cbv
  ·
    repeat' (first | (refine m_cond_t hX (by first | rfl | assumption | (subst hX; rfl)) ?_; cbv) | (refine m_cond_f hX (by first | rfl | assumption | (subst hX; rfl)) ?_; cbv) | fail)
    refine ⟨_, _, [], ?_, rfl, rfl, ?_, hk (decide (a ≤ hi)) ?_⟩
    · trivial
    · subst hX
      simp [MV, MC, std, cmpS] at h ⊢
      simp [h]
    · subst hX
      simp [std, cmpS] at h ⊢
      omega
  ·
    repeat' (first | (refine m_cond_t hX (by first | rfl | assumption | (subst hX; rfl)) ?_; cbv) | (refine m_cond_f hX (by first | rfl | assumption | (subst hX; rfl)) ?_; cbv) | fail)
    refine ⟨_, _, [], ?_, rfl, rfl, ?_, hk false ?_⟩
    · trivial
    · subst hX
      simp [MV, MC, std, cmpS] at h ⊢
      try omega
    · subst hX
      simp [std, cmpS] at h ⊢
      omega
theorem AllSides_c (W0 : World) (hG : GL W0) (k : V → Heap → Prop) (hk : k (.one (.sl 0 0 4 (some 4))) [some (.row true 9 1 4 fun q => [.str (sideT.getD q ByteArray.empty)])]) : ACall Tryd.prog W0 56 [.one (.int .i64 3)] [] k := by
  refine m_body tab_ok (fn := Tryd.f56) (by kernel_rfl) rfl ?_
  intro X hX
  cbv
  refine m_cond_f hX (by subst hX; rfl) ?_
  cbv
  refine m_cond_f hX (by subst hX; rfl) ?_
  cbv
  refine m_cond_t hX (by subst hX; rfl) ?_
  cbv
  refine m_callf hX [] bodied_65 (fun k2 hk2 => FieldsSides_c W0 hG k2 hk2) ?_ rfl rfl ?_ ?_
  · (first | (simp [MH, MB, MT, MV, MV.MVs, MC.MCs, MC, renC.renCs, renC, up]; done) | (simp [MH, MB, MT, MV, MV.MVs, MC.MCs, MC, renC.renCs, renC, up]; omega) | (simp [MH, MB, MT, MV, MV.MVs, MC.MCs, MC, renC.renCs, renC, up] <;> omega))
  · simp [MV, MV.MVs, MC, MC.MCs]
  cbv
  refine ⟨_, _, [some 0], ?_, rfl, rfl, ?_, hk⟩
  · simp [MH, MB, MC.MCs, MC, renC.renCs, renC]
  · simp [MV, MC, up]
theorem AllSidesG_c (W0 : World) (hG : GL W0) (k : V → Heap → Prop) (hk : ∀ b : Nat → ByteArray, (∀ q, q < 4 → (b q).data.toList ≠ [] ∧ (b q).size ≤ 1) → k (.one (.sl 0 0 4 (some 4))) [some (.row true 9 1 4 fun q => [.str (b q)])]) : ACall Tryd.prog W0 56 [.one (.int .i64 3)] [] k :=
  AllSides_c W0 hG k (hk (fun q => sideT.getD q ByteArray.empty) fun q hq => by
    match q, hq with
    | 0, _ => exact ⟨by decide, by decide⟩
    | 1, _ => exact ⟨by decide, by decide⟩
    | 2, _ => exact ⟨by decide, by decide⟩
    | 3, _ => exact ⟨by decide, by decide⟩
    | q + 4, h => omega)
/-- words.Put, of sides. -/
theorem PutSide_c (W0 : World) (hG : GL W0) (side : Int) (k : V → Heap → Prop) (hk : ∀ s : ByteArray, ((s.data.toList = [] ↔ ¬ (1 ≤ side ∧ side ≤ 4)) ∧ s.size ≤ 1) → k (.one (.str s)) []) : ACall Tryd.prog W0 38 [.one (.int .i64 3), .one (.int .i64 side)] [] k := by
  refine m_body tab_ok (fn := Tryd.f38) (by kernel_rfl) rfl ?_
  intro X hX
  cbv
  refine m_callq hX [] bodied_56 (fun k2 hk2 => AllSidesG_c W0 hG k2 hk2) ?_ rfl rfl ?_ ?_
  · (first | (simp [MH, MB, MT, MV, MV.MVs, MC.MCs, MC, renC.renCs, renC, up]; done) | (simp [MH, MB, MT, MV, MV.MVs, MC.MCs, MC, renC.renCs, renC, up]; omega) | (simp [MH, MB, MT, MV, MV.MVs, MC.MCs, MC, renC.renCs, renC, up] <;> omega))
  · simp [MV, MV.MVs, MC, MC.MCs]
  intro G hGG
  cbv
  refine m_cond hX (fun h => ?_) (fun h => ?_) <;> cbv
  · have h1 : side < 1 := by subst hX; simpa [std, cmpS] using h
    repeat' (first | (refine m_cond_t hX (by first | rfl | assumption | (subst hX; rfl)) ?_; cbv) | (refine m_cond_f hX (by first | rfl | assumption | (subst hX; rfl)) ?_; cbv) | fail)
    refine ⟨_, _, [], by simp [MH], rfl, rfl, ?_, hk ByteArray.empty ⟨?_, by decide⟩⟩
    · simp [MV, MC]; rfl
    · simp; omega
  ·
    repeat' (first | (refine m_cond_t hX (by first | rfl | assumption | (subst hX; rfl)) ?_; cbv) | (refine m_cond_f hX (by first | rfl | assumption | (subst hX; rfl)) ?_; cbv) | fail)
    refine m_cond hX (fun h2 => ?_) (fun h2 => ?_) <;> cbv
    · have h1 : ¬ (1 ≤ side ∧ side ≤ 4) := by
        subst hX
        have h3 : ¬ side < 1 := by simpa [std, cmpS] using h
        have h4 : side < 1 ∨ 4 < side := by simpa [std, cmpS] using h2
        omega
      refine ⟨_, _, [], by simp [MH], rfl, rfl, ?_, hk ByteArray.empty ⟨?_, by decide⟩⟩
      · simp [MV, MC]; rfl
      · simp; omega
    · have h1 : 1 ≤ side ∧ side ≤ 4 := by
        subst hX
        have h3 : ¬ side < 1 := by simpa [std, cmpS] using h
        have h4 : ¬ 4 < side := by
          have h5 : ¬ side < 1 ∧ side ≤ 4 := by simpa [std, cmpS] using h2
          omega
        omega
      have hb : X.bin .sub .i64 side 1 = side - 1 := by subst hX; exact wrap_eq (by omega) (by omega)
      have i1 : X.inb (X.bin .sub .i64 side 1) 4 := by rw [hb]; subst hX; show 0 ≤ side - 1 ∧ side - 1 < ((4 : Nat) : Int); omega
      have i2 : X.nlt (X.nadd 0 (X.toN (X.bin .sub .i64 side 1))) 4 := by rw [hb]; subst hX; show 0 + (side - 1).toNat < 4; omega
      refine ⟨i1, i2, ?_⟩
      obtain ⟨z, hz⟩ : ∃ z, z = G (X.nadd 0 (X.toN (X.bin .sub .i64 side 1))) := ⟨_, rfl⟩
      have hz2 : z.data.toList ≠ [] ∧ z.size ≤ 1 := by
        rw [hz, hb]
        subst hX
        exact hGG (0 + (side - 1).toNat) (by omega)
      rw [← hz]
      refine ⟨_, _, [], by simp [MH], rfl, rfl, ?_, hk z ⟨?_, hz2.2⟩⟩
      · simp [MV, MC]
      · constructor
        · intro h6; exact absurd h6 hz2.1
        · intro h6; exact absurd h1 h6
/-- A step that may be. -/
structure RightS (side n : Int) : Prop where
  h1 : 1 ≤ side
  h2 : side ≤ 4
  h3 : 1 ≤ n
  h4 : n ≤ 64
theorem StepPut_c (W0 : World) (hG : GL W0) (side n : Int) (u : Bool) (k : V → Heap → Prop) (hk : ∀ b : ByteArray × Bool, (b.2 = true ↔ RightS side n) → k (.tup [.one (.str b.1), .one (.bool b.2)]) []) : ACall Tryd.prog W0 20 [.agg [.int .i64 side, .int .i64 n, .bool u]] [] k := by
  refine m_body tab_ok (fn := Tryd.f20) (by kernel_rfl) rfl ?_
  intro X hX
  cbv
  refine m_callq hX [] bodied_38 (fun k2 hk2 => PutSide_c W0 hG side k2 hk2) ?_ rfl rfl ?_ ?_
  · (first | (simp [MH, MB, MT, MV, MV.MVs, MC.MCs, MC, renC.renCs, renC, up]; done) | (simp [MH, MB, MT, MV, MV.MVs, MC.MCs, MC, renC.renCs, renC, up]; omega) | (simp [MH, MB, MT, MV, MV.MVs, MC.MCs, MC, renC.renCs, renC, up] <;> omega))
  · simp [MV, MV.MVs, MC, MC.MCs]
  intro s hs
  obtain ⟨hs1, hs2⟩ := hs
  cbv
  have hse : X.scmp .eql s ⟨#[]⟩ = true ↔ s.data.toList = [] := by
    subst hX
    simp [std, scmpS, ByteArray.toList_eq]
  obtain ⟨e1, he1⟩ : ∃ e1, e1 = X.scmp .eql s ⟨#[]⟩ := ⟨_, rfl⟩
  refine m_cond hX (fun h => ?_) (fun h => ?_) <;> cbv
  · have hr : ¬ RightS side n := fun hr => (hs1.1 (hse.1 h)) ⟨hr.h1, hr.h2⟩
    repeat' (first | (refine m_cond_t hX (by first | rfl | assumption | (subst hX; rfl)) ?_; cbv) | (refine m_cond_f hX (by first | rfl | assumption | (subst hX; rfl)) ?_; cbv) | fail)
    refine ⟨_, _, [], by simp [MH], rfl, rfl, ?_, hk (ByteArray.empty, false) ⟨fun h2 => (by cases h2), fun h2 => absurd h2 hr⟩⟩
    simp [MV, MV.MVs, MC]
    rfl
  ·
    have hside : 1 ≤ side ∧ side ≤ 4 := by
      by_cases h6 : 1 ≤ side ∧ side ≤ 4
      · exact h6
      · have := hse.2 (hs1.2 h6)
        rw [h] at this
        cases this
    repeat' (first | (refine m_cond_t hX (by first | rfl | assumption | (subst hX; rfl)) ?_; cbv) | (refine m_cond_f hX (by first | rfl | assumption | (subst hX; rfl)) ?_; cbv) | fail)
    refine m_callq hX [] bodied_39 (fun k2 hk2 => NumIn_c W0 n 1 64 k2 hk2) ?_ rfl rfl ?_ ?_
    · (first | (simp [MH, MB, MT, MV, MV.MVs, MC.MCs, MC, renC.renCs, renC, up]; done) | (simp [MH, MB, MT, MV, MV.MVs, MC.MCs, MC, renC.renCs, renC, up]; omega) | (simp [MH, MB, MT, MV, MV.MVs, MC.MCs, MC, renC.renCs, renC, up] <;> omega))
    · simp [MV, MV.MVs, MC, MC.MCs]
    intro b hb
    cbv
    cases b with
    | false =>
      repeat' (first | (refine m_cond_t hX (by first | rfl | assumption | (subst hX; rfl)) ?_; cbv) | (refine m_cond_f hX (by first | rfl | assumption | (subst hX; rfl)) ?_; cbv) | fail)
      refine m_cond_t hX (by show X.ite (X.scmp .eql s ⟨#[]⟩) true _ = true; rw [h]; subst hX; rfl) ?_
      cbv
      refine ⟨_, _, [], by simp [MH], rfl, rfl, ?_, hk (ByteArray.empty, false) ⟨fun h2 => (by cases h2), fun hr => by cases hb.2 ⟨hr.h3, hr.h4⟩⟩⟩
      simp [MV, MV.MVs, MC]
      rfl
    | true =>
      have hr : RightS side n := ⟨hside.1, hside.2, (hb.1 rfl).1, (hb.1 rfl).2⟩
      repeat' (first | (refine m_cond_t hX (by first | rfl | assumption | (subst hX; rfl)) ?_; cbv) | (refine m_cond_f hX (by first | rfl | assumption | (subst hX; rfl)) ?_; cbv) | fail)
      refine m_cond_f hX (by show X.ite (X.scmp .eql s ⟨#[]⟩) true _ = false; rw [h]; subst hX; rfl) ?_
      cbv
      refine m_callq hX [] bodied_40 (fun k2 hk2 => decPut_c W0 hG n (by have := hr.h3; omega) (by have := hr.h4; omega) k2 hk2) ?_ rfl rfl ?_ ?_
      · (first | (simp [MH, MB, MT, MV, MV.MVs, MC.MCs, MC, renC.renCs, renC, up]; done) | (simp [MH, MB, MT, MV, MV.MVs, MC.MCs, MC, renC.renCs, renC, up]; omega) | (simp [MH, MB, MT, MV, MV.MVs, MC.MCs, MC, renC.renCs, renC, up] <;> omega))
      · simp [MV, MV.MVs, MC, MC.MCs]
      intro d hd
      cbv
      refine ⟨by subst hX; show ((s.size + d.size : Nat) : Int) ≤ 9223372036854775807; have := hd.2; omega, ?_⟩
      cases u with
      | false =>
        refine m_cond_f hX (by subst hX; rfl) ?_
        cbv
        refine ⟨_, _, [], by simp [MH], rfl, rfl, ?_, hk (X.sbin s d, true) ⟨fun _ => hr, fun _ => rfl⟩⟩
        simp [MV, MV.MVs, MC]
      | true =>
        refine m_cond_t hX (by subst hX; rfl) ?_
        cbv
        refine ⟨?_, ?_⟩
        · have e : (X.sbin s d).size = s.size + d.size := by subst hX; exact ByteArray.size_append
          show X.scat (X.sbin s d) _
          have := hd.2
          have e2 : ∀ x y : ByteArray, x.size + y.size ≤ 1000 → X.scat x y := fun x y hxy => by subst hX; show ((x.size + y.size : Nat) : Int) ≤ 9223372036854775807; omega
          refine e2 _ _ ?_
          rw [e]
          show s.size + d.size + 1 ≤ 1000
          omega
        · refine ⟨_, _, [], by simp [MH], rfl, rfl, ?_, hk (X.sbin (X.sbin s d) ⟨#[117]⟩, true) ⟨fun _ => hr, fun _ => rfl⟩⟩
          simp [MV, MV.MVs, MC]
end Go.Proofs.YtdijdlkljeibjaaDoor.AM
