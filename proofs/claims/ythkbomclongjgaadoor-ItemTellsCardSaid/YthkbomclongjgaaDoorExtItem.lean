/- The contract of item.Put at the one input that the statements' liveness asks for (a crop mark), and of strings.Join on strings of the call's own; the condition: the library's tables lie as listed. -/
import Derived.Test.YthkbomclongjgaaDoorPRightItemx2
import Derived.Test.YthkbomclongjgaaDoorPPutItemx1
import Derived.Handy
import Derived.RegionTactic
import Derived.Deep.QuietTactic
import Derived.BigQuiet
namespace Go.Proofs.YthkbomclongjgaaDoor.ExtItem
open Go.RowKit Go.Proofs.YthkbomclongjgaaDoorW.PrintWords Go.Proofs.YthkbomclongjgaaDoorW.PrintLast Go.Proofs.YthkbomclongjgaaDoorW.PrintMore
set_option linter.unusedVariables false
set_option linter.unusedSimpArgs false

theorem join_at {e base : Nat} {ok : Nat → Prop} {w : World} {v : Value} {xs : List ByteArray} (h : Kd.R Kd.string e w base ok v xs) (sep : ByteArray) (h0 : xs ≠ []) (hN : xs.length ≤ 1000)
    (hlen : (Lib.join (xs.map (·.data.toList)) sep.data.toList).length ≤ 140737488355328) :
    Calls Tryd.prog 89 #[v, .string sep] w fun e w' => e = .returned (.string ⟨(Lib.join (xs.map (·.data.toList)) sep.data.toList).toArray⟩) ∧ Below w.heap.size w w' := by
  have hlt := Kd.R_lt h
  obtain ⟨A, c, rfl⟩ := Kd.R_slice h
  obtain ⟨_, hc, hC⟩ := Kd.R_reads' h
  have hl : 0 < xs.length := List.length_pos_iff.2 h0
  obtain ⟨k1, inner, ho, h2⟩ := h
  rcases ho.2 with ⟨hn, _⟩ | ⟨g, cap, cur, he, hg, hh, r⟩
  · simp at hn; omega
  · obtain ⟨rfl, _, _⟩ := Value.slice.inj he
    refine Tryd.strings_Join g 0 c xs sep w (fun j x hj => ?_) (hlt g rfl) (by omega) hc hlen
    have hj2 : j < xs.length := (List.getElem?_eq_some_iff.1 hj).1
    obtain ⟨ad, e1, e2⟩ := Kd.at_string hC (j : Int) (by omega) (by omega)
    cases e1
    rw [show (⟨g, 0 + j, none⟩ : Addr) = (⟨g, 0, none⟩ : Addr).add (j : Int).toNat by simp [Addr.add]]
    rw [e2]
    congr 2
    simp [rdOf, hj]
theorem bcell {W w1 : World} (hb : Below W.heap.size W w1) : (∀ b o, b < W.heap.size → w1.cell? ⟨b, o, none⟩ = W.cell? ⟨b, o, none⟩) :=
  fun b o h => hb.cell (p := ⟨b, o, none⟩) h
def crop : ByteArray := ⟨#[99, 114, 111, 112]⟩
def d0 : ByteArray := ⟨#[48]⟩
def d1 : ByteArray := ⟨#[49]⟩
def d5 : ByteArray := ⟨#[53]⟩
theorem put0 : ExtBase.dec_Put.f 0 = some d0 := by kernel_rfl
theorem put1 : ExtBase.dec_Put.f 1 = some d1 := by kernel_rfl
theorem put5 : ExtBase.dec_Put.f 5 = some d5 := by kernel_rfl
theorem right_ : PRightItem.item_Right.f 1 2 0 0 0 0 0 0 1 5 ⟨#[]⟩ = some true := by kernel_rfl
theorem word_ : PPutItem.words_Put.f 4 2 = some crop := by kernel_rfl
theorem lit1 {w W : World} (x : ByteArray) (hb : w.heap.size ≤ W.heap.size) : Kd.R Kd.string 9 (W.alloc (.cells #[.string x] 9)) w.heap.size (fun _ => True) (.slice (some ⟨W.heap.size, 0, none⟩) 1 1) [x] :=
  Kd.R_lower (ExtLex.R_scalars Value.string (fun _ => rfl) W [x] 9 (by simp [maxLen])) hb

theorem idx0 (a b c d : Int) (w : World) : (Instr.index 107 (.agg #[.int .i64 a, .int .i64 b, .int .i64 c, .int .i64 d]) (.int .i64 0)).run Tryd.prog w = .ok (.int .i64 a) w := by
  have hu107 := Tryd.underlying107
  have hu3 := Tryd.underlying3
  unfold Instr.index
  go_simp
theorem idx1 (a b c d : Int) (w : World) : (Instr.index 107 (.agg #[.int .i64 a, .int .i64 b, .int .i64 c, .int .i64 d]) (.int .i64 1)).run Tryd.prog w = .ok (.int .i64 b) w := by
  have hu107 := Tryd.underlying107
  have hu3 := Tryd.underlying3
  unfold Instr.index
  go_simp
theorem idx2 (a b c d : Int) (w : World) : (Instr.index 107 (.agg #[.int .i64 a, .int .i64 b, .int .i64 c, .int .i64 d]) (.int .i64 2)).run Tryd.prog w = .ok (.int .i64 c) w := by
  have hu107 := Tryd.underlying107
  have hu3 := Tryd.underlying3
  unfold Instr.index
  go_simp
theorem idx3 (a b c d : Int) (w : World) : (Instr.index 107 (.agg #[.int .i64 a, .int .i64 b, .int .i64 c, .int .i64 d]) (.int .i64 3)).run Tryd.prog w = .ok (.int .i64 d) w := by
  have hu107 := Tryd.underlying107
  have hu3 := Tryd.underlying3
  unfold Instr.index
  go_simp
attribute [local go_sem] idx0 idx1 idx2 idx3
set_option maxRecDepth 100000 in
theorem walk (w : World) (hG : ExtStep.GL w) :
    Calls Tryd.prog 62 #[.agg #[.int .i64 2, .int .i64 0, .int .i64 0, .int .i64 0, .int .i64 0, .int .i64 0, .int .i64 0, .int .i64 1, .int .i64 5, .string ⟨#[]⟩]] w fun e w' => e = .returned (.tuple #[.string ⟨#[99, 114, 111, 112, 32, 48, 32, 48, 32, 49, 32, 53]⟩, .bool true]) ∧ Below w.heap.size w w' := by
  have HG := Aside0.mk hG
  clear hG
  have hu51 := Tryd.underlying51
  have hu49 := Tryd.underlying49
  have hu47 := Tryd.underlying47
  have hu107 := Tryd.underlying107
  go_enter Tryd.func62, Tryd.ntmps62
  go_wp2_with fail
  refine (PRightItem.item_Right.calls 1 2 0 0 0 0 0 0 1 5 ⟨#[]⟩ true _ right_).mono ?_
  rintro e w1 ⟨rfl, hb⟩
  have hbel := below_alloc (Below.refl w.heap.size w) (.cells #[.int .i64 2, .int .i64 0, .int .i64 0, .int .i64 0, .int .i64 0, .int .i64 0, .int .i64 0, .int .i64 1, .int .i64 5, .string ⟨#[]⟩] 51)
  have hsz : (w.alloc (.cells #[.int .i64 2, .int .i64 0, .int .i64 0, .int .i64 0, .int .i64 0, .int .i64 0, .int .i64 0, .int .i64 1, .int .i64 5, .string ⟨#[]⟩] 51)).heap.size = w.heap.size + 1 := by simp
  have p0 : (w.alloc (.cells #[.int .i64 2, .int .i64 0, .int .i64 0, .int .i64 0, .int .i64 0, .int .i64 0, .int .i64 0, .int .i64 1, .int .i64 5, .string ⟨#[]⟩] 51)).cell? ⟨w.heap.size, 0, none⟩ = some (.int .i64 2) := by go_simp
  have p5 : (w.alloc (.cells #[.int .i64 2, .int .i64 0, .int .i64 0, .int .i64 0, .int .i64 0, .int .i64 0, .int .i64 0, .int .i64 1, .int .i64 5, .string ⟨#[]⟩] 51)).cell? ⟨w.heap.size, 5, none⟩ = some (.int .i64 0) := by go_simp
  have p6 : (w.alloc (.cells #[.int .i64 2, .int .i64 0, .int .i64 0, .int .i64 0, .int .i64 0, .int .i64 0, .int .i64 0, .int .i64 1, .int .i64 5, .string ⟨#[]⟩] 51)).cell? ⟨w.heap.size, 6, none⟩ = some (.int .i64 0) := by go_simp
  have p7 : (w.alloc (.cells #[.int .i64 2, .int .i64 0, .int .i64 0, .int .i64 0, .int .i64 0, .int .i64 0, .int .i64 0, .int .i64 1, .int .i64 5, .string ⟨#[]⟩] 51)).cell? ⟨w.heap.size, 7, none⟩ = some (.int .i64 1) := by go_simp
  have p8 : (w.alloc (.cells #[.int .i64 2, .int .i64 0, .int .i64 0, .int .i64 0, .int .i64 0, .int .i64 0, .int .i64 0, .int .i64 1, .int .i64 5, .string ⟨#[]⟩] 51)).cell? ⟨w.heap.size, 8, none⟩ = some (.int .i64 5) := by go_simp
  generalize (w.alloc (.cells #[.int .i64 2, .int .i64 0, .int .i64 0, .int .i64 0, .int .i64 0, .int .i64 0, .int .i64 0, .int .i64 1, .int .i64 5, .string ⟨#[]⟩] 51)) = wb at hb hbel hsz p0 p5 p6 p7 p8
  have EL := Aside0.mk hbel
  have P0 := Aside0.mk p0
  have ES := Aside0.mk hsz
  have hlt : w.heap.size < wb.heap.size := by omega
  have LT := Aside0.mk hlt
  have B1 := Aside0.mk hb
  have q0 : w1.cell? ⟨w.heap.size, 0, none⟩ = some (.int .i64 2) := (bcell hb _ _ hlt).trans p0
  clear hb
  clear hbel hsz
  go_wp2_with fail
  refine (PPutItem.words_Put.calls 4 2 crop _ (ExtStep.GL.below HG.out (EL.out.trans (B1.out.mono (Nat.le_of_lt LT.out)))) word_).mono ?_
  rintro e w2 ⟨rfl, hb⟩
  have B2 := Aside0.mk (B1.out.trans (hb.mono B1.out.size))
  have hb2 := B2.out
  clear q0
  have q0 : w2.cell? ⟨w.heap.size, 0, none⟩ = some (.int .i64 2) := (bcell hb2 _ _ hlt).trans p0
  have q5 : w2.cell? ⟨w.heap.size, 5, none⟩ = some (.int .i64 0) := (bcell hb2 _ _ hlt).trans p5
  have q6 : w2.cell? ⟨w.heap.size, 6, none⟩ = some (.int .i64 0) := (bcell hb2 _ _ hlt).trans p6
  have q7 : w2.cell? ⟨w.heap.size, 7, none⟩ = some (.int .i64 1) := (bcell hb2 _ _ hlt).trans p7
  have q8 : w2.cell? ⟨w.heap.size, 8, none⟩ = some (.int .i64 5) := (bcell hb2 _ _ hlt).trans p8
  have z2 : w.heap.size < w2.heap.size := Nat.lt_of_lt_of_le hlt hb2.size
  clear hb hb2 B1 p0 p5 p6 p7 p8 hlt
  have R1 := Aside0.mk (lit1 (w := wb) (W := w2) crop B2.out.size)
  have HB3 := Aside0.mk (below_alloc B2.out (.cells #[.string crop] 9))
  go_wp2_with fail
  clear q0 q5 q6 q7 q8 z2 B2
  generalize (Value.slice (some ⟨w2.heap.size, 0, none⟩) 1 1) = v2 at R1 ⊢
  refine wp_loop_rounds 5 ?_
  rw [rounds_succ]
  go_wp2_with fail
  refine (ExtBase.dec_Put.calls 0 d0 _ (ExtStep.GL.below HG.out (EL.out.trans (HB3.out.mono (Nat.le_of_lt LT.out)))).p put0).mono ?_
  rintro e w3 ⟨rfl, hb⟩
  have S3 := Aside0.mk (Kd.R_below R1.out hb)
  have B3 := Aside0.mk (HB3.out.trans (hb.mono HB3.out.size))
  clear hb R1 HB3
  go_wp2_with (first | ((with_reducible refine gate_builtin (b := .append) (xs := #[.tmp 53, .tmp 56]) rfl ?_); at_builtin; refine Aside0.out ?_))
  refine Aside0.mk ?_
  refine Kd.R_append Kd.string (w0 := wb) wb.heap.size rfl (.tmp 53) (.tmp 56) 23 9 (.string ⟨#[]⟩) 16 rfl Tryd.underlying23 (by kernel_rfl) rfl (by decide) (by omega) v2 [crop] d0 [.string d0] (fun _ => True) (fun _ => False) rfl rfl ?aP (fun _ hk => hk.elim) ?aF ?aO ?aB ?aS ?aL ?_
  case aP => exact rfl
  case aF => exact (fun _ _ => trivial)
  case aO => exact S3.out
  case aB => exact B3.out
  case aS => exact B3.out.size
  case aL => decide
  intro v4 w4 ho hb hg hat
  have S4 := Aside0.mk ho
  have B4 := Aside0.mk hb
  clear ho hb hg hat S3 B3
  go_wp2_with fail
  rw [rounds_succ]
  go_wp2_with fail
  refine (ExtBase.dec_Put.calls 0 d0 _ (ExtStep.GL.below HG.out (EL.out.trans (B4.out.mono (Nat.le_of_lt LT.out)))).p put0).mono ?_
  rintro e w5 ⟨rfl, hb⟩
  have S5 := Aside0.mk (Kd.R_below S4.out hb)
  have B5 := Aside0.mk (B4.out.trans (hb.mono B4.out.size))
  clear hb S4 B4
  go_wp2_with (first | ((with_reducible refine gate_builtin (b := .append) (xs := #[.tmp 53, .tmp 56]) rfl ?_); at_builtin; refine Aside0.out ?_))
  refine Aside0.mk ?_
  refine Kd.R_append Kd.string (w0 := wb) wb.heap.size rfl (.tmp 53) (.tmp 56) 23 9 (.string ⟨#[]⟩) 16 rfl Tryd.underlying23 (by kernel_rfl) rfl (by decide) (by omega) v4 ([crop] ++ [d0]) d0 [.string d0] (fun _ => True) (fun _ => False) rfl rfl ?aP (fun _ hk => hk.elim) ?aF ?aO ?aB ?aS ?aL ?_
  case aP => exact rfl
  case aF => exact (fun _ _ => trivial)
  case aO => exact S5.out
  case aB => exact B5.out
  case aS => exact B5.out.size
  case aL => decide
  intro v6 w6 ho hb hg hat
  have S6 := Aside0.mk ho
  have B6 := Aside0.mk hb
  clear ho hb hg hat S5 B5
  go_wp2_with fail
  rw [rounds_succ]
  go_wp2_with fail
  refine (ExtBase.dec_Put.calls 1 d1 _ (ExtStep.GL.below HG.out (EL.out.trans (B6.out.mono (Nat.le_of_lt LT.out)))).p put1).mono ?_
  rintro e w7 ⟨rfl, hb⟩
  have S7 := Aside0.mk (Kd.R_below S6.out hb)
  have B7 := Aside0.mk (B6.out.trans (hb.mono B6.out.size))
  clear hb S6 B6
  go_wp2_with (first | ((with_reducible refine gate_builtin (b := .append) (xs := #[.tmp 53, .tmp 56]) rfl ?_); at_builtin; refine Aside0.out ?_))
  refine Aside0.mk ?_
  refine Kd.R_append Kd.string (w0 := wb) wb.heap.size rfl (.tmp 53) (.tmp 56) 23 9 (.string ⟨#[]⟩) 16 rfl Tryd.underlying23 (by kernel_rfl) rfl (by decide) (by omega) v6 (([crop] ++ [d0]) ++ [d0]) d1 [.string d1] (fun _ => True) (fun _ => False) rfl rfl ?aP (fun _ hk => hk.elim) ?aF ?aO ?aB ?aS ?aL ?_
  case aP => exact rfl
  case aF => exact (fun _ _ => trivial)
  case aO => exact S7.out
  case aB => exact B7.out
  case aS => exact B7.out.size
  case aL => decide
  intro v8 w8 ho hb hg hat
  have S8 := Aside0.mk ho
  have B8 := Aside0.mk hb
  clear ho hb hg hat S7 B7
  go_wp2_with fail
  rw [rounds_succ]
  go_wp2_with fail
  refine (ExtBase.dec_Put.calls 5 d5 _ (ExtStep.GL.below HG.out (EL.out.trans (B8.out.mono (Nat.le_of_lt LT.out)))).p put5).mono ?_
  rintro e w9 ⟨rfl, hb⟩
  have S9 := Aside0.mk (Kd.R_below S8.out hb)
  have B9 := Aside0.mk (B8.out.trans (hb.mono B8.out.size))
  clear hb S8 B8
  go_wp2_with (first | ((with_reducible refine gate_builtin (b := .append) (xs := #[.tmp 53, .tmp 56]) rfl ?_); at_builtin; refine Aside0.out ?_))
  refine Aside0.mk ?_
  refine Kd.R_append Kd.string (w0 := wb) wb.heap.size rfl (.tmp 53) (.tmp 56) 23 9 (.string ⟨#[]⟩) 16 rfl Tryd.underlying23 (by kernel_rfl) rfl (by decide) (by omega) v8 ((([crop] ++ [d0]) ++ [d0]) ++ [d1]) d5 [.string d5] (fun _ => True) (fun _ => False) rfl rfl ?aP (fun _ hk => hk.elim) ?aF ?aO ?aB ?aS ?aL ?_
  case aP => exact rfl
  case aF => exact (fun _ _ => trivial)
  case aO => exact S9.out
  case aB => exact B9.out
  case aS => exact B9.out.size
  case aL => decide
  intro v10 w10 ho hb hg hat
  have S10 := Aside0.mk ho
  have B10 := Aside0.mk hb
  clear ho hb hg hat S9 B9
  go_wp2_with fail
  rw [rounds_succ]
  have q0 : w10.cell? ⟨w.heap.size, 0, none⟩ = some (.int .i64 2) := (bcell B10.out _ _ LT.out).trans P0.out
  go_wp2_with fail
  refine (join_at S10.out ⟨#[32]⟩ (by simp) (by decide) (by decide)).mono ?_
  rintro e w11 ⟨rfl, hb⟩
  have B11 := Aside0.mk (B10.out.trans (hb.mono B10.out.size))
  clear hb q0
  go_wp2
  go_ret2
  exact ⟨by kernel_rfl, EL.out.trans (B11.out.mono (Nat.le_of_lt LT.out))⟩
def item_Put.f (a0_0 a0_1 a0_2 a0_3 a0_4 a0_5 a0_6 a0_7 a0_8 : Int) (a0_9 : ByteArray) : Option (ByteArray × Bool) :=
  if a0_0 = 2 ∧ a0_1 = 0 ∧ a0_2 = 0 ∧ a0_3 = 0 ∧ a0_4 = 0 ∧ a0_5 = 0 ∧ a0_6 = 0 ∧ a0_7 = 1 ∧ a0_8 = 5 ∧ a0_9 = ⟨#[]⟩ then some (⟨#[99, 114, 111, 112, 32, 48, 32, 48, 32, 49, 32, 53]⟩, true) else none
theorem item_Put.calls (a0_0 a0_1 a0_2 a0_3 a0_4 a0_5 a0_6 a0_7 a0_8 : Int) (a0_9 : ByteArray) (r1 : ByteArray) (r2 : Bool) (w : World) (hG : ExtStep.GL w) (h : item_Put.f a0_0 a0_1 a0_2 a0_3 a0_4 a0_5 a0_6 a0_7 a0_8 a0_9 = some (r1, r2)) :
    Calls Tryd.prog 62 #[.agg #[.int .i64 a0_0, .int .i64 a0_1, .int .i64 a0_2, .int .i64 a0_3, .int .i64 a0_4, .int .i64 a0_5, .int .i64 a0_6, .int .i64 a0_7, .int .i64 a0_8, .string a0_9]] w fun e w' => e = .returned (.tuple #[.string r1, .bool r2]) ∧ Below w.heap.size w w' := by
  unfold item_Put.f at h
  split at h
  · rename_i c
    obtain ⟨rfl, rfl, rfl, rfl, rfl, rfl, rfl, rfl, rfl, rfl⟩ := c
    simp only [Option.some.injEq, Prod.mk.injEq] at h
    obtain ⟨rfl, rfl⟩ := h
    exact walk w hG
  · cases h
end Go.Proofs.YthkbomclongjgaaDoor.ExtItem
