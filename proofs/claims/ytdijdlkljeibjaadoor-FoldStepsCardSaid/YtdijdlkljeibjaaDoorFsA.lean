/- Layers behind a step, as contracts on the abstract machine. The conditions: the library's tables lie as listed, the numbers are near. -/
import Derived.Test.YtdijdlkljeibjaaDoorFoC
import Derived.Test.YtdijdlkljeibjaaDoorAm23
import Derived.Test.YtdijdlkljeibjaaDoorSt
namespace Go.Proofs.YtdijdlkljeibjaaDoor.AM
open Go Go.RowKit
set_option cbv.warning false
set_option maxRecDepth 100000
set_option linter.unusedVariables false
set_option linter.unusedSimpArgs false
theorem bodied_41 : Bodied Tryd.prog 41 := ⟨Tryd.f41, by kernel_rfl, by kernel_rfl, by kernel_rfl⟩
theorem bodied_22 : Bodied Tryd.prog 22 := ⟨Tryd.f22, by kernel_rfl, by kernel_rfl, by kernel_rfl⟩
theorem bodied_23 : Bodied Tryd.prog 23 := ⟨Tryd.f23, by kernel_rfl, by kernel_rfl, by kernel_rfl⟩
theorem eqRect : EqInts Tryd.prog 39 4 where
  key := ⟨6, by decide, by kernel_rfl⟩
  guard := by kernel_rfl
  formed zs hz := by
    have h1 : Tryd.prog.cellsOf 39 = 4 := by kernel_rfl
    unfold Value.formed
    rw [Tryd.underlying39]
    simp [h1, hz]
  lits := ⟨6, fun zs hz hw => by
    have h2 : Tryd.prog.cellsOf 39 = 4 := by kernel_rfl
    have h3 : Tryd.prog.cellsOf 3 = 1 := by kernel_rfl
    match zs, hz, hw with
    | [a, b, c, d], _, hw =>
      have wa := hw a (by simp)
      have wb := hw b (by simp)
      have wc := hw c (by simp)
      have wd := hw d (by simp)
      simp (decide := true) [Program.keyLits, Tryd.underlying39, Tryd.underlying3, h2, h3, wa, wb, wc, wd]⟩
structure R4 where
  a : Int
  b : Int
  c : Int
  d : Int
def R4.emp (r : R4) : Prop := r.c ≤ r.a ∨ r.d ≤ r.b
instance (r : R4) : Decidable r.emp := by unfold R4.emp; exact inferInstance
def R4.zero : R4 := ⟨0, 0, 0, 0⟩
def rc (r : R4) : List C := [.int .i64 r.a, .int .i64 r.b, .int .i64 r.c, .int .i64 r.d]
/-- The rectangle about two. -/
def hull (o r : R4) : R4 := if r.emp then o else if o.emp then r else ⟨min o.a r.a, min o.b r.b, max o.c r.c, max o.d r.d⟩
structure R4.Near (K : Int) (r : R4) : Prop where
  a : Nr K r.a
  b : Nr K r.b
  c : Nr K r.c
  d : Nr K r.d
theorem R4.Near.wf {K : Int} {r : R4} (h : r.Near K) (hK : K ≤ 4611686018427387904) : ∀ z ∈ [r.a, r.b, r.c, r.d], (Lit.int .i64 z).wf = true := by
  intro z hz
  simp only [List.mem_cons, List.not_mem_nil, or_false] at hz
  rcases hz with rfl | rfl | rfl | rfl
  · exact (h.a.up hK).wf
  · exact (h.b.up hK).wf
  · exact (h.c.up hK).wf
  · exact (h.d.up hK).wf
theorem zero_wf : ∀ z ∈ ([0, 0, 0, 0] : List Int), (Lit.int .i64 z).wf = true := by decide
set_option maxHeartbeats 4000000 in
theorem Hull_c (W0 : World) (o r : R4) (ho : o.Near 4611686018427387904) (hr : r.Near 4611686018427387904) (hoz : o.emp → o = R4.zero) (G : Nat → List C) (h0 : G 0 = rc o) (h1 : G 1 = rc r) (k : V → Heap → Prop)
    (hk : ∀ b : R4, b = hull o r → k (.agg (rc b)) [some (.row true 39 4 2 G)]) : ACall Tryd.prog W0 41 [.one (.sl 0 0 2 (some 2))] [some (.row true 39 4 2 G)] k := by
  have hGm : ∀ σ q, q < 2 → MC.MCs σ (G q) (G q) := fun σ q hq => by
    match q, hq with
    | 0, _ => rw [h0]; simp [rc, MC.MCs, MC]
    | 1, _ => rw [h1]; simp [rc, MC.MCs, MC]
    | q + 2, h => omega
  refine m_body tab_ok (fn := Tryd.f41) (by kernel_rfl) rfl ?_
  intro X hX
  cbv
  have e0 : G (X.nadd 0 (X.toN 0)) = rc o := by subst hX; exact h0
  have e1 : G (X.nadd 0 (X.toN (X.bin .add .i64 0 1))) = rc r := by subst hX; exact h1
  have hmn : ∀ x y : Int, X.mm .min x y = min x y := by
    subst hX
    intro x y
    show (if y < x then y else x) = min x y
    split <;> omega
  have hmx : ∀ x y : Int, X.mm .max x y = max x y := by
    subst hX
    intro x y
    show (if x < y then y else x) = max x y
    split <;> omega
  have i1 : X.inb (X.bin .add .i64 0 1) 2 := by subst hX; exact (show 0 ≤ IntKind.i64.wrap (0 + 1) ∧ IntKind.i64.wrap (0 + 1) < ((2 : Nat) : Int) by decide)
  have i2 : X.nlt (X.nadd 0 (X.toN (X.bin .add .i64 0 1))) 2 := by subst hX; exact (show 0 + (IntKind.i64.wrap (0 + 1)).toNat < 2 by decide)
  refine m_rounds [(), (), ()] tab_ok hX ?_
  refine aloop_step fun L0 hL0 K0 hK0 => ?_
  cbv
  refine m_cond_t hX (by subst hX; rfl) ?_
  cbv
  refine ⟨by subst hX; exact ⟨by decide, by decide⟩, by subst hX; exact (by decide : 0 + 0 < 2), ?_⟩
  rw [e0]
  cbv
  refine m_callq hX [] bodied_51 (fun k2 hk2 => Empty_c W0 o.a o.b o.c o.d k2 hk2) ?_ rfl rfl ?_ ?_
  · (first | (simp [MH, MB, MT, MV, MV.MVs, MC.MCs, MC, renC.renCs, renC, up]; done) | (simp [MH, MB, MT, MV, MV.MVs, MC.MCs, MC, renC.renCs, renC, up]; omega) | (simp [MH, MB, MT, MV, MV.MVs, MC.MCs, MC, renC.renCs, renC, up] <;> omega))
  · simp [MV, MV.MVs, MC, MC.MCs]
  intro e he
  cbv
  cases e with
  | true =>
    have hoe : o.emp := he.1 rfl
    refine m_cond_t hX (by subst hX; rfl) ?_
    cbv
    refine hL0 _ _ ?_
    refine aloop_step fun L1 hL1 K1 hK1 => ?_
    cbv
    refine m_cond_t hX (by subst hX; rfl) ?_
    cbv
    refine ⟨i1, i2, ?_⟩
    rw [e1]
    cbv
    refine m_callq hX [] bodied_51 (fun k2 hk2 => Empty_c W0 r.a r.b r.c r.d k2 hk2) ?_ rfl rfl ?_ ?_
    · (first | (simp [MH, MB, MT, MV, MV.MVs, MC.MCs, MC, renC.renCs, renC, up]; done) | (simp [MH, MB, MT, MV, MV.MVs, MC.MCs, MC, renC.renCs, renC, up]; omega) | (simp [MH, MB, MT, MV, MV.MVs, MC.MCs, MC, renC.renCs, renC, up] <;> omega))
    · simp [MV, MV.MVs, MC, MC.MCs]
    intro e2 he2
    cbv
    cases e2 with
    | true =>
      have hre : r.emp := he2.1 rfl
      refine m_cond_t hX (by subst hX; rfl) ?_
      cbv
      refine hL1 _ _ ?_
      refine aloop_step fun L2 hL2 K2 hK2 => ?_
      cbv
      refine m_cond_f hX (by subst hX; rfl) ?_
      cbv
      refine hK2 _ _ _ _ ?_
      cbv
      refine ⟨_, _, [some 0], ?_, rfl, rfl, ?_, hk R4.zero (by unfold hull; rw [if_pos hre, hoz hoe])⟩
      · simp [MH, MB]
        exact fun i hi => hGm _ i hi
      · simp [MV, MC, MC.MCs, rc, R4.zero, zi]
        try exact ⟨(hmn _ _).symm, (hmn _ _).symm, (hmx _ _).symm, (hmx _ _).symm⟩
    | false =>
      have hre : ¬ r.emp := fun h => by cases he2.2 h
      refine m_cond_f hX (by subst hX; rfl) ?_
      cbv
      refine m_eqInts hX (.inl rfl) eqRect [0, 0, 0, 0] [0, 0, 0, 0] rfl rfl rfl rfl zero_wf zero_wf ?_
      intro b hb
      obtain rfl : b = true := hb.2 rfl
      cbv
      refine m_cond_t hX (by subst hX; rfl) ?_
      cbv
      refine hL1 _ _ ?_
      refine aloop_step fun L2 hL2 K2 hK2 => ?_
      cbv
      refine m_cond_f hX (by subst hX; rfl) ?_
      cbv
      refine hK2 _ _ _ _ ?_
      cbv
      refine ⟨_, _, [some 0], ?_, rfl, rfl, ?_, hk r (by unfold hull; rw [if_neg hre, if_pos hoe])⟩
      · simp [MH, MB]
        exact fun i hi => hGm _ i hi
      · simp [MV, MC, MC.MCs, rc, R4.zero, zi]
        try exact ⟨(hmn _ _).symm, (hmn _ _).symm, (hmx _ _).symm, (hmx _ _).symm⟩
  | false =>
    have hoe : ¬ o.emp := fun h => by cases he.2 h
    refine m_cond_f hX (by subst hX; rfl) ?_
    cbv
    refine m_eqInts hX (.inl rfl) eqRect [0, 0, 0, 0] [0, 0, 0, 0] rfl rfl rfl rfl zero_wf zero_wf ?_
    intro b hb
    obtain rfl : b = true := hb.2 rfl
    cbv
    refine m_cond_t hX (by subst hX; rfl) ?_
    cbv
    refine hL0 _ _ ?_
    refine aloop_step fun L1 hL1 K1 hK1 => ?_
    cbv
    refine m_cond_t hX (by subst hX; rfl) ?_
    cbv
    refine ⟨i1, i2, ?_⟩
    rw [e1]
    cbv
    refine m_callq hX [] bodied_51 (fun k2 hk2 => Empty_c W0 r.a r.b r.c r.d k2 hk2) ?_ rfl rfl ?_ ?_
    · (first | (simp [MH, MB, MT, MV, MV.MVs, MC.MCs, MC, renC.renCs, renC, up]; done) | (simp [MH, MB, MT, MV, MV.MVs, MC.MCs, MC, renC.renCs, renC, up]; omega) | (simp [MH, MB, MT, MV, MV.MVs, MC.MCs, MC, renC.renCs, renC, up] <;> omega))
    · simp [MV, MV.MVs, MC, MC.MCs]
    intro e2 he2
    cbv
    cases e2 with
    | true =>
      have hre : r.emp := he2.1 rfl
      refine m_cond_t hX (by subst hX; rfl) ?_
      cbv
      refine hL1 _ _ ?_
      refine aloop_step fun L2 hL2 K2 hK2 => ?_
      cbv
      refine m_cond_f hX (by subst hX; rfl) ?_
      cbv
      refine hK2 _ _ _ _ ?_
      cbv
      refine ⟨_, _, [some 0], ?_, rfl, rfl, ?_, hk o (by unfold hull; rw [if_pos hre])⟩
      · simp [MH, MB]
        exact fun i hi => hGm _ i hi
      · simp [MV, MC, MC.MCs, rc, R4.zero, zi]
        try exact ⟨(hmn _ _).symm, (hmn _ _).symm, (hmx _ _).symm, (hmx _ _).symm⟩
    | false =>
      have hre : ¬ r.emp := fun h => by cases he2.2 h
      refine m_cond_f hX (by subst hX; rfl) ?_
      cbv
      refine m_eqInts hX (.inl rfl) eqRect [o.a, o.b, o.c, o.d] [0, 0, 0, 0] rfl rfl rfl rfl (ho.wf (by decide)) zero_wf ?_
      intro b hb
      obtain rfl : b = false := by
        cases b with
        | false => rfl
        | true =>
          have := hb.1 rfl
          simp only [List.cons.injEq, and_true] at this
          exact absurd (by unfold R4.emp; omega) hoe
      cbv
      refine m_cond_f hX (by subst hX; rfl) ?_
      cbv
      refine hL1 _ _ ?_
      refine aloop_step fun L2 hL2 K2 hK2 => ?_
      cbv
      refine m_cond_f hX (by subst hX; rfl) ?_
      cbv
      refine hK2 _ _ _ _ ?_
      cbv
      refine ⟨_, _, [some 0], ?_, rfl, rfl, ?_, hk ⟨min o.a r.a, min o.b r.b, max o.c r.c, max o.d r.d⟩ (by unfold hull; rw [if_neg hre, if_neg hoe])⟩
      · simp [MH, MB]
        exact fun i hi => hGm _ i hi
      · simp [MV, MC, MC.MCs, rc, R4.zero, zi]
        try exact ⟨(hmn _ _).symm, (hmn _ _).symm, (hmx _ _).symm, (hmx _ _).symm⟩
def La.lies (l : La) : R4 := ⟨l.a, l.b, l.c, l.d⟩
/-- The rectangle about all layers. -/
def allL (xs : List La) : R4 := xs.foldl (fun o l => hull o l.lies) R4.zero
theorem hull_emp {o r : R4} (h : o.emp → o = R4.zero) : (hull o r).emp → hull o r = R4.zero := by
  unfold hull
  split
  · exact h
  · rename_i hr
    split
    · intro h2; exact absurd h2 hr
    · rename_i ho
      intro h2
      exfalso
      unfold R4.emp at ho hr h2
      simp only at h2
      omega
theorem hull_near {K : Int} {o r : R4} (h : o.Near K) (k : r.Near K) : (hull o r).Near K := by
  unfold hull
  split
  · exact h
  · split
    · exact k
    · exact ⟨h.a.min k.a, h.b.min k.b, h.c.max k.c, h.d.max k.d⟩
theorem La.lies_near {K : Int} {l : La} (h : l.Near K) : l.lies.Near (2 * K) := by
  obtain ⟨p0, p1, p2, p3⟩ := l.box.nr (L := 2 * K) h.t h.X h.Y h.x0 h.y0 h.x1 h.y1 (by omega)
  exact ⟨p0, p1, p2, p3⟩
/-- What is told of a part of all. -/
structure HI (xs : List La) (a : Nat) (i : Int) (o : R4) : Prop where
  h : a ≤ xs.length
  ei : i = a
  eo : o = allL (xs.take a)
  em : o.emp → o = R4.zero
  ne : o.Near 4611686018427387904
theorem allL_snoc (xs : List La) (l : La) : allL (xs ++ [l]) = hull (allL xs) l.lies := by
  unfold allL
  rw [List.foldl_append]
  rfl
theorem HI.step {xs : List La} {a : Nat} {i : Int} {o : R4} {l : La} (h : HI xs a i o) (ha : a < xs.length) (hl : l = xs.getD a La.zero) (hn : l.Near 2305843009213693952) : HI xs (a + 1) (i + 1) (hull o l.lies) :=
  ⟨ha, by rw [h.ei]; rfl, by rw [getD_take_succ xs a ha, allL_snoc, ← hl, h.eo], hull_emp h.em, hull_near h.ne (La.lies_near hn)⟩
theorem all_near {xs : List La} {K : Int} (hx : ∀ l ∈ xs, l.Near K) (hK : 0 ≤ K) : (allL xs).Near (2 * K) := by
  have key : ∀ (ys : List La) (o : R4), (∀ l ∈ ys, l.Near K) → o.Near (2 * K) → (ys.foldl (fun o l => hull o l.lies) o).Near (2 * K) := by
    intro ys
    induction ys with
    | nil => intro o _ h; exact h
    | cons l ys ih => intro o h1 h2; exact ih _ (fun z hz => h1 z (by simp [hz])) (hull_near h2 (La.lies_near (h1 l (by simp))))
  exact key xs _ hx ⟨⟨by simp [R4.zero]; omega, by simp [R4.zero]; omega⟩, ⟨by simp [R4.zero]; omega, by simp [R4.zero]; omega⟩, ⟨by simp [R4.zero]; omega, by simp [R4.zero]; omega⟩, ⟨by simp [R4.zero]; omega, by simp [R4.zero]; omega⟩⟩
end Go.Proofs.YtdijdlkljeibjaaDoor.AM
namespace Go.Proofs.YtdijdlkljeibjaaDoor.AM
open Go Go.RowKit
set_option cbv.warning false
set_option maxRecDepth 100000
set_option linter.unusedVariables false
set_option linter.unusedSimpArgs false

theorem R4.Near.up {K L : Int} {r : R4} (h : r.Near K) (hl : K ≤ L) : r.Near L := ⟨h.a.up hl, h.b.up hl, h.c.up hl, h.d.up hl⟩
set_option maxHeartbeats 4000000 in
theorem all_c (W0 : World) (rw : Bool) (xs : List La) (m : Nat) (F : Nat → La) (hF : Tells m F xs) (c : Option Nat) (hx : ∀ l ∈ xs, l.Near 1152921504606846976) (hlen : xs.length ≤ 1000000) (k : V → Heap → Prop)
    (hk : ∀ b : R4, b = allL xs → k (.agg (rc b)) [lays rw m F]) : ACall Tryd.prog W0 22 [.one (.sl 0 0 m c)] [lays rw m F] k := by
  refine m_body tab_ok (fn := Tryd.f22) (by kernel_rfl) rfl ?_
  intro X hX
  cbv
  refine m_loop tab_ok hX (fun b : Nat × Int × R4 => HI xs b.1 b.2.1 b.2.2) (fun b => ([.one (.sl 0 0 m c), .one .undef, .one (.ptr 1 0 0), .one (.ptr 2 0 0), .one .undef, .one .undef, .one (.sl 0 0 m c), .one (.int .i64 m), .one (.int .i64 b.2.1)] ++ List.replicate 10 (.one .undef), [lays rw m F, some (.box 39 [zi, zi, zi, zi]), some (.box 39 (rc b.2.2))])) (fun b => m - b.1) ?_ ?_
  · refine ⟨⟨0, 0, R4.zero⟩, ⟨by omega, rfl, by simp [allL], fun _ => rfl, ⟨⟨by decide, by decide⟩, ⟨by decide, by decide⟩, ⟨by decide, by decide⟩, ⟨by decide, by decide⟩⟩⟩, [some 0, some 1, some 2], ?_, rfl, rfl, ?_⟩
    · simp [MH, MB, MC.MCs, MC, lc, rc, R4.zero, zi]
    · simp [MT, MV.MVs, MV, MC]
      subst hX; rfl
  · rintro ⟨a, i, o⟩ hb
    replace hb : HI xs a i o := hb
    cbv
    refine m_cond hX (fun h => ?_) (fun h => ?_) <;> cbv
    ·
      have hh : (0 ≤ i ∧ i < m) ∧ i.toNat = a ∧ a < m := by
        obtain ⟨g1, g2, g3, g4, g5⟩ := hb
        have := hF.n
        have : i < m := by subst hX; simpa [std, cmpS] using h
        omega
      obtain ⟨hh1, hh2, hh3⟩ := hh
      refine ⟨by subst hX; exact hh1, by subst hX; show 0 + i.toNat < m; omega, ?_⟩
      obtain ⟨l, hl⟩ : ∃ l, l = xs.getD a La.zero := ⟨_, rfl⟩
      have ham : a < xs.length := by have := hF.n; omega
      have hln : l.Near 1152921504606846976 := hx l (by
        rw [hl, List.getD_eq_getElem?_getD, List.getElem?_eq_getElem ham]
        exact List.getElem_mem _)
      have e : F (X.nadd 0 (X.toN i)) = l := by
        subst hX
        show F (0 + i.toNat) = _
        rw [hh2, Nat.zero_add, hF.f a hh3, hl]
      rw [e]
      cbv
      refine m_gen (A := X.draw _ _ _) fun K1 hK1 => ?_
      refine m_drawT tab_ok hX [] [5] (.one 0 1 (.one 1 1 (.one 2 2 (.one 3 2 (.one 4 4 (.one 5 3 .fin)))))) (by kernel_rfl) (by simp) ?_
      cbv
      refine m_callq hX [] bodied_42 (fun k2 hk2 => LLies_c W0 l.t l.X l.Y l.x0 l.y0 l.x1 l.y1 hln.t hln.X hln.Y hln.x0 hln.y0 hln.x1 hln.y1 k2 hk2) (by simp [MH]) rfl rfl (by simp [MV, MV.MVs, MC.MCs, MC]) ?_
      rintro ⟨ra, rb, rC, rd⟩ hB
      have hr : (⟨ra, rb, rC, rd⟩ : R4) = l.lies := by
        obtain ⟨q0, q1, q2, q3⟩ := hB
        have q0' : ra = l.a := q0
        have q1' : rb = l.b := q1
        have q2' : rC = l.c := q2
        have q3' : rd = l.d := q3
        rw [q0', q1', q2', q3']
        rfl
      clear hB
      cbv
      have hstep := hb.step ham hl (hln.up (by decide))
      rw [← hr] at hstep
      have hrn : (⟨ra, rb, rC, rd⟩ : R4).Near 4611686018427387904 := by rw [hr]; exact (La.lies_near hln).up (by decide)
      refine m_callq hX [4] bodied_41 (fun k2 hk2 => Hull_c W0 o ⟨ra, rb, rC, rd⟩ hb.ne hrn hb.em (fun q => match q with | 0 => rc o | _ => rc ⟨ra, rb, rC, rd⟩) rfl rfl k2 hk2) ?_ rfl rfl (by simp [MV, MV.MVs, MC]) ?_
      · simp [MH, MB]
        intro i hi
        match i, hi with
        | 0, _ => simp [rc, MC.MCs, MC]
        | 1, _ => simp [rc, MC.MCs, MC]
        | i + 2, hi => omega
      intro z hz
      rw [← hz] at hstep
      cbv
      refine hK1 _ _ ?_
      cbv
      refine ⟨⟨a + 1, i + 1, z⟩, hstep, by show m - (a + 1) < m - a; omega, [some 0, some 1, some 2], ?_, rfl, rfl, ?_⟩
      · simp [MH, MB, MC.MCs, MC, lc, rc, zi]
      · have hi : X.bin .add .i64 i 1 = i + 1 := by subst hX; exact wrap_eq (by omega) (by have := hF.n; omega)
        simp [MT, MV.MVs, MV, MC]
        exact hi.symm
    · have hb2 : o = allL xs := by
        obtain ⟨g1, g2, g3, g4, g5⟩ := hb
        have : ¬ i < m := by subst hX; simpa [std, cmpS] using h
        have := hF.n
        rw [g3, List.take_of_length_le (by omega)]
      refine ⟨_, _, [some 0], ?_, rfl, rfl, ?_, hk o hb2⟩
      · simp [MH, MB, MC.MCs, MC, lc]
      · simp [MV, MC, MC.MCs, rc]
set_option maxHeartbeats 8000000 in
theorem RAll_c (W0 : World) (rw : Bool) (xs : List La) (m : Nat) (F : Nat → La) (hF : Tells m F xs) (c : Option Nat) (hx : ∀ l ∈ xs, l.Near 1152921504606846976) (hlen : xs.length ≤ 1000000) (k : V → Heap → Prop)
    (hk : ∀ b : R4, b = allL xs → k (.agg (rc b)) [lays rw m F]) : ACall Tryd.prog W0 23 [.one (.sl 0 0 m c)] [lays rw m F] k := by
  refine m_body tab_ok (fn := Tryd.f23) (by kernel_rfl) rfl ?_
  intro X hX
  cbv
  refine m_loop tab_ok hX (fun b : Nat × Int × R4 => HI xs b.1 b.2.1 b.2.2) (fun b => ([.one (.sl 0 0 m c), .one .undef, .one (.ptr 1 0 0), .one (.ptr 2 0 0), .one (.int .i64 b.2.1)] ++ List.replicate 50 (.one .undef), [lays rw m F, some (.box 39 [zi, zi, zi, zi]), some (.box 39 (rc b.2.2))])) (fun b => m - b.1) ?_ ?_
  · refine ⟨⟨0, 0, R4.zero⟩, ⟨by omega, rfl, by simp [allL], fun _ => rfl, ⟨⟨by decide, by decide⟩, ⟨by decide, by decide⟩, ⟨by decide, by decide⟩, ⟨by decide, by decide⟩⟩⟩, [some 0, some 1, some 2], ?_, rfl, rfl, ?_⟩
    · simp [MH, MB, MC.MCs, MC, lc, rc, R4.zero, zi]
    · simp [MT, MV.MVs, MV, MC]
  · rintro ⟨a, i, ⟨oa, ob, oc, od⟩⟩ hb
    replace hb : HI xs a i ⟨oa, ob, oc, od⟩ := hb
    cbv
    refine m_cond hX (fun h => ?_) (fun h => ?_) <;> cbv
    ·
      have hh : (0 ≤ i ∧ i < m) ∧ i.toNat = a ∧ a < m := by
        obtain ⟨g1, g2, g3, g4, g5⟩ := hb
        have := hF.n
        have : i < m := by subst hX; simpa [std, cmpS] using h
        omega
      obtain ⟨hh1, hh2, hh3⟩ := hh
      refine ⟨by subst hX; exact hh1, by subst hX; show 0 + i.toNat < m; omega, ?_⟩
      obtain ⟨l, hl⟩ : ∃ l, l = xs.getD a La.zero := ⟨_, rfl⟩
      have ham : a < xs.length := by have := hF.n; omega
      have hln : l.Near 1152921504606846976 := hx l (by
        rw [hl, List.getD_eq_getElem?_getD, List.getElem?_eq_getElem ham]
        exact List.getElem_mem _)
      have e : F (X.nadd 0 (X.toN i)) = l := by
        subst hX
        show F (0 + i.toNat) = _
        rw [hh2, Nat.zero_add, hF.f a hh3, hl]
      rw [e]
      cbv
      have hi : X.bin .add .i64 i 1 = i + 1 := by subst hX; exact wrap_eq (by omega) (by have := hF.n; omega)
      refine m_callq hX [] bodied_17 (fun k2 hk2 => RLies_c W0 l.t l.X l.Y l.x0 l.y0 l.x1 l.y1 hln.t hln.X hln.Y hln.x0 hln.y0 hln.x1 hln.y1 k2 hk2) (by simp [MH]) rfl rfl (by simp [MV, MV.MVs, MC.MCs, MC]) ?_
      rintro ⟨ra, rb, rC, rd⟩ hB
      have hr : (⟨ra, rb, rC, rd⟩ : R4) = l.lies := by
        obtain ⟨q0, q1, q2, q3⟩ := hB
        have q0' : ra = l.a := q0
        have q1' : rb = l.b := q1
        have q2' : rC = l.c := q2
        have q3' : rd = l.d := q3
        rw [q0', q1', q2', q3']
        rfl
      clear hB
      cbv
      have hstep := hb.step ham hl (hln.up (by decide))
      rw [← hr] at hstep
      obtain ⟨z, hz⟩ : ∃ z, z = hull ⟨oa, ob, oc, od⟩ ⟨ra, rb, rC, rd⟩ := ⟨_, rfl⟩
      rw [← hz] at hstep
      refine m_callq hX [] bodied_43 (fun k2 hk2 => REmpty_c W0 ra rb rC rd k2 hk2) ?_ rfl rfl ?_ ?_
      · (first | (simp [MH, MB, MT, MV, MV.MVs, MC.MCs, MC, renC.renCs, renC, up]; done) | (simp [MH, MB, MT, MV, MV.MVs, MC.MCs, MC, renC.renCs, renC, up]; omega) | (simp [MH, MB, MT, MV, MV.MVs, MC.MCs, MC, renC.renCs, renC, up] <;> omega))
      · simp [MV, MV.MVs, MC, MC.MCs]
      intro e1 he1
      cbv
      cases e1 with
      | true =>
        have hze : z = ⟨oa, ob, oc, od⟩ := by rw [hz]; unfold hull; exact if_pos (he1.1 rfl)
        refine m_cond_t hX (by subst hX; rfl) ?_
        cbv
        rw [hze] at hstep
        refine ⟨⟨a + 1, i + 1, ⟨oa, ob, oc, od⟩⟩, hstep, by show m - (a + 1) < m - a; omega, [some 0, some 1, some 2], ?_, rfl, rfl, ?_⟩
        · simp [MH, MB, MC.MCs, MC, lc, rc, zi]
        · simp [MT, MV.MVs, MV, MC]
          exact hi.symm
      | false =>
        have hre : ¬ (⟨ra, rb, rC, rd⟩ : R4).emp := fun h => by cases he1.2 h
        refine m_cond_f hX (by subst hX; rfl) ?_
        cbv
        refine m_callq hX [] bodied_43 (fun k2 hk2 => REmpty_c W0 oa ob oc od k2 hk2) ?_ rfl rfl ?_ ?_
        · (first | (simp [MH, MB, MT, MV, MV.MVs, MC.MCs, MC, renC.renCs, renC, up]; done) | (simp [MH, MB, MT, MV, MV.MVs, MC.MCs, MC, renC.renCs, renC, up]; omega) | (simp [MH, MB, MT, MV, MV.MVs, MC.MCs, MC, renC.renCs, renC, up] <;> omega))
        · simp [MV, MV.MVs, MC, MC.MCs]
        intro e2 he2
        cbv
        cases e2 with
        | true =>
          have hze : z = ⟨ra, rb, rC, rd⟩ := by rw [hz]; unfold hull; rw [if_neg hre]; exact if_pos (he2.1 rfl)
          refine m_cond_t hX (by subst hX; rfl) ?_
          cbv
          refine m_cond_f hX (by subst hX; simp [std, cmpS]) ?_
          cbv
          refine m_cond_f hX (by subst hX; simp [std, cmpS]) ?_
          cbv
          refine m_cond_f hX (by subst hX; simp [std, cmpS]) ?_
          cbv
          refine m_cond_f hX (by subst hX; simp [std, cmpS]) ?_
          cbv
          rw [hze] at hstep
          refine ⟨⟨a + 1, i + 1, ⟨ra, rb, rC, rd⟩⟩, hstep, by show m - (a + 1) < m - a; omega, [some 0, some 1, some 2], ?_, rfl, rfl, ?_⟩
          · simp [MH, MB, MC.MCs, MC, lc, rc, zi]
          · simp [MT, MV.MVs, MV, MC]
            exact hi.symm
        | false =>
          obtain ⟨z0, hz0⟩ : ∃ z0, z0 = min oa ra := ⟨_, rfl⟩
          obtain ⟨z1, hz1⟩ : ∃ z1, z1 = min ob rb := ⟨_, rfl⟩
          obtain ⟨z2, hz2⟩ : ∃ z2, z2 = max oc rC := ⟨_, rfl⟩
          obtain ⟨z3, hz3⟩ : ∃ z3, z3 = max od rd := ⟨_, rfl⟩
          have hze : z = ⟨z0, z1, z2, z3⟩ := by
            rw [hz, hz0, hz1, hz2, hz3]
            unfold hull
            rw [if_neg hre]
            exact if_neg (fun h => by cases he2.2 h)
          rw [hze] at hstep
          clear hze hz
          refine m_cond_f hX (by subst hX; rfl) ?_
          cbv
          refine m_cond hX (fun c1 => ?_) (fun c1 => ?_) <;> cbv
          all_goals
            refine m_cond hX (fun c2 => ?_) (fun c2 => ?_) <;> cbv
            all_goals
              refine m_cond hX (fun c3 => ?_) (fun c3 => ?_) <;> cbv
              all_goals
                refine m_cond hX (fun c4 => ?_) (fun c4 => ?_) <;> cbv
                all_goals
                  refine ⟨⟨a + 1, i + 1, ⟨z0, z1, z2, z3⟩⟩, hstep, by show m - (a + 1) < m - a; omega, [some 0, some 1, some 2], ?_, rfl, rfl, ?_⟩
                  · simp [MH, MB, MC.MCs, MC, lc, rc, zi]
                    subst hX
                    simp [std, cmpS] at c1 c2 c3 c4
                    refine ⟨?_, ?_, ?_, ?_⟩ <;> omega
                  · simp [MT, MV.MVs, MV, MC]
                    exact hi.symm
    · have hb2 : (⟨oa, ob, oc, od⟩ : R4) = allL xs := by
        obtain ⟨g1, g2, g3, g4, g5⟩ := hb
        have : ¬ i < m := by subst hX; simpa [std, cmpS] using h
        have := hF.n
        rw [g3, List.take_of_length_le (by omega)]
      refine ⟨_, _, [some 0], ?_, rfl, rfl, ?_, hk _ hb2⟩
      · simp [MH, MB, MC.MCs, MC, lc]
      · simp [MV, MC, MC.MCs, rc]
end Go.Proofs.YtdijdlkljeibjaaDoor.AM
namespace Go.Proofs.YtdijdlkljeibjaaDoor.AM
open Go Go.RowKit
set_option cbv.warning false
set_option maxRecDepth 100000
set_option linter.unusedVariables false
set_option linter.unusedSimpArgs false
theorem bodied_21 : Bodied Tryd.prog 21 := ⟨Tryd.f21, by kernel_rfl, by kernel_rfl, by kernel_rfl⟩
theorem bodied_8 : Bodied Tryd.prog 8 := ⟨Tryd.f8, by kernel_rfl, by kernel_rfl, by kernel_rfl⟩
theorem bodied_9 : Bodied Tryd.prog 9 := ⟨Tryd.f9, by kernel_rfl, by kernel_rfl, by kernel_rfl⟩
theorem bodied_10 : Bodied Tryd.prog 10 := ⟨Tryd.f10, by kernel_rfl, by kernel_rfl, by kernel_rfl⟩
theorem Clone7_some (W0 : World) (rw : Bool) (m c : Nat) (f : Nat → La) (hm : m ≤ 10000000) (k : V → Heap → Prop) (hk : k (.one (.sl 1 0 m none)) [lays rw m f, lays true m f]) : ACall Tryd.prog W0 21 [.one (.sl 0 0 m (some c))] [lays rw m f] k := by
  refine m_body tab_ok (fn := Tryd.f21) (by kernel_rfl) rfl ?_
  intro X hX
  cbv
  repeat' (first | (refine m_cond_t hX (by first | rfl | assumption | (subst hX; rfl)) ?_; cbv) | (refine m_cond_f hX (by first | rfl | assumption | (subst hX; rfl)) ?_; cbv) | fail)
  refine m_append tab_ok hX m (fun q => lc (f q)) rfl rfl rfl rfl rfl rfl (by decide) rfl rfl rfl ?_ ?_
  · exact ⟨by omega, rfl, by omega, by show m * 56 ≤ _; omega, by omega, fun _ _ => rfl, fun _ h => by omega, fun q _ => by simp only [Nat.zero_add]⟩
  cbv
  refine ⟨_, _, [some 0, some 2], ?_, rfl, rfl, ?_, hk⟩
  · simp [MH, MB, MC.MCs, MC, lc]
  · simp [MV, MC]
theorem Clone7_nil (W0 : World) (rw : Bool) (m : Nat) (f : Nat → La) (hm : m = 0) (k : V → Heap → Prop) (hk : k (.one (.sl 1 0 m none)) [lays rw m f, lays true m f]) : ACall Tryd.prog W0 21 [.one .nils] [lays rw m f] k := by
  subst hm
  refine m_body tab_ok (fn := Tryd.f21) (by kernel_rfl) rfl ?_
  intro X hX
  cbv
  repeat' (first | (refine m_cond_t hX (by first | rfl | assumption | (subst hX; rfl)) ?_; cbv) | (refine m_cond_f hX (by first | rfl | assumption | (subst hX; rfl)) ?_; cbv) | fail)
  refine ⟨_, _, [some 0, none], ?_, rfl, rfl, ?_, hk⟩
  · simp [MH, MB, MC.MCs, MC, lc]
  · simp [MV, MC]
theorem Clone7_c (W0 : World) (rw : Bool) (m : Nat) (c : Option Nat) (f : Nat → La) (hm : m ≤ 10000000) (k : V → Heap → Prop) (hk : k (.one (.sl 1 0 m none)) [lays rw m f, lays true m f]) : ACall Tryd.prog W0 21 [.one (.sl 0 0 m c)] [lays rw m f] k :=
  ACall.split [] [] (fun c _ => Clone7_some W0 rw m c f hm k hk) (fun h0 => Clone7_nil W0 rw m f h0 k hk)
/-- A step. -/
structure Sp where
  side : Int
  n : Int
  u : Bool
def spC (s : Sp) : List C := [.int .i64 s.side, .int .i64 s.n, .bool s.u]
theorem Right_c (W0 : World) (s : Sp) (k : V → Heap → Prop) (hk : ∀ b : Bool, (b = true ↔ RightS s.side s.n) → k (.one (.bool b)) []) : ACall Tryd.prog W0 8 [.agg (spC s)] [] k := by
  obtain ⟨side, n, u⟩ := s
  refine m_body tab_ok (fn := Tryd.f8) (by kernel_rfl) rfl ?_
  intro X hX
  cbv
  refine m_callq hX [] bodied_7 (fun k2 hk2 => In_c W0 side 1 4 k2 hk2) ?_ rfl rfl ?_ ?_
  · (first | (simp [MH, MB, MT, MV, MV.MVs, MC.MCs, MC, renC.renCs, renC, up]; done) | (simp [MH, MB, MT, MV, MV.MVs, MC.MCs, MC, renC.renCs, renC, up]; omega) | (simp [MH, MB, MT, MV, MV.MVs, MC.MCs, MC, renC.renCs, renC, up] <;> omega))
  · simp [MV, MV.MVs, MC, MC.MCs]
  intro b1 hb1
  cbv
  cases b1 with
  | false =>
    repeat' (first | (refine m_cond_t hX (by first | rfl | assumption | (subst hX; rfl)) ?_; cbv) | (refine m_cond_f hX (by first | rfl | assumption | (subst hX; rfl)) ?_; cbv) | fail)
    refine ⟨_, _, [], by simp [MH], rfl, rfl, ?_, hk false ⟨fun h => (by cases h), fun h => by cases hb1.2 ⟨h.h1, h.h2⟩⟩⟩
    simp [MV, MC]
    try (subst hX; rfl)
  | true =>
    repeat' (first | (refine m_cond_t hX (by first | rfl | assumption | (subst hX; rfl)) ?_; cbv) | (refine m_cond_f hX (by first | rfl | assumption | (subst hX; rfl)) ?_; cbv) | fail)
    refine m_callq hX [] bodied_7 (fun k2 hk2 => In_c W0 n 1 64 k2 hk2) ?_ rfl rfl ?_ ?_
    · (first | (simp [MH, MB, MT, MV, MV.MVs, MC.MCs, MC, renC.renCs, renC, up]; done) | (simp [MH, MB, MT, MV, MV.MVs, MC.MCs, MC, renC.renCs, renC, up]; omega) | (simp [MH, MB, MT, MV, MV.MVs, MC.MCs, MC, renC.renCs, renC, up] <;> omega))
    · simp [MV, MV.MVs, MC, MC.MCs]
    intro b2 hb2
    cbv
    refine ⟨_, _, [], by simp [MH], rfl, rfl, ?_, hk b2 ⟨fun h => ⟨(hb1.1 rfl).1, (hb1.1 rfl).2, (hb2.1 h).1, (hb2.1 h).2⟩, fun h => hb2.2 ⟨h.h3, h.h4⟩⟩⟩
    simp [MV, MC]
    try (subst hX; cases b2 <;> rfl)
def Sp.up (s : Sp) : Bool := decide (s.side ≤ 2)
def Sp.low (s : Sp) : Bool := decide (s.side = 1 ∨ s.side = 3)
/-- Where is folded. -/
def Sp.at_ (w h : Int) (s : Sp) (r : R4) : Int := if s.side = 1 then r.a + s.n * w else if s.side = 2 then r.c - s.n * w else if s.side = 3 then r.b + s.n * h else r.d - s.n * h
def stepL (w h : Int) (s : Sp) (xs : List La) : List La := foldL s.up s.low s.u (s.at_ w h (allL xs)) xs
instance (a b : Int) : Decidable (RightS a b) := if h : 1 ≤ a ∧ a ≤ 4 ∧ 1 ≤ b ∧ b ≤ 64 then .isTrue ⟨h.1, h.2.1, h.2.2.1, h.2.2.2⟩ else .isFalse fun g => h ⟨g.h1, g.h2, g.h3, g.h4⟩
def stepP (w h : Int) (s : Sp) (xs : List La) : List La := if RightS s.side s.n ∧ xs ≠ [] then stepL w h s xs else xs
theorem mulNr {A n w : Int} (h1 : 1 ≤ n) (h2 : n ≤ 64) (hw : Nr A w) : Nr (64 * A) (n * w) := by
  obtain ⟨p, q⟩ := hw
  have e : (n * w).natAbs ≤ 64 * A.toNat := by
    rw [Int.natAbs_mul]
    exact Nat.mul_le_mul (by omega) (by omega)
  constructor <;> omega
theorem add_std {X : Ext} {P : Program} {W0 : World} {md : Md} (hX : X = std P W0 md) {r n w : Int} (h : Nr 72057594037927936 r) (hn : Nr 68719476736 (n * w)) : X.bin .add .i64 r (X.bin .mul .i64 n w) = r + n * w ∧ X.bin .sub .i64 r (X.bin .mul .i64 n w) = r - n * w ∧ Nr 144115188075855872 (r + n * w) ∧ Nr 144115188075855872 (r - n * w) := by
  obtain ⟨a1, a2⟩ := h
  obtain ⟨b1, b2⟩ := hn
  subst hX
  refine ⟨?_, ?_, ⟨by omega, by omega⟩, ⟨by omega, by omega⟩⟩
  · show IntKind.i64.wrap (r + IntKind.i64.wrap (n * w)) = _
    rw [wrap_eq (x := n * w) (by omega) (by omega), wrap_eq (by omega) (by omega)]
  · show IntKind.i64.wrap (r - IntKind.i64.wrap (n * w)) = _
    rw [wrap_eq (x := n * w) (by omega) (by omega), wrap_eq (by omega) (by omega)]
set_option maxHeartbeats 4000000 in
theorem RStep_c (W0 : World) (rw : Bool) (xs : List La) (m : Nat) (F : Nat → La) (hF : Tells m F xs) (c : Option Nat) (w h : Int) (s : Sp) (hw : Nr 1073741824 w) (hh : Nr 1073741824 h) (hr : RightS s.side s.n) (hx : ∀ l ∈ xs, l.Near 36028797018963968) (hlen : xs.length ≤ 1000000) (k : V → Heap → Prop)
    (hk : ∀ b : Nat × (Nat → La), Tells b.1 b.2 (stepL w h s xs) → k (.one (.sl 1 0 b.1 none)) [lays rw m F, lays true b.1 b.2]) : ACall Tryd.prog W0 10 [.one (.sl 0 0 m c), .one (.int .i64 w), .one (.int .i64 h), .agg (spC s)] [lays rw m F] k := by
  obtain ⟨side, n, u⟩ := s
  replace hr : RightS side n := hr
  have hr2 := all_near hx (by decide)
  have hx2 : ∀ l ∈ xs, l.Near 144115188075855872 := fun l hl => (hx l hl).up (by decide)
  have hw2 := mulNr hr.h3 hr.h4 hw
  have hh2 := mulNr hr.h3 hr.h4 hh
  refine m_body tab_ok (fn := Tryd.f10) (by kernel_rfl) rfl ?_
  intro X hX
  cbv
  refine m_callq hX [0] bodied_23 (fun k2 hk2 => RAll_c W0 rw xs m F hF c (fun l hl => (hx l hl).up (by decide)) hlen k2 hk2) (by simp [MH, MB, MC.MCs, MC, lc, renC.renCs, renC]) rfl rfl (by simp [MV, MV.MVs, MC]) ?_
  intro rr hrr0
  have hrr : rr.Near 72057594037927936 := hrr0 ▸ hr2
  cbv
  have hcase : side = 1 ∨ side = 2 ∨ side = 3 ∨ side = 4 := by have := hr.h1; have := hr.h2; omega
  rcases hcase with rfl | rfl | rfl | rfl
  ·
    refine m_cond_t hX (by subst hX; rfl) ?_
    cbv
    obtain ⟨q1, q2, q3, q4⟩ := add_std hX (r := rr.a) (n := n) (w := w) hrr.a hw2
    refine m_callq hX [0] bodied_24 (fun k2 hk2 => RFoldG_c W0 rw xs c true true u (X.bin .add .i64 rr.a (X.bin .mul .i64 n w)) hx2 hlen (by rw [q1]; exact q3) m F hF k2 hk2) (by simp [MH, MB, MC.MCs, MC, lc, renC.renCs, renC]) rfl rfl (by simp [MV, MV.MVs, MC]) ?_
    rintro ⟨p, f⟩ hp
    replace hp : Tells p f (foldL true true u _ xs) := hp
    rw [q1, hrr0] at hp
    cbv
    refine ⟨_, _, [some 0, some 3], ?_, rfl, rfl, ?_, hk (p, f) hp⟩
    · simp [MH, MB, MC.MCs, MC, lc, renC.renCs, renC]
    · simp [MV, MC]
  ·
    refine m_cond_f hX (by subst hX; rfl) ?_
    cbv
    refine m_cond_t hX (by subst hX; rfl) ?_
    cbv
    obtain ⟨q1, q2, q3, q4⟩ := add_std hX (r := rr.c) (n := n) (w := w) hrr.c hw2
    refine m_callq hX [0] bodied_24 (fun k2 hk2 => RFoldG_c W0 rw xs c true false u (X.bin .sub .i64 rr.c (X.bin .mul .i64 n w)) hx2 hlen (by rw [q2]; exact q4) m F hF k2 hk2) (by simp [MH, MB, MC.MCs, MC, lc, renC.renCs, renC]) rfl rfl (by simp [MV, MV.MVs, MC]) ?_
    rintro ⟨p, f⟩ hp
    replace hp : Tells p f (foldL true false u _ xs) := hp
    rw [q2, hrr0] at hp
    cbv
    refine ⟨_, _, [some 0, some 3], ?_, rfl, rfl, ?_, hk (p, f) hp⟩
    · simp [MH, MB, MC.MCs, MC, lc, renC.renCs, renC]
    · simp [MV, MC]
  ·
    refine m_cond_f hX (by subst hX; rfl) ?_
    cbv
    refine m_cond_f hX (by subst hX; rfl) ?_
    cbv
    refine m_cond_t hX (by subst hX; rfl) ?_
    cbv
    obtain ⟨q1, q2, q3, q4⟩ := add_std hX (r := rr.b) (n := n) (w := h) hrr.b hh2
    refine m_callq hX [0] bodied_24 (fun k2 hk2 => RFoldG_c W0 rw xs c false true u (X.bin .add .i64 rr.b (X.bin .mul .i64 n h)) hx2 hlen (by rw [q1]; exact q3) m F hF k2 hk2) (by simp [MH, MB, MC.MCs, MC, lc, renC.renCs, renC]) rfl rfl (by simp [MV, MV.MVs, MC]) ?_
    rintro ⟨p, f⟩ hp
    replace hp : Tells p f (foldL false true u _ xs) := hp
    rw [q1, hrr0] at hp
    cbv
    refine ⟨_, _, [some 0, some 3], ?_, rfl, rfl, ?_, hk (p, f) hp⟩
    · simp [MH, MB, MC.MCs, MC, lc, renC.renCs, renC]
    · simp [MV, MC]
  ·
    refine m_cond_f hX (by subst hX; rfl) ?_
    cbv
    refine m_cond_f hX (by subst hX; rfl) ?_
    cbv
    refine m_cond_f hX (by subst hX; rfl) ?_
    cbv
    obtain ⟨q1, q2, q3, q4⟩ := add_std hX (r := rr.d) (n := n) (w := h) hrr.d hh2
    refine m_callq hX [0] bodied_24 (fun k2 hk2 => RFoldG_c W0 rw xs c false false u (X.bin .sub .i64 rr.d (X.bin .mul .i64 n h)) hx2 hlen (by rw [q2]; exact q4) m F hF k2 hk2) (by simp [MH, MB, MC.MCs, MC, lc, renC.renCs, renC]) rfl rfl (by simp [MV, MV.MVs, MC]) ?_
    rintro ⟨p, f⟩ hp
    replace hp : Tells p f (foldL false false u _ xs) := hp
    rw [q2, hrr0] at hp
    cbv
    refine ⟨_, _, [some 0, some 3], ?_, rfl, rfl, ?_, hk (p, f) hp⟩
    · simp [MH, MB, MC.MCs, MC, lc, renC.renCs, renC]
    · simp [MV, MC]
set_option maxHeartbeats 4000000 in
theorem PStep_c (W0 : World) (hG : GL W0) (rw : Bool) (xs : List La) (m : Nat) (F : Nat → La) (hF : Tells m F xs) (c : Option Nat) (w h : Int) (s : Sp) (hw : Nr 1073741824 w) (hh : Nr 1073741824 h) (hx : ∀ l ∈ xs, l.Near 36028797018963968) (hlen : xs.length ≤ 1000000) (k : V → Heap → Prop)
    (hk : ∀ b : Nat × (Nat → La), Tells b.1 b.2 (stepP w h s xs) → k (.one (.sl 1 0 b.1 none)) [lays rw m F, lays true b.1 b.2]) : ACall Tryd.prog W0 9 [.one (.sl 0 0 m c), .one (.int .i64 w), .one (.int .i64 h), .agg (spC s)] [lays rw m F] k := by
  obtain ⟨side, n, u⟩ := s
  have hFn := hF.n
  refine m_body tab_ok (fn := Tryd.f9) (by kernel_rfl) rfl ?_
  intro X hX
  cbv
  refine m_callq hX [] bodied_20 (fun k2 hk2 => StepPut_c W0 hG side n u k2 hk2) ?_ rfl rfl ?_ ?_
  · (first | (simp [MH, MB, MT, MV, MV.MVs, MC.MCs, MC, renC.renCs, renC, up]; done) | (simp [MH, MB, MT, MV, MV.MVs, MC.MCs, MC, renC.renCs, renC, up]; omega) | (simp [MH, MB, MT, MV, MV.MVs, MC.MCs, MC, renC.renCs, renC, up] <;> omega))
  · simp [MV, MV.MVs, MC, MC.MCs]
  rintro ⟨t, b⟩ hb
  replace hb : b = true ↔ RightS side n := hb
  cbv
  cases b with
  | false =>
    have hr : ¬ RightS side n := fun h => by cases hb.2 h
    repeat' (first | (refine m_cond_t hX (by first | rfl | assumption | (subst hX; rfl)) ?_; cbv) | (refine m_cond_f hX (by first | rfl | assumption | (subst hX; rfl)) ?_; cbv) | fail)
    refine m_callf hX [0] bodied_21 (fun k2 hk2 => Clone7_c W0 rw m c F (by omega) k2 hk2) (by simp [MH, MB, MC.MCs, MC, lc, renC.renCs, renC]) rfl rfl (by simp [MV, MV.MVs, MC]) ?_
    cbv
    refine ⟨_, _, [some 0, some 2], ?_, rfl, rfl, ?_, hk (m, F) (by unfold stepP; rw [if_neg (fun h => hr h.1)]; exact hF)⟩
    · simp [MH, MB, MC.MCs, MC, lc, renC.renCs, renC]
    · simp [MV, MC]
  | true =>
    have hr : RightS side n := hb.1 rfl
    repeat' (first | (refine m_cond_t hX (by first | rfl | assumption | (subst hX; rfl)) ?_; cbv) | (refine m_cond_f hX (by first | rfl | assumption | (subst hX; rfl)) ?_; cbv) | fail)
    refine m_cond hX (fun h0 => ?_) (fun h0 => ?_) <;> cbv
    · have hm0 : xs = [] := by
        have : (m : Int) = 0 := by subst hX; simpa [std, cmpS] using h0
        exact List.eq_nil_of_length_eq_zero (by omega)
      refine m_callf hX [0] bodied_21 (fun k2 hk2 => Clone7_c W0 rw m c F (by omega) k2 hk2) (by simp [MH, MB, MC.MCs, MC, lc, renC.renCs, renC]) rfl rfl (by simp [MV, MV.MVs, MC]) ?_
      cbv
      refine ⟨_, _, [some 0, some 2], ?_, rfl, rfl, ?_, hk (m, F) (by unfold stepP; rw [if_neg (fun h => h.2 hm0)]; exact hF)⟩
      · simp [MH, MB, MC.MCs, MC, lc, renC.renCs, renC]
      · simp [MV, MC]
    · have hne : xs ≠ [] := by
        have : ¬ (m : Int) = 0 := by subst hX; simpa [std, cmpS] using h0
        intro h1
        rw [h1] at hFn
        simp at hFn
        omega
      have hr2 := all_near hx (by decide)
      have hx2 : ∀ l ∈ xs, l.Near 144115188075855872 := fun l hl => (hx l hl).up (by decide)
      have hw2 := mulNr hr.h3 hr.h4 hw
      have hh2 := mulNr hr.h3 hr.h4 hh
      refine m_callq hX [0] bodied_22 (fun k2 hk2 => all_c W0 rw xs m F hF c (fun l hl => (hx l hl).up (by decide)) hlen k2 hk2) (by simp [MH, MB, MC.MCs, MC, lc, renC.renCs, renC]) rfl rfl (by simp [MV, MV.MVs, MC]) ?_
      intro rr hrr0
      have hrr : rr.Near 72057594037927936 := hrr0 ▸ hr2
      cbv
      have hcase : side = 1 ∨ side = 2 ∨ side = 3 ∨ side = 4 := by have := hr.h1; have := hr.h2; omega
      rcases hcase with rfl | rfl | rfl | rfl
      ·
        refine m_cond_t hX (by subst hX; rfl) ?_
        cbv
        obtain ⟨q1, q2, q3, q4⟩ := add_std hX (r := rr.a) (n := n) (w := w) hrr.a hw2
        refine m_callq hX [0] bodied_19 (fun k2 hk2 => OneG_c W0 rw xs c true true u (X.bin .add .i64 rr.a (X.bin .mul .i64 n w)) hx2 hlen (by rw [q1]; exact q3) m F hF k2 hk2) (by simp [MH, MB, MC.MCs, MC, lc, renC.renCs, renC]) rfl rfl (by simp [MV, MV.MVs, MC]) ?_
        rintro ⟨p, f⟩ hp
        replace hp : Tells p f (oneL true true u _ xs) := hp
        rw [one_fold _ _ _ _ _ fun l hl => (hx l hl).t] at hp
        rw [q1, hrr0] at hp
        cbv
        refine ⟨_, _, [some 0, some 3], ?_, rfl, rfl, ?_, hk (p, f) (by unfold stepP; rw [if_pos ⟨hr, hne⟩]; exact hp)⟩
        · simp [MH, MB, MC.MCs, MC, lc, renC.renCs, renC]
        · simp [MV, MC]
      ·
        refine m_cond_f hX (by subst hX; rfl) ?_
        cbv
        refine m_cond_t hX (by subst hX; rfl) ?_
        cbv
        obtain ⟨q1, q2, q3, q4⟩ := add_std hX (r := rr.c) (n := n) (w := w) hrr.c hw2
        refine m_callq hX [0] bodied_19 (fun k2 hk2 => OneG_c W0 rw xs c true false u (X.bin .sub .i64 rr.c (X.bin .mul .i64 n w)) hx2 hlen (by rw [q2]; exact q4) m F hF k2 hk2) (by simp [MH, MB, MC.MCs, MC, lc, renC.renCs, renC]) rfl rfl (by simp [MV, MV.MVs, MC]) ?_
        rintro ⟨p, f⟩ hp
        replace hp : Tells p f (oneL true false u _ xs) := hp
        rw [one_fold _ _ _ _ _ fun l hl => (hx l hl).t] at hp
        rw [q2, hrr0] at hp
        cbv
        refine ⟨_, _, [some 0, some 3], ?_, rfl, rfl, ?_, hk (p, f) (by unfold stepP; rw [if_pos ⟨hr, hne⟩]; exact hp)⟩
        · simp [MH, MB, MC.MCs, MC, lc, renC.renCs, renC]
        · simp [MV, MC]
      ·
        refine m_cond_f hX (by subst hX; rfl) ?_
        cbv
        refine m_cond_f hX (by subst hX; rfl) ?_
        cbv
        refine m_cond_t hX (by subst hX; rfl) ?_
        cbv
        obtain ⟨q1, q2, q3, q4⟩ := add_std hX (r := rr.b) (n := n) (w := h) hrr.b hh2
        refine m_callq hX [0] bodied_19 (fun k2 hk2 => OneG_c W0 rw xs c false true u (X.bin .add .i64 rr.b (X.bin .mul .i64 n h)) hx2 hlen (by rw [q1]; exact q3) m F hF k2 hk2) (by simp [MH, MB, MC.MCs, MC, lc, renC.renCs, renC]) rfl rfl (by simp [MV, MV.MVs, MC]) ?_
        rintro ⟨p, f⟩ hp
        replace hp : Tells p f (oneL false true u _ xs) := hp
        rw [one_fold _ _ _ _ _ fun l hl => (hx l hl).t] at hp
        rw [q1, hrr0] at hp
        cbv
        refine ⟨_, _, [some 0, some 3], ?_, rfl, rfl, ?_, hk (p, f) (by unfold stepP; rw [if_pos ⟨hr, hne⟩]; exact hp)⟩
        · simp [MH, MB, MC.MCs, MC, lc, renC.renCs, renC]
        · simp [MV, MC]
      ·
        refine m_cond_f hX (by subst hX; rfl) ?_
        cbv
        refine m_cond_f hX (by subst hX; rfl) ?_
        cbv
        refine m_cond_f hX (by subst hX; rfl) ?_
        cbv
        obtain ⟨q1, q2, q3, q4⟩ := add_std hX (r := rr.d) (n := n) (w := h) hrr.d hh2
        refine m_callq hX [0] bodied_19 (fun k2 hk2 => OneG_c W0 rw xs c false false u (X.bin .sub .i64 rr.d (X.bin .mul .i64 n h)) hx2 hlen (by rw [q2]; exact q4) m F hF k2 hk2) (by simp [MH, MB, MC.MCs, MC, lc, renC.renCs, renC]) rfl rfl (by simp [MV, MV.MVs, MC]) ?_
        rintro ⟨p, f⟩ hp
        replace hp : Tells p f (oneL false false u _ xs) := hp
        rw [one_fold _ _ _ _ _ fun l hl => (hx l hl).t] at hp
        rw [q2, hrr0] at hp
        cbv
        refine ⟨_, _, [some 0, some 3], ?_, rfl, rfl, ?_, hk (p, f) (by unfold stepP; rw [if_pos ⟨hr, hne⟩]; exact hp)⟩
        · simp [MH, MB, MC.MCs, MC, lc, renC.renCs, renC]
        · simp [MV, MC]
end Go.Proofs.YtdijdlkljeibjaaDoor.AM
namespace Go.Proofs.YtdijdlkljeibjaaDoor.AM
open Go Go.RowKit
set_option maxRecDepth 100000
set_option linter.unusedVariables false
set_option linter.unusedSimpArgs false
/-- A layer of which the box is within K, the place within P. -/
structure La.Near2 (K P : Int) (l : La) : Prop where
  t : Tu l.t
  X : Nr P l.X
  Y : Nr P l.Y
  x0 : Nr K l.x0
  y0 : Nr K l.y0
  x1 : Nr K l.x1
  y1 : Nr K l.y1
theorem La.Near2.near {K P Q : Int} {l : La} (h : l.Near2 K P) (h1 : K ≤ Q) (h2 : P ≤ Q) : l.Near Q := ⟨h.t, h.X.up h2, h.Y.up h2, h.x0.up h1, h.y0.up h1, h.x1.up h1, h.y1.up h1⟩
theorem part_in {l : La} (ht : Tu l.t) (e0 : l.x0 < l.x1) (e1 : l.y0 < l.y1) {r0 r1 r2 r3 : Int} (h0 : l.a ≤ r0) (h1 : l.b ≤ r1) (h2 : r2 ≤ l.c) (h3 : r3 ≤ l.d) (h4 : r0 < r2) (h5 : r1 < r3) :
    (l.x0 ≤ (l.part r0 r1 r2 r3).x0 ∧ (l.part r0 r1 r2 r3).x0 ≤ l.x1) ∧ (l.y0 ≤ (l.part r0 r1 r2 r3).y0 ∧ (l.part r0 r1 r2 r3).y0 ≤ l.y1) ∧ (l.x0 ≤ (l.part r0 r1 r2 r3).x1 ∧ (l.part r0 r1 r2 r3).x1 ≤ l.x1) ∧ (l.y0 ≤ (l.part r0 r1 r2 r3).y1 ∧ (l.part r0 r1 r2 r3).y1 ≤ l.y1) := by
  simp only [La.a, La.b, La.c, La.d] at h0 h1 h2 h3
  simp only [La.part]
  rcases ht.cases with h | h | h | h | h | h | h | h <;> rw [h] at h0 h1 h2 h3 ⊢ <;> simp only [bA, bB, bC, bD, tBack, dX, dY] at h0 h1 h2 h3 ⊢ <;> simp at h0 h1 h2 h3 ⊢ <;> omega
theorem halfL_near2 {K P : Int} {upr low : Bool} {n : Int} {l z : La} (h : l.Near2 K P) (hz : halfL upr n low l = some z) : z.Near2 K P := by
  by_cases he : l.emp
  · unfold halfL at hz
    rw [if_pos (.inl he)] at hz
    cases hz
  · obtain ⟨p1, p2⟩ := La.pos h.t he
    unfold halfL at hz
    split at hz
    · cases hz
    · rename_i hm
      cases hz
      have hm2 : ¬ meetP l.a l.b l.c l.d (hA upr low n l.a) (hB upr low n l.b) (hC upr low n l.c) (hD upr low n l.d) := fun g => hm (.inr g)
      unfold meetP at hm2
      have he2 := he
      unfold La.emp at he2
      obtain ⟨⟨a1, a2⟩, ⟨a3, a4⟩, ⟨a5, a6⟩, ⟨a7, a8⟩⟩ := part_in h.t (by omega) (by omega) (l := l) (r0 := max l.a (hA upr low n l.a)) (r1 := max l.b (hB upr low n l.b)) (r2 := min l.c (hC upr low n l.c)) (r3 := min l.d (hD upr low n l.d)) (by omega) (by omega) (by omega) (by omega) (by omega) (by omega)
      obtain ⟨b1, b2⟩ := h.x0
      obtain ⟨b3, b4⟩ := h.x1
      obtain ⟨b5, b6⟩ := h.y0
      obtain ⟨b7, b8⟩ := h.y1
      exact ⟨h.t, h.X, h.Y, ⟨by omega, by omega⟩, ⟨by omega, by omega⟩, ⟨by omega, by omega⟩, ⟨by omega, by omega⟩⟩
theorem layF_near2 {K P N : Int} {upr : Bool} {n : Int} {z : La} (h : z.Near2 K P) (hn : Nr N n) : (layF upr n z).Near2 K (P + 2 * N) := by
  obtain ⟨q1, q2⟩ := Nr.dX (fT_tu upr) h.X h.Y
  have f1 := fX_nr (upr := upr) hn
  have f2 := fY_nr (upr := upr) hn
  obtain ⟨c1, c2⟩ := q1
  obtain ⟨c3, c4⟩ := q2
  obtain ⟨c5, c6⟩ := f1
  obtain ⟨c7, c8⟩ := f2
  exact ⟨(then_all h.t (fT_tu upr)).1, ⟨by show _ ≤ dX (fT upr) z.X z.Y + fX upr n; omega, by show dX (fT upr) z.X z.Y + fX upr n ≤ _; omega⟩, ⟨by show _ ≤ dY (fT upr) z.X z.Y + fY upr n; omega, by show dY (fT upr) z.X z.Y + fY upr n ≤ _; omega⟩, h.x0, h.y0, h.x1, h.y1⟩
theorem La.Near2.up {K P Q : Int} {l : La} (h : l.Near2 K P) (hq : P ≤ Q) : l.Near2 K Q := ⟨h.t, h.X.up hq, h.Y.up hq, h.x0, h.y0, h.x1, h.y1⟩
theorem foldL_near2 {K P N : Int} {upr low under : Bool} {n : Int} {xs : List La} (hx : ∀ l ∈ xs, l.Near2 K P) (hn : Nr N n) (hN : 0 ≤ N) : ∀ z ∈ foldL upr low under n xs, z.Near2 K (P + 2 * N) := by
  have h1 : ∀ z ∈ xs.filterMap (halfL upr n (!low)), z.Near2 K (P + 2 * N) := fun z hz => by
    obtain ⟨l, hl, hlz⟩ := List.mem_filterMap.1 hz
    exact (halfL_near2 (hx l hl) hlz).up (by omega)
  have h2 : ∀ z ∈ xs.reverse.filterMap (fun l => (halfL upr n low l).map (layF upr n)), z.Near2 K (P + 2 * N) := fun z hz => by
    obtain ⟨l, hl, hlz⟩ := List.mem_filterMap.1 hz
    obtain ⟨y, hy, rfl⟩ := Option.map_eq_some_iff.1 hlz
    exact layF_near2 (halfL_near2 (hx l (by simpa using hl)) hy) hn
  intro z hz
  unfold foldL at hz
  cases under <;> simp only [if_true, if_false, Bool.false_eq_true, List.nil_append, List.append_nil] at hz <;> rcases List.mem_append.1 hz with hz | hz <;> first | exact h1 z hz | exact h2 z hz
theorem stepL_near2 {K P w h : Int} {s : Sp} {xs : List La} (hx : ∀ l ∈ xs, l.Near2 K P) (hK : 68719476736 ≤ K) (hKP : K ≤ P) (hr : RightS s.side s.n) (hw : Nr 1073741824 w) (hh : Nr 1073741824 h) : ∀ z ∈ stepL w h s xs, z.Near2 K (8 * P) := by
  have ha := all_near (fun l hl => (hx l hl).near hKP (Int.le_refl P)) (by omega)
  have hw2 := mulNr hr.h3 hr.h4 hw
  have hh2 := mulNr hr.h3 hr.h4 hh
  obtain ⟨⟨a1, a2⟩, ⟨a3, a4⟩, ⟨a5, a6⟩, ⟨a7, a8⟩⟩ := ha
  obtain ⟨b1, b2⟩ := hw2
  obtain ⟨b3, b4⟩ := hh2
  have hn : Nr (3 * P) (s.at_ w h (allL xs)) := by
    unfold Sp.at_
    split
    · exact ⟨by omega, by omega⟩
    · split
      · exact ⟨by omega, by omega⟩
      · split
        · exact ⟨by omega, by omega⟩
        · exact ⟨by omega, by omega⟩
  intro z hz
  exact (foldL_near2 hx hn (by omega) z hz).up (by omega)
theorem stepP_near2 {K P w h : Int} {s : Sp} {xs : List La} (hx : ∀ l ∈ xs, l.Near2 K P) (hK : 68719476736 ≤ K) (hKP : K ≤ P) (hw : Nr 1073741824 w) (hh : Nr 1073741824 h) : ∀ z ∈ stepP w h s xs, z.Near2 K (8 * P) := by
  unfold stepP
  split
  · rename_i hr
    exact stepL_near2 hx hK hKP hr.1 hw hh
  · exact fun z hz => (hx z hz).up (by omega)
theorem stepL_len (w h : Int) (s : Sp) (xs : List La) : (stepL w h s xs).length ≤ 2 * xs.length := foldL_len _ _ _ _ _
theorem stepP_len (w h : Int) (s : Sp) (xs : List La) : (stepP w h s xs).length ≤ 2 * xs.length := by
  unfold stepP
  split
  · exact stepL_len _ _ _ _
  · omega
def stepsP (w h : Int) (ss : List Sp) (xs : List La) : List La := ss.foldl (fun x s => stepP w h s x) xs
def stepsL (w h : Int) (ss : List Sp) (xs : List La) : List La := ss.foldl (fun x s => stepL w h s x) xs
theorem stepsP_snoc (w h : Int) (ss : List Sp) (s : Sp) (xs : List La) : stepsP w h (ss ++ [s]) xs = stepP w h s (stepsP w h ss xs) := by
  unfold stepsP
  rw [List.foldl_append]
  rfl
theorem stepsL_snoc (w h : Int) (ss : List Sp) (s : Sp) (xs : List La) : stepsL w h (ss ++ [s]) xs = stepL w h s (stepsL w h ss xs) := by
  unfold stepsL
  rw [List.foldl_append]
  rfl
/-- How far numbers come. -/
def pw (a : Nat) : Int := 8 ^ a * 1099511627776
/-- Layers behind a steps. -/
structure Good (a : Nat) (xs : List La) : Prop where
  near : ∀ l ∈ xs, l.Near2 1099511627776 (pw a)
  len : xs.length ≤ 40 * 2 ^ a
theorem pw_ge (a : Nat) : 1099511627776 ≤ pw a := by
  induction a with
  | zero => decide
  | succ a ih => unfold pw at ih ⊢; rw [Int.pow_succ]; omega
theorem pw_succ (a : Nat) : pw (a + 1) = 8 * pw a := by unfold pw; rw [Int.pow_succ]; omega
theorem Good.step {a : Nat} {xs : List La} {w h : Int} {s : Sp} (g : Good a xs) (hw : Nr 1073741824 w) (hh : Nr 1073741824 h) : Good (a + 1) (stepP w h s xs) := by
  refine ⟨?_, ?_⟩
  · rw [pw_succ]
    exact stepP_near2 g.near (by decide) (pw_ge a) hw hh
  · have := stepP_len w h s xs
    have := g.len
    rw [Nat.pow_succ]
    omega
theorem Good.stepR {a : Nat} {xs : List La} {w h : Int} {s : Sp} (g : Good a xs) (hr : RightS s.side s.n) (hw : Nr 1073741824 w) (hh : Nr 1073741824 h) : Good (a + 1) (stepL w h s xs) := by
  refine ⟨?_, ?_⟩
  · rw [pw_succ]
    exact stepL_near2 g.near (by decide) (pw_ge a) hr hw hh
  · have := stepL_len w h s xs
    have := g.len
    rw [Nat.pow_succ]
    omega
theorem pw_mono {a b : Nat} (h : a ≤ b) : pw a ≤ pw b := by
  induction h with
  | refl => exact Int.le_refl _
  | step _ ih => rw [pw_succ]; have := pw_ge a; omega
theorem Good.near5 {a : Nat} {xs : List La} (g : Good a xs) (h : a ≤ 5) : (∀ l ∈ xs, l.Near 36028797018963968) ∧ xs.length ≤ 1000000 := by
  have h1 := pw_mono h
  have h2 : pw 5 = 36028797018963968 := by decide
  rw [h2] at h1
  refine ⟨fun l hl => (g.near l hl).near (by decide) h1, ?_⟩
  have := g.len
  have h3 : 2 ^ a ≤ 2 ^ 5 := Nat.pow_le_pow_right (by decide) h
  omega
theorem Good.near6 {a : Nat} {xs : List La} (g : Good a xs) (h : a ≤ 6) : (∀ l ∈ xs, l.Near 288230376151711744) ∧ xs.length ≤ 1000000 := by
  have h1 := pw_mono h
  have h2 : pw 6 = 288230376151711744 := by decide
  rw [h2] at h1
  refine ⟨fun l hl => (g.near l hl).near (by decide) h1, ?_⟩
  have := g.len
  have h3 : 2 ^ a ≤ 2 ^ 6 := Nat.pow_le_pow_right (by decide) h
  omega
/-- Moved to where all begin. -/
def moveF (r : R4) (l : La) : La := ⟨l.x0, l.y0, l.x1, l.y1, tThen l.t 0, dX 0 l.X l.Y + -r.a, dY 0 l.X l.Y + -r.b⟩
def finL (xs : List La) : List La := xs.map (moveF (allL xs))
end Go.Proofs.YtdijdlkljeibjaaDoor.AM
