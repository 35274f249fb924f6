/- The abstract machine's leaves as the model has them, and that an operation of the model does what the abstract machine says. The condition: the table of types is the program's own. -/
import Derived.Test.YtdijdlkljeibjaaDoorAm2
import Derived.Laws.Cells
import Derived.Laws.Sem
import Derived.Laws.NewFold
import Derived.WalkSpells
import Derived.WalkKit
import Derived.ControlIn
import Derived.CallsIn
import Derived.TacticsIn
import Derived.OrdersIn
import Derived.RangeFuncCalls
import Derived.RangeFuncIn
import Derived.RangeFuncRecord
import Derived.RangeFuncLeaves
namespace Go.Proofs.YtdijdlkljeibjaaDoor.AM
open Go Go.RowKit
set_option linter.unusedVariables false
set_option linter.unusedSimpArgs false

def szOf (P : Program) (t : TypeId) : Nat := ((P.info? t).map (·.size)).getD 0
def kindOf (P : Program) : TypeDesc → TK
  | .struct fs => .struct (fs.toList.map fun f => (f.offset, szOf P f.type, !(szOf P f.type == 0)))
  | .slice e => .slice e
  | .array n e => .array n e
  | .int k => .int k
  | .string => .str
  | .pointer _ => .ptr
  | .func .. => .func
  | _ => .cell
def tabOf (P : Program) (t : TypeId) : Option TI :=
  match P.info? t, P.underlying t with
  | some i, some d => match i.zero with
    | some z => some ⟨i.size, i.bytes, kindOf P d, z.cells.toList.map ofCell⟩
    | none => none
  | _, _ => none

/-- How a text is left, in the model's words. -/
def ExM : Exit → Nat → Nat → Prop
  | .normal, e, _ => e = 0
  | .ret, e, _ => e = 1
  | .exit id, e, n => e = 2 ∧ n = id
  | _, _, _ => False

/-- The deferred calls: marks of blocks that are frozen and empty, from block lo on. -/
def DZ (lo : Nat) (fz : Fz) (w : World) (ds : List Deferred) : Prop :=
  lo ≤ w.heap.size ∧ ∃ bs : List Nat, ds = bs.map (fun b => { target := .collected b, args := #[] }) ∧ bs.Nodup ∧ ∀ b ∈ bs, lo ≤ b ∧ fz b = some (.deferred (some []))
theorem DZ.mono {lo : Nat} {r r' : Pl} {fz fz' : Fz} {H H' : Heap} {w w' : World} {ds : List Deferred} (h : DZ lo fz w ds) (hst : Stp r fz H w r' fz' H' w') : DZ lo fz' w' ds := by
  obtain ⟨h0, bs, h1, h2, h3⟩ := h
  exact ⟨Nat.le_trans h0 hst.size, bs, h1, h2, fun b hb => ⟨(h3 b hb).1, hst.phi _ _ (h3 b hb).2⟩⟩

def Lift (W0 : World) (lo : Nat) (r : Pl) (fz : Fz) (H : Heap) (w : World) (k : Nat → Nat → List V → Heap → Prop) : Exit → Act → World → Prop := fun ex a' w' =>
  ∃ e n T' H' r' fz', ExM ex e n ∧ k e n T' H' ∧ WR W0 r' fz' H' w' ∧ TR r' T' a'.tmps ∧ DZ lo fz' w' a'.defers ∧ Stp r fz H w r' fz' H' w'

/-- In which frame a text stands: a function's own; an iterator's (which began with N blocks, so placed); a round's. -/
inductive Md where
  | top
  | it (N : Nat) (r0 : Pl)
  | rnd (l : Nat)
def Md.fence : Md → Fence
  | .rnd l => Fence.wide.inRound l
  | _ => Fence.wide
def An (md : Md) (r : Pl) (H : Heap) : Prop := match md with
  | .it N r0 => N ≤ H.length ∧ ∀ id, id < N → r id = r0 id
  | _ => True
theorem An.mono {md : Md} {r r' : Pl} {fz fz' : Fz} {H H' : Heap} {w w' : World} (h : An md r H) (hst : Stp r fz H w r' fz' H' w') : An md r' H' := by
  cases md with
  | it N r0 => exact ⟨Nat.le_trans h.1 hst.len, fun id hid => (hst.ext id (Nat.lt_of_lt_of_le hid h.1)).trans (h.2 id hid)⟩
  | _ => trivial

/-- What a text does. -/
def SemM (P : Program) (W0 : World) (md : Md) (c : Code) (T : List V) (H : Heap) (k : Nat → Nat → List V → Heap → Prop) : Prop :=
  ∀ n lo r fz a w, WR W0 r fz H w → TR r T a.tmps → DZ lo fz w a.defers → An md r H → c.wpIn md.fence n P (Lift W0 lo r fz H w k) a w

/-- What an operation does. -/
def OpS (P : Program) (W0 : World) (o : Oper) (T : List V) (H : Heap) (k : V → Heap → Prop) : Prop :=
  ∀ r fz (a : Act) w, WR W0 r fz H w → TR r T a.tmps → ∀ (K : Act → World → Prop) (Q : Exit → Act → World → Prop),
    (∀ v u H' r' fz' w', k v H' → VR r' v u → WR W0 r' fz' H' w' → Stp r fz H w r' fz' H' w' → K (a.put o.dst u) w') → o.wp P a w K Q

/-- What an operation does in an iterator's frame, that may be a round's beginning. -/
def OpY (P : Program) (W0 : World) (md : Md) (o : Oper) (T : List V) (H : Heap) (k : V → Heap → Prop) : Prop :=
  ∀ n r fz (a : Act) w, WR W0 r fz H w → TR r T a.tmps → An md r H → ∀ (K : Act → World → Prop) (Q : Exit → Act → World → Prop),
    (∀ v u H' r' fz' w', k v H' → VR r' v u → WR W0 r' fz' H' w' → Stp r fz H w r' fz' H' w' → K (a.put o.dst u) w') → o.wpIn md.fence n P a w K Q

/-- It comes to v wherever what it reads is as it was. -/
def OpT (P : Program) (W0 : World) (o : Oper) (T : List V) (H : Heap) (v : V) : Prop :=
  ∀ r fz (a : Act) w, WR W0 r fz H w → TR r T a.tmps → ∃ u, VR r v u ∧ ∀ w', (∀ b, b < W0.heap.size → w'.heap[b]? = W0.heap[b]?) →
    (∀ id rw b q s e, loadId T o = some id → r id = some (.at_ rw b q s e) → w'.heap[b]? = w.heap[b]?) → (execOp a.eval o).run P w' = .ok (.value u) w'

/-- What a call does. -/
def ACall (P : Program) (W0 : World) (f : FuncId) (args : List V) (H : Heap) (k : V → Heap → Prop) : Prop :=
  ∀ r fz w vs, WR W0 r fz H w → VRs r args vs → Calls P f ⟨vs⟩ w fun e w' =>
    ∃ v u H' r' fz', e = .returned u ∧ k v H' ∧ WR W0 r' fz' H' w' ∧ VR r' v u ∧ Stp r fz H w r' fz' H' w'

/-- Every function that is called has a text. -/
def Bodied (P : Program) (f : FuncId) : Prop := ∃ fn, P.funcs[f]? = some fn ∧ fn.body.isNone = false ∧ (fn.name == "runtime.NumGoroutine") = false

def binS (op : BinOp) (k : IntKind) (x y : Int) : Int :=
  match op with
  | .add => k.wrap (x + y)
  | .sub => k.wrap (x - y)
  | .mul => k.wrap (x * y)
  | .quo => k.wrap (x.tdiv y)
  | .rem => x.tmod y
  | .and => k.wrap (BitVec.ofInt k.bits x &&& BitVec.ofInt k.bits y).toNat
  | .or => k.wrap (BitVec.ofInt k.bits x ||| BitVec.ofInt k.bits y).toNat
  | .xor => k.wrap (BitVec.ofInt k.bits x ^^^ BitVec.ofInt k.bits y).toNat
  | .andNot => k.wrap (BitVec.ofInt k.bits x &&& ~~~(BitVec.ofInt k.bits y)).toNat
  | .shl => k.wrap (x * 2 ^ (min y.toNat k.bits))
  | .shr => x.fdiv (2 ^ (min y.toNat k.bits))
  | _ => 0
def cmpS (op : BinOp) (x y : Int) : Bool :=
  match op with
  | .eql => x == y
  | .neq => x != y
  | .lss => decide (x < y)
  | .leq => decide (x ≤ y)
  | .gtr => decide (x > y)
  | .geq => decide (x ≥ y)
  | _ => false
def scmpS (op : BinOp) (x y : ByteArray) : Bool :=
  match op with
  | .eql => x.toList == y.toList
  | .neq => !(x.toList == y.toList)
  | .lss => Op.bytesLess x.toList y.toList
  | .leq => Op.bytesLess x.toList y.toList || x.toList == y.toList
  | .gtr => !(Op.bytesLess x.toList y.toList || x.toList == y.toList)
  | .geq => !(Op.bytesLess x.toList y.toList)
  | _ => false

def std (P : Program) (W0 : World) (md : Md := .top) : Ext where
  bin := binS
  cmp := cmpS
  sbin x y := x ++ y
  scmp := scmpS
  not b := !b
  ite t x y := if t then x else y
  toN := Int.toNat
  ofN n := n
  conv k n := k.wrap n
  nadd := Nat.add
  nsub := Nat.sub
  slen s := s.size
  ssub s a b := s.extract a b
  sat s i := match s[i]? with
    | some b => b.toNat
    | none => 0
  inb i n := 0 ≤ i ∧ i < n
  lohi a b := 0 ≤ a ∧ a ≤ b
  le b n := b ≤ n
  nz y := y ≠ 0
  nlt i n := i < n
  scat x y := ((x.size + y.size : Nat) : Int) ≤ IntKind.i64.max
  setf f i j cs := fun k => if k = i then splice (f k) j cs else f k
  cond t p q := (t = true → p ()) ∧ (t = false → q ())
  call f args H k := Bodied P f ∧ ACall P W0 f args H k
  rload t v k := ∃ x u, k x ∧ (∀ r, VR r x u) ∧ ∀ w, (∀ b, b < W0.heap.size → w.heap[b]? = W0.heap[b]?) → (Instr.loadAt t v).run P w = .ok u w
  loop c := SemM P W0 md (.loop c)
  draw ops T H k := ∀ id, SemM P W0 md (.region id ops.toArray true) T H fun e n T' H' => e = 0 ∧ n = 0 ∧ k T' H'
  rangef f ps s c := SemM P W0 md (.rangeFunc f ps s c)
  eqs op t x y k := ∃ v, k v ∧ ∀ r x' y' (ox oy : Operand), VR r x x' → VR r y y' → ∃ u, (∀ w, (do eqGuard op t ox oy x' y'; binOp op t x' y' : Sem Value).run P w = .ok u w) ∧ VR r v u
  other := OpS P W0
  otherP o T H k := ∃ v, k v ∧ OpT P W0 o T H v
  yld o T H k := match md with
    | .it N r0 => OpY P W0 (.it N r0) o T H k
    | _ => False
  mm b x y := match b with
    | .min => if y < x then y else x
    | _ => if x < y then y else x

section
variable {P : Program} {W0 : World} {tab : TypeId → Option TI} {o : Oper} {T : List V} {H : Heap} {k : V → Heap → Prop}

theorem OpS.of_run (h : ∀ r fz (a : Act) w, WR W0 r fz H w → TR r T a.tmps → ∃ v u H' r' fz' w', (execOp a.eval o).run P w = .ok (.value u) w' ∧ k v H' ∧ VR r' v u ∧ WR W0 r' fz' H' w' ∧ Stp r fz H w r' fz' H' w') : OpS P W0 o T H k := by
  intro r fz a w hw hT K Q hK
  obtain ⟨v, u, H', r', fz', w', h1, h2, h3, h4, h5⟩ := h r fz a w hw hT
  unfold Oper.wp
  rw [h1]
  exact hK _ _ _ _ _ _ h2 h3 h4 h5

theorem OpT.opS {v : V} (h : OpT P W0 o T H v) (hk : k v H) : OpS P W0 o T H k :=
  .of_run fun r fz a w hw hT => let ⟨u, h1, h2⟩ := h r fz a w hw hT; ⟨v, u, H, r, fz, w, h2 w hw.below.block (fun _ _ _ _ _ _ _ _ => rfl), hk, h1, hw, Stp.refl hw⟩

/-- An operation that leaves memory alone, whatever is there. -/
theorem OpT.of_pure {v : V} (h : ∀ r fz (a : Act) w, WR W0 r fz H w → TR r T a.tmps → ∃ u, (∀ w, (execOp a.eval o).run P w = .ok (.value u) w) ∧ VR r v u) : OpT P W0 o T H v :=
  fun r fz a w hw hT => let ⟨u, h1, h2⟩ := h r fz a w hw hT; ⟨u, h2, fun w' _ _ => h1 w'⟩

theorem run_value {s : Sem Value} {w w' : World} {u : Value} (h : s.run P w = .ok u w') : (do pure (.value (← s)) : Sem Next).run P w = .ok (.value u) w' := by
  show (s.bind fun x => Sem.pure (Next.value x)).run P w = _
  rw [show (s.bind fun x => Sem.pure (Next.value x)) = (s >>= fun x => pure (Next.value x)) from rfl]
  simp [h]

theorem tab_info {t : TypeId} {ti : TI} (h : tabOf P t = some ti) : ∃ i d z, P.info? t = some i ∧ P.underlying t = some d ∧ i.zero = some z ∧ ti = ⟨i.size, i.bytes, kindOf P d, z.cells.toList.map ofCell⟩ := by
  unfold tabOf at h
  cases h1 : P.info? t with
  | none => simp [h1] at h
  | some i =>
    cases h2 : P.underlying t with
    | none => simp [h1, h2] at h
    | some d =>
      cases h3 : i.zero with
      | none => simp [h1, h2, h3] at h
      | some z =>
        simp [h1, h2, h3] at h
        exact ⟨i, d, z, rfl, rfl, h3, h.symm⟩

theorem cells_of {r : Pl} {v : V} {u : Value} (h : VR r v u) (hok : v.ok = true) : CRs r v.cells u.cells.toList := by
  cases v with
  | one c =>
    unfold VR at h
    unfold V.cells
    have hu : u.cells = #[u] := by
      unfold Value.cells
      split
      · rename_i cs
        exfalso
        unfold V.ok at hok
        cases c <;> simp [CR, C.ok] at h hok
        all_goals (subst h; simp at hok)
      · rfl
    rw [hu]
    unfold CRs CRs
    exact ⟨h, trivial⟩
  | agg cs =>
    unfold VR at h
    obtain ⟨vs, rfl, h2⟩ := h
    exact h2
  | tup vs => simp [V.ok] at hok

theorem ok_cell {r : Pl} {c : C} {u : Value} (h : CR r c u) (hok : c.ok = true) : u.oneCell' = true := by
  cases c with
  | raw v =>
    unfold CR at h
    subst h
    cases u <;> first | rfl | (simp [C.ok] at hok)
  | undef => simp [C.ok] at hok
  | ptr => unfold CR at h; obtain ⟨rw_, b, o, s, e, _, rfl⟩ := h; rfl
  | sl => unfold CR at h; rcases h with ⟨rw_, b, o, s, e, ad, c, _, rfl, _⟩ | ⟨_, ⟨ad, rfl, _⟩, _⟩ <;> rfl
  | fn => unfold CR at h; obtain ⟨vs, rfl, _⟩ := h; rfl
  | _ => unfold CR at h; subst h; rfl
end
end Go.Proofs.YtdijdlkljeibjaaDoor.AM
