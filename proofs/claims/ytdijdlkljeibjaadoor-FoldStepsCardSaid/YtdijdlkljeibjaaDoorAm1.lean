/- An abstract machine over the program's form: cells, values, blocks, what an operation and a text come to. Definitions alone; no condition. -/
import GoSem.Step
import Derived.Below
import Derived.Calls
namespace Go.Proofs.YtdijdlkljeibjaaDoor.AM
open Go Go.RowKit
set_option linter.unusedVariables false

/-- One cell. -/
inductive C where
  | int (k : IntKind) (n : Int)
  | bool (b : Bool)
  | str (s : ByteArray)
  | ptr (id i j : Nat)
  | nilp
  | sl (id i len : Nat) (cap : Option Nat)
  | nils
  | fn (f : FuncId) (caps : List C)
  | nilf
  | raw (v : Value)
  | undef

/-- A value. -/
inductive V where
  | one (c : C)
  | agg (cs : List C)
  | tup (vs : List V)

/-- A block: a variable of some cells, or a row of n elements, which may be written or not. -/
inductive B where
  | box (t : TypeId) (cs : List C)
  | row (rw : Bool) (t : TypeId) (sz n : Nat) (f : Nat → List C)
  | obj (o : Obj)

abbrev Heap := List (Option B)

/-- What is known of a type. -/
inductive TK where
  | struct (fs : List (Nat × Nat × Bool))
  | slice (e : TypeId)
  | array (n : Nat) (e : TypeId)
  | int (k : IntKind)
  | str
  | ptr
  | func
  | cell
structure TI where
  sz : Nat
  bytes : Nat
  kind : TK
  zero : List C

/-- The leaves, closed to evaluation. -/
structure Ext where
  bin : BinOp → IntKind → Int → Int → Int
  cmp : BinOp → Int → Int → Bool
  sbin : ByteArray → ByteArray → ByteArray
  scmp : BinOp → ByteArray → ByteArray → Bool
  not : Bool → Bool
  ite : Bool → Bool → Bool → Bool
  toN : Int → Nat
  ofN : Nat → Int
  conv : IntKind → Int → Int
  nadd : Nat → Nat → Nat
  nsub : Nat → Nat → Nat
  slen : ByteArray → Nat
  ssub : ByteArray → Nat → Nat → ByteArray
  sat : ByteArray → Nat → Int
  /-- 0 ≤ i < n -/
  inb : Int → Nat → Prop
  /-- 0 ≤ lo ≤ hi -/
  lohi : Int → Int → Prop
  le : Int → Nat → Prop
  nz : Int → Prop
  nlt : Nat → Nat → Prop
  scat : ByteArray → ByteArray → Prop
  setf : (Nat → List C) → Nat → Nat → List C → Nat → List C
  cond : Bool → (Unit → Prop) → (Unit → Prop) → Prop
  call : FuncId → List V → Heap → (V → Heap → Prop) → Prop
  rload : TypeId → Value → (V → Prop) → Prop
  loop : Code → List V → Heap → (Nat → Nat → List V → Heap → Prop) → Prop
  draw : List Oper → List V → Heap → (List V → Heap → Prop) → Prop
  rangef : Operand → Array Tmp → Code → Code → List V → Heap → (Nat → Nat → List V → Heap → Prop) → Prop
  eqs : BinOp → TypeId → V → V → (V → Prop) → Prop
  other : Oper → List V → Heap → (V → Heap → Prop) → Prop
  otherP : Oper → List V → Heap → (V → Prop) → Prop
  yld : Oper → List V → Heap → (V → Heap → Prop) → Prop
  mm : Builtin → Int → Int → Int

def ofCell : Value → C
  | .int k n => .int k n
  | .bool b => .bool b
  | .string s => .str s
  | .pointer none => .nilp
  | .slice none 0 0 => .nils
  | .nilFunc => .nilf
  | v => .raw v

def ofVal : Value → V
  | .agg cs => .agg (cs.toList.map ofCell)
  | v => .one (ofCell v)

def ev (T : List V) : Operand → V
  | .tmp t => T.getD t (.one .undef)
  | .const v => ofVal v
  | .global g => .one (.raw (.pointer (some ⟨g, 0, none⟩)))
  | .func f => .one (.fn f [])

def V.cells : V → List C
  | .one c => [c]
  | .agg cs => cs
  | .tup _ => []

/-- Is it known to be one cell's? -/
def C.ok : C → Bool
  | .undef => false
  | .raw (.agg _) => false
  | .raw (.tuple _) => false
  | _ => true

/-- Is it known how many cells it has? -/
def V.ok : V → Bool
  | .one c => c.ok
  | .agg _ => true
  | .tup _ => false

def allOk : List C → Bool
  | [] => true
  | c :: r => match c.ok with
    | true => allOk r
    | false => false

def ones : List V → Option (List C)
  | [] => some []
  | .one c :: r => match ones r with
    | some l => some (c :: l)
    | none => none
  | _ :: _ => none

def put (T : List V) (d : Option Tmp) (v : V) : List V :=
  match d with
  | some d => T.set d v
  | none => T

def evs (T : List V) (l : List Operand) : List V := l.map (ev T)

/-- The cells of a list written into others from an offset on. -/
def splice : List C → Nat → List C → List C
  | cs, _, [] => cs
  | cs, o, c :: r => splice (cs.set o c) (o + 1) r

def fillC (place : Nat → Option (Nat × Nat)) (cells : List C) : List (Nat × V) → Option (List C)
  | [] => some cells
  | (i, v) :: r =>
    match place i with
    | none => none
    | some (off, sz) => match v.ok with
      | true => if v.cells.length = sz ∧ off + sz ≤ cells.length then fillC place (splice cells off v.cells) r else none
      | false => none

/-- cells as a value of a type. -/
def mkV (ti : TI) (cs : List C) : Option V :=
  match ti.kind with
  | .struct _ | .array _ _ => some (.agg cs)
  | _ => match cs with
    | [c] => some (.one c)
    | _ => none

def rep (z : List C) : Nat → List C
  | 0 => []
  | n + 1 => z ++ rep z n

section
variable (X : Ext) (tab : TypeId → Option TI)

def loadP (H : Heap) (ti : TI) (id i j : Nat) (k : V → Prop) : Prop :=
  match H.getD id none with
  | some (.box _ cs) =>
    match i with
    | 0 => match mkV ti ((cs.drop j).take ti.sz) with
      | some v => if j + ti.sz ≤ cs.length then k v else False
      | none => False
    | _ + 1 => False
  | some (.row _ _ sz n f) =>
    X.nlt i n ∧ if j + ti.sz ≤ sz then match mkV ti (((f i).drop j).take ti.sz) with
      | some v => k v
      | none => False
      else False
  | some (.obj _) => False
  | none => False

def storeP (H : Heap) (ti : TI) (id i j : Nat) (v : V) (k : Heap → Prop) : Prop :=
  match H.getD id none with
  | some (.box t cs) =>
    match i with
    | 0 => match v.ok, allOk v.cells with
      | true, true => if v.cells.length = ti.sz ∧ j + ti.sz ≤ cs.length then k (H.set id (some (.box t (splice cs j v.cells)))) else False
      | _, _ => False
    | _ + 1 => False
  | some (.row true t sz n f) =>
    X.nlt i n ∧ match v.ok, allOk v.cells with
      | true, true => if v.cells.length = ti.sz ∧ j + ti.sz ≤ sz then k (H.set id (some (.row true t sz n (X.setf f i j v.cells)))) else False
      | _, _ => False
  | _ => False

def sameK : IntKind → IntKind → Bool
  | .i8, .i8 | .i16, .i16 | .i32, .i32 | .i64, .i64 | .u8, .u8 | .u16, .u16 | .u32, .u32 | .u64, .u64 => true
  | _, _ => false

def binP (op : BinOp) (t : TypeId) (a b : V) (k : V → Prop) : Prop :=
  match a, b with
  | .one (.int ka x), .one (.int kb y) =>
    match op with
    | .shl | .shr => X.lohi 0 y ∧ k (.one (.int ka (X.bin op ka x y)))
    | .add | .sub | .mul | .and | .or | .xor | .andNot => match sameK ka kb with
      | true => k (.one (.int ka (X.bin op ka x y)))
      | false => False
    | .quo | .rem => match sameK ka kb with
      | true => X.nz y ∧ k (.one (.int ka (X.bin op ka x y)))
      | false => False
    | .eql | .neq | .lss | .leq | .gtr | .geq => match sameK ka kb with
      | true => k (.one (.bool (X.cmp op x y)))
      | false => False
  | .one (.str x), .one (.str y) =>
    match op with
    | .add => X.scat x y ∧ k (.one (.str (X.sbin x y)))
    | .eql | .neq | .lss | .leq | .gtr | .geq => k (.one (.bool (X.scmp op x y)))
    | _ => False
  | x, y => X.eqs op t x y k

/-- Comparisons with nil: does the cell hold nil? -/
def isNil : TK → V → Option Bool
  | .ptr, .one .nilp => some true
  | .ptr, .one (.ptr ..) => some false
  | .ptr, .one (.raw (.pointer (some _))) => some false
  | .slice _, .one .nils => some true
  | .slice _, .one (.sl _ _ _ (some _)) => some false
  | .slice _, .one (.raw (.slice (some _) _ _)) => some false
  | .func, .one .nilf => some true
  | .func, .one (.fn ..) => some false
  | _, _ => none

def nilP (kd : TK) (op : BinOp) (a b : V) : Option Bool :=
  match isNil kd a, isNil kd b with
  | some true, some c => match op with
    | .eql => some c
    | .neq => some (!c)
    | _ => none
  | some c, some true => match op with
    | .eql => some c
    | .neq => some (!c)
    | _ => none
  | _, _ => none

def callee (T : List V) : Operand → Option (FuncId × List V)
  | .func f => some (f, [])
  | x => match ev T x with
    | .one (.fn f caps) => some (f, caps.map .one)
    | _ => none

/-- The block that a load reads. -/
def loadId (T : List V) (o : Oper) : Option Nat :=
  match o.op with
  | .load _ x => match ev T x with
    | .one (.ptr id _ _) => some id
    | _ => none
  | _ => none

/-- May it be taken first? -/
def takeB (o : Oper) : Bool :=
  match o.op with
  | .move _ | .assign _ | .load .. | .fieldAddr .. | .indexAddr .. | .nilCheck _ | .binOp .. | .unOp .. | .convert .. | .slice .. | .makeFunc .. | .extract .. | .index .. | .build .. | .pick .. | .field .. => true
  | .call c => match c.callee with
    | .builtin .len | .builtin .min | .builtin .max => true
    | _ => false
  | _ => false

/-- What an operation comes to. -/
def aop (o : Oper) (T : List V) (H : Heap) (k : V → Heap → Prop) : Prop :=
  match o.op with
  | .move x => k (ev T x) H
  | .assign x => k (ev T x) H
  | .pick c a b =>
    match ev T c with
    | .one (.bool t) =>
      match ev T a, ev T b with
      | .one (.bool x), .one (.bool y) => k (.one (.bool (X.ite t x y))) H
      | _, _ => X.cond t (fun _ => k (ev T a) H) (fun _ => k (ev T b) H)
    | _ => False
  | .load t x =>
    match tab t, ev T x with
    | some ti, .one (.ptr id i j) => loadP X H ti id i j (fun v => k v H)
    | some _, .one (.raw v) => X.rload t v (fun v => k v H)
    | _, _ => False
  | .store t x y =>
    match tab t, ev T x with
    | some ti, .one (.ptr id i j) => storeP X H ti id i j (ev T y) (fun H' => k (.one .undef) H')
    | _, _ => False
  | .fieldAddr t x n =>
    match tab t, ev T x with
    | some ⟨_, _, .struct fs, _⟩, .one (.ptr id i j) =>
      match fs[n]? with
      | some (off, _, true) => k (.one (.ptr id i (j + off))) H
      | _ => False
    | some ⟨_, _, .struct fs, _⟩, .one (.raw (.pointer (some a))) =>
      match fs[n]? with
      | some (off, _, true) => k (.one (.raw (.pointer (some (a.add off))))) H
      | _ => False
    | _, _ => False
  | .indexAddr t x y =>
    match tab t, ev T x, ev T y with
    | some ⟨_, _, .slice e, _⟩, .one (.sl id i len _), .one (.int _ n) =>
      match tab e, H.getD id none with
      | some te, some (.row _ _ sz _ _) => X.inb n len ∧ if te.sz = sz then k (.one (.ptr id (X.nadd i (X.toN n)) 0)) H else False
      | _, _ => False
    | some ⟨_, _, .slice e, _⟩, .one (.raw (.slice (some a) len _)), .one (.int _ n) =>
      match tab e with
      | some te => X.inb n len ∧ k (.one (.raw (.pointer (some (a.add (X.toN n * te.sz)))))) H
      | none => False
    | some ⟨_, _, .array len e, _⟩, .one (.ptr id i j), .one (.int _ (.ofNat n)) =>
      match tab e with
      | some te => if n < len then k (.one (.ptr id i (j + n * te.sz))) H else False
      | none => False
    | _, _, _ => False
  | .box t x =>
    match (ev T x).ok with
    | true => k (.one (.ptr H.length 0 0)) (H ++ [some (.box t (ev T x).cells)])
    | false => False
  | .alloc t =>
    match tab t with
    | some ti => k (.one (.ptr H.length 0 0)) (H ++ [some (.box t ti.zero)])
    | none => False
  | .build t parts =>
    match tab t with
    | some ⟨sz, _, .struct fs, z⟩ =>
      match if fs.all (·.2.2) then fillC (fun i => (fs[i]?).map fun f => (f.1, f.2.1)) z (parts.toList.map fun p => (p.1, ev T p.2)) else none with
      | some cs => k (.agg cs) H
      | none => False
    | some ⟨sz, _, .array n e, z⟩ =>
      match tab e with
      | some te => match fillC (fun i => some (i * te.sz, te.sz)) z (parts.toList.map fun p => (p.1, ev T p.2)) with
        | some cs => k (.agg cs) H
        | none => False
      | none => False
    | _ => False
  | .buildSlice t n parts =>
    match tab t with
    | some ⟨_, _, .slice e, _⟩ =>
      match tab e with
      | some te => match fillC (fun i => some (i * te.sz, te.sz)) (rep te.zero n) (parts.toList.map fun p => (p.1, ev T p.2)) with
        | some cs => if n * te.sz ≤ 1000 ∧ te.zero.length = te.sz ∧ 0 < te.sz then
            k (.one (.sl H.length 0 n (some n))) (H ++ [some (.row true e te.sz n (fun i => (cs.drop (i * te.sz)).take te.sz))]) else False
        | none => False
      | none => False
    | _ => False
  | .nilCheck x =>
    match ev T x with
    | .one (.ptr id i j) => k (.one (.ptr id i j)) H
    | .one (.raw (.pointer (some a))) => k (.one (.raw (.pointer (some a)))) H
    | .one (.fn f caps) => k (.one (.fn f caps)) H
    | _ => False
  | .binOp op t x y _ =>
    match tab t with
    | some ⟨_, _, kd, _⟩ => match nilP kd op (ev T x) (ev T y) with
      | some c => k (.one (.bool c)) H
      | none => binP X op t (ev T x) (ev T y) (fun v => k v H)
    | none => False
  | .unOp op _ x =>
    match op, ev T x with
    | .not, .one (.bool b) => k (.one (.bool (X.not b))) H
    | .neg, .one (.int kk n) => k (.one (.int kk (X.bin .sub kk 0 n))) H
    | _, _ => False
  | .convert s d x =>
    match tab s, tab d, ev T x with
    | some ⟨_, _, .int _, _⟩, some ⟨_, _, .int kd, _⟩, .one (.int _ n) => k (.one (.int kd (X.conv kd n))) H
    | some ⟨_, _, .str, _⟩, some ⟨_, _, .str, _⟩, .one (.str s) => k (.one (.str s)) H
    | _, _, _ => X.otherP o T H (fun v => k v H)
  | .slice t x lo hi mx =>
    match tab t, ev T x with
    | some ⟨_, _, .str, _⟩, .one (.str s) =>
      match lo.map (ev T), hi.map (ev T), mx with
      | none, none, none => k (.one (.str s)) H
      | some (.one (.int _ a)), none, none => X.lohi a (X.ofN (X.slen s)) ∧ k (.one (.str (X.ssub s (X.toN a) (X.slen s)))) H
      | none, some (.one (.int _ b)), none => X.lohi 0 b ∧ X.le b (X.slen s) ∧ k (.one (.str (X.ssub s 0 (X.toN b)))) H
      | some (.one (.int _ a)), some (.one (.int _ b)), none => X.lohi a b ∧ X.le b (X.slen s) ∧ k (.one (.str (X.ssub s (X.toN a) (X.toN b)))) H
      | _, _, _ => False
    | some ⟨_, _, .slice e, _⟩, .one (.sl id i len cap) =>
      match tab e, H.getD id none with
      | some te, some (.row _ _ sz _ _) => if te.sz = sz then
      match lo.map (ev T), hi.map (ev T), mx with
      | some (.one (.int _ a)), none, none => X.lohi a (X.ofN len) ∧ k (.one (.sl id (X.nadd i (X.toN a)) (X.nsub len (X.toN a)) (cap.map fun c => X.nsub c (X.toN a)))) H
      | none, some (.one (.int _ b)), none => X.lohi 0 b ∧ X.le b len ∧ k (.one (.sl id i (X.toN b) cap)) H
      | some (.one (.int _ a)), some (.one (.int _ b)), none => X.lohi a b ∧ X.le b len ∧ k (.one (.sl id (X.nadd i (X.toN a)) (X.nsub (X.toN b) (X.toN a)) (cap.map fun c => X.nsub c (X.toN a)))) H
      | none, some (.one (.int _ b)), some y => match ev T y with
        | .one (.int _ c) => match cap with
          | some _ => X.lohi 0 b ∧ X.lohi b c ∧ X.le c len ∧ k (.one (.sl id i (X.toN b) (some (X.toN c)))) H
          | none => False
        | _ => False
      | _, _, _ => X.otherP o T H (fun v => k v H)
      else False
      | _, _ => False
    | _, _ => X.otherP o T H (fun v => k v H)
  | .makeFunc fn first captured =>
    match fn, first.size, ones (captured.toList.map (ev T)) with
    | .func f, 0, some cs => k (.one (.fn f cs)) H
    | _, _, _ => False
  | .extract x n =>
    match ev T x with
    | .tup vs => match vs[n]? with
      | some v => k v H
      | none => False
    | _ => False
  | .field t x n =>
    match tab t, ev T x with
    | some ⟨_, _, .struct fs, _⟩, .agg cs =>
      match fs[n]? with
      | some (off, sz, true) => X.otherP o T H (fun v => k v H)
      | _ => False
    | _, _ => False
  | .index t x y =>
    match tab t, ev T x, ev T y with
    | some ⟨_, _, .str, _⟩, .one (.str s), .one (.int _ n) => X.inb n (X.slen s) ∧ k (.one (.int .u8 (X.sat s (X.toN n)))) H
    | _, _, _ => X.otherP o T H (fun v => k v H)
  | .makeSlice t l c => X.other o T H k
  | .call c =>
    match c.callee with
    | .value f =>
      match callee T f with
      | some (g, caps) => X.call g (evs T c.args.toList ++ caps) H k
      | none => X.yld o T H k
    | .builtin .len =>
      match (c.argTypes[0]?).bind tab, evs T c.args.toList with
      | some ⟨_, _, .slice _, _⟩, [.one (.sl _ _ n _)] => k (.one (.int .i64 (X.ofN n))) H
      | some ⟨_, _, .slice _, _⟩, [.one .nils] => k (.one (.int .i64 0)) H
      | some ⟨_, _, .slice _, _⟩, [.one (.raw (.slice _ n _))] => k (.one (.int .i64 (X.ofN n))) H
      | some ⟨_, _, .str, _⟩, [.one (.str s)] => k (.one (.int .i64 (X.ofN (X.slen s)))) H
      | _, _ => X.otherP o T H (fun v => k v H)
    | .builtin .min =>
      match evs T c.args.toList with
      | [.one (.int .i64 a), .one (.int .i64 b)] => k (.one (.int .i64 (X.mm .min a b))) H
      | _ => X.otherP o T H (fun v => k v H)
    | .builtin .max =>
      match evs T c.args.toList with
      | [.one (.int .i64 a), .one (.int .i64 b)] => k (.one (.int .i64 (X.mm .max a b))) H
      | _ => X.otherP o T H (fun v => k v H)
    | .builtin _ => X.other o T H k
    | .invoke .. => False
  | .defer _ => False
  | _ => X.other o T H k

/-- What a guard asks: none: nothing is asked; some: the bool, and what it is to be. -/
def guardOf (ops : List Oper) (T : List V) (o : Oper) : Option (Option Bool × Bool) :=
  match o.guard with
  | none => none
  | some (j, want) => match (ops[j]?).bind (·.dst) with
    | some d => match T.getD d (.one .undef) with
      | .one (.bool b) => some (some b, want)
      | _ => some (none, want)
    | none => some (none, want)

def astep (ops : List Oper) (o : Oper) (T : List V) (H : Heap) (k : List V → Heap → Prop) : Prop :=
  match guardOf ops T o with
  | none => aop X tab o T H (fun v H' => k (put T o.dst v) H')
  | some (some b, true) => X.cond b (fun _ => aop X tab o T H (fun v H' => k (put T o.dst v) H')) (fun _ => k (put T o.dst (.one .undef)) H)
  | some (some b, false) => X.cond b (fun _ => k (put T o.dst (.one .undef)) H) (fun _ => aop X tab o T H (fun v H' => k (put T o.dst v) H'))
  | some (none, _) => False

def aops (ops : List Oper) : List Oper → List V → Heap → (List V → Heap → Prop) → Prop
  | [], T, H, k => k T H
  | o :: r, T, H, k => astep X tab ops o T H (fun T' H' => aops ops r T' H' k)

/-- How a text is left: 0 0: at its end; 1 0: a return; 2 n: an exit to block n. -/
def awp : Code → List V → Heap → (Nat → Nat → List V → Heap → Prop) → Prop
  | .skip, T, H, k => k 0 0 T H
  | .label _, T, H, k => k 0 0 T H
  | .ret, T, H, k => k 1 0 T H
  | .exit n, T, H, k => k 2 n T H
  | .seq a b, T, H, k => awp a T H (fun e n T' H' => match e with | 0 => awp b T' H' k | e + 1 => k (e + 1) n T' H')
  | .cond c a b, T, H, k => match ev T c with
    | .one (.bool t) => X.cond t (fun _ => awp a T H k) (fun _ => awp b T H k)
    | _ => False
  | .block id c, T, H, k => awp c T H (fun e n T' H' => match Nat.beq e 2 with
    | true => match Nat.beq n id with | true => k 0 0 T' H' | false => k 2 n T' H'
    | false => k e n T' H')
  | .loop c, T, H, k => X.loop c T H k
  | .region _ ops d, T, H, k => match d with
    | true => X.draw ops.toList T H (fun T' H' => k 0 0 T' H')
    | false => aops X tab ops.toList ops.toList T H (fun T' H' => k 0 0 T' H')
  | .rangeFunc f ps s c, T, H, k => X.rangef f ps s c T H k
  | _, _, _, _ => False
end
end Go.Proofs.YtdijdlkljeibjaaDoor.AM
