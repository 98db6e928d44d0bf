/- A computable interpreter of the model's programs over an abstract memory: the definitions. No condition beyond those that each theorem names. -/
import Derived.Calls
import Derived.Control
import Derived.Orders
namespace Go.Proofs.YtememknikhdkdaaGreatDoorDx
open Go
set_option linter.unusedVariables false

/-- A tree that is read by numbers. -/
inductive PT (α : Type) where
  | leaf
  | node (v : Option α) (l r : PT α)

def PT.get {α : Type} : PT α → Nat → Option α
  | .leaf, _ => none
  | .node v l r, n => cond (Nat.beq n 0) v (cond (Nat.beq (n % 2) 1) (l.get (n / 2)) (r.get (n / 2 - 1)))
def PT.set {α : Type} : Nat → PT α → Nat → Option α → PT α
  | 0, t, _, _ => t
  | k + 1, .leaf, n, x => cond (Nat.beq n 0) (.node x .leaf .leaf) (cond (Nat.beq (n % 2) 1) (.node none (PT.set k .leaf (n / 2) x) .leaf) (.node none .leaf (PT.set k .leaf (n / 2 - 1) x)))
  | k + 1, .node v l r, n, x => cond (Nat.beq n 0) (.node x l r) (cond (Nat.beq (n % 2) 1) (.node v (PT.set k l (n / 2) x) r) (.node v l (PT.set k r (n / 2 - 1) x)))
def lim : Nat := 1000000000
def PT.put {α : Type} (t : PT α) (n : Nat) (x : Option α) : PT α := PT.set 40 t n x

inductive Ob where
  | cells (cs : List Value)
  | map (es : List (Value × Value × Nat)) (clock : Nat)
  | sit (s : ByteArray) (pos : Nat)
  | mit (m : Option Nat) (since : Nat) (seen : List Nat) (last : Nat)
structure Hp where
  t : PT Ob
  n : Nat

/-- An answer, or why there is none. -/
inductive R (α : Type) where
  | ok (a : α)
  | no (why : List String)
def R.bind {α β : Type} : R α → (α → R β) → R β
  | .ok a, f => f a
  | .no w, _ => .no w
def R.of {α : Type} (why : String) : Option α → R α
  | some a => .ok a
  | none => .no [why]
def R.ctx {α : Type} (why : String) : R α → R α
  | .ok a => .ok a
  | .no w => .no (why :: w)

/-- What is told of the program and of the library: ids below G are the program's variables, ids below n0 are never written. -/
structure Cfg where
  P : Program
  G : Nat
  n0 : Nat
  und : TypeId → Option TypeDesc
  siz : TypeId → Option Nat
  zer : TypeId → Option Value
  byt : TypeId → Option Nat
  eqs : TypeId → Bool
  fns : FuncId → Option Func
  met : TypeId → String → Option (FuncId × Bool)
  prim : FuncId → List Value → Option Value

def cellsOfV : Value → List Value
  | .agg cs => cs.toList
  | v => [v]
def oneC : Value → Bool
  | .agg _ | .tuple _ => false
  | _ => true
/-- A value that points nowhere. -/
def pf : Value → Bool
  | .bool _ | .int _ _ | .string _ | .pointer none | .slice none 0 0 | .map none | .nilFunc | .nilIface => true
  | _ => false
def pfd : Nat → Value → Bool
  | 0, v => pf v
  | n + 1, v => match v with
    | .agg cs => cs.toList.all (pfd n)
    | .tuple cs => cs.toList.all (pfd n)
    | v => pf v

structure Tm where
  t : PT Value
  m : Nat
def Tm.get (T : Tm) (n : Nat) : Value := (T.t.get n).getD undef
def ev (c : Cfg) (T : Tm) : Operand → Option Value
  | .tmp t => bif Nat.blt t T.m then some (T.get t) else none
  | .const v => bif pfd 3 v then some v else none
  | .global g => bif Nat.blt g c.G then some (.pointer (some ⟨g, 0, none⟩)) else none
  | .func f => some (.func (.func f) #[] #[])
def evs (c : Cfg) (T : Tm) : List Operand → Option (List Value)
  | [] => some []
  | x :: r => (ev c T x).bind fun v => (evs c T r).bind fun l => some (v :: l)
def evo (c : Cfg) (T : Tm) : Option Operand → Option (Option Value)
  | none => some none
  | some x => (ev c T x).map some
def valOps (c : Cfg) (T : Tm) : List (Nat × Operand) → Option (List (Nat × Value))
  | [] => some []
  | p :: r => (ev c T p.2).bind fun v => (valOps c T r).bind fun l => some ((p.1, v) :: l)

def nth : List Value → Nat → Option Value
  | [], _ => none
  | x :: l, n => cond (Nat.beq n 0) (some x) (nth l (n - 1))
def ins : List Value → Nat → Value → List Value
  | [], _, _ => []
  | x :: l, n, v => cond (Nat.beq n 0) (v :: l) (x :: ins l (n - 1) v)
/-- Some cells at a place. -/
def slc (l : List Value) (o n : Nat) : Option (List Value) := bif Nat.ble (o + n) l.length then some ((l.drop o).take n) else none
def puts : List Value → Nat → List Value → List Value
  | l, _, [] => l
  | l, o, v :: r => puts (ins l o v) (o + 1) r

def isAggD (c : Cfg) (t : TypeId) : Option Bool :=
  match c.und t with
  | some (.struct _) | some (.array _ _) => some true
  | some _ => some false
  | none => none
def partD (c : Cfg) (t : TypeId) (cs : List Value) (off : Nat) : Option Value :=
  (isAggD c t).bind fun ag => bif ag then (c.siz t).bind fun n => (slc cs off n).map fun l => .agg l.toArray else nth cs off
def cellsAt (h : Hp) (b : Nat) : Option (List Value) :=
  match h.t.get b with
  | some (.cells cs) => some cs
  | _ => none
def loadD (c : Cfg) (h : Hp) (t : TypeId) (a : Value) : Option Value :=
  match a with
  | .pointer (some ⟨b, o, none⟩) => (cellsAt h b).bind fun cs => partD c t cs o
  | _ => none

/-- What an operation gives: its value, the heap, the ids written. -/
abbrev Out := Value × Hp × List Nat

def storeAtD (c : Cfg) (h : Hp) (b o : Nat) (vs : List Value) : Option (Hp × List Nat) :=
  (cellsAt h b).bind fun cs =>
    bif Nat.ble c.n0 b && Nat.blt b lim && Nat.ble (o + vs.length) cs.length && vs.all oneC then some (⟨h.t.put b (some (.cells (puts cs o vs))), h.n⟩, [b]) else none
def newD (h : Hp) (o : Ob) : Option Hp := bif Nat.blt h.n lim then some ⟨h.t.put h.n (some o), h.n + 1⟩ else none

def wantedD (ops : Array Oper) (T : Tm) (o : Oper) : Option Bool :=
  match o.guard with
  | none => some true
  | some (j, want) => match (ops[j]?).bind (·.dst) with
    | some d => bif Nat.blt d T.m then match T.get d with
      | .bool b => some (cond want b (!b))
      | _ => some false
      else none
    | none => none

def eqU : List UInt8 → List UInt8 → Bool
  | [], [] => true
  | x :: a, y :: b => Nat.beq x.toNat y.toNat && eqU a b
  | _, _ => false
def ltU : List UInt8 → List UInt8 → Bool
  | _, [] => false
  | [], _ :: _ => true
  | x :: a, y :: b => Nat.blt x.toNat y.toNat || (Nat.beq x.toNat y.toNat && ltU a b)

def intOp (op : BinOp) (k : IntKind) (a b : Int) : Option Value :=
  match op with
  | .add => some (.int k (k.wrap (a + b)))
  | .sub => some (.int k (k.wrap (a - b)))
  | .mul => some (.int k (k.wrap (a * b)))
  | .quo => if b = 0 then none else some (.int k (k.wrap (a.tdiv b)))
  | .rem => if b = 0 then none else some (.int k (a.tmod b))
  | .and => some (.int k (k.wrap (BitVec.ofInt k.bits a &&& BitVec.ofInt k.bits b).toNat))
  | .or => some (.int k (k.wrap (BitVec.ofInt k.bits a ||| BitVec.ofInt k.bits b).toNat))
  | .xor => some (.int k (k.wrap (BitVec.ofInt k.bits a ^^^ BitVec.ofInt k.bits b).toNat))
  | .eql => some (.bool (a == b))
  | .neq => some (.bool (a != b))
  | .lss => some (.bool (decide (a < b)))
  | .leq => some (.bool (decide (a ≤ b)))
  | .gtr => some (.bool (decide (a > b)))
  | .geq => some (.bool (decide (a ≥ b)))
  | _ => none
def strOp (op : BinOp) (a b : ByteArray) : Option Value :=
  match op with
  | .add => bif Nat.ble (a.data.toList.length + b.data.toList.length) 9223372036854775807 then some (.string ⟨(a.data.toList ++ b.data.toList).toArray⟩) else none
  | .eql => some (.bool (eqU a.data.toList b.data.toList))
  | .neq => some (.bool (!eqU a.data.toList b.data.toList))
  | .lss => some (.bool (ltU a.data.toList b.data.toList))
  | .leq => some (.bool (ltU a.data.toList b.data.toList || eqU a.data.toList b.data.toList))
  | .gtr => some (.bool (!(ltU a.data.toList b.data.toList || eqU a.data.toList b.data.toList)))
  | .geq => some (.bool (!ltU a.data.toList b.data.toList))
  | _ => none
def eqF (c : Cfg) (cmp : TypeId → Value → Value → Option Bool) : List Field → List Value → List Value → Option Bool
  | [], _, _ => some true
  | f :: r, xs, ys => if f.name = "_" then none else (partD c f.type xs f.offset).bind fun x => (partD c f.type ys f.offset).bind fun y => (cmp f.type x y).bind fun b => (eqF c cmp r xs ys).map fun r => b && r
/-- Equality of values of one type. -/
def eqD (c : Cfg) : Nat → TypeId → Value → Value → Option Bool
  | 0, _, _, _ => none
  | n + 1, t, x, y =>
    match c.und t, x, y with
    | some .bool, .bool a, .bool b => some (a == b)
    | some (.int _), .int k a, .int k' b => if k = k' then some (a == b) else none
    | some .string, .string a, .string b => some (eqU a.data.toList b.data.toList)
    | some (.pointer _), .pointer none, .pointer b => some b.isNone
    | some (.pointer _), .pointer (some _), .pointer none => some false
    | some (.slice _), .slice none _ _, .slice b _ _ => some b.isNone
    | some (.slice _), .slice (some _) _ _, .slice none _ _ => some false
    | some (.map _ _), .map none, .map b => some b.isNone
    | some (.map _ _), .map (some _), .map none => some false
    | some (.func _ _ _), .nilFunc, .nilFunc => some true
    | some (.func _ _ _), .nilFunc, .func _ _ _ => some false
    | some (.func _ _ _), .func _ _ _, .nilFunc => some false
    | some (.struct fs), .agg xs, .agg ys => bif c.eqs t then eqF c (eqD c n) fs.toList xs.toList ys.toList else none
    | _, _, _ => none

def fillD (place : Nat → Option (Nat × Nat)) (cells : List Value) : List (Nat × Value) → Option (List Value)
  | [] => some cells
  | p :: r => (place p.1).bind fun q =>
    bif Nat.beq (cellsOfV p.2).length q.2 && Nat.ble (q.1 + q.2) cells.length then fillD place (puts cells q.1 (cellsOfV p.2)) r else none

def rep (l : List Value) : Nat → List Value
  | 0 => []
  | n + 1 => l ++ rep l n
def natOf (i : Int) : Option Nat := match i with | .ofNat n => some n | .negSucc _ => none
def bound (x : Option Value) (d m : Nat) : Option Nat :=
  match x with
  | none => some d
  | some (.int _ i) => (natOf i).bind fun n => bif Nat.ble n m then some n else none
  | _ => none

def pureV (h : Hp) (o : Option Value) : Option (List Out) := o.map fun v => [(v, h, [])]
def newV (h : Hp) (cs : List Value) (f : Nat → Value) : Option (List Out) := (newD h (.cells cs)).map fun h' => [(f h.n, h', [])]

def isSS : TypeDesc → Bool
  | .slice _ | .string => true
  | _ => false
/-- What is appended, and how many elements that are. -/
def newCells (h : Hp) (sz : Nat) : Value → Option (List Value × Nat)
  | .slice (some ⟨b, o, none⟩) m _ => if m = 0 then some ([], 0) else (cellsAt h b).bind fun cs => (slc cs o (m * sz)).map fun l => (l, m)
  | .slice none 0 0 => some ([], 0)
  | .string t => bif Nat.beq sz 1 then some (t.data.toList.map fun b => .int .u8 b.toNat, t.data.toList.length) else none
  | _ => none
def appendD (c : Cfg) (h : Hp) (st xt : TypeId) (s x : Value) : Option (List Out) :=
  match c.und st, c.und xt, s with
  | some (.slice elem), some xd, .slice base n cz => bif !isSS xd then none else
    (c.siz elem).bind fun sz => (c.byt elem).bind fun by_ => (c.zer elem).bind fun z =>
    bif Nat.beq sz 0 || Nat.blt 1000000 by_ || !Nat.beq (cellsOfV z).length sz then none else
    (newCells h sz x).bind fun nw =>
      if nw.2 = 0 then some [(s, h, [])] else bif Nat.ble (n + nw.2) 1000000 && nw.1.all oneC then
      match base with
      | none => if n = 0 then newV h nw.1 (fun b => .slice (some ⟨b, 0, none⟩) nw.2 sz) else none
      | some ⟨b, o, none⟩ =>
        (cellsAt h b).bind fun cs => bif Nat.ble c.n0 b && Nat.blt b lim && Nat.blt h.n lim && Nat.beq cz sz then (slc cs o (n * sz)).bind fun old =>
            some [(.slice (some ⟨h.n, 0, none⟩) (n + nw.2) sz, ⟨(h.t.put b none).put h.n (some (.cells (old ++ nw.1))), h.n + 1⟩, [b])]
          else none
      | _ => none
      else none
  | _, _, _ => none

def isIntT : Option TypeDesc → Bool
  | some (.int _) => true
  | _ => false
/-- append(nil, make(..)...) -/
def appendZD (c : Cfg) (h : Hp) (st : TypeId) (s x : Value) : Option (List Out) :=
  match c.und st, s, x with
  | some (.slice elem), .slice none 0 0, .int _ l => (natOf l).bind fun n => (c.siz elem).bind fun sz => (c.byt elem).bind fun by_ => (c.zer elem).bind fun z =>
    bif Nat.beq n 0 || Nat.beq sz 0 || Nat.blt 1000000 by_ || Nat.blt 1000000 n || !Nat.beq (cellsOfV z).length sz then none else newV h (rep (cellsOfV z) n) (fun b => .slice (some ⟨b, 0, none⟩) n sz)
  | _, _, _ => none

/-- copy(d, s), where all of s has room in d. -/
def copyD (c : Cfg) (h : Hp) (t : TypeId) (d s : Value) : Option (List Out) :=
  match c.und t, d with
  | some (.slice el), .slice a n _ => (c.siz el).bind fun sz => (newCells h sz s).bind fun nw =>
    if nw.2 = 0 then some [(.int .i64 0, h, [])] else bif Nat.ble nw.2 n then match a with
      | some ⟨b, o, none⟩ => (storeAtD c h b o nw.1).map fun p => [(.int .i64 nw.2, p.1, p.2)]
      | _ => none
    else none
  | _, _ => none

def minmax (mx : Bool) : Value → List Value → Option Value
  | x, [] => some x
  | .int k a, .int k' b :: r => if k = k' then minmax mx (.int k (if mx then (if b > a then b else a) else (if b < a then b else a))) r else none
  | _, _ => none

/-- A new slice of zeros. -/
def makeSliceD (c : Cfg) (h : Hp) (t : TypeId) (l u : Value) : Option (List Out) :=
  match c.und t, l, u with
  | some (.slice el), .int _ l, .int _ u => (natOf l).bind fun l => (natOf u).bind fun u => (c.siz el).bind fun s => (c.byt el).bind fun by_ => (c.zer el).bind fun z =>
    bif Nat.beq s 0 || Nat.blt 1000000 by_ || Nat.blt 1000000 u || Nat.blt u l || !Nat.beq (cellsOfV z).length s then none else newV h (rep (cellsOfV z) u) (fun b => .slice (some ⟨b, 0, none⟩) l s)
  | _, _, _ => none
/-- A text's bytes as a new slice. -/
def bytesD (c : Cfg) (h : Hp) (el : TypeId) (s : ByteArray) : Option (List Out) :=
  match c.und el, c.siz el with
  | some (.int .u8), some 1 => bif Nat.ble s.data.toList.length 1000000 then newV h (s.data.toList.map fun b => .int .u8 b.toNat) (fun b => .slice (some ⟨b, 0, none⟩) s.data.toList.length 1) else none
  | _, _ => none

def lenD (h : Hp) (d : Option TypeDesc) (x : Value) : Option Value :=
  match d, x with
  | some .string, .string s => some (.int .i64 s.data.toList.length)
  | some (.slice _), .slice _ n _ => some (.int .i64 n)
  | some (.map _ _), .map none => some (.int .i64 0)
  | some (.map _ _), .map (some r) => match h.t.get r with
    | some (.map es _) => some (.int .i64 es.length)
    | _ => none
  | _, _ => none

def builtinD (c : Cfg) (h : Hp) (b : Builtin) (ts : List TypeId) (xs : List Value) : Option (List Out) :=
  match b, ts, xs with
  | .len, [t], [x] => pureV h (lenD h (c.und t) x)
  | .append, [t, u], [s, x] => bif isIntT (c.und u) then appendZD c h t s x else appendD c h t u s x
  | .cap, [t], [.slice none 0 0] => pureV h (match c.und t with | some (.slice _) => some (.int .i64 0) | _ => none)
  | .copy, [t, _], [d, s] => copyD c h t d s
  | .max, _, x :: r => pureV h (minmax true x r)
  | .min, _, x :: r => pureV h (minmax false x r)
  | _, _, _ => none

def pickV (v : Bool) (x y : Value) : Value :=
  match x, y with
  | .bool x, .bool y => .bool (cond v x y)
  | x, y => if v then x else y
def binD (c : Cfg) (op : BinOp) (t : TypeId) (a b : Value) : Option Value :=
  match op, a, b with
  | .shl, .int k a, .int _ b => if b < 0 then none else some (.int k (k.wrap (a * 2 ^ (min b.toNat k.bits))))
  | .shr, .int k a, .int _ b => if b < 0 then none else some (.int k (a.fdiv (2 ^ (min b.toNat k.bits))))
  | op, .int k a, .int k' b => if k = k' then intOp op k a b else none
  | op, .string a, .string b => strOp op a b
  | .eql, a, b => (eqD c 20 t a b).map fun r => .bool r
  | .neq, a, b => (eqD c 20 t a b).map fun r => .bool (!r)
  | _, _, _ => none
def placesD (c : Cfg) : List Field → Option (List (Nat × Nat))
  | [] => some []
  | f :: r => (c.siz f.type).bind fun s => (placesD c r).bind fun l => some ((f.offset, s) :: l)
def buildD (c : Cfg) (t : TypeId) (vs : List (Nat × Value)) : Option Value :=
  (c.zer t).bind fun z => match c.und t with
    | some (.struct fs) => (placesD c fs.toList).bind fun ps => (fillD (fun i => ps[i]?) (cellsOfV z) vs).map fun l => .agg l.toArray
    | some (.array _ el) => (c.siz el).bind fun s => (fillD (fun i => some (i * s, s)) (cellsOfV z) vs).map fun l => .agg l.toArray
    | _ => none
def buildSliceD (c : Cfg) (h : Hp) (t : TypeId) (n : Nat) (vs : List (Nat × Value)) : Option (List Out) :=
  match c.und t with
  | some (.slice el) => (c.siz el).bind fun s => bif Nat.beq s 0 || Nat.blt 16777216 (n * s) then none else
    (if n = 0 then some [] else (c.zer el).bind fun z => bif Nat.beq (cellsOfV z).length s then some (rep (cellsOfV z) n) else none).bind fun zs =>
    (fillD (fun i => some (i * s, s)) zs vs).bind fun l => newV h l (fun b => .slice (some ⟨b, 0, none⟩) n s)
  | _ => none
def sliceD (c : Cfg) (t : TypeId) (v : Value) (l u : Option Value) : Option Value :=
  match c.und t, v with
  | some .string, .string s =>
    (bound u s.data.toList.length s.data.toList.length).bind fun e => (bound l 0 e).bind fun b => some (.string ⟨((s.data.toList.take e).drop b).toArray⟩)
  | some (.slice el), .slice a n sz => (bound u n n).bind fun e => (bound l 0 e).bind fun b => (c.siz el).bind fun s =>
    match a with
    | none => some (.slice none 0 0)
    | some ⟨k, o, none⟩ => bif Nat.beq s sz then some (.slice (some ⟨k, o + b * s, none⟩) (e - b) sz) else none
    | _ => none
  | _, _ => none
def indexAddrD (c : Cfg) (t : TypeId) (v j : Value) : Option Value :=
  match j with
  | .int _ j => (natOf j).bind fun j =>
    match c.und t, v with
    | some (.slice el), .slice (some ⟨b, o, none⟩) n _ => (c.siz el).bind fun s => bif Nat.blt j n then some (.pointer (some ⟨b, o + j * s, none⟩)) else none
    | some (.array n el), .pointer (some ⟨b, o, none⟩) => (c.siz el).bind fun s => bif Nat.blt j n then some (.pointer (some ⟨b, o + j * s, none⟩)) else none
    | _, _ => none
  | _ => none
def indexD (c : Cfg) (t : TypeId) (v j : Value) : Option Value :=
  match j with
  | .int _ j => (natOf j).bind fun j =>
    match c.und t, v with
    | some .string, .string s => ((s.data.toList.drop j).head?).map fun b => .int .u8 b.toNat
    | some (.array n el), .agg cs => (c.siz el).bind fun s => bif Nat.blt j n then partD c el cs.toList (j * s) else none
    | _, _ => none
  | _ => none

/-- An operation that calls no function of Go's. -/
def opP (c : Cfg) (T : Tm) (h : Hp) (o : Oper) : Option (List Out) :=
  match o.op with
  | .move x => pureV h (ev c T x)
  | .assign x => pureV h (ev c T x)
  | .pick q a b => (ev c T q).bind fun v => (ev c T a).bind fun x => (ev c T b).bind fun y => match v with
    | .bool v => pureV h (some (pickV v x y))
    | _ => none
  | .alloc e => (c.zer e).bind fun z => newV h (cellsOfV z) (fun b => .pointer (some ⟨b, 0, none⟩))
  | .box e x => (ev c T x).bind fun v => newV h (cellsOfV v) (fun b => .pointer (some ⟨b, 0, none⟩))
  | .build t ps => (valOps c T ps.toList).bind fun vs => pureV h (buildD c t vs)
  | .buildSlice t n ps => (valOps c T ps.toList).bind fun vs => buildSliceD c h t n vs
  | .load t a => (ev c T a).bind fun v => pureV h (loadD c h t v)
  | .store t a x => (ev c T a).bind fun v => (ev c T x).bind fun y => (c.siz t).bind fun s =>
    match v with
    | .pointer (some ⟨b, o, none⟩) => bif Nat.beq (cellsOfV y).length s then (storeAtD c h b o (cellsOfV y)).map fun p => [(undef, p.1, p.2)] else none
    | _ => none
  | .nilCheck x => (ev c T x).bind fun v => match v with
    | .pointer (some a) => pureV h (some (.pointer (some a)))
    | .iface t v => pureV h (some (.iface t v))
    | _ => none
  | .binOp op t x y _ => (ev c T x).bind fun a => (ev c T y).bind fun b => pureV h (binD c op t a b)
  | .unOp op _ x => (ev c T x).bind fun v => match op, v with
    | .neg, .int k n => pureV h (some (.int k (k.wrap (0 - n))))
    | .not, .bool b => pureV h (some (.bool (!b)))
    | _, _ => none
  | .convert src dst x => (ev c T x).bind fun v => match c.und src, c.und dst, v with
    | some _, some (.int k), .int _ n => pureV h (some (.int k (k.wrap n)))
    | some _, some .string, .string s => pureV h (some (.string s))
    | some .string, some (.slice el), .string s => bytesD c h el s
    | _, _, _ => none
  | .makeInterface t x => (ev c T x).bind fun v => match c.und t with
    | some (.interface _) => none
    | some _ => pureV h (some (.iface t v))
    | none => none
  | .makeFunc fn f k => (evs c T f.toList).bind fun a => (evs c T k.toList).bind fun b => pureV h (some (.func fn a.toArray b.toArray))
  | .makeSlice t l u => (ev c T l).bind fun v => (ev c T u).bind fun x => makeSliceD c h t v x
  | .slice t x lo hi mx => match mx with
    | some _ => none
    | none => (ev c T x).bind fun v => (evo c T lo).bind fun l => (evo c T hi).bind fun u => pureV h (sliceD c t v l u)
  | .fieldAddr s x f => (ev c T x).bind fun v => match c.und s, v with
    | some (.struct fs), .pointer (some ⟨b, o, none⟩) => (fs[f]?).bind fun fd => (c.siz fd.type).bind fun n => bif Nat.beq n 0 then none else pureV h (some (.pointer (some ⟨b, o + fd.offset, none⟩)))
    | _, _ => none
  | .field t x f => (ev c T x).bind fun v => match c.und t, v with
    | some (.struct fs), .agg cs => (fs[f]?).bind fun fd => pureV h (partD c fd.type cs.toList fd.offset)
    | _, _ => none
  | .indexAddr t x i => (ev c T x).bind fun v => (ev c T i).bind fun j => pureV h (indexAddrD c t v j)
  | .index t x i => (ev c T x).bind fun v => (ev c T i).bind fun j => pureV h (indexD c t v j)
  | .extract t i => (ev c T t).bind fun v => match v with
    | .tuple vs => pureV h (nth vs.toList i)
    | _ => none
  | .call q => (evs c T q.args.toList).bind fun args => match q.callee with
    | .builtin b => builtinD c h b q.argTypes.toList args
    | _ => none
  | _ => none
/-- A method called through an interface value, which is the first of the arguments. -/
def methD (c : Cfg) (m : String) (l : List Value) : Option (FuncId × List Value) :=
  match l with
  | .iface t x :: r => (c.met t m).bind fun p => match c.und t, p.2 with
    | some (.pointer _), true => some (p.1, x :: r)
    | _, _ => none
  | _ => none
/-- What function an operation calls, and with what. -/
def calleeD (c : Cfg) (T : Tm) (o : Oper) : Option (FuncId × List Value) :=
  match o.op with
  | .call q => match q.callee with
    | .value f => (ev c T f).bind fun v => match v with
      | .func (.func f) fst cap => (evs c T q.args.toList).bind fun args => some (f, fst.toList ++ args ++ cap.toList)
      | .func (.method m) fst cap => (evs c T q.args.toList).bind fun args => methD c m (fst.toList ++ args)
      | _ => none
    | .invoke r m => (ev c T r).bind fun v => (evs c T q.args.toList).bind fun args => methD c m (v :: args)
    | _ => none
  | _ => none
abbrev CallD := FuncId → List Value → Hp → R (List Out)
def callFD (c : Cfg) (call : CallD) (h : Hp) (f : FuncId) (args : List Value) : R (List Out) :=
  match c.prim f args with
  | some v => .ok [(v, h, [])]
  | none => call f args h
/-- At least one outcome, and the next id does not go back. -/
def chk (n : Nat) (l : List Out) : R (List Out) := bif l.all (fun x => Nat.ble n x.2.1.n) && !l.isEmpty then .ok l else .no ["chk"]
def opD (c : Cfg) (call : CallD) (T : Tm) (h : Hp) (o : Oper) : R (List Out) :=
  (match calleeD c T o with
  | some p => callFD c call h p.1 p.2
  | none => R.of o.pos (opP c T h o)).bind (chk h.n)

inductive Ex where
  | normal
  | exit (id : Nat)
  | ret
structure St where
  T : Tm
  h : Hp
  w : List Nat
abbrev Outs := R (List (Ex × St))

def putD (T : Tm) (d : Option Tmp) (v : Value) : Tm := match d with
  | some d => bif Nat.blt d T.m then ⟨T.t.put d (some v), T.m⟩ else T
  | none => T

def bindL {α β : Type} : List α → (α → R (List β)) → R (List β)
  | [], _ => .ok []
  | x :: l, f => (f x).bind fun a => (bindL l f).bind fun b => .ok (a ++ b)

def opsD (c : Cfg) (call : CallD) (ops : Array Oper) : List Oper → St → R (List St)
  | [], s => .ok [s]
  | o :: r, s => (R.of o.pos (wantedD ops s.T o)).bind fun b =>
    bif b then (opD c call s.T s.h o).bind fun l => bindL l fun x => opsD c call ops r ⟨putD s.T o.dst x.1, x.2.1, x.2.2 ++ s.w⟩
    else opsD c call ops r ⟨putD s.T o.dst undef, s.h, s.w⟩

def thenD (l : List (Ex × St)) (f : St → Outs) : Outs := bindL l fun p => match p.1 with
  | .normal => f p.2
  | e => .ok [(e, p.2)]

/-- What an operation looks at in memory; none: anything. -/
def footD (c : Cfg) (T : Tm) (o : Oper) : Option (List Nat) :=
  match o.op with
  | .load _ x | .store _ x _ => match ev c T x with
    | some (.pointer (some ⟨b, _, none⟩)) => some [b]
    | _ => none
  | .call q => match q.callee with
    | .builtin .min | .builtin .max | .builtin .cap => some []
    | .builtin .len => match q.args.toList with
      | [x] => match ev c T x with
        | some (.map (some r)) => some [r]
        | _ => some []
      | _ => none
    | _ => none
  | .move _ | .assign _ | .pick .. | .alloc _ | .box .. | .build .. | .buildSlice .. | .makeSlice .. | .nilCheck _ | .binOp .. | .unOp .. | .convert .. | .makeInterface .. | .makeFunc .. | .slice .. | .fieldAddr .. | .field .. | .indexAddr .. | .index .. | .extract .. => some []
  | _ => none
/-- Some ids, as another tree has them. -/
def mergeD (t t' : PT Ob) : List Nat → PT Ob
  | [] => t
  | b :: l => mergeD (t.put b (t'.get b)) t' l
def hideD (t : PT Ob) : List Nat → PT Ob
  | [] => t
  | b :: l => hideD (t.put b none) l
/-- What is told of an operation that has come up. -/
structure Rec where
  i : Nat
  o : Oper
  bef : Nat
  foot : Option (List Nat)
  wr : List Nat
  n : Nat
  n' : Nat
def looks (ops : Array Oper) (o : Oper) : List Nat := Oper.looksAt ops o
def dstIn (d : Option Tmp) (l : List Nat) : Bool := match d with | some d => l.any (Nat.beq d) | none => false
def memN (b : Nat) (l : List Nat) : Bool := l.any (Nat.beq b)
def meets (a b : List Nat) : Bool := a.any fun x => memN x b
def clash (w : List Nat) : Option (List Nat) → Bool
  | none => !w.isEmpty
  | some l => meets w l
def inSeg (r : Rec) (b : Nat) : Bool := Nat.ble r.n b && Nat.blt b r.n'
/-- Two operations that Go leaves unordered do not meet (x comes first in the text). -/
def apartD (ops : Array Oper) (x y : Rec) : Bool :=
  !dstIn x.o.dst (looks ops y.o) && !dstIn y.o.dst (looks ops x.o) && !(match x.o.dst, y.o.dst with | some a, some b => Nat.beq a b | _, _ => false) &&
  !clash y.wr x.foot && !clash x.wr y.foot && !meets x.wr y.wr && !y.wr.any (inSeg x) &&
  (match y.foot with | some l => !l.any (inSeg x) | none => true)
def segL (n : Nat) : Nat → List Nat
  | 0 => []
  | k + 1 => n :: segL (n + 1) k
def befD (rs : List Rec) (o : Oper) : Nat :=
  o.after.toList.foldl (fun s e => if Region.binds .any e then s ||| 2 ^ e.on ||| (match rs.find? (fun r => Nat.beq r.i e.on) with | some r => r.bef | none => 0) else s) 0
def idsOk : Option (List Nat) → Bool
  | some ids => ids.all (fun b => Nat.blt b lim)
  | none => true
/-- The memory that an operation is shown. -/
def maskD (foot : Option (List Nat)) (t : PT Ob) (hid : List Nat) : PT Ob :=
  match foot with
  | some ids => mergeD .leaf t ids
  | none => hideD t hid
/-- A region that draws its order: in the order of the text, with what makes any order the same. rs: what has come up, the latest first. -/
def drawD (c : Cfg) (call : CallD) (ops : Array Oper) : Nat → List Oper → List Rec → Tm → Hp → List Nat → R St
  | _, [], rs, T, h, w => .ok ⟨T, h, w⟩
  | i, o :: l, rs, T, h, w =>
    let bef := befD rs o
    let un := rs.filter fun r => !bef.testBit r.i
    (R.of "drawD: edge" (if o.after.toList.all (fun e => !Region.binds .any e || Nat.blt e.on i) then some () else none)).bind fun _ =>
    (R.of o.pos (wantedD ops T o)).bind fun b =>
    bif b then
      let foot := footD c T o
      let M : PT Ob := maskD foot h.t (un.flatMap fun r => segL r.n (r.n' - r.n))
      (opD c call T ⟨M, h.n⟩ o).bind fun outs => match outs with
        | [x] =>
          let wr := x.2.2.filter fun b => Nat.blt b h.n
          let r : Rec := ⟨i, o, bef, foot, wr, h.n, x.2.1.n⟩
          bif un.all (fun q => apartD ops q r) && Nat.blt x.2.1.n lim && idsOk foot && wr.all (fun b => Nat.blt b lim) && x.2.2.all (fun b => Nat.blt b x.2.1.n) then
            drawD c call ops (i + 1) l (r :: rs) (putD T o.dst x.1) ⟨mergeD h.t x.2.1.t (wr ++ segL h.n (x.2.1.n - h.n)), x.2.1.n⟩ (wr ++ w)
          else .no ["drawD: meet", o.pos]
        | _ => .no ["drawD: outcomes", o.pos]
    else
      let r : Rec := ⟨i, o, bef, some [], [], h.n, h.n⟩
      bif un.all (fun q => apartD ops q r) then drawD c call ops (i + 1) l (r :: rs) (putD T o.dst undef) h w else .no ["drawD: meet", o.pos]

def regD (c : Cfg) (call : CallD) (ops : Array Oper) (draw : Bool) (s : St) : Outs :=
  bif draw then (drawD c call ops 0 ops.toList [] s.T s.h s.w).bind fun s => .ok [(.normal, s)] else (opsD c call ops ops.toList s).bind fun l => .ok (l.map fun s => (.normal, s))

def codeD (c : Cfg) (call : CallD) : Nat → Code → St → Outs
  | 0, _, _ => .no ["fuel"]
  | k + 1, q, s => match q with
    | .skip => .ok [(.normal, s)]
    | .label _ => .ok [(.normal, s)]
    | .region _ ops d => regD c call ops d s
    | .seq a b => (codeD c call k a s).bind fun l => thenD l fun s => codeD c call k b s
    | .cond x a b => match ev c s.T x with
      | some (.bool v) => cond v (codeD c call k a s) (codeD c call k b s)
      | _ => .no ["cond"]
    | .block id a => (codeD c call k a s).bind fun l => .ok (l.map fun p => match p.1 with
      | .exit i => (bif Nat.beq i id then Ex.normal else .exit i, p.2)
      | e => (e, p.2))
    | .loop a => (codeD c call k a s).bind fun l => thenD l fun s => codeD c call k (.loop a) s
    | .exit id => .ok [(.exit id, s)]
    | .ret => .ok [(.ret, s)]
    | .scope a => codeD c call k a s
    | _ => .no ["code"]

def resD (c : Cfg) (T : Tm) (h : Hp) : List ResultVar → Option (List Value)
  | [] => some []
  | .tmp t :: r => bif Nat.blt t T.m then (resD c T h r).map fun l => T.get t :: l else none
  | .cell a t :: r => bif Nat.blt a T.m then (loadD c h t (T.get a)).bind fun v => (resD c T h r).map fun l => v :: l else none
def oneV : List Value → Value
  | [v] => v
  | l => .tuple l.toArray
def argsD (T : PT Value) (i : Nat) : List Value → PT Value
  | [] => T
  | v :: l => argsD (T.put i (some v)) (i + 1) l
def retD (c : Cfg) (fn : Func) : List (Ex × St) → Option (List Out)
  | [] => some []
  | p :: r => match p.1 with
    | .exit _ => none
    | _ => (resD c p.2.T p.2.h fn.results.toList).bind fun vs => (retD c fn r).map fun l => (oneV vs, p.2.h, p.2.w) :: l
def callD (c : Cfg) : Nat → CallD
  | 0, _, _, _ => .no ["calls"]
  | k + 1, f, args, h => match c.fns f with
    | some fn => match fn.body with
      | some q => bif Nat.ble args.length fn.ntmps && Nat.blt fn.ntmps lim then R.ctx fn.name ((codeD c (callD c k) 100000 q ⟨⟨argsD .leaf 0 args, fn.ntmps⟩, h, []⟩).bind fun l => R.of "results" (retD c fn l)) else .no ["arguments"]
      | none => .no [fn.name, "no body"]
    | none => .no ["no function"]
end Go.Proofs.YtememknikhdkdaaGreatDoorDx
