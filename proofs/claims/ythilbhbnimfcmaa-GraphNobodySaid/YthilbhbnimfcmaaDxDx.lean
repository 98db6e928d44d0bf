/- A computable interpreter of the model's programs over an abstract memory: the definitions. No condition beyond those that each theorem names. -/
import Derived.Calls
import Derived.Control
import Derived.Orders
namespace Go.Proofs.YthilbhbnimfcmaaDx
open Go
set_option linter.unusedVariables false

/-- A tree that is read by numbers. -/
inductive PT (α : Type) where
  | leaf
  | node (v : Option α) (l r : PT α)

def PT.get {α : Type} : PT α → Nat → Option α
  | .leaf, _ => none
  | .node v l r, n => cond (Nat.beq n 0) v (cond (Nat.beq (n % 2) 1) (l.get (n / 2)) (r.get (n / 2 - 1)))
def PT.set {α : Type} : Nat → PT α → Nat → Option α → PT α
  | 0, t, _, _ => t
  | k + 1, .leaf, n, x => cond (Nat.beq n 0) (.node x .leaf .leaf) (cond (Nat.beq (n % 2) 1) (.node none (PT.set k .leaf (n / 2) x) .leaf) (.node none .leaf (PT.set k .leaf (n / 2 - 1) x)))
  | k + 1, .node v l r, n, x => cond (Nat.beq n 0) (.node x l r) (cond (Nat.beq (n % 2) 1) (.node v (PT.set k l (n / 2) x) r) (.node v l (PT.set k r (n / 2 - 1) x)))
def lim : Nat := 1000000000
def PT.put {α : Type} (t : PT α) (n : Nat) (x : Option α) : PT α := PT.set 40 t n x

inductive Ob where
  | cells (cs : List Value)
  | map (es : List (Value × Value × Nat)) (clock : Nat)
  | sit (s : ByteArray) (pos : Nat)
  | mit (m : Option Nat) (since : Nat) (seen : List Nat) (last : Nat)
  | loop (busy : Bool) (t : PT Value) (m : Nat) (ps : List Tmp) (assign body : Code) (db : Nat)
  | dfb
/-- A deferred call, or the mark of a range over a function. -/
inductive Dfr where
  | mark (id : Nat)
  | call (f : FuncId) (args : List Value)
/-- What is called: a function, a round of a range over a function, a deferred function. -/
inductive Cal where
  | fn (f : FuncId)
  | yld (b : Nat)
  | dfr (f : FuncId)
structure Hp where
  t : PT Ob
  n : Nat

/-- An answer, or why there is none. -/
inductive R (α : Type) where
  | ok (a : α)
  | no (why : List String)
def R.bind {α β : Type} : R α → (α → R β) → R β
  | .ok a, f => f a
  | .no w, _ => .no w
def R.of {α : Type} (why : String) : Option α → R α
  | some a => .ok a
  | none => .no [why]
def R.ctx {α : Type} (why : String) : R α → R α
  | .ok a => .ok a
  | .no w => .no (why :: w)

/-- What is told of the program and of the library: ids below G are the program's variables, ids below n0 are never written. -/
structure Cfg where
  P : Program
  G : Nat
  n0 : Nat
  und : TypeId → Option TypeDesc
  siz : TypeId → Option Nat
  zer : TypeId → Option Value
  byt : TypeId → Option Nat
  eqs : TypeId → Bool
  fns : FuncId → Option Func
  met : TypeId → String → Option (FuncId × Bool)
  prim : FuncId → List Value → Option Value
  live : Nat → Nat → Option (List Nat)

def cellsOfV : Value → List Value
  | .agg cs => cs.toList
  | v => [v]
def oneC : Value → Bool
  | .agg _ | .tuple _ => false
  | _ => true
/-- A value that points nowhere. -/
def pf : Value → Bool
  | .bool _ | .int _ _ | .string _ | .pointer none | .slice none 0 0 | .map none | .nilFunc | .nilIface => true
  | _ => false
def pfd : Nat → Value → Bool
  | 0, v => pf v
  | n + 1, v => match v with
    | .agg cs => cs.toList.all (pfd n)
    | .tuple cs => cs.toList.all (pfd n)
    | v => pf v

structure Tm where
  t : PT Value
  m : Nat
/-- What is known of a slot. -/
def Tm.get (T : Tm) (n : Nat) : Option Value := T.t.get n
def ev (c : Cfg) (T : Tm) : Operand → Option Value
  | .tmp t => bif Nat.blt t T.m then T.get t else none
  | .const v => bif pfd 3 v then some v else none
  | .global g => bif Nat.blt g c.G then some (.pointer (some ⟨g, 0, none⟩)) else none
  | .func f => some (.func (.func f) #[] #[])
def evs (c : Cfg) (T : Tm) : List Operand → Option (List Value)
  | [] => some []
  | x :: r => (ev c T x).bind fun v => (evs c T r).bind fun l => some (v :: l)
def evo (c : Cfg) (T : Tm) : Option Operand → Option (Option Value)
  | none => some none
  | some x => (ev c T x).map some
def valOps (c : Cfg) (T : Tm) : List (Nat × Operand) → Option (List (Nat × Value))
  | [] => some []
  | p :: r => (ev c T p.2).bind fun v => (valOps c T r).bind fun l => some ((p.1, v) :: l)

def nth : List Value → Nat → Option Value
  | [], _ => none
  | x :: l, n => cond (Nat.beq n 0) (some x) (nth l (n - 1))
def ins : List Value → Nat → Value → List Value
  | [], _, _ => []
  | x :: l, n, v => cond (Nat.beq n 0) (v :: l) (x :: ins l (n - 1) v)
/-- Some cells at a place. -/
def slc (l : List Value) (o n : Nat) : Option (List Value) := bif Nat.ble (o + n) l.length then some ((l.drop o).take n) else none
def puts : List Value → Nat → List Value → List Value
  | l, _, [] => l
  | l, o, v :: r => puts (ins l o v) (o + 1) r

def isAggD (c : Cfg) (t : TypeId) : Option Bool :=
  match c.und t with
  | some (.struct _) | some (.array _ _) => some true
  | some _ => some false
  | none => none
def partD (c : Cfg) (t : TypeId) (cs : List Value) (off : Nat) : Option Value :=
  (isAggD c t).bind fun ag => bif ag then (c.siz t).bind fun n => (slc cs off n).map fun l => .agg l.toArray else nth cs off
def cellsAt (h : Hp) (b : Nat) : Option (List Value) :=
  match h.t.get b with
  | some (.cells cs) => some cs
  | _ => none
def loadD (c : Cfg) (h : Hp) (t : TypeId) (a : Value) : Option Value :=
  match a with
  | .pointer (some ⟨b, o, none⟩) => (cellsAt h b).bind fun cs => partD c t cs o
  | _ => none

/-- What an operation gives: its value, the heap, the ids written. -/
abbrev Out := Value × Hp × List Nat

def storeAtD (c : Cfg) (h : Hp) (b o : Nat) (vs : List Value) : Option (Hp × List Nat) :=
  (cellsAt h b).bind fun cs =>
    bif Nat.ble c.n0 b && Nat.blt b lim && Nat.ble (o + vs.length) cs.length && vs.all oneC then some (⟨h.t.put b (some (.cells (puts cs o vs))), h.n⟩, [b]) else none
def newD (h : Hp) (o : Ob) : Option Hp := bif Nat.blt h.n lim then some ⟨h.t.put h.n (some o), h.n + 1⟩ else none

def wantedD (ops : Array Oper) (T : Tm) (o : Oper) : Option Bool :=
  match o.guard with
  | none => some true
  | some (j, want) => match (ops[j]?).bind (·.dst) with
    | some d => bif Nat.blt d T.m then match T.get d with
      | some (.bool b) => some (cond want b (!b))
      | some _ => some false
      | none => none
      else none
    | none => none

def eqU : List UInt8 → List UInt8 → Bool
  | [], [] => true
  | x :: a, y :: b => Nat.beq x.toNat y.toNat && eqU a b
  | _, _ => false
def ltU : List UInt8 → List UInt8 → Bool
  | _, [] => false
  | [], _ :: _ => true
  | x :: a, y :: b => Nat.blt x.toNat y.toNat || (Nat.beq x.toNat y.toNat && ltU a b)

def intOp (op : BinOp) (k : IntKind) (a b : Int) : Option Value :=
  match op with
  | .add => some (.int k (k.wrap (a + b)))
  | .sub => some (.int k (k.wrap (a - b)))
  | .mul => some (.int k (k.wrap (a * b)))
  | .quo => if b = 0 then none else some (.int k (k.wrap (a.tdiv b)))
  | .rem => if b = 0 then none else some (.int k (a.tmod b))
  | .and => some (.int k (k.wrap (BitVec.ofInt k.bits a &&& BitVec.ofInt k.bits b).toNat))
  | .or => some (.int k (k.wrap (BitVec.ofInt k.bits a ||| BitVec.ofInt k.bits b).toNat))
  | .xor => some (.int k (k.wrap (BitVec.ofInt k.bits a ^^^ BitVec.ofInt k.bits b).toNat))
  | .eql => some (.bool (a == b))
  | .neq => some (.bool (a != b))
  | .lss => some (.bool (decide (a < b)))
  | .leq => some (.bool (decide (a ≤ b)))
  | .gtr => some (.bool (decide (a > b)))
  | .geq => some (.bool (decide (a ≥ b)))
  | _ => none
def strOp (op : BinOp) (a b : ByteArray) : Option Value :=
  match op with
  | .add => bif Nat.ble (a.data.toList.length + b.data.toList.length) 9223372036854775807 then some (.string ⟨(a.data.toList ++ b.data.toList).toArray⟩) else none
  | .eql => some (.bool (eqU a.data.toList b.data.toList))
  | .neq => some (.bool (!eqU a.data.toList b.data.toList))
  | .lss => some (.bool (ltU a.data.toList b.data.toList))
  | .leq => some (.bool (ltU a.data.toList b.data.toList || eqU a.data.toList b.data.toList))
  | .gtr => some (.bool (!(ltU a.data.toList b.data.toList || eqU a.data.toList b.data.toList)))
  | .geq => some (.bool (!ltU a.data.toList b.data.toList))
  | _ => none
def eqF (c : Cfg) (cmp : TypeId → Value → Value → Option Bool) : List Field → List Value → List Value → Option Bool
  | [], _, _ => some true
  | f :: r, xs, ys => if f.name = "_" then none else (partD c f.type xs f.offset).bind fun x => (partD c f.type ys f.offset).bind fun y => (cmp f.type x y).bind fun b => (eqF c cmp r xs ys).map fun r => b && r
/-- Equality of values of one type. -/
def eqD (c : Cfg) : Nat → TypeId → Value → Value → Option Bool
  | 0, _, _, _ => none
  | n + 1, t, x, y =>
    match c.und t, x, y with
    | some .bool, .bool a, .bool b => some (a == b)
    | some (.int _), .int k a, .int k' b => if k = k' then some (a == b) else none
    | some .string, .string a, .string b => some (eqU a.data.toList b.data.toList)
    | some (.pointer _), .pointer none, .pointer b => some b.isNone
    | some (.pointer _), .pointer (some _), .pointer none => some false
    | some (.slice _), .slice none _ _, .slice b _ _ => some b.isNone
    | some (.slice _), .slice (some _) _ _, .slice none _ _ => some false
    | some (.map _ _), .map none, .map b => some b.isNone
    | some (.map _ _), .map (some _), .map none => some false
    | some (.func _ _ _), .nilFunc, .nilFunc => some true
    | some (.func _ _ _), .nilFunc, .func _ _ _ => some false
    | some (.func _ _ _), .func _ _ _, .nilFunc => some false
    | some (.struct fs), .agg xs, .agg ys => bif c.eqs t then eqF c (eqD c n) fs.toList xs.toList ys.toList else none
    | _, _, _ => none

def fillD (place : Nat → Option (Nat × Nat)) (cells : List Value) : List (Nat × Value) → Option (List Value)
  | [] => some cells
  | p :: r => (place p.1).bind fun q =>
    bif Nat.beq (cellsOfV p.2).length q.2 && Nat.ble (q.1 + q.2) cells.length then fillD place (puts cells q.1 (cellsOfV p.2)) r else none

def rep (l : List Value) : Nat → List Value
  | 0 => []
  | n + 1 => l ++ rep l n
def natOf (i : Int) : Option Nat := match i with | .ofNat n => some n | .negSucc _ => none
def bound (x : Option Value) (d m : Nat) : Option Nat :=
  match x with
  | none => some d
  | some (.int _ i) => (natOf i).bind fun n => bif Nat.ble n m then some n else none
  | _ => none

def pureV (h : Hp) (o : Option Value) : Option (List Out) := o.map fun v => [(v, h, [])]
def newV (h : Hp) (cs : List Value) (f : Nat → Value) : Option (List Out) := (newD h (.cells cs)).map fun h' => [(f h.n, h', [])]

def isSS : TypeDesc → Bool
  | .slice _ | .string => true
  | _ => false
/-- What is appended, and how many elements that are. -/
def newCells (h : Hp) (sz : Nat) : Value → Option (List Value × Nat)
  | .slice (some ⟨b, o, none⟩) m _ => if m = 0 then some ([], 0) else (cellsAt h b).bind fun cs => (slc cs o (m * sz)).map fun l => (l, m)
  | .slice none 0 0 => some ([], 0)
  | .string t => bif Nat.beq sz 1 then some (t.data.toList.map fun b => .int .u8 b.toNat, t.data.toList.length) else none
  | _ => none
def appendD (c : Cfg) (h : Hp) (st xt : TypeId) (s x : Value) : Option (List Out) :=
  match c.und st, c.und xt, s with
  | some (.slice elem), some xd, .slice base n cz => bif !isSS xd then none else
    (c.siz elem).bind fun sz => (c.byt elem).bind fun by_ => (c.zer elem).bind fun z =>
    bif Nat.beq sz 0 || Nat.blt 1000000 by_ || !Nat.beq (cellsOfV z).length sz then none else
    (newCells h sz x).bind fun nw =>
      if nw.2 = 0 then some [(s, h, [])] else bif Nat.ble (n + nw.2) 1000000 && nw.1.all oneC then
      match base with
      | none => if n = 0 then newV h nw.1 (fun b => .slice (some ⟨b, 0, none⟩) nw.2 sz) else none
      | some ⟨b, o, none⟩ =>
        (cellsAt h b).bind fun cs => bif Nat.ble c.n0 b && Nat.blt b lim && Nat.blt h.n lim && Nat.beq cz sz then (slc cs o (n * sz)).bind fun old =>
            some [(.slice (some ⟨h.n, 0, none⟩) (n + nw.2) sz, ⟨(h.t.put b none).put h.n (some (.cells (old ++ nw.1))), h.n + 1⟩, [b])]
          else none
      | _ => none
      else none
  | _, _, _ => none

def isIntT : Option TypeDesc → Bool
  | some (.int _) => true
  | _ => false
/-- append(nil, make(..)...) -/
def appendZD (c : Cfg) (h : Hp) (st : TypeId) (s x : Value) : Option (List Out) :=
  match c.und st, s, x with
  | some (.slice elem), .slice none 0 0, .int _ l => (natOf l).bind fun n => (c.siz elem).bind fun sz => (c.byt elem).bind fun by_ => (c.zer elem).bind fun z =>
    bif Nat.beq n 0 || Nat.beq sz 0 || Nat.blt 1000000 by_ || Nat.blt 1000000 n || !Nat.beq (cellsOfV z).length sz then none else newV h (rep (cellsOfV z) n) (fun b => .slice (some ⟨b, 0, none⟩) n sz)
  | _, _, _ => none

/-- copy(d, s), where all of s has room in d. -/
def copyD (c : Cfg) (h : Hp) (t : TypeId) (d s : Value) : Option (List Out) :=
  match c.und t, d with
  | some (.slice el), .slice a n _ => (c.siz el).bind fun sz => (newCells h sz s).bind fun nw =>
    if nw.2 = 0 then some [(.int .i64 0, h, [])] else bif Nat.ble nw.2 n then match a with
      | some ⟨b, o, none⟩ => (storeAtD c h b o nw.1).map fun p => [(.int .i64 nw.2, p.1, p.2)]
      | _ => none
    else none
  | _, _ => none

def minmax (mx : Bool) : Value → List Value → Option Value
  | x, [] => some x
  | .int k a, .int k' b :: r => if k = k' then minmax mx (.int k (if mx then (if b > a then b else a) else (if b < a then b else a))) r else none
  | _, _ => none

/-- A new slice of zeros. -/
def makeSliceD (c : Cfg) (h : Hp) (t : TypeId) (l u : Value) : Option (List Out) :=
  match c.und t, l, u with
  | some (.slice el), .int _ l, .int _ u => (natOf l).bind fun l => (natOf u).bind fun u => (c.siz el).bind fun s => (c.byt el).bind fun by_ => (c.zer el).bind fun z =>
    bif Nat.beq s 0 || Nat.blt 1000000 by_ || Nat.blt 1000000 u || Nat.blt u l || !Nat.beq (cellsOfV z).length s then none else newV h (rep (cellsOfV z) u) (fun b => .slice (some ⟨b, 0, none⟩) l s)
  | _, _, _ => none
/-- A text's bytes as a new slice. -/
def bytesD (c : Cfg) (h : Hp) (el : TypeId) (s : ByteArray) : Option (List Out) :=
  match c.und el, c.siz el with
  | some (.int .u8), some 1 => bif Nat.ble s.data.toList.length 1000000 then newV h (s.data.toList.map fun b => .int .u8 b.toNat) (fun b => .slice (some ⟨b, 0, none⟩) s.data.toList.length 1) else none
  | _, _ => none

def byteV : Value → Option UInt8
  | .int .u8 n => some (UInt8.ofNat n.toNat)
  | _ => none
def bytesL : List Value → Option (List UInt8)
  | [] => some []
  | v :: l => (byteV v).bind fun b => (bytesL l).map fun r => b :: r
/-- Bytes as a text. -/
def stringD (c : Cfg) (h : Hp) (el : TypeId) (a : Option Addr) (n : Nat) : Option Value :=
  match c.und el, a with
  | some (.int .u8), none => some (.string ⟨#[]⟩)
  | some (.int .u8), some ⟨b, o, none⟩ => (cellsAt h b).bind fun cs => (slc cs o n).bind fun l => (bytesL l).map fun r => .string ⟨r.toArray⟩
  | _, _ => none
def lenD (h : Hp) (d : Option TypeDesc) (x : Value) : Option Value :=
  match d, x with
  | some .string, .string s => some (.int .i64 s.data.toList.length)
  | some (.slice _), .slice _ n _ => some (.int .i64 n)
  | some (.map _ _), .map none => some (.int .i64 0)
  | some (.map _ _), .map (some r) => match h.t.get r with
    | some (.map es _) => some (.int .i64 es.length)
    | _ => none
  | _, _ => none

/-- A scalar of a type. -/
def scal : Option TypeDesc → Value → Bool
  | some (.int _), .int _ _ => true
  | some .string, .string _ => true
  | some .bool, .bool _ => true
  | _, _ => false
/-- A map's key that this computation takes: a scalar, a struct of scalars. -/
def keyOk (c : Cfg) (t : TypeId) (v : Value) : Bool :=
  match c.und t, v with
  | some (.struct fs), .agg cs => pfd 1 v && fs.toList.all fun f => match partD c f.type cs.toList f.offset with
    | some x => scal (c.und f.type) x
    | none => false
  | d, v => scal d v
abbrev Ent := Value × Value × Nat
def findK (c : Cfg) (kt : TypeId) (k : Value) : List Ent → Nat → Option (Option (Nat × Ent))
  | [], _ => some none
  | e :: r, i => bif pfd 1 e.1 then (eqD c 3 kt k e.1).bind fun b => bif b then some (some (i, e)) else findK c kt k r (i + 1) else none
/-- The same key, bit by bit. -/
def bit1 : Value → Value → Bool
  | .bool a, .bool b => a == b
  | .int j a, .int k b => decide (j = k) && a == b
  | .string a, .string b => eqU a.data.toList b.data.toList
  | _, _ => false
def bitL : List Value → List Value → Bool
  | [], [] => true
  | x :: a, y :: b => bit1 x y && bitL a b
  | _, _ => false
def bits : Value → Value → Bool
  | .agg a, .agg b => bitL a.toList b.toList
  | x, y => bit1 x y
def mapAt (h : Hp) (r : Nat) : Option (List Ent × Nat) :=
  match h.t.get r with
  | some (.map es k) => some (es, k)
  | _ => none
def putO (c : Cfg) (h : Hp) (r : Nat) (o : Ob) : Option (Hp × List Nat) := bif Nat.ble c.n0 r && Nat.blt r lim then some (⟨h.t.put r (some o), h.n⟩, [r]) else none
/-- A map's entries. -/
def esOf (h : Hp) : Value → Option (List Ent)
  | .map none => some []
  | .map (some r) => (mapAt h r).map fun (m : List Ent × Nat) => m.1
  | _ => none
/-- A map's key type and its entries' type. -/
def mapT (c : Cfg) (t : TypeId) (k : Value) : Option (TypeId × TypeId) :=
  match c.und t with
  | some (.map kt et) => bif keyOk c kt k then some (kt, et) else none
  | _ => none
def mapR : Value → Option Nat
  | .map (some r) => some r
  | _ => none
def lookV (c : Cfg) (et : TypeId) (ok : Bool) : Option (Nat × Ent) → Option Value
  | some p => some (cond ok (.tuple #[p.2.2.1, .bool true]) p.2.2.1)
  | none => (c.zer et).map fun z => cond ok (.tuple #[z, .bool false]) z
def lookupD (c : Cfg) (h : Hp) (t : TypeId) (x k : Value) (ok : Bool) : Option Value :=
  (mapT c t k).bind fun ts => (esOf h x).bind fun es => (findK c ts.1 k es 0).bind fun f => lookV c ts.2 ok f
def insE : List Ent → Nat → Ent → List Ent
  | [], _, _ => []
  | x :: l, n, v => cond (Nat.beq n 0) (v :: l) (x :: insE l (n - 1) v)
def delE : List Ent → Nat → List Ent
  | [], _ => []
  | x :: l, n => cond (Nat.beq n 0) l (x :: delE l (n - 1))
def updE (m : List Ent × Nat) (k v : Value) : Option (Nat × Ent) → Option Ob
  | some p => bif bits p.2.1 k then some (.map (insE m.1 p.1 (k, v, p.2.2.2)) m.2) else none
  | none => some (.map (m.1 ++ [(k, v, m.2)]) (m.2 + 1))
def out1 (v : Value) (q : Hp × List Nat) : List Out := [(v, q.1, q.2)]
def mapUpdateD (c : Cfg) (h : Hp) (t : TypeId) (x k v : Value) : Option (List Out) :=
  (mapT c t k).bind fun ts => (mapR x).bind fun r => (mapAt h r).bind fun m => (findK c ts.1 k m.1 0).bind fun f => (updE m k v f).bind fun o => (putO c h r o).map (out1 undef)
def entV (c : Cfg) (et : TypeId) (clock : Nat) : Option (Nat × Ent) → Option (Value × Nat)
  | some p => some (p.2.2.1, p.2.2.2)
  | none => (c.zer et).map fun z => (z, clock)
def mapEntryD (c : Cfg) (h : Hp) (t : TypeId) (x k : Value) : Option (List Out) :=
  (mapT c t k).bind fun ts => (mapR x).bind fun r => (mapAt h r).bind fun m => (findK c ts.1 k m.1 0).bind fun f => (entV c ts.2 m.2 f).bind fun u => (updE m k u.1 f).bind fun o => (putO c h r o).map (out1 (.tuple #[u.1, .int .i64 u.2]))
/-- The place of the entry with a stamp. -/
def findB (s : Nat) : List Ent → Nat → Option (Nat × Ent)
  | [], _ => none
  | e :: r, i => bif Nat.beq e.2.2 s then some (i, e) else findB s r (i + 1)
def stampV : Value → Option Nat
  | .int _ s => natOf s
  | _ => none
def entryStoreD (c : Cfg) (h : Hp) (x s v : Value) : Option (List Out) :=
  (mapR x).bind fun r => (stampV s).bind fun s => (mapAt h r).bind fun m => (findB s m.1 0).bind fun p => (putO c h r (.map (insE m.1 p.1 (p.2.1, v, p.2.2.2)) m.2)).map (out1 undef)
def delO (m : List Ent × Nat) : Option (Nat × Ent) → Ob
  | some p => .map (delE m.1 p.1) m.2
  | none => .map m.1 m.2
def deleteD (c : Cfg) (h : Hp) (t : TypeId) (x k : Value) : Option (List Out) :=
  (mapT c t k).bind fun ts => (mapR x).bind fun r => (mapAt h r).bind fun m => (findK c ts.1 k m.1 0).bind fun f => (putO c h r (delO m f)).map (out1 (.tuple #[]))
def newO (h : Hp) (o : Ob) (f : Nat → Value) : Option (List Out) := (newD h o).map fun h' => [(f h.n, h', [])]
def ptr0 (b : Nat) : Value := .pointer (some ⟨b, 0, none⟩)
def rangeD (c : Cfg) (h : Hp) (t : TypeId) (x : Value) : Option (List Out) :=
  match c.und t, x with
  | some .string, .string s => newO h (.sit s 0) ptr0
  | some (.map _ _), .map none => newO h (.mit none 0 [] 0) ptr0
  | some (.map _ _), .map (some m) => (mapAt h m).bind fun p => newO h (.mit (some m) p.2 [] p.2) ptr0
  | _, _ => none
def makeMapD (c : Cfg) (h : Hp) (t : TypeId) : Option Value → Option (List Out)
  | none => newO h (.map [] 0) fun b => .map (some b)
  | some (.int _ _) => match c.und t with
    | some (.map _ _) => newO h (.map [] 0) fun b => .map (some b)
    | _ => none
  | some _ => none
/-- A number more in a rising list. -/
def insN (b : Nat) : List Nat → List Nat
  | [] => [b]
  | x :: l => bif Nat.blt b x then b :: x :: l else bif Nat.beq b x then x :: l else x :: insN b l
/-- A number more, in front; what was in front is put into the rising rest. -/
def insL (b : Nat) : List Nat → List Nat
  | [] => [b]
  | x :: l => b :: insN x l
def memB (b : Nat) (l : List Nat) : Bool := l.any (Nat.beq b)
def over (h : Hp) : Out := (.tuple #[.bool false], h, [])
/-- What comes of each entry that may be next. -/
def nextM (c : Cfg) (h : Hp) (r m since : Nat) (seen : List Nat) (clock : Nat) : List Ent → Option (List Out)
  | [] => some []
  | e :: l => bif pfd 1 e.1 then (putO c h r (.mit (some m) since (insL e.2.2 seen) clock)).bind fun q => (nextM c h r m since seen clock l).map fun rest => (.tuple #[.bool true, e.1, e.2.1], q.1, q.2) :: rest else none
def leftD (p : List Ent) (seen : List Nat) : List Ent := p.filter fun e => !memB e.2.2 seen
def oldD (l : List Ent) (since : Nat) : List Ent := l.filter fun e => Nat.blt e.2.2 since
def lateD (l : List Ent) (since : Nat) : List Ent := l.filter fun e => !Nat.blt e.2.2 since
def nextIt (c : Cfg) (h : Hp) (r m since : Nat) (seen : List Nat) (last : Nat) (p : List Ent × Nat) : Option (List Out) :=
  bif !seen.isEmpty && !p.1.isEmpty && p.1.all (fun e => Nat.ble last e.2.2) then none else
  (nextM c h r m since seen p.2 (oldD (leftD p.1 seen) since ++ lateD (leftD p.1 seen) since)).map fun l => bif (oldD (leftD p.1 seen) since).isEmpty then over h :: l else l
def nextS (c : Cfg) (h : Hp) (r : Nat) (s : ByteArray) (pos : Nat) : Option (List Out) :=
  bif Nat.blt pos s.data.toList.length then (putO c h r (.sit s (pos + (Utf8.decode s pos).2))).map (out1 (.tuple #[.bool true, .int .i64 pos, .int .i32 (Utf8.decode s pos).1]))
  else some [over h]
def ptrN : Value → Option Nat
  | .pointer (some ⟨r, 0, none⟩) => some r
  | _ => none
def nextD (c : Cfg) (h : Hp) (it : Value) (isS : Bool) : Option (List Out) :=
  (ptrN it).bind fun r => match h.t.get r with
    | some (.mit none _ _ _) => bif isS then none else some [over h]
    | some (.mit (some m) since seen last) => bif isS then none else (mapAt h m).bind fun p => nextIt c h r m since seen last p
    | some (.sit s pos) => bif isS then nextS c h r s pos else none
    | _ => none
/-- The entry that the last step came to, as it is now. -/
def entryD (h : Hp) (it : Value) : Option Value :=
  (ptrN it).bind fun r => match h.t.get r with
    | some (.mit (some m) _ (s :: _) last) => (mapAt h m).bind fun p => bif Nat.beq p.2 last then (p.1.find? fun e => Nat.beq e.2.2 s).bind fun e => bif pfd 1 e.1 then some (.tuple #[e.1, e.2.1]) else none else none
    | _ => none

def builtinD (c : Cfg) (h : Hp) (b : Builtin) (ts : List TypeId) (xs : List Value) : Option (List Out) :=
  match b, ts, xs with
  | .len, [t], [x] => pureV h (lenD h (c.und t) x)
  | .append, [t, u], [s, x] => bif isIntT (c.und u) then appendZD c h t s x else appendD c h t u s x
  | .cap, [t], [.slice none 0 0] => pureV h (match c.und t with | some (.slice _) => some (.int .i64 0) | _ => none)
  | .copy, [t, _], [d, s] => copyD c h t d s
  | .delete, t :: _, [m, k] => deleteD c h t m k
  | .max, _, x :: r => pureV h (minmax true x r)
  | .min, _, x :: r => pureV h (minmax false x r)
  | _, _, _ => none

def pickV (v : Bool) (x y : Value) : Value :=
  match x, y with
  | .bool x, .bool y => .bool (cond v x y)
  | x, y => if v then x else y
def binD (c : Cfg) (op : BinOp) (t : TypeId) (a b : Value) : Option Value :=
  match op, a, b with
  | .shl, .int k a, .int _ b => if b < 0 then none else some (.int k (k.wrap (a * 2 ^ (min b.toNat k.bits))))
  | .shr, .int k a, .int _ b => if b < 0 then none else some (.int k (a.fdiv (2 ^ (min b.toNat k.bits))))
  | op, .int k a, .int k' b => if k = k' then intOp op k a b else none
  | op, .string a, .string b => strOp op a b
  | .eql, a, b => (eqD c 20 t a b).map fun r => .bool r
  | .neq, a, b => (eqD c 20 t a b).map fun r => .bool (!r)
  | _, _, _ => none
def noY : Fn → Bool
  | .yield _ => false
  | _ => true
def constO : Operand → Bool
  | .const _ => true
  | _ => false
/-- Values of an interface type, one of them nil. -/
def nilI : Value → Value → Option Bool
  | .nilIface, .nilIface => some true
  | .iface _ _, .nilIface => some false
  | .nilIface, .iface _ _ => some false
  | _, _ => none
def nilD (c : Cfg) (op : BinOp) (t : TypeId) (x y : Operand) (a b : Value) : Option Value :=
  match c.und t, op with
  | some (.interface _), .eql => bif constO x || constO y then (nilI a b).map fun r => .bool r else none
  | some (.interface _), .neq => bif constO x || constO y then (nilI a b).map fun r => .bool (!r) else none
  | _, _ => none
def binV (c : Cfg) (op : BinOp) (t : TypeId) (x y : Operand) (a b : Value) : Option Value :=
  match nilD c op t x y a b with
  | some v => some v
  | none => binD c op t a b
def placesD (c : Cfg) : List Field → Option (List (Nat × Nat))
  | [] => some []
  | f :: r => (c.siz f.type).bind fun s => (placesD c r).bind fun l => some ((f.offset, s) :: l)
def buildD (c : Cfg) (t : TypeId) (vs : List (Nat × Value)) : Option Value :=
  (c.zer t).bind fun z => match c.und t with
    | some (.struct fs) => (placesD c fs.toList).bind fun ps => (fillD (fun i => ps[i]?) (cellsOfV z) vs).map fun l => .agg l.toArray
    | some (.array _ el) => (c.siz el).bind fun s => (fillD (fun i => some (i * s, s)) (cellsOfV z) vs).map fun l => .agg l.toArray
    | _ => none
def buildSliceD (c : Cfg) (h : Hp) (t : TypeId) (n : Nat) (vs : List (Nat × Value)) : Option (List Out) :=
  match c.und t with
  | some (.slice el) => (c.siz el).bind fun s => bif Nat.beq s 0 || Nat.blt 16777216 (n * s) then none else
    (if n = 0 then some [] else (c.zer el).bind fun z => bif Nat.beq (cellsOfV z).length s then some (rep (cellsOfV z) n) else none).bind fun zs =>
    (fillD (fun i => some (i * s, s)) zs vs).bind fun l => newV h l (fun b => .slice (some ⟨b, 0, none⟩) n s)
  | _ => none
def sliceD (c : Cfg) (t : TypeId) (v : Value) (l u : Option Value) : Option Value :=
  match c.und t, v with
  | some .string, .string s =>
    (bound u s.data.toList.length s.data.toList.length).bind fun e => (bound l 0 e).bind fun b => some (.string ⟨((s.data.toList.take e).drop b).toArray⟩)
  | some (.slice el), .slice a n sz => (bound u n n).bind fun e => (bound l 0 e).bind fun b => (c.siz el).bind fun s =>
    match a with
    | none => some (.slice none 0 0)
    | some ⟨k, o, none⟩ => bif Nat.beq s sz then some (.slice (some ⟨k, o + b * s, none⟩) (e - b) sz) else none
    | _ => none
  | _, _ => none
def indexAddrD (c : Cfg) (t : TypeId) (v j : Value) : Option Value :=
  match j with
  | .int _ j => (natOf j).bind fun j =>
    match c.und t, v with
    | some (.slice el), .slice (some ⟨b, o, none⟩) n _ => (c.siz el).bind fun s => bif Nat.blt j n then some (.pointer (some ⟨b, o + j * s, none⟩)) else none
    | some (.array n el), .pointer (some ⟨b, o, none⟩) => (c.siz el).bind fun s => bif Nat.blt j n then some (.pointer (some ⟨b, o + j * s, none⟩)) else none
    | _, _ => none
  | _ => none
def indexD (c : Cfg) (t : TypeId) (v j : Value) : Option Value :=
  match j with
  | .int _ j => (natOf j).bind fun j =>
    match c.und t, v with
    | some .string, .string s => ((s.data.toList.drop j).head?).map fun b => .int .u8 b.toNat
    | some (.array n el), .agg cs => (c.siz el).bind fun s => bif Nat.blt j n then partD c el cs.toList (j * s) else none
    | _, _ => none
  | _ => none

/-- An operation that calls no function of Go's. -/
def opP (c : Cfg) (T : Tm) (h : Hp) (o : Oper) : Option (List Out) :=
  match o.op with
  | .move x => pureV h (ev c T x)
  | .assign x => pureV h (ev c T x)
  | .pick q a b => (ev c T q).bind fun v => (ev c T a).bind fun x => (ev c T b).bind fun y => match v with
    | .bool v => pureV h (some (pickV v x y))
    | _ => none
  | .alloc e => (c.zer e).bind fun z => newV h (cellsOfV z) (fun b => .pointer (some ⟨b, 0, none⟩))
  | .box e x => (ev c T x).bind fun v => newV h (cellsOfV v) (fun b => .pointer (some ⟨b, 0, none⟩))
  | .build t ps => (valOps c T ps.toList).bind fun vs => pureV h (buildD c t vs)
  | .buildSlice t n ps => (valOps c T ps.toList).bind fun vs => buildSliceD c h t n vs
  | .load t a => (ev c T a).bind fun v => pureV h (loadD c h t v)
  | .store t a x => (ev c T a).bind fun v => (ev c T x).bind fun y => (c.siz t).bind fun s =>
    match v with
    | .pointer (some ⟨b, o, none⟩) => bif Nat.beq (cellsOfV y).length s then (storeAtD c h b o (cellsOfV y)).map fun p => [(undef, p.1, p.2)] else none
    | _ => none
  | .nilCheck x => (ev c T x).bind fun v => match v with
    | .pointer (some a) => pureV h (some (.pointer (some a)))
    | .iface t v => pureV h (some (.iface t v))
    | _ => none
  | .binOp op t x y _ => (ev c T x).bind fun a => (ev c T y).bind fun b => pureV h (binV c op t x y a b)
  | .unOp op _ x => (ev c T x).bind fun v => match op, v with
    | .neg, .int k n => pureV h (some (.int k (k.wrap (0 - n))))
    | .not, .bool b => pureV h (some (.bool (!b)))
    | _, _ => none
  | .convert src dst x => (ev c T x).bind fun v => match c.und src, c.und dst, v with
    | some _, some (.int k), .int _ n => pureV h (some (.int k (k.wrap n)))
    | some _, some .string, .string s => pureV h (some (.string s))
    | some .string, some (.slice el), .string s => bytesD c h el s
    | some (.slice el), some .string, .slice a n k => pureV h (stringD c h el a n)
    | _, _, _ => none
  | .makeInterface t x => (ev c T x).bind fun v => match c.und t with
    | some (.interface _) => none
    | some _ => pureV h (some (.iface t v))
    | none => none
  | .makeFunc fn f k => (evs c T f.toList).bind fun a => (evs c T k.toList).bind fun b => bif noY fn then pureV h (some (.func fn a.toArray b.toArray)) else none
  | .makeSlice t l u => (ev c T l).bind fun v => (ev c T u).bind fun x => makeSliceD c h t v x
  | .slice t x lo hi mx => match mx with
    | some _ => none
    | none => (ev c T x).bind fun v => (evo c T lo).bind fun l => (evo c T hi).bind fun u => pureV h (sliceD c t v l u)
  | .fieldAddr s x f => (ev c T x).bind fun v => match c.und s, v with
    | some (.struct fs), .pointer (some ⟨b, o, none⟩) => (fs[f]?).bind fun fd => (c.siz fd.type).bind fun n => bif Nat.beq n 0 then none else pureV h (some (.pointer (some ⟨b, o + fd.offset, none⟩)))
    | _, _ => none
  | .field t x f => (ev c T x).bind fun v => match c.und t, v with
    | some (.struct fs), .agg cs => (fs[f]?).bind fun fd => pureV h (partD c fd.type cs.toList fd.offset)
    | _, _ => none
  | .indexAddr t x i => (ev c T x).bind fun v => (ev c T i).bind fun j => pureV h (indexAddrD c t v j)
  | .index t x i => (ev c T x).bind fun v => (ev c T i).bind fun j => pureV h (indexD c t v j)
  | .extract t i => (ev c T t).bind fun v => match v with
    | .tuple vs => pureV h (nth vs.toList i)
    | _ => none
  | .makeMap t r => (evo c T r).bind fun v => makeMapD c h t v
  | .lookup t x i ok => (ev c T x).bind fun v => (ev c T i).bind fun k => pureV h (lookupD c h t v k ok)
  | .mapUpdate t m k x => (ev c T m).bind fun v => (ev c T k).bind fun u => (ev c T x).bind fun y => mapUpdateD c h t v u y
  | .insert t m k x => (ev c T m).bind fun v => (ev c T k).bind fun u => (ev c T x).bind fun y => mapUpdateD c h t v u y
  | .mapEntry t m k => (ev c T m).bind fun v => (ev c T k).bind fun u => mapEntryD c h t v u
  | .entryStore _ m s x => (ev c T m).bind fun v => (ev c T s).bind fun u => (ev c T x).bind fun y => entryStoreD c h v u y
  | .range t x => (ev c T x).bind fun v => rangeD c h t v
  | .next it isS => (ev c T it).bind fun v => nextD c h v isS
  | .entry it => (ev c T it).bind fun v => pureV h (entryD h v)
  | .call q => (evs c T q.args.toList).bind fun args => match q.callee with
    | .builtin b => builtinD c h b q.argTypes.toList args
    | _ => none
  | _ => none
/-- A method called through an interface value, which is the first of the arguments. -/
def methD (c : Cfg) (m : String) (l : List Value) : Option (FuncId × List Value) :=
  match l with
  | .iface t x :: r => (c.met t m).bind fun p => match c.und t, p.2 with
    | some (.pointer _), true => some (p.1, x :: r)
    | _, _ => none
  | _ => none
/-- What function an operation calls, and with what. -/
def calleeD (c : Cfg) (T : Tm) (o : Oper) : Option (Cal × List Value) :=
  match o.op with
  | .call q => match q.callee with
    | .value f => (ev c T f).bind fun v => match v with
      | .func (.func f) fst cap => (evs c T q.args.toList).bind fun args => some (.fn f, fst.toList ++ args ++ cap.toList)
      | .func (.yield b) _ _ => (evs c T q.args.toList).bind fun args => some (.yld b, args)
      | .func (.method m) fst cap => (evs c T q.args.toList).bind fun args => (methD c m (fst.toList ++ args)).map fun p => (.fn p.1, p.2)
      | _ => none
    | .invoke r m => (ev c T r).bind fun v => (evs c T q.args.toList).bind fun args => (methD c m (v :: args)).map fun p => (.fn p.1, p.2)
    | _ => none
  | _ => none
abbrev CallD := Cal → List Value → Hp → R (List Out)
def callFD (c : Cfg) (call : CallD) (h : Hp) (f : Cal) (args : List Value) : R (List Out) :=
  match f with
  | .fn f => match c.prim f args with
    | some v => .ok [(v, h, [])]
    | none => call (.fn f) args h
  | f => call f args h
/-- At least one outcome, and the next id does not go back. -/
def chk (n : Nat) (l : List Out) : R (List Out) := bif l.all (fun x => Nat.ble n x.2.1.n) && !l.isEmpty then .ok l else .no ["chk"]
def opD (c : Cfg) (call : CallD) (T : Tm) (h : Hp) (o : Oper) : R (List Out) :=
  (match calleeD c T o with
  | some p => callFD c call h p.1 p.2
  | none => R.of o.pos (opP c T h o)).bind (chk h.n)

inductive Ex where
  | normal
  | exit (id : Nat)
  | ret
structure St where
  T : Tm
  h : Hp
  w : List Nat
  d : List Dfr
abbrev Outs := R (List (Ex × St))

def putD (T : Tm) (d : Option Tmp) (v : Value) : Tm := match d with
  | some d => bif Nat.blt d T.m then ⟨T.t.put d (some v), T.m⟩ else T
  | none => T

def bindL {α β : Type} : List α → (α → R (List β)) → R (List β)
  | [], _ => .ok []
  | x :: l, f => (f x).bind fun a => (bindL l f).bind fun b => .ok (a ++ b)

/-- A function that is deferred, with what. -/
def deferD (c : Cfg) (T : Tm) (o : Oper) : Option (FuncId × List Value) :=
  match o.op with
  | .defer q => match q.callee with
    | .value f => (ev c T f).bind fun v => match v with
      | .func (.func f) fst cap => (evs c T q.args.toList).bind fun args => some (f, fst.toList ++ args ++ cap.toList)
      | _ => none
    | _ => none
  | _ => none
/-- ro: within a round of a range over a function. -/
def opsD (c : Cfg) (call : CallD) (ro : Bool) (ops : Array Oper) : List Oper → St → R (List St)
  | [], s => .ok [s]
  | o :: r, s => (R.of o.pos (wantedD ops s.T o)).bind fun b =>
    bif b then match deferD c s.T o with
      | some p => bif ro then .no ["defer in a round"] else opsD c call ro ops r ⟨putD s.T o.dst undef, s.h, s.w, .call p.1 p.2 :: s.d⟩
      | none => (opD c call s.T s.h o).bind fun l => bindL l fun x => opsD c call ro ops r ⟨putD s.T o.dst x.1, x.2.1, x.2.2 ++ s.w, s.d⟩
    else opsD c call ro ops r ⟨putD s.T o.dst undef, s.h, s.w, s.d⟩

def thenD (l : List (Ex × St)) (f : St → Outs) : Outs := bindL l fun p => match p.1 with
  | .normal => f p.2
  | e => .ok [(e, p.2)]

/-! Several outcomes are brought to one form: what cannot be reached is dropped, new ids are numbered anew. -/
def idsV : Nat → Value → List Nat
  | 0, _ => []
  | n + 1, v => match v with
    | .pointer (some a) => [a.block]
    | .slice (some a) _ _ => [a.block]
    | .map (some r) => [r]
    | .func (.yield b) _ _ => [b]
    | .func _ xs ys => xs.toList.flatMap (idsV n) ++ ys.toList.flatMap (idsV n)
    | .iface _ x => idsV n x
    | .agg cs => cs.toList.flatMap (idsV n)
    | .tuple cs => cs.toList.flatMap (idsV n)
    | _ => []
def depthV : Nat := 9
def idsO : Option Ob → List Nat
  | some (.cells cs) => cs.flatMap (idsV depthV)
  | some (.map es _) => es.flatMap fun e => idsV depthV e.2.1
  | some (.mit (some m) _ _ _) => [m]
  | _ => []
def gather (n : Nat) (t : PT Ob) : Nat → List Nat → List Nat → List Nat
  | 0, _, got => got
  | _, [], got => got
  | k + 1, b :: r, got => bif Nat.blt b n || memB b got then gather n t k r got else gather n t k (idsO (t.get b) ++ r) (got ++ [b])
def idx : List Nat → Nat → Option Nat
  | [], _ => none
  | x :: l, b => bif Nat.beq x b then some 0 else (idx l b).map Nat.succ
def renN (n : Nat) (L : List Nat) (b : Nat) : Option Nat := bif Nat.blt b n then some b else (idx L b).map fun i => n + i
def mapO {α β : Type} (f : α → Option β) : List α → Option (List β)
  | [] => some []
  | x :: l => (f x).bind fun y => (mapO f l).map fun r => y :: r
def renA (f : Nat → Option Nat) : Option Addr → Option (Option Addr)
  | none => some none
  | some ⟨b, o, none⟩ => (f b).map fun b => some ⟨b, o, none⟩
  | some ⟨_, _, some _⟩ => none
def renV (f : Nat → Option Nat) : Nat → Value → Option Value
  | 0, _ => none
  | n + 1, v => match v with
    | .pointer a => (renA f a).map fun a => .pointer a
    | .slice a l k => (renA f a).map fun a => .slice a l k
    | .map none => some (.map none)
    | .map (some r) => (f r).map fun r => .map (some r)
    | .func (.yield b) _ _ => (f b).map fun b => .func (.yield b) #[] #[]
    | .func fn xs ys => (mapO (renV f n) xs.toList).bind fun xs => (mapO (renV f n) ys.toList).map fun ys => .func fn xs.toArray ys.toArray
    | .iface t x => (renV f n x).map fun x => .iface t x
    | .agg cs => (mapO (renV f n) cs.toList).map fun l => .agg l.toArray
    | .tuple cs => (mapO (renV f n) cs.toList).map fun l => .tuple l.toArray
    | v => some v
def renE (f : Nat → Option Nat) (e : Ent) : Option Ent := (renV f depthV e.2.1).map fun v => (e.1, v, e.2.2)
def renO (f : Nat → Option Nat) : Option Ob → Option (Option Ob)
  | none => some none
  | some (.cells cs) => (mapO (renV f depthV) cs).map fun l => some (.cells l)
  | some (.map es k) => (mapO (renE f) es).map fun l => some (.map l k)
  | some (.sit s p) => some (some (.sit s p))
  | some (.mit none a b e) => some (some (.mit none a b e))
  | some (.mit (some m) a b e) => (f m).map fun m => some (.mit (some m) a b e)
  | some (.loop ..) => none
  | some .dfb => some (some .dfb)
def renD (f : Nat → Option Nat) : Dfr → Option Dfr
  | .mark b => (f b).map .mark
  | .call g l => (mapO (renV f depthV) l).map (.call g)
/-- What one outcome comes to: the values that are looked at further (by slots), the deferred calls, blocks, ids written. -/
structure Dat where
  vs : List (Nat × Value)
  d : List Dfr
  obs : List (Nat × Option Ob)
  W : List Nat
def nodupB : List Nat → Bool
  | [] => true
  | b :: l => !memB b l && nodupB l
def pairO (f : Nat → Option Nat) (t : PT Ob) (p : Nat × Nat) : Option (Nat × Option Ob) := (renO f (t.get p.2)).map fun o => (p.1, o)
def numL (n : Nat) : List Nat → List (Nat × Nat)
  | [] => []
  | b :: l => (n, b) :: numL (n + 1) l
def oldW (n : Nat) : List Nat → List Nat
  | [] => []
  | b :: l => bif Nat.blt b n then insN b (oldW n l) else oldW n l
def canon (c : Cfg) (n N : Nat) (vs : List (Nat × Value)) (d : List Dfr) (h : Hp) (W : List Nat) : Option Dat :=
  let W1 := oldW n W
  let L := gather n h.t 100000 (vs.flatMap (fun p => idsV depthV p.2) ++ d.flatMap (fun x => match x with | .mark b => [b] | .call _ l => l.flatMap (idsV depthV)) ++ W1.flatMap (fun b => idsO (h.t.get b))) []
  bif Nat.ble c.n0 n && L.all (fun b => Nat.ble n b && Nat.blt b h.n) && nodupB L && Nat.ble (n + L.length) N && Nat.ble h.n N && Nat.ble N lim && W.all (fun b => Nat.blt b h.n) then
    (mapO (fun (p : Nat × Value) => (renV (renN n L) depthV p.2).map fun v => (p.1, v)) vs).bind fun vs' => (mapO (renD (renN n L)) d).bind fun d' =>
    (mapO (pairO (renN n L) h.t) (W1.map (fun b => (b, b)) ++ numL n L)).map fun obs => ⟨vs', d', obs, W1⟩
  else none
def putL (t : PT Ob) : List (Nat × Option Ob) → PT Ob
  | [] => t
  | p :: l => putL (t.put p.1 p.2) l
/-! Equality of outcomes. -/
def eqN : List Nat → List Nat → Bool
  | [], [] => true
  | x :: a, y :: b => Nat.beq x y && eqN a b
  | _, _ => false
def eqA : Option Addr → Option Addr → Bool
  | none, none => true
  | some ⟨b, o, none⟩, some ⟨b', o', none⟩ => Nat.beq b b' && Nat.beq o o'
  | _, _ => false
def eqON : Option Nat → Option Nat → Bool
  | none, none => true
  | some a, some b => Nat.beq a b
  | _, _ => false
def eqFn : Fn → Fn → Bool
  | .func f, .func g => Nat.beq f g
  | _, _ => false
def eqL {α : Type} (f : α → α → Bool) : List α → List α → Bool
  | [], [] => true
  | x :: a, y :: b => f x y && eqL f a b
  | _, _ => false
def eqV : Nat → Value → Value → Bool
  | 0, _, _ => false
  | n + 1, x, y => match x, y with
    | .bool a, .bool b => a == b
    | .int k a, .int k' b => decide (k = k') && decide (a = b)
    | .string a, .string b => eqU a.data.toList b.data.toList
    | .pointer a, .pointer b => eqA a b
    | .slice a l k, .slice b l' k' => eqA a b && Nat.beq l l' && Nat.beq k k'
    | .map a, .map b => eqON a b
    | .func f a b, .func g a' b' => eqFn f g && eqL (eqV n) a.toList a'.toList && eqL (eqV n) b.toList b'.toList
    | .nilFunc, .nilFunc => true
    | .nilIface, .nilIface => true
    | .iface t a, .iface u b => Nat.beq t u && eqV n a b
    | .agg a, .agg b => eqL (eqV n) a.toList b.toList
    | .tuple a, .tuple b => eqL (eqV n) a.toList b.toList
    | _, _ => false
def eqE (x y : Ent) : Bool := eqV depthV x.1 y.1 && eqV depthV x.2.1 y.2.1 && Nat.beq x.2.2 y.2.2
def eqO : Option Ob → Option Ob → Bool
  | none, none => true
  | some (.cells a), some (.cells b) => eqL (eqV depthV) a b
  | some (.map a k), some (.map b k') => eqL eqE a b && Nat.beq k k'
  | some (.mit m a b e), some (.mit m' a' b' e') => eqON m m' && Nat.beq a a' && eqN b b' && Nat.beq e e'
  | some (.sit s p), some (.sit s' p') => eqU s.data.toList s'.data.toList && Nat.beq p p'
  | some .dfb, some .dfb => true
  | _, _ => false
def eqDf : Dfr → Dfr → Bool
  | .mark a, .mark b => Nat.beq a b
  | .call f a, .call g b => Nat.beq f g && eqL (eqV depthV) a b
  | _, _ => false
def eqDat (x y : Dat) : Bool :=
  eqL (fun (p q : Nat × Value) => Nat.beq p.1 q.1 && eqV depthV p.2 q.2) x.vs y.vs && eqL eqDf x.d y.d && eqL (fun (p q : Nat × Option Ob) => Nat.beq p.1 q.1 && eqO p.2 q.2) x.obs y.obs && eqN x.W y.W
def dedup : List Dat → List Dat
  | [] => []
  | x :: l => let r := dedup l; bif r.any (eqDat x) then r else x :: r
def maxN : List Nat → Nat
  | [] => 0
  | n :: l => let m := maxN l; bif Nat.blt n m then m else n
def headV : List (Nat × Value) → Value
  | p :: _ => p.2
  | [] => undef
/-- A call's outcomes. -/
def mergeO (c : Cfg) (h : Hp) (outs : List Out) : List Out :=
  match outs with
  | _ :: _ :: _ =>
    match mapO (fun (o : Out) => canon c h.n (maxN (outs.map fun o => o.2.1.n)) [(0, o.1)] [] o.2.1 o.2.2) outs with
    | some ds => (dedup ds).map fun x => (headV x.vs, ⟨putL h.t x.obs, maxN (outs.map fun o => o.2.1.n)⟩, x.W)
    | none => outs
  | _ => outs
def keepT (T : Tm) : List Nat → List (Nat × Value)
  | [] => []
  | t :: l => match T.get t with
    | some v => (t, v) :: keepT T l
    | none => keepT T l
def tmpsL (t : PT Value) : List (Nat × Value) → PT Value
  | [] => t
  | p :: l => tmpsL (t.put p.1 (some p.2)) l
/-- The number of the first region. -/
def firstReg : Code → Nat
  | .region id _ _ => id
  | .seq a _ => firstReg a
  | .block _ a => firstReg a
  | .scope a => firstReg a
  | .loop a => firstReg a
  | _ => 0
/-- The states ahead of a loop's next round. -/
def mergeS (c : Cfg) (a : Code) (s0 : St) (l : List St) : List St :=
  match l, c.live s0.T.m (firstReg a) with
  | _ :: _ :: _, some keep => bif s0.w.all (fun b => Nat.blt b s0.h.n) && l.all (fun s => Nat.beq s.T.m s0.T.m) then
      match mapO (fun (s : St) => canon c s0.h.n (maxN (l.map fun s => s.h.n)) (keepT s.T keep) s.d s.h s.w) l with
      | some ds => (dedup ds).map fun x => ⟨⟨tmpsL .leaf x.vs, s0.T.m⟩, ⟨putL s0.h.t x.obs, maxN (l.map fun s => s.h.n)⟩, x.W, x.d⟩
      | none => l
    else l
  | _, _ => l

/-- What an operation looks at in memory; none: anything. -/
def footD (c : Cfg) (T : Tm) (o : Oper) : Option (List Nat) :=
  match o.op with
  | .load _ x | .store _ x _ => match ev c T x with
    | some (.pointer (some ⟨b, _, none⟩)) => some [b]
    | _ => none
  | .call q => match q.callee with
    | .builtin .min | .builtin .max | .builtin .cap => some []
    | .builtin .len => match q.args.toList with
      | [x] => match ev c T x with
        | some (.map (some r)) => some [r]
        | _ => some []
      | _ => none
    | _ => none
  | .convert _ _ x => match ev c T x with
    | some (.slice (some a) _ _) => some [a.block]
    | _ => some []
  | .lookup _ x _ _ | .mapUpdate _ x _ _ | .insert _ x _ _ | .mapEntry _ x _ | .entryStore _ x _ _ => match ev c T x with
    | some (.map (some r)) => some [r]
    | _ => none
  | .makeMap .. | .move _ | .assign _ | .pick .. | .alloc _ | .box .. | .build .. | .buildSlice .. | .makeSlice .. | .nilCheck _ | .binOp .. | .unOp .. | .makeInterface .. | .makeFunc .. | .slice .. | .fieldAddr .. | .field .. | .indexAddr .. | .index .. | .extract .. => some []
  | _ => none
/-- Some ids, as another tree has them. -/
def mergeD (t t' : PT Ob) : List Nat → PT Ob
  | [] => t
  | b :: l => mergeD (t.put b (t'.get b)) t' l
def hideD (t : PT Ob) : List Nat → PT Ob
  | [] => t
  | b :: l => hideD (t.put b none) l
/-- What is told of an operation that has come up. -/
structure Rec where
  i : Nat
  o : Oper
  bef : Nat
  foot : Option (List Nat)
  wr : List Nat
  n : Nat
  n' : Nat
def looks (ops : Array Oper) (o : Oper) : List Nat := Oper.looksAt ops o
def dstIn (d : Option Tmp) (l : List Nat) : Bool := match d with | some d => l.any (Nat.beq d) | none => false
def memN (b : Nat) (l : List Nat) : Bool := l.any (Nat.beq b)
def meets (a b : List Nat) : Bool := a.any fun x => memN x b
def clash (w : List Nat) : Option (List Nat) → Bool
  | none => !w.isEmpty
  | some l => meets w l
def inSeg (r : Rec) (b : Nat) : Bool := Nat.ble r.n b && Nat.blt b r.n'
/-- Two operations that Go leaves unordered do not meet (x comes first in the text). -/
def apartD (ops : Array Oper) (x y : Rec) : Bool :=
  !dstIn x.o.dst (looks ops y.o) && !dstIn y.o.dst (looks ops x.o) && !(match x.o.dst, y.o.dst with | some a, some b => Nat.beq a b | _, _ => false) &&
  !clash y.wr x.foot && !clash x.wr y.foot && !meets x.wr y.wr && !y.wr.any (inSeg x) &&
  (match y.foot with | some l => !l.any (inSeg x) | none => true)
def segL (n : Nat) : Nat → List Nat
  | 0 => []
  | k + 1 => n :: segL (n + 1) k
def befD (rs : List Rec) (o : Oper) : Nat :=
  o.after.toList.foldl (fun s e => if Region.binds .any e then s ||| 2 ^ e.on ||| (match rs.find? (fun r => Nat.beq r.i e.on) with | some r => r.bef | none => 0) else s) 0
def idsOk : Option (List Nat) → Bool
  | some ids => ids.all (fun b => Nat.blt b lim)
  | none => true
/-- The memory that an operation is shown. -/
def maskD (foot : Option (List Nat)) (t : PT Ob) (hid : List Nat) : PT Ob :=
  match foot with
  | some ids => mergeD .leaf t ids
  | none => hideD t hid
structure Dr where
  T : Tm
  h : Hp
  w : List Nat
/-- A region that draws its order: in the order of the text, with what makes any order the same. rs: what has come up, the latest first. -/
def drawD (c : Cfg) (call : CallD) (ops : Array Oper) : Nat → List Oper → List Rec → Tm → Hp → List Nat → R Dr
  | _, [], rs, T, h, w => .ok ⟨T, h, w⟩
  | i, o :: l, rs, T, h, w =>
    let bef := befD rs o
    let un := rs.filter fun r => !bef.testBit r.i
    (R.of "drawD: edge" (if o.after.toList.all (fun e => !Region.binds .any e || Nat.blt e.on i) then some () else none)).bind fun _ =>
    (R.of o.pos (wantedD ops T o)).bind fun b =>
    bif b then
      let foot := footD c T o
      let M : PT Ob := maskD foot h.t (un.flatMap fun r => segL r.n (r.n' - r.n))
      (opD c call T ⟨M, h.n⟩ o).bind fun outs => match outs with
        | [x] =>
          let wr := x.2.2.filter fun b => Nat.blt b h.n
          let r : Rec := ⟨i, o, bef, foot, wr, h.n, x.2.1.n⟩
          bif un.all (fun q => apartD ops q r) && Nat.blt x.2.1.n lim && idsOk foot && wr.all (fun b => Nat.blt b lim) && x.2.2.all (fun b => Nat.blt b x.2.1.n) then
            drawD c call ops (i + 1) l (r :: rs) (putD T o.dst x.1) ⟨mergeD h.t x.2.1.t (wr ++ segL h.n (x.2.1.n - h.n)), x.2.1.n⟩ (wr ++ w)
          else .no ["drawD: meet", o.pos]
        | _ => .no ["drawD: outcomes", o.pos]
    else
      let r : Rec := ⟨i, o, bef, some [], [], h.n, h.n⟩
      bif un.all (fun q => apartD ops q r) then drawD c call ops (i + 1) l (r :: rs) (putD T o.dst undef) h w else .no ["drawD: meet", o.pos]

def regD (c : Cfg) (call : CallD) (ro : Bool) (ops : Array Oper) (draw : Bool) (s : St) : Outs :=
  bif draw then (drawD c call ops 0 ops.toList [] s.T s.h s.w).bind fun x => .ok [(.normal, ⟨x.T, x.h, x.w, s.d⟩)] else (opsD c call ro ops ops.toList s).bind fun l => .ok (l.map fun s => (.normal, s))

def normals : List (Ex × St) → List St
  | [] => []
  | (.normal, s) :: l => s :: normals l
  | _ :: l => normals l
def leavers : List (Ex × St) → List (Ex × St)
  | [] => []
  | (.normal, _) :: l => leavers l
  | p :: l => p :: leavers l
/-- A loop's rounds, all states side by side. -/
def loopD (c : Cfg) (a : Code) (f : St → Outs) (s0 : St) : Nat → List St → Outs
  | 0, _ => .no ["rounds"]
  | k + 1, l => (bindL l f).bind fun r => match normals r with
    | [] => .ok (leavers r)
    | l' => (loopD c a f s0 k (mergeS c a s0 l')).bind fun r' => .ok (leavers r ++ r')
def isRdy : Option Ob → Bool
  | some (.loop false _ _ _ _ _ _) => true
  | _ => false
def isBusy : Option Ob → Bool
  | some (.loop true _ _ _ _ _ _) => true
  | _ => false
def busyO (x : Bool) : Option Ob → Option Ob
  | some (.loop _ t m ps asg bd db) => some (.loop x t m ps asg bd db)
  | o => o
def yieldV (b : Nat) : Value := .func (.yield b) #[] #[]
/-- A range over a function. -/
def rangeFD (c : Cfg) (call : CallD) (g : Value) (ps : List Tmp) (assign body : Code) (s : St) : Outs :=
  match g with
  | .func (.func f) fst cap => bif Nat.blt (s.h.n + 2) lim && Nat.ble c.n0 s.h.n then
      (callFD c call ⟨(s.h.t.put s.h.n (some .dfb)).put (s.h.n + 1) (some (.loop false s.T.t s.T.m ps assign body s.h.n)), s.h.n + 2⟩ (.fn f) (fst.toList ++ [yieldV (s.h.n + 1)] ++ cap.toList)).bind fun outs => (chk (s.h.n + 2) outs).bind fun outs =>
      bif outs.all (fun o => isRdy (o.2.1.t.get (s.h.n + 1))) then
        .ok (outs.map fun o => (.normal, ⟨s.T, ⟨o.2.1.t.put (s.h.n + 1) none, o.2.1.n⟩, (s.h.n + 1) :: (o.2.2 ++ s.w), .mark s.h.n :: s.d⟩))
      else .no ["range over a function: its record"]
    else .no ["range over a function"]
  | _ => .no ["range over a function"]
def blockX (id : Nat) (p : Ex × St) : Ex × St := match p.1 with
  | .exit i => (bif Nat.beq i id then Ex.normal else .exit i, p.2)
  | e => (e, p.2)
def codeD (c : Cfg) (call : CallD) (ro : Bool) : Nat → Code → St → Outs
  | 0, _, _ => .no ["fuel"]
  | k + 1, q, s => match q with
    | .skip => .ok [(.normal, s)]
    | .label _ => .ok [(.normal, s)]
    | .region _ ops d => regD c call ro ops d s
    | .seq a b => (codeD c call ro k a s).bind fun l => thenD l fun s => codeD c call ro k b s
    | .cond x a b => match ev c s.T x with
      | some (.bool v) => cond v (codeD c call ro k a s) (codeD c call ro k b s)
      | _ => .no ["cond"]
    | .block id a => (codeD c call ro k a s).bind fun l => .ok (l.map (blockX id))
    | .loop a => loopD c a (fun s => codeD c call ro k a s) s k [s]
    | .exit id => .ok [(.exit id, s)]
    | .ret => .ok [(.ret, s)]
    | .rangeFunc g ps as bd => bif ro then .no ["nested range over functions"] else match ev c s.T g with
      | some v => rangeFD c call v ps.toList as bd s
      | none => .no ["range over a function"]
    | _ => .no ["code"]

def resD (c : Cfg) (T : Tm) (h : Hp) : List ResultVar → Option (List Value)
  | [] => some []
  | .tmp t :: r => bif Nat.blt t T.m then (T.get t).bind fun v => (resD c T h r).map fun l => v :: l else none
  | .cell a t :: r => bif Nat.blt a T.m then (T.get a).bind fun x => (loadD c h t x).bind fun v => (resD c T h r).map fun l => v :: l else none
def oneV : List Value → Value
  | [v] => v
  | l => .tuple l.toArray
def argsD (T : PT Value) (i : Nat) : List Value → PT Value
  | [] => T
  | v :: l => argsD (T.put i (some v)) (i + 1) l
/-- The deferred calls, and the marks, on the way out. -/
def leaveD (c : Cfg) (call : CallD) : List Dfr → Hp → List Nat → R (List (Hp × List Nat))
  | [], h, w => .ok [(h, w)]
  | .mark b :: l, h, w => match h.t.get b with
    | some .dfb => bif Nat.ble c.n0 b && Nat.blt b lim then leaveD c call l ⟨h.t.put b none, h.n⟩ (b :: w) else .no ["mark"]
    | _ => .no ["mark"]
  | .call f args :: l, h, w => (call (.dfr f) args h).bind fun outs => (chk h.n outs).bind fun outs => bindL outs fun o => leaveD c call l o.2.1 (o.2.2 ++ w)
def retP (c : Cfg) (fn : Func) (l : List (Ex × St)) : R (List Out) :=
  bindL l fun p => match p.1, p.2.d with
    | .exit _, _ => .no ["exit"]
    | _, [] => (R.of "results" (resD c p.2.T p.2.h fn.results.toList)).bind fun vs => .ok [(oneV vs, p.2.h, p.2.w)]
    | _, _ => .no ["a deferred function defers"]
def retD (c : Cfg) (call : CallD) (fn : Func) (l : List (Ex × St)) : R (List Out) :=
  bindL l fun p => match p.1 with
    | .exit _ => .no ["exit"]
    | _ => (leaveD c call p.2.d p.2.h p.2.w).bind fun hs => bindL hs fun q => (R.of "results" (resD c p.2.T q.1 fn.results.toList)).bind fun vs => .ok [(oneV vs, q.1, q.2)]
def isRec (o : Oper) : Bool :=
  match o.op with
  | .call ⟨.builtin .recover, _, _⟩ => true
  | _ => false
/-- The body of a deferred function, where recover hands back nil. -/
def dfrOps (c : Cfg) (ops : Array Oper) : List Oper → St → R (List St)
  | [], s => .ok [s]
  | o :: r, s => (R.of o.pos (wantedD ops s.T o)).bind fun b =>
    bif b then
      bif isRec o then dfrOps c ops r ⟨putD s.T o.dst .nilIface, s.h, s.w, s.d⟩
      else (R.of o.pos (opP c s.T s.h o)).bind fun l => (chk s.h.n l).bind fun l => bindL l fun x => dfrOps c ops r ⟨putD s.T o.dst x.1, x.2.1, x.2.2 ++ s.w, s.d⟩
    else dfrOps c ops r ⟨putD s.T o.dst undef, s.h, s.w, s.d⟩
def dfrCode (c : Cfg) (call : CallD) : Nat → Code → St → Outs
  | 0, _, _ => .no ["fuel"]
  | k + 1, q, s => match q with
    | .seq a b => (dfrCode c call k a s).bind fun l => thenD l fun s => dfrCode c call k b s
    | .region _ ops false => (dfrOps c ops ops.toList s).bind fun l => .ok (l.map fun s => (.normal, s))
    | .cond x a b => match ev c s.T x with
      | some (.bool v) => cond v (dfrCode c call k a s) (dfrCode c call k b s)
      | _ => .no ["cond"]
    | q => codeD c call true k q s
def putPs (T : PT Value) : List Tmp → List Value → PT Value
  | p :: ps, v :: vs => putPs (T.put p (some v)) ps vs
  | _, _ => T
/-- A round: its frame's end. -/
def roundEnd (b : Nat) (l : List (Ex × St)) : R (List Out) :=
  bindL l fun p => match p.1 with
    | .normal => bif isBusy (p.2.h.t.get b) then .ok [(.bool true, ⟨p.2.h.t.put b (busyO false (p.2.h.t.get b)), p.2.h.n⟩, b :: p.2.w)] else .no ["a round's end"]
    | _ => .no ["a round's end"]
/-- A round's body, behind the assignments. -/
def roundBody (c : Cfg) (call : CallD) (b : Nat) (body : Code) (l : List (Ex × St)) : R (List Out) :=
  bindL l fun p => match p.1 with
    | .normal => bif isRdy (p.2.h.t.get b) then (codeD c call true 100000 body ⟨p.2.T, ⟨p.2.h.t.put b (busyO true (p.2.h.t.get b)), p.2.h.n⟩, b :: p.2.w, p.2.d⟩).bind fun l => roundEnd b l else .no ["a round"]
    | _ => .no ["a round"]
def callD (c : Cfg) : Nat → CallD
  | 0, _, _, _ => .no ["calls"]
  | k + 1, .fn f, args, h => match c.fns f with
    | some fn => match fn.body with
      | some q => bif Nat.ble args.length fn.ntmps && Nat.blt fn.ntmps lim then R.ctx fn.name ((codeD c (callD c k) false 100000 q ⟨⟨argsD .leaf 0 args, fn.ntmps⟩, h, [], []⟩).bind fun l => (retD c (callD c k) fn l).bind fun outs => .ok (mergeO c h outs)) else .no ["arguments"]
      | none => .no [fn.name, "no body"]
    | none => .no ["no function"]
  | k + 1, .dfr f, args, h => match c.fns f with
    | some fn => match fn.body with
      | some q => bif Nat.ble args.length fn.ntmps && Nat.blt fn.ntmps lim then R.ctx fn.name ((dfrCode c (callD c k) 100000 q ⟨⟨argsD .leaf 0 args, fn.ntmps⟩, h, [], []⟩).bind fun l => retP c fn l) else .no ["arguments"]
      | none => .no [fn.name, "no body"]
    | none => .no ["no function"]
  | k + 1, .yld b, args, h => match h.t.get b with
    | some (.loop false t m ps assign body db) => bif Nat.beq ps.length args.length && Nat.ble c.n0 b && Nat.blt b lim && Nat.blt m lim then
        (codeD c (callD c k) true 100000 assign ⟨⟨putPs t ps args, m⟩, h, [], []⟩).bind fun l => roundBody c (callD c k) b body l
      else .no ["a round"]
    | _ => .no ["a round"]
end Go.Proofs.YthilbhbnimfcmaaDx
