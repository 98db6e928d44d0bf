/- The interpreter of the model's programs and the proof that it is sound. No condition beyond those that each theorem names. -/
import Derived.Calls
import Derived.Control
import Derived.Orders
import Derived.ProofKit
import Derived.Below
import Derived.WalkKit
import Derived.RegionTactic
import Derived.Laws.IdiomCopy
import Derived.Laws.Cover4
import Derived.Laws.StructEq
import Derived.Deep.DeepAppendWide
import Derived.Laws.IdiomStrings
import Derived.RangeFuncRecord
import Derived.Laws.BytesString
import Derived.Laws.BytesArg
import Derived.DefersIn
import Derived.TacticsIn
import Derived.LoopNIn
abbrev _root_.Ag:=@Bool.and_eq_true
abbrev _root_.Ah:=@cond_false
abbrev _root_.Ai:=@cond_true
abbrev _root_.Aj:=@Option.bind_eq_some_iff
abbrev _root_.Ak:=@Option.map_eq_some_iff
abbrev _root_.Al:=@decide_eq_true
abbrev _root_.Am:=@Nat.eq_of_beq_eq_true
abbrev _root_.An:=@decide_eq_false
abbrev _root_.Ao:=@beq_eq_false_iff_ne
abbrev _root_.Ap:=@List.all_eq_true
abbrev _root_.Aq:=@if_neg
abbrev _root_.Ar:=@Option.bind_some
abbrev _root_.As:=@decide_eq_true_eq
abbrev _root_.Au:=@List.getElem?_eq_getElem
abbrev _root_.Av:=@Int.toNat_natCast
abbrev _root_.Aw:=@Nat.le_refl
abbrev _root_.Ax:=@if_pos
abbrev _root_.Ay:=@beq_iff_eq
abbrev _root_.Az:=@Nat.ble_eq
abbrev _root_.AB:=@Nat.blt_eq
abbrev _root_.AD:=@List.drop_zero
abbrev _root_.AE:=@Bool.and_true
abbrev _root_.AF:=@Bool.true_and
abbrev _root_.AG:=@Int.eq_ofNat_of_zero_le
abbrev _root_.AH:=@List.getElem?_eq_some_iff
abbrev _root_.AI:=@Bool.and_self
abbrev _root_.AJ:=@List.take_of_length_le
abbrev _root_.AK:=@List.length_cons
abbrev _root_.AL:=@List.mem_singleton
abbrev _root_.AM:=@List.length_map
abbrev _root_.AN:=@List.getD_eq_getElem?_getD
abbrev _root_.AO:=@List.length_append
abbrev _root_.AP:=@List.length_eq_zero_iff
abbrev _root_.AQ:=@Nat.zero_add
abbrev _root_.AR:=@List.mem_of_getElem?
abbrev _root_.AS:=@Bool.or_eq_true
abbrev _root_.AT:=@List.mem_append
abbrev _root_.AU:=@Bool.or_eq_false_iff
abbrev _root_.AV:=@Nat.le_of_lt
abbrev _root_.AW:=@Nat.le_of_ble_eq_true
abbrev _root_.AX:=@List.mem_cons
abbrev _root_.AY:=@of_decide_eq_true
abbrev _root_.AZ:=@List.not_mem_nil
abbrev _root_.A0:=@List.append_nil
abbrev _root_.A1:=@List.all_cons
abbrev _root_.A5:=@Nat.beq_refl
abbrev _root_.A8:=@List.drop_eq_getElem_cons
abbrev _root_.A9:=@Option.some.inj
abbrev _root_.Ba:=@Option.map_some
abbrev _root_.Bb:=@Bool.false_or
abbrev _root_.Bc:=@Nat.ne_of_beq_eq_false
abbrev _root_.Bd:=@Nat.le_trans
abbrev _root_.Be:=@Array.getElem?_eq_some_iff
abbrev _root_.Bf:=@List.getElem_mem
abbrev _root_.Bg:=@congrArg
abbrev _root_.Bh:=@Bool.not_true
abbrev _root_.Bi:=@List.foldl_cons
abbrev _root_.Bj:=@ByteArray.size_append
abbrev _root_.Bk:=@List.mem_map
abbrev _root_.Bl:=@List.nil_append
abbrev _root_.Bm:=@Bool.not_eq_true'
abbrev _root_.Bn:=@Int.tdiv_eq_ediv_of_nonneg
abbrev _root_.Bo:=@List.take_length
abbrev _root_.Bp:=@List.cons_append
abbrev _root_.Bq:=@Nat.sub_zero
abbrev _root_.Br:=@List.getElem?_drop
abbrev _root_.Bt:=@List.toList_toArray
abbrev _root_.Bu:=@List.dropWhile_cons
abbrev _root_.Bv:=@Bool.not_false
abbrev _root_.Bw:=@Nat.add_assoc
abbrev _root_.Bx:=@decide_eq_false_iff_not
abbrev _root_.By:=@List.getElem?_append_right
abbrev _root_.Bz:=@Int.fdiv_eq_ediv_of_nonneg
abbrev _root_.BA:=@Nat.mul_le_mul_right
abbrev _root_.BB:=@List.getElem?_take
abbrev _root_.BC:=@List.getElem?_append_left
abbrev _root_.BD:=@List.cons.inj
abbrev _root_.BE:=@List.drop_succ_cons
abbrev _root_.BF:=@List.mem_append_right
abbrev _root_.BG:=@Int.mul_nonneg
abbrev _root_.BH:=@List.map_append
abbrev _root_.BI:=@Int.ediv_nonneg
abbrev _root_.BJ:=@Bool.false_eq_true
abbrev _root_.BK:=@List.mem_cons_of_mem
abbrev _root_.BL:=@List.mem_append_left
abbrev _root_.BM:=@Int.tmod_eq_emod_of_nonneg
abbrev _root_.BN:=@List.getElem?_map
abbrev _root_.BO:=@List.getD_cons_zero
abbrev _root_.BP:=@List.all_append
abbrev _root_.BQ:=@List.length_take
abbrev _root_.BR:=@List.map_cons
abbrev _root_.BS:=@List.all_nil
abbrev _root_.BU:=@Bool.false_and
abbrev _root_.BV:=@List.getD_cons_succ
abbrev _root_.BW:=@Array.ext'
abbrev _root_.BX:=@List.any_cons
abbrev _root_.BY:=@Nat.mul_one
abbrev _root_.BZ:=@List.exists_mem_of_ne_nil
abbrev _root_.B0:=@List.any_eq_false
abbrev _root_.B1:=@Array.size_append
abbrev _root_.B2:=@Bool.true_or
abbrev _root_.B3:=@Array.toList_append
abbrev _root_.B4:=@beq_self_eq_true
abbrev _root_.B5:=@List.length_drop
abbrev _root_.B6:=@List.drop_length
abbrev _root_.B7:=@Array.toList_map
abbrev _root_.B8:=@bne_iff_ne
abbrev _root_.B9:=@Int.mul_le_mul
abbrev _root_.Ca:=@List.mem_cons_self
abbrev _root_.Cb:=@Int.emod_lt_of_pos
abbrev _root_.Cc:=@Int.mul_comm
abbrev _root_.Cd:=@Bool.or_self
abbrev _root_.Ce:=@Int.emod_add_mul_ediv
abbrev _root_.Cf:=@List.flatMap_cons
abbrev _root_.Cg:=@Int.add_mul_emod_self_left
abbrev _root_.Ch:=@Bool.and_false
abbrev _root_.Ci:=@List.take_succ_cons
abbrev _root_.Cj:=@Nat.add_zero
abbrev _root_.Ck:=@Int.le_of_lt
abbrev _root_.Cl:=@Int.ofNat.inj
abbrev _root_.Cm:=@UInt8.toNat_inj
abbrev _root_.Cn:=@Int.emod_nonneg
abbrev _root_.Co:=@Nat.lt_of_lt_of_le
abbrev _root_.Cp:=@Bool.not_eq_false'
abbrev _root_.Cq:=@Nat.zero_le
abbrev _root_.Cr:=@Array.getElem?_setIfInBounds_ne
abbrev _root_.Cs:=@List.take_append_drop
abbrev _root_.Ct:=@Int.add_mul_ediv_left
abbrev _root_.Cu:=@ByteArray.data_append
abbrev _root_.Cv:=@Int.mul_le_mul_of_nonneg_right
abbrev _root_.Cw:=@List.filter_cons
abbrev _root_.Cx:=@List.take_append_of_le_length
abbrev _root_.Cy:=@List.mem_of_mem_drop
abbrev _root_.Cz:=@Nat.not_lt_zero
abbrev _root_.CA:=@List.mem_filter
abbrev _root_.CB:=@List.length_nil
abbrev _root_.CD:=@Nat.pow_succ
abbrev _root_.CE:=@List.take_zero
abbrev _root_.CF:=@List.mem_of_find?_eq_some
abbrev _root_.CG:=@Array.getElem?_eq_getElem
abbrev _root_.CH:=@List.reverse_cons
abbrev _root_.CI:=@List.append_assoc
abbrev _root_.CJ:=@Int.emod_eq_of_lt
set_option linter.unusedSectionVars false
set_option linter.unusedVariables false
set_option linter.unusedSimpArgs false
namespace Go.Proofs.YtaiokpmmjbiajaaGreatDoorDx
section
open Go
inductive PT (α:Type) where
 |leaf
 |node (v:Option α) (l r:PT α)
def PT.get {α:Type}:PT α→Nat→Option α
 | .leaf,_=>none
 | .node v l r,n=>cond (Nat.beq n 0) v (cond (Nat.beq (n % 2) 1) (l.get (n / 2)) (r.get (n / 2 - 1)))
def PT.set {α:Type}:Nat→PT α→Nat→Option α→PT α
 |0,t,_,_=>t
 |k+1,.leaf,n,x=>cond (Nat.beq n 0) (.node x .leaf .leaf) (cond (Nat.beq (n % 2) 1) (.node none (PT.set k .leaf (n / 2) x) .leaf) (.node none .leaf (PT.set k .leaf (n / 2 - 1) x)))
 |k+1,.node v l r,n,x=>cond (Nat.beq n 0) (.node x l r) (cond (Nat.beq (n % 2) 1) (.node v (PT.set k l (n / 2) x) r) (.node v l (PT.set k r (n / 2 - 1) x)))
def lim:Nat:=1000000000
def PT.put {α:Type} (t:PT α) (n:Nat) (x:Option α):PT α:=PT.set 40 t n x
inductive Ob where
 |cells (cs:List Value)
 |map (es:List (Value×Value×Nat)) (clock:Nat)
 |sit (s:ByteArray) (pos:Nat)
 |mit (m:Option Nat) (since:Nat) (seen:List Nat) (last:Nat)
 |loop (busy:Bool) (t:PT Value) (m:Nat) (ps:List Tmp) (assign body:Code) (db:Nat)
 |dfb
 |row (j:Nat)
inductive Dfr where
 |mark (id:Nat)
 |call (f:FuncId) (args:List Value)
inductive Cal where
 |fn (f:FuncId)
 |yld (b:Nat)
 |dfr (f:FuncId)
structure Hp where
 t:PT Ob
 n:Nat
inductive R (α:Type) where
 |ok (a:α)
 |no (why:List String)
def R.bind {α β:Type}:R α→(α→R β)→R β
 | .ok a,f=>f a
 | .no w,_=> .no w
def R.of {α:Type} (why:String):Option α→R α
 |some a=> .ok a
 |none=> .no [why]
def R.ctx {α:Type} (why:String):R α→R α
 | .ok a=> .ok a
 | .no w=> .no (why::w)
structure Tm where
 t:PT Value
 m:Nat
inductive Ex where
 |normal
 |exit (id:Nat)
 |ret
structure St where
 T:Tm
 h:Hp
 w:List Nat
 d:List Dfr
inductive FK where
 |bin (op:BinOp) (t:TypeId)
 |neg
 |conv (k:IntKind)
 |len
 |idx
 |mx
 |mn
structure Fact where
 f:FK
 xs:List Value
 r:Value
inductive RK where
 |len (t:TypeId) (m:Nat)
 |idx (t:TypeId) (m:Nat) (j:Value)
 |load (t:TypeId) (m j:Nat)
 |sub (t:TypeId) (m:Nat) (lo hi:Option Value)
 |app (t u:TypeId) (m j:Nat) (xs:List Value)
 |fld (t:TypeId) (m f:Nat)
structure RF where
 k:RK
 r:Value
 n:Nat
structure Cfg where
 P:Program
 G:Nat
 n0:Nat
 und:TypeId→Option TypeDesc
 siz:TypeId→Option Nat
 zer:TypeId→Option Value
 byt:TypeId→Option Nat
 eqs:TypeId→Bool
 fns:FuncId→Option Func
 met:TypeId→String→Option (FuncId×Bool)
 prim:FuncId→List Value→Hp→Option Value
 facts:List Fact
 rows:List RF
 lops:FuncId→Code→St→Option (List (Ex×St))
 live:Nat→Nat→Option (List Nat)
def qJ:Value→List Value
 | .agg cs=>cs.toList
 |v=>[v]
def wz:Value→Bool
 | .agg _| .tuple _=>false
 |_=>true
def pf:Value→Bool
 | .bool _| .int _ _| .string _| .pointer none| .slice none 0 0| .map none| .nilFunc| .nilIface=>true
 |_=>false
def pfd:Nat→Value→Bool
 |0,v=>pf v
 |n+1,v=>match v with
  | .agg cs=>cs.toList.all (pfd n)
  | .tuple cs=>cs.toList.all (pfd n)
  |v=>pf v
def Tm.get (T:Tm) (n:Nat):Option Value:=T.t.get n
def ev (c:Cfg) (T:Tm):Operand→Option Value
 | .tmp t=>bif Nat.blt t T.m then T.get t else none
 | .const v=>bif pfd 3 v then some v else none
 | .global g=>bif Nat.blt g c.G then some (.pointer (some ⟨g,0,none⟩))else none
 | .func f=>some (.func (.func f) #[] #[])
def evs (c:Cfg) (T:Tm):List Operand→Option (List Value)
 |[]=>some []
 |x::r=>(ev c T x).bind fun v=>(evs c T r).bind fun l=>some (v::l)
def evo (c:Cfg) (T:Tm):Option Operand→Option (Option Value)
 |none=>some none
 |some x=>(ev c T x).map some
def KN (c:Cfg) (T:Tm):List (Nat×Operand)→Option (List (Nat×Value))
 |[]=>some []
 |p::r=>(ev c T p.2).bind fun v=>(KN c T r).bind fun l=>some ((p.1,v)::l)
def nth:List Value→Nat→Option Value
 |[],_=>none
 |x::l,n=>cond (Nat.beq n 0) (some x) (nth l (n - 1))
def ins:List Value→Nat→Value→List Value
 |[],_,_=>[]
 |x::l,n,v=>cond (Nat.beq n 0) (v::l) (x::ins l (n - 1) v)
def slc (l:List Value) (o n:Nat):Option (List Value):=bif Nat.ble (o+n) l.length then some ((l.drop o).take n)else none
def zt:List Value→Nat→List Value→List Value
 |l,_,[]=>l
 |l,o,v::r=>zt (ins l o v) (o+1) r
def WV (c:Cfg) (t:TypeId):Option Bool:=
 match c.und t with
 |some (.struct _)|some (.array _ _)=>some true
 |some _=>some false
 |none=>none
def xa (c:Cfg) (t:TypeId) (cs:List Value) (off:Nat):Option Value:=
 (WV c t).bind fun ag=>bif ag then(c.siz t).bind fun n=>(slc cs off n).map fun l=> .agg l.toArray else nth cs off
def zS (h:Hp) (b:Nat):Option (List Value):=
 match h.t.get b with
 |some (.cells cs)=>some cs
 |_=>none
def Vm (c:Cfg) (h:Hp) (t:TypeId) (a:Value):Option Value:=
 match a with
 | .pointer (some ⟨b,o,none⟩)=>(zS h b).bind fun cs=>xa c t cs o
 |_=>none
abbrev Out:=Value×Hp×List Nat
def xJ (c:Cfg) (h:Hp) (b o:Nat) (vs:List Value):Option (Hp×List Nat):=
 (zS h b).bind fun cs =>
  bif Nat.ble c.n0 b&&Nat.blt b lim&&Nat.ble (o+vs.length) cs.length&&vs.all wz then some (⟨h.t.put b (some (.cells (zt cs o vs))),h.n⟩,[b])else none
def Vj (h:Hp) (o:Ob):Option Hp:=bif Nat.blt h.n lim then some ⟨h.t.put h.n (some o),h.n+1⟩else none
def jy (ops:Array Oper) (T:Tm) (o:Oper):Option Bool:=
 match o.guard with
 |none=>some true
 |some (j,want)=>match(ops[j]?).bind (·.dst)with
  |some d=>bif Nat.blt d T.m then match T.get d with
   |some (.bool b)=>some (cond want b (!b))
   |some _=>some false
   |none=>none
   else none
  |none=>none
def eqU:List UInt8→List UInt8→Bool
 |[],[]=>true
 |x::a,y::b=>Nat.beq x.toNat y.toNat&&eqU a b
 |_,_=>false
def ltU:List UInt8→List UInt8→Bool
 |_,[]=>false
 |[],_::_=>true
 |x::a,y::b=>Nat.blt x.toNat y.toNat||(Nat.beq x.toNat y.toNat&&ltU a b)
def J2 (op:BinOp) (k:IntKind) (a b:Int):Option Value:=
 match op with
 | .add=>some (.int k (k.wrap (a+b)))
 | .sub=>some (.int k (k.wrap (a - b)))
 | .mul=>some (.int k (k.wrap (a*b)))
 | .quo=>if b=0 then none else some (.int k (k.wrap (a.tdiv b)))
 | .rem=>if b=0 then none else some (.int k (a.tmod b))
 | .and=>some (.int k (k.wrap (BitVec.ofInt k.bits a &&& BitVec.ofInt k.bits b).toNat))
 | .or=>some (.int k (k.wrap (BitVec.ofInt k.bits a ||| BitVec.ofInt k.bits b).toNat))
 | .xor=>some (.int k (k.wrap (BitVec.ofInt k.bits a ^^^ BitVec.ofInt k.bits b).toNat))
 | .andNot=>some (.int k (k.wrap (BitVec.ofInt k.bits a &&& ~~~(BitVec.ofInt k.bits b)).toNat))
 | .eql=>some (.bool (a==b))
 | .neq=>some (.bool (a != b))
 | .lss=>some (.bool (decide (a<b)))
 | .leq=>some (.bool (decide (a≤b)))
 | .gtr=>some (.bool (decide (a>b)))
 | .geq=>some (.bool (decide (a≥b)))
 |_=>none
def dQ (op:BinOp) (a b:ByteArray):Option Value:=
 match op with
 | .add=>bif Nat.ble (a.data.toList.length+b.data.toList.length) 9223372036854775807 then some (.string ⟨(a.data.toList++b.data.toList).toArray⟩)else none
 | .eql=>some (.bool (eqU a.data.toList b.data.toList))
 | .neq=>some (.bool (!eqU a.data.toList b.data.toList))
 | .lss=>some (.bool (ltU a.data.toList b.data.toList))
 | .leq=>some (.bool (ltU a.data.toList b.data.toList||eqU a.data.toList b.data.toList))
 | .gtr=>some (.bool (!(ltU a.data.toList b.data.toList||eqU a.data.toList b.data.toList)))
 | .geq=>some (.bool (!ltU a.data.toList b.data.toList))
 |_=>none
def eqF (c:Cfg) (cmp:TypeId→Value→Value→Option Bool):List Field→List Value→List Value→Option Bool
 |[],_,_=>some true
 |f::r,xs,ys=>if f.name= "_" then none else(xa c f.type xs f.offset).bind fun x=>(xa c f.type ys f.offset).bind fun y=>(cmp f.type x y).bind fun b=>(eqF c cmp r xs ys).map fun r=>b&&r
def noY:Fn→Bool
 | .yield _=>false
 |_=>true
def eqD (c:Cfg):Nat→TypeId→Value→Value→Option Bool
 |0,_,_,_=>none
 |n+1,t,x,y=>
  match c.und t,x,y with
  |some .bool,.bool a,.bool b=>some (a==b)
  |some (.int _),.int k a,.int k' b=>if k=k' then some (a==b)else none
  |some .string,.string a,.string b=>some (eqU a.data.toList b.data.toList)
  |some (.pointer _),.pointer none,.pointer b=>some b.isNone
  |some (.pointer _),.pointer (some _),.pointer none=>some false
  |some (.slice _),.slice none _ _,.slice none _ _=>some true
  |some (.slice _),.slice none _ _,.slice (some _) n _=>bif Nat.beq n 0 then none else some false
  |some (.slice _),.slice (some _) n _,.slice none _ _=>bif Nat.beq n 0 then none else some false
  |some (.map _ _),.map none,.map b=>some b.isNone
  |some (.map _ _),.map (some _),.map none=>some false
  |some (.func _ _ _),.nilFunc,.nilFunc=>some true
  |some (.func _ _ _),.nilFunc,.func fn _ _=>bif noY fn then some false else none
  |some (.func _ _ _),.func fn _ _,.nilFunc=>bif noY fn then some false else none
  |some (.struct fs),.agg xs,.agg ys=>bif c.eqs t then eqF c (eqD c n) fs.toList xs.toList ys.toList else none
  |_,_,_=>none
def VY (place:Nat→Option (Nat×Nat)) (cells:List Value):List (Nat×Value)→Option (List Value)
 |[]=>some cells
 |p::r=>(place p.1).bind fun q=>
  bif Nat.beq (qJ p.2).length q.2&&Nat.ble (q.1+q.2) cells.length then VY place (zt cells q.1 (qJ p.2)) r else none
def rep (l:List Value):Nat→List Value
 |0=>[]
 |n+1=>l++rep l n
def xb (i:Int):Option Nat:=match i with| .ofNat n=>some n| .negSucc _=>none
def bound (x:Option Value) (d m:Nat):Option Nat:=
 match x with
 |none=>some d
 |some (.int _ i)=>(xb i).bind fun n=>bif Nat.ble n m then some n else none
 |_=>none
def zi (h:Hp) (o:Option Value):Option (List Out):=o.map fun v=>[(v,h,[])]
def Zh (h:Hp) (cs:List Value) (f:Nat→Value):Option (List Out):=(Vj h (.cells cs)).map fun h'=>[(f h.n,h',[])]
def Qs:TypeDesc→Bool
 | .slice _| .string=>true
 |_=>false
def jS (h:Hp) (sz:Nat):Value→Option (List Value×Nat)
 | .slice (some ⟨b,o,none⟩) m _=>if m=0 then some ([],0)else(zS h b).bind fun cs=>(slc cs o (m*sz)).map fun l=>(l,m)
 | .slice none 0 0=>some ([],0)
 | .string t=>bif Nat.beq sz 1 then some (t.data.toList.map fun b=> .int .u8 b.toNat,t.data.toList.length)else none
 |_=>none
def jA (c:Cfg) (h:Hp) (st xt:TypeId) (s x:Value):Option (List Out):=
 match c.und st,c.und xt,s with
 |some (.slice elem),some xd,.slice base n cz=>bif !Qs xd then none else
  (c.siz elem).bind fun sz=>(c.byt elem).bind fun by_=>(c.zer elem).bind fun z=>
  bif Nat.beq sz 0||Nat.blt 1000000 by_|| !Nat.beq (qJ z).length sz then none else
  (jS h sz x).bind fun nw =>
   if nw.2=0 then some [(s,h,[])]else bif Nat.ble (n+nw.2) 200000000000000&&Nat.ble ((n+nw.2)*by_) 200000000000000&&nw.1.all wz then
   match base with
   |none=>if n=0 then Zh h nw.1 (fun b=> .slice (some ⟨b,0,none⟩) nw.2 sz)else none
   |some ⟨b,o,none⟩=>
    (zS h b).bind fun cs=>bif Nat.ble c.n0 b&&Nat.blt b lim&&Nat.blt h.n lim&&Nat.beq cz sz then(slc cs o (n*sz)).bind fun old=>
      some [(.slice (some ⟨h.n,0,none⟩) (n+nw.2) sz,⟨(h.t.put b none).put h.n (some (.cells (old++nw.1))),h.n+1⟩,[b])]
     else none
   |_=>none
   else none
 |_,_,_=>none
def ZF:Option TypeDesc→Bool
 |some (.int _)=>true
 |_=>false
def KO (c:Cfg) (h:Hp) (st:TypeId) (s x:Value):Option (List Out):=
 match c.und st,s,x with
 |some (.slice elem),.slice none 0 0,.int _ l=>(xb l).bind fun n=>(c.siz elem).bind fun sz=>(c.byt elem).bind fun by_=>(c.zer elem).bind fun z=>
  bif Nat.beq n 0||Nat.beq sz 0||Nat.blt 1000000 by_||Nat.blt 1000000 n|| !Nat.beq (qJ z).length sz then none else Zh h (rep (qJ z) n) (fun b=> .slice (some ⟨b,0,none⟩) n sz)
 |_,_,_=>none
def eK (c:Cfg) (h:Hp) (t:TypeId) (d s:Value):Option (List Out):=
 match c.und t,d with
 |some (.slice el),.slice a n _=>(c.siz el).bind fun sz=>(jS h sz s).bind fun nw=>
  if nw.2=0 then some [(.int .i64 0,h,[])]else bif Nat.ble nw.2 n then match a with
   |some ⟨b,o,none⟩=>(xJ c h b o nw.1).map fun p=>[(.int .i64 nw.2,p.1,p.2)]
   |_=>none
  else none
 |_,_=>none
def ZE (mx:Bool):Value→List Value→Option Value
 |x,[]=>some x
 | .int k a,.int k' b::r=>if k=k' then ZE mx (.int k (if mx then(if b>a then b else a)else(if b<a then b else a))) r else none
 |_,_=>none
def jW (c:Cfg) (h:Hp) (t:TypeId) (l u:Value):Option (List Out):=
 match c.und t,l,u with
 |some (.slice el),.int _ l,.int _ u=>(xb l).bind fun l=>(xb u).bind fun u=>(c.siz el).bind fun s=>(c.byt el).bind fun by_=>(c.zer el).bind fun z=>
  bif Nat.beq s 0||Nat.blt 1000000 by_||Nat.blt 1000000 u||Nat.blt u l|| !Nat.beq (qJ z).length s then none else Zh h (rep (qJ z) u) (fun b=> .slice (some ⟨b,0,none⟩) l s)
 |_,_,_=>none
def K7 (c:Cfg) (h:Hp) (el:TypeId) (s:ByteArray):Option (List Out):=
 match c.und el,c.siz el with
 |some (.int .u8),some 1=>bif Nat.ble s.data.toList.length 1000000 then Zh h (s.data.toList.map fun b=> .int .u8 b.toNat) (fun b=> .slice (some ⟨b,0,none⟩) s.data.toList.length 1)else none
 |_,_=>none
def wG (s:ByteArray):Nat→Nat→List Value
 |0,_=>[]
 |k+1,i=>bif Nat.blt i s.data.toList.length then .int .i32 (Int.ofNat (Utf8.decode s i).1)::wG s k (i+(Utf8.decode s i).2)else[]
def YJ (c:Cfg) (h:Hp) (el:TypeId) (s:ByteArray):Option (List Out):=
 match c.und el,c.siz el with
 |some (.int .i32),some 1=>bif Nat.ble s.data.toList.length 1000000 then Zh h (wG s s.data.toList.length 0) (fun b=> .slice (some ⟨b,0,none⟩) (wG s s.data.toList.length 0).length 1)else none
 |_,_=>none
def Y8:Option TypeDesc→Bool
 |some (.int .i32)=>true
 |_=>false
def ba (c:Cfg) (h:Hp) (el:TypeId) (s:ByteArray):Option (List Out):=bif Y8 (c.und el)then YJ c h el s else K7 c h el s
def fu:Value→Option UInt8
 | .int .u8 n=>some (UInt8.ofNat n.toNat)
 |_=>none
def yz:List Value→Option (List UInt8)
 |[]=>some []
 |v::l=>(fu v).bind fun b=>(yz l).map fun r=>b::r
def mq:Value→Option Int
 | .int .i32 n=>some n
 |_=>none
def ZB (l:List Value):Option (List Int):=
 match l with
 |[]=>some []
 |v::l=>(mq v).bind fun b=>(ZB l).map fun r=>b::r
def QT (c:Cfg) (h:Hp) (el:TypeId) (a:Option Addr) (n:Nat):Option Value:=
 match c.und el,a with
 |some (.int .u8),none=>some (.string ⟨#[]⟩)
 |some (.int .u8),some ⟨b,o,none⟩=>(zS h b).bind fun cs=>(slc cs o n).bind fun l=>(yz l).map fun r=> .string ⟨r.toArray⟩
 |some (.int .i32),none=>some (.string ⟨#[]⟩)
 |some (.int .i32),some ⟨b,o,none⟩=>(zS h b).bind fun cs=>(slc cs o n).bind fun l=>(ZB l).map fun r=> .string ⟨(r.flatMap fun n=>(Utf8.encode n).data.toList).toArray⟩
 |_,_=>none
def hU (h:Hp) (d:Option TypeDesc) (x:Value):Option Value:=
 match d,x with
 |some .string,.string s=>some (.int .i64 s.data.toList.length)
 |some (.slice _),.slice _ n _=>some (.int .i64 n)
 |some (.map _ _),.map none=>some (.int .i64 0)
 |some (.map _ _),.map (some r)=>match h.t.get r with
  |some (.map es _)=>some (.int .i64 es.length)
  |_=>none
 |_,_=>none
abbrev Ent:=Value×Value×Nat
def rz:Value→Value→Bool
 | .bool a,.bool b=>a==b
 | .int j a,.int k b=>decide (j=k)&&a==b
 | .string a,.string b=>eqU a.data.toList b.data.toList
 |_,_=>false
def pQ:List Value→List Value→Bool
 |[],[]=>true
 |x::a,y::b=>rz x y&&pQ a b
 |_,_=>false
def bits:Value→Value→Bool
 | .agg a,.agg b=>pQ a.toList b.toList
 |x,y=>rz x y
def ch (b:Nat) (l:List Nat):Bool:=l.any (Nat.beq b)
def KF (c:Cfg) (h:Hp) (b:Builtin) (ts:List TypeId) (xs:List Value):Option (List Out):=
 match b,ts,xs with
 | .len,[t],[x]=>zi h (hU h (c.und t) x)
 | .append,[t,u],[s,x]=>bif ZF (c.und u)then KO c h t s x else jA c h t u s x
 | .cap,[t],[.slice none 0 0]=>zi h (match c.und t with|some (.slice _)=>some (.int .i64 0)|_=>none)
 | .copy,[t,_],[d,s]=>eK c h t d s
 | .max,_,x::r=>zi h (ZE true x r)
 | .min,_,x::r=>zi h (ZE false x r)
 |_,_,_=>none
def gw (v:Bool) (x y:Value):Value:=
 match x,y with
 | .bool x,.bool y=> .bool (cond v x y)
 |x,y=>if v then x else y
def iW (c:Cfg) (op:BinOp) (t:TypeId) (a b:Value):Option Value:=
 match op,a,b with
 | .shl,.int k a,.int _ b=>if b<0 then none else some (.int k (k.wrap (a*2 ^ (min b.toNat k.bits))))
 | .shr,.int k a,.int _ b=>if b<0 then none else some (.int k (a.fdiv (2 ^ (min b.toNat k.bits))))
 |op,.int k a,.int k' b=>if k=k' then J2 op k a b else none
 |op,.string a,.string b=>dQ op a b
 | .eql,a,b=>(eqD c 20 t a b).map fun r=> .bool r
 | .neq,a,b=>(eqD c 20 t a b).map fun r=> .bool (!r)
 |_,_,_=>none
def jr:Operand→Bool
 | .const _=>true
 |_=>false
def lS:Value→Value→Option Bool
 | .nilIface,.nilIface=>some true
 | .iface _ _,.nilIface=>some false
 | .nilIface,.iface _ _=>some false
 |_,_=>none
def pe (c:Cfg) (op:BinOp) (t:TypeId) (x y:Operand) (a b:Value):Option Value:=
 match c.und t,op with
 |some (.interface _),.eql=>bif jr x||jr y then(lS a b).map fun r=> .bool r else none
 |some (.interface _),.neq=>bif jr x||jr y then(lS a b).map fun r=> .bool (!r)else none
 |_,_=>none
def wC (c:Cfg) (op:BinOp) (t:TypeId) (x y:Operand) (a b:Value):Option Value:=
 match pe c op t x y a b with
 |some v=>some v
 |none=>iW c op t a b
def Kp (c:Cfg):List Field→Option (List (Nat×Nat))
 |[]=>some []
 |f::r=>(c.siz f.type).bind fun s=>(Kp c r).bind fun l=>some ((f.offset,s)::l)
def Yb (c:Cfg) (t:TypeId) (vs:List (Nat×Value)):Option Value:=
 (c.zer t).bind fun z => match c.und t with
  |some (.struct fs)=>(Kp c fs.toList).bind fun ps=>(VY (fun i=>ps[i]?) (qJ z) vs).map fun l=> .agg l.toArray
  |some (.array _ el)=>(c.siz el).bind fun s=>(VY (fun i=>some (i*s,s)) (qJ z) vs).map fun l=> .agg l.toArray
  |_=>none
def yB (c:Cfg) (h:Hp) (t:TypeId) (n:Nat) (vs:List (Nat×Value)):Option (List Out):=
 match c.und t with
 |some (.slice el)=>(c.siz el).bind fun s=>bif Nat.beq s 0||Nat.blt 16777216 (n*s)then none else
  (if n=0 then some []else(c.zer el).bind fun z=>bif Nat.beq (qJ z).length s then some (rep (qJ z) n)else none).bind fun zs=>
  (VY (fun i=>some (i*s,s)) zs vs).bind fun l=>Zh h l (fun b=> .slice (some ⟨b,0,none⟩) n s)
 |_=>none
def Qx (c:Cfg) (t:TypeId) (v:Value) (l u:Option Value):Option Value:=
 match c.und t,v with
 |some .string,.string s=>
  (bound u s.data.toList.length s.data.toList.length).bind fun e=>(bound l 0 e).bind fun b=>some (.string ⟨((s.data.toList.take e).drop b).toArray⟩)
 |some (.slice el),.slice a n sz=>(bound u n n).bind fun e=>(bound l 0 e).bind fun b=>(c.siz el).bind fun s=>
  match a with
  |none=>some (.slice none 0 0)
  |some ⟨k,o,none⟩=>bif Nat.beq s sz then some (.slice (some ⟨k,o+b*s,none⟩) (e - b) sz)else none
  |_=>none
 |_,_=>none
def xX (c:Cfg) (t:TypeId) (v j:Value):Option Value:=
 match j with
 | .int _ j=>(xb j).bind fun j=>
  match c.und t,v with
  |some (.slice el),.slice (some ⟨b,o,none⟩) n _=>(c.siz el).bind fun s=>bif Nat.blt j n then some (.pointer (some ⟨b,o+j*s,none⟩))else none
  |some (.array n el),.pointer (some ⟨b,o,none⟩)=>(c.siz el).bind fun s=>bif Nat.blt j n then some (.pointer (some ⟨b,o+j*s,none⟩))else none
  |_,_=>none
 |_=>none
def WH (c:Cfg) (t:TypeId) (v j:Value):Option Value:=
 match j with
 | .int _ j=>(xb j).bind fun j=>
  match c.und t,v with
  |some .string,.string s=>((s.data.toList.drop j).head?).map fun b=> .int .u8 b.toNat
  |some (.array n el),.agg cs=>(c.siz el).bind fun s=>bif Nat.blt j n then xa c el cs.toList (j*s)else none
  |_,_=>none
 |_=>none
def opP (c:Cfg) (T:Tm) (h:Hp) (o:Oper):Option (List Out):=
 match o.op with
 | .move x=>zi h (ev c T x)
 | .assign x=>zi h (ev c T x)
 | .pick q a b=>(ev c T q).bind fun v=>(ev c T a).bind fun x=>(ev c T b).bind fun y=>match v with
  | .bool v=>zi h (some (gw v x y))
  |_=>none
 | .alloc e=>(c.zer e).bind fun z=>Zh h (qJ z) (fun b=> .pointer (some ⟨b,0,none⟩))
 | .box e x=>(ev c T x).bind fun v=>Zh h (qJ v) (fun b=> .pointer (some ⟨b,0,none⟩))
 | .build t ps=>(KN c T ps.toList).bind fun vs=>zi h (Yb c t vs)
 | .buildSlice t n ps=>(KN c T ps.toList).bind fun vs=>yB c h t n vs
 | .load t a=>(ev c T a).bind fun v=>zi h (Vm c h t v)
 | .store t a x=>(ev c T a).bind fun v=>(ev c T x).bind fun y=>(c.siz t).bind fun s=>
  match v with
  | .pointer (some ⟨b,o,none⟩)=>bif Nat.beq (qJ y).length s then(xJ c h b o (qJ y)).map fun p=>[(undef,p.1,p.2)]else none
  |_=>none
 | .nilCheck x=>(ev c T x).bind fun v=>match v with
  | .pointer (some a)=>zi h (some (.pointer (some a)))
  | .iface t v=>zi h (some (.iface t v))
  |_=>none
 | .binOp op t x y _=>(ev c T x).bind fun a=>(ev c T y).bind fun b=>zi h (wC c op t x y a b)
 | .unOp op _ x=>(ev c T x).bind fun v=>match op,v with
  | .neg,.int k n=>zi h (some (.int k (k.wrap (0 - n))))
  | .not,.bool b=>zi h (some (.bool (!b)))
  | .xor,.int k n=>zi h (some (.int k (k.wrap (BitVec.ofInt k.bits (if k.signed then -1 else k.max) ^^^ BitVec.ofInt k.bits n).toNat)))
  |_,_=>none
 | .convert src dst x=>(ev c T x).bind fun v=>match c.und src,c.und dst,v with
  |some _,some (.int k),.int _ n=>zi h (some (.int k (k.wrap n)))
  |some _,some .string,.string s=>zi h (some (.string s))
  |some .string,some (.slice el),.string s=>ba c h el s
  |some (.slice el),some .string,.slice a n k=>zi h (QT c h el a n)
  |_,_,_=>none
 | .makeInterface t x=>(ev c T x).bind fun v=>match c.und t with
  |some (.interface _)=>none
  |some _=>zi h (some (.iface t v))
  |none=>none
 | .makeFunc fn f k=>(evs c T f.toList).bind fun a=>(evs c T k.toList).bind fun b=>bif noY fn then zi h (some (.func fn a.toArray b.toArray))else none
 | .makeSlice t l u=>(ev c T l).bind fun v=>(ev c T u).bind fun x=>jW c h t v x
 | .slice t x lo hi mx=>match mx with
  |some _=>none
  |none=>(ev c T x).bind fun v=>(evo c T lo).bind fun l=>(evo c T hi).bind fun u=>zi h (Qx c t v l u)
 | .fieldAddr s x f=>(ev c T x).bind fun v=>match c.und s,v with
  |some (.struct fs),.pointer (some ⟨b,o,none⟩)=>(fs[f]?).bind fun fd=>(c.siz fd.type).bind fun n=>bif Nat.beq n 0 then none else zi h (some (.pointer (some ⟨b,o+fd.offset,none⟩)))
  |_,_=>none
 | .field t x f=>(ev c T x).bind fun v=>match c.und t,v with
  |some (.struct fs),.agg cs=>(fs[f]?).bind fun fd=>zi h (xa c fd.type cs.toList fd.offset)
  |_,_=>none
 | .indexAddr t x i=>(ev c T x).bind fun v=>(ev c T i).bind fun j=>zi h (xX c t v j)
 | .index t x i=>(ev c T x).bind fun v=>(ev c T i).bind fun j=>zi h (WH c t v j)
 | .extract t i=>(ev c T t).bind fun v=>match v with
  | .tuple vs=>zi h (nth vs.toList i)
  |_=>none
 | .call q=>(evs c T q.args.toList).bind fun args=>match q.callee with
  | .builtin b=>KF c h b q.argTypes.toList args
  |_=>none
 |_=>none
def YW (c:Cfg) (m:String) (l:List Value):Option (FuncId×List Value):=
 match l with
 | .iface t x::r=>(c.met t m).bind fun p=>match c.und t,p.2 with
  |some (.pointer _),true=>some (p.1,x::r)
  |_,_=>none
 |_=>none
def Kj (c:Cfg) (T:Tm) (o:Oper):Option (Cal×List Value):=
 match o.op with
 | .call q=>match q.callee with
  | .value f=>(ev c T f).bind fun v=>match v with
   | .func (.func f) fst cap=>(evs c T q.args.toList).bind fun args=>some (.fn f,fst.toList++args++cap.toList)
   | .func (.yield b) _ _=>(evs c T q.args.toList).bind fun args=>some (.yld b,args)
   | .func (.method m) fst cap=>(evs c T q.args.toList).bind fun args=>(YW c m (fst.toList++args)).map fun p=>(.fn p.1,p.2)
   |_=>none
  | .invoke r m=>(ev c T r).bind fun v=>(evs c T q.args.toList).bind fun args=>(YW c m (v::args)).map fun p=>(.fn p.1,p.2)
  |_=>none
 |_=>none
abbrev kW:=Cal→List Value→Hp→R (List Out)
def KU (c:Cfg) (call:kW) (h:Hp) (f:Cal) (args:List Value):R (List Out):=
 match f with
 | .fn f=>match c.prim f args h with
  |some v=> .ok [(v,h,[])]
  |none=>call (.fn f) args h
 |f=>call f args h
def chk (n:Nat) (l:List Out):R (List Out):=bif l.all (fun x=>Nat.ble n x.2.1.n)&& !l.isEmpty then .ok l else .no ["chk"]
def lQ (cs:List Value):Value:= .func (.yield 0) ⟨[.bool true]⟩ ⟨cs⟩
def YO:Option Value→Bool
 |some (.func (.yield _) _ _)=>true
 |_=>false
def ai (c:Cfg) (T:Tm) (o:Oper):Bool:=
 match o.op with
 | .load _ x=>YO (ev c T x)
 | .indexAddr _ x _=>YO (ev c T x)
 | .fieldAddr _ x _=>YO (ev c T x)
 | .call q=>match q.callee with
  | .builtin .len=>match q.args.toList with
   |[x]=>YO (ev c T x)
   |_=>false
  |_=>false
 |_=>false
def Qa (d:Option TypeDesc) (x:Value):Option Value:=
 match d,x with
 |some (.slice _),.func (.yield _) ⟨[.int .i64 n]⟩ _=>some (.int .i64 n)
 |_,_=>none
def Wu (c:Cfg) (t:TypeId) (v j:Value):Option Value:=
 match j with
 | .int _ j=>(xb j).bind fun j=>
  match c.und t,v with
  |some (.slice el),.func (.yield z) ⟨[.int .i64 n]⟩ ⟨cs⟩=>(c.siz el).bind fun s=>bif Nat.beq s z&&decide ((j:Int)<n)then some (lQ (cs.drop (j*z)))else none
  |_,_=>none
 |_=>none
def Wq (c:Cfg) (t:TypeId) (v:Value) (f:Nat):Option Value:=
 match c.und t,v with
 |some (.struct fs),.func (.yield _) ⟨[.bool true]⟩ ⟨cs⟩=>(fs[f]?).bind fun fd=>(c.siz fd.type).bind fun n=>bif Nat.beq n 0|| !Nat.ble fd.offset cs.length then none else some (lQ (cs.drop fd.offset))
 |_,_=>none
def loadT (c:Cfg) (t:TypeId) (v:Value):Option Value:=
 match v with
 | .func (.yield _) ⟨[.bool true]⟩ ⟨cs⟩=>xa c t cs 0
 |_=>none
def xh (c:Cfg) (T:Tm) (o:Oper):Option Value:=
 match o.op with
 | .load t x=>(ev c T x).bind fun v=>loadT c t v
 | .indexAddr t x i=>(ev c T x).bind fun v=>(ev c T i).bind fun j=>Wu c t v j
 | .fieldAddr t x f=>(ev c T x).bind fun v=>Wq c t v f
 | .call q=>match q.callee with
  | .builtin .len=>match q.args.toList,q.argTypes.toList with
   |[x],[t]=>(ev c T x).bind fun v=>Qa (c.und t) v
   |_,_=>none
  |_=>none
 |_=>none
def opT (c:Cfg) (T:Tm) (h:Hp) (o:Oper):Option (List Out):=bif ai c T o then zi h (xh c T o)else opP c T h o
def opD (c:Cfg) (call:kW) (T:Tm) (h:Hp) (o:Oper):R (List Out):=
 (match Kj c T o with
 |some p=>KU c call h p.1 p.2
 |none=>R.of o.pos (opT c T h o)).bind (chk h.n)
abbrev Vt:=R (List (Ex×St))
def xl (T:Tm) (d:Option Tmp) (v:Value):Tm:=match d with
 |some d=>bif Nat.blt d T.m then⟨T.t.put d (some v),T.m⟩else T
 |none=>T
def Qe {α β:Type}:List α→(α→R (List β))→R (List β)
 |[],_=> .ok []
 |x::l,f=>(f x).bind fun a=>(Qe l f).bind fun b=> .ok (a++b)
def fk (c:Cfg) (T:Tm) (o:Oper):Option (FuncId×List Value):=
 match o.op with
 | .defer q=>match q.callee with
  | .value f=>(ev c T f).bind fun v=>match v with
   | .func (.func f) fst cap=>(evs c T q.args.toList).bind fun args=>some (f,fst.toList++args++cap.toList)
   |_=>none
  |_=>none
 |_=>none
def JF (c:Cfg) (call:kW) (ro:Bool) (ops:Array Oper):List Oper→St→R (List St)
 |[],s=> .ok [s]
 |o::r,s=>(R.of o.pos (jy ops s.T o)).bind fun b=>
  bif b then match fk c s.T o with
   |some p=> .no ["defer"]
   |none=>(opD c call s.T s.h o).bind fun l=>Qe l fun x=>JF c call ro ops r ⟨xl s.T o.dst x.1,x.2.1,x.2.2++s.w,s.d⟩
  else JF c call ro ops r ⟨xl s.T o.dst undef,s.h,s.w,s.d⟩
def VO (l:List (Ex×St)) (f:St→Vt):Vt:=Qe l fun p=>match p.1 with
 | .normal=>f p.2
 |e=> .ok [(e,p.2)]
def wi:Nat:=9
def idx:List Nat→Nat→Option Nat
 |[],_=>none
 |x::l,b=>bif Nat.beq x b then some 0 else(idx l b).map Nat.succ
def wI {α β:Type} (f:α→Option β):List α→Option (List β)
 |[]=>some []
 |x::l=>(f x).bind fun y=>(wI f l).map fun r=>y::r
def gm (f:Nat→Option Nat):Option Addr→Option (Option Addr)
 |none=>some none
 |some ⟨b,o,none⟩=>(f b).map fun b=>some ⟨b,o,none⟩
 |some ⟨_,_,some _⟩=>none
def wA (f:Nat→Option Nat):Nat→Value→Option Value
 |0,_=>none
 |n+1,v=>match v with
  | .pointer a=>(gm f a).map fun a=> .pointer a
  | .slice a l k=>(gm f a).map fun a=> .slice a l k
  | .map none=>some (.map none)
  | .map (some r)=>(f r).map fun r=> .map (some r)
  | .func (.yield z) xs ys=>some (.func (.yield z) xs ys)
  | .complex .f64 m b=>(f b).map fun b=> .complex .f64 m b
  | .func fn xs ys=>(wI (wA f n) xs.toList).bind fun xs=>(wI (wA f n) ys.toList).map fun ys=> .func fn xs.toArray ys.toArray
  | .iface t x=>(wA f n x).map fun x=> .iface t x
  | .agg cs=>(wI (wA f n) cs.toList).map fun l=> .agg l.toArray
  | .tuple cs=>(wI (wA f n) cs.toList).map fun l=> .tuple l.toArray
  |v=>some v
def ri (f:Nat→Option Nat) (e:Ent):Option Ent:=(wA f wi e.2.1).map fun v=>(e.1,v,e.2.2)
def fa (f:Nat→Option Nat):Option Ob→Option (Option Ob)
 |none=>some none
 |some (.cells cs)=>(wI (wA f wi) cs).map fun l=>some (.cells l)
 |some (.map es k)=>(wI (ri f) es).map fun l=>some (.map l k)
 |some (.sit s p)=>some (some (.sit s p))
 |some (.mit none a b e)=>some (some (.mit none a b e))
 |some (.mit (some m) a b e)=>(f m).map fun m=>some (.mit (some m) a b e)
 |some (.loop ..)=>none
 |some .dfb=>some (some .dfb)
 |some (.row j)=>some (some (.row j))
def oW (f:Nat→Option Nat):Dfr→Option Dfr
 | .mark b=>(f b).map .mark
 | .call g l=>(wI (wA f wi) l).map (.call g)
structure Dat where
 vs:List (Nat×Value)
 d:List Dfr
 obs:List (Nat×Option Ob)
 W:List Nat
def nodupB:List Nat→Bool
 |[]=>true
 |b::l=> !ch b l&&nodupB l
def eqN:List Nat→List Nat→Bool
 |[],[]=>true
 |x::a,y::b=>Nat.beq x y&&eqN a b
 |_,_=>false
def xA:Code→Nat
 | .region id _ _=>id
 | .seq a _=>xA a
 | .block _ a=>xA a
 | .scope a=>xA a
 | .loop a=>xA a
 |_=>0
def JT (c:Cfg) (T:Tm) (o:Oper):Option (List Nat):=
 match o.op with
 | .load _ x| .store _ x _=>match ev c T x with
  |some (.pointer (some ⟨b,_,none⟩))=>some [b]
  |some (.func (.yield _) _ _)=>some []
  |_=>none
 | .call q=>match q.callee with
  | .builtin .min| .builtin .max| .builtin .cap=>some []
  | .builtin .len=>match q.args.toList with
   |[x]=>match ev c T x with
    |some (.map (some r))=>some [r]
    |_=>some []
   |_=>none
  |_=>none
 | .convert _ _ x=>match ev c T x with
  |some (.slice (some a) _ _)=>some [a.block]
  |_=>some []
 | .lookup _ x _ _| .mapUpdate _ x _ _| .insert _ x _ _| .mapEntry _ x _| .entryStore _ x _ _=>match ev c T x with
  |some (.map (some r))=>some [r]
  |_=>none
 | .makeMap .. | .move _| .assign _| .pick .. | .alloc _| .box .. | .build .. | .buildSlice .. | .makeSlice .. | .nilCheck _| .binOp .. | .unOp .. | .makeInterface .. | .makeFunc .. | .slice .. | .fieldAddr .. | .field .. | .indexAddr .. | .index .. | .extract .. =>some []
 |_=>none
def Qt (t t':PT Ob):List Nat→PT Ob
 |[]=>t
 |b::l=>Qt (t.put b (t'.get b)) t' l
def YP (t:PT Ob):List Nat→PT Ob
 |[]=>t
 |b::l=>YP (t.put b none) l
structure Rec where
 i:Nat
 o:Oper
 bef:Nat
 foot:Option (List Nat)
 wr:List Nat
 n:Nat
 n':Nat
def looks (ops:Array Oper) (o:Oper):List Nat:=Oper.looksAt ops o
def mI (d:Option Tmp) (l:List Nat):Bool:=match d with|some d=>l.any (Nat.beq d)|none=>false
def Yy (b:Nat) (l:List Nat):Bool:=l.any (Nat.beq b)
def meets (a b:List Nat):Bool:=a.any fun x=>Yy x b
def KP (w:List Nat):Option (List Nat)→Bool
 |none=> !w.isEmpty
 |some l=>meets w l
def QN (r:Rec) (b:Nat):Bool:=Nat.ble r.n b&&Nat.blt b r.n'
def jt (ops:Array Oper) (x y:Rec):Bool:=
 !mI x.o.dst (looks ops y.o)&& !mI y.o.dst (looks ops x.o)&& !(match x.o.dst,y.o.dst with|some a,some b=>Nat.beq a b|_,_=>false)&&
 !KP y.wr x.foot&& !KP x.wr y.foot&& !meets x.wr y.wr&& !y.wr.any (QN x)&&
 (match y.foot with|some l=> !l.any (QN x)|none=>true)
def Vy (n:Nat):Nat→List Nat
 |0=>[]
 |k+1=>n::Vy (n+1) k
def Kq (rs:List Rec) (o:Oper):Nat:=
 o.after.toList.foldl (fun s e=>if Region.binds .any e then s ||| 2 ^ e.on ||| (match rs.find? (fun r=>Nat.beq r.i e.on)with|some r=>r.bef|none=>0)else s) 0
def aI:Option (List Nat)→Bool
 |some ids=>ids.all (fun b=>Nat.blt b lim)
 |none=>true
def bk (foot:Option (List Nat)) (t:PT Ob) (hid:List Nat):PT Ob:=
 match foot with
 |some ids=>Qt .leaf t ids
 |none=>YP t hid
structure Dr where
 T:Tm
 h:Hp
 w:List Nat
def Qb (c:Cfg) (call:kW) (ops:Array Oper):Nat→List Oper→List Rec→Tm→Hp→List Nat→R Dr
 |_,[],rs,T,h,w=> .ok ⟨T,h,w⟩
 |i,o::l,rs,T,h,w=>
  let bef:=Kq rs o
  let un:=rs.filter fun r=> !bef.testBit r.i
  (R.of "drawD: edge" (if o.after.toList.all (fun e=> !Region.binds .any e||Nat.blt e.on i)then some ()else none)).bind fun _=>
  (R.of o.pos (jy ops T o)).bind fun b=>
  bif b then
   let foot:=JT c T o
   let M:PT Ob:=bk foot h.t (un.flatMap fun r=>Vy r.n (r.n' - r.n))
   (opD c call T ⟨M, h.n⟩ o).bind fun outs => match outs with
    |[x]=>
     let wr:=x.2.2.filter fun b=>Nat.blt b h.n
     let r:Rec:=⟨i,o,bef,foot,wr,h.n,x.2.1.n⟩
     bif un.all (fun q=>jt ops q r)&&Nat.blt x.2.1.n lim&&aI foot&&wr.all (fun b=>Nat.blt b lim)&&x.2.2.all (fun b=>Nat.blt b x.2.1.n)then
      Qb c call ops (i+1) l (r::rs) (xl T o.dst x.1) ⟨Qt h.t x.2.1.t (wr++Vy h.n (x.2.1.n - h.n)),x.2.1.n⟩ (wr++w)
     else .no ["drawD: meet",o.pos]
    |_=> .no ["drawD: outcomes",o.pos]
  else
   let r:Rec:=⟨i,o,bef,some [],[],h.n,h.n⟩
   bif un.all (fun q=>jt ops q r)then Qb c call ops (i+1) l (r::rs) (xl T o.dst undef) h w else .no ["drawD: meet",o.pos]
def cD (c:Cfg) (call:kW) (ro:Bool) (ops:Array Oper) (draw:Bool) (s:St):Vt:=
 bif draw then(Qb c call ops 0 ops.toList [] s.T s.h s.w).bind fun x=> .ok [(.normal,⟨x.T,x.h,x.w,s.d⟩)]else(JF c call ro ops ops.toList s).bind fun l=> .ok (l.map fun s=>(.normal,s))
def kt:List (Ex×St)→List St
 |[]=>[]
 |(.normal,s)::l=>s::kt l
 |_::l=>kt l
def jc:List (Ex×St)→List (Ex×St)
 |[]=>[]
 |(.normal,_)::l=>jc l
 |p::l=>p::jc l
def Qk (c:Cfg) (a:Code) (f:St→Vt) (s0:St):Nat→List St→Vt
 |0,_=> .no ["rounds"]
 |k+1,l=>(Qe l f).bind fun r=>match kt r with
  |[]=> .ok (jc r)
  |l'=>(Qk c a f s0 k l').bind fun r'=> .ok (jc r++r')
def ZC (id:Nat) (p:Ex×St):Ex×St:=match p.1 with
 | .exit i=>(bif Nat.beq i id then Ex.normal else .exit i,p.2)
 |e=>(e,p.2)
def upB (s:St) (l:List (Ex×St)):Bool:= !l.isEmpty&&l.all fun o=>Nat.ble s.h.n o.2.h.n&&s.w.all fun b=>ch b o.2.w
def lpD (ro:Bool) (lp:Code→St→Option (List (Ex×St))) (a:Code) (s:St):Option (List (Ex×St)):=bif ro then none else(lp a s).bind fun l=>bif upB s l then some l else none
def vx (c:Cfg) (call:kW) (lp:Code→St→Option (List (Ex×St))) (ro:Bool):Nat→Code→St→Vt
 |0,_,_=> .no ["fuel"]
 |k+1,q,s=>match q with
  | .skip=> .ok [(.normal,s)]
  | .label _=> .ok [(.normal,s)]
  | .region _ ops d=>cD c call ro ops d s
  | .seq a b=>(vx c call lp ro k a s).bind fun l=>VO l fun s=>vx c call lp ro k b s
  | .cond x a b=>match ev c s.T x with
   |some (.bool v)=>cond v (vx c call lp ro k a s) (vx c call lp ro k b s)
   |_=> .no ["cond"]
  | .block id a=>(vx c call lp ro k a s).bind fun l=> .ok (l.map (ZC id))
  | .loop a=>match lpD ro lp a s with
   |some l=> .ok l
   |none=>Qk c a (fun s=>vx c call lp ro k a s) s k [s]
  | .exit id=> .ok [(.exit id,s)]
  | .ret=> .ok [(.ret,s)]
  |_=> .no ["code"]
def Zl (c:Cfg) (T:Tm) (h:Hp):List ResultVar→Option (List Value)
 |[]=>some []
 | .tmp t::r=>bif Nat.blt t T.m then(T.get t).bind fun v=>(Zl c T h r).map fun l=>v::l else none
 | .cell a t::r=>bif Nat.blt a T.m then(T.get a).bind fun x=>(Vm c h t x).bind fun v=>(Zl c T h r).map fun l=>v::l else none
def Z8:List Value→Value
 |[v]=>v
 |l=> .tuple l.toArray
def Qi (T:PT Value) (i:Nat):List Value→PT Value
 |[]=>T
 |v::l=>Qi (T.put i (some v)) (i+1) l
def xT (c:Cfg) (call:kW):List Dfr→Hp→List Nat→R (List (Hp×List Nat))
 |[],h,w=> .ok [(h,w)]
 |_::l,h,w=> .no ["deferred"]
def Xv (c:Cfg) (call:kW) (fn:Func) (l:List (Ex×St)):R (List Out):=
 Qe l fun p=>match p.1 with
  | .exit _=> .no ["exit"]
  |_=>(xT c call p.2.d p.2.h p.2.w).bind fun hs=>Qe hs fun q=>(R.of "results" (Zl c p.2.T q.1 fn.results.toList)).bind fun vs=> .ok [(Z8 vs,q.1,q.2)]
def jP (c:Cfg):Nat→kW
 |0,_,_,_=> .no ["calls"]
 |k+1,.fn f,args,h=>match c.fns f with
  |some fn=>match fn.body with
   |some q=>bif Nat.ble args.length fn.ntmps&&Nat.blt fn.ntmps lim then R.ctx fn.name ((vx c (jP c k) (c.lops f) false 100000 q ⟨⟨Qi .leaf 0 args,fn.ntmps⟩,h,[],[]⟩).bind fun l=>(Xv c (jP c k) fn l).bind fun outs=> .ok outs)else .no ["arguments"]
   |none=> .no [fn.name, "no body"]
  |none=> .no ["no function"]
 |k+1,_,args,h=> .no ["no function"]
end
section
open Go
abbrev Emb:=Nat→Option (Nat×Nat)
def gi:Value→Bool
 | .pointer _| .slice _ _ _| .map _| .chan _| .func _ _ _| .nilFunc| .iface _ _| .nilIface=>true
 |_=>false
inductive Jo where
 |none
 |sl (off n sz:Nat)
 |ptr (off:Nat)
class Eta where
 v:Nat→Value
 r:Nat→Jo:=fun _=> .none
 l:Nat→List Value:=fun _=>[]
 b:Nat:=0
 w:Option World:=none
def Cells [Eta] (w:World) (k:Nat) (cs:Array Value):Prop:= ∃el fr,w.heap[k]? =some (.cells cs el fr)∧(Eta.b≤k→ ∀j,j<cs.size→ ¬(fr.1≤j∧j<fr.2))
def Room [Eta] (w:World) (k o c sz:Nat):Prop:= ∃cs,Cells w k cs∧o+c*sz≤cs.size
def fZ:Value→Bool
 | .int _ _| .string _=>true
 |v=>gi v
def qp:Value→Bool
 | .int _ _| .string _=>true
 |_=>false
def yg [Eta] (ρ:Emb) (w:World) (d:Jo) (b:Nat) (y:Value):Prop:=
 match d with
 | .sl off n sz=>(∃k dd c,ρ b=some (k,dd)∧n≤c∧Room w k (off+dd) c sz∧y= .slice (some ⟨k,off+dd,none⟩) n c)∨(n=0∧ ∃a:Option Addr,y= .slice a 0 0)
 | .ptr off=> ∃k dd,ρ b=some (k,dd)∧y= .pointer (some ⟨k,off+dd,none⟩)
 | .none=>False
inductive Told (W:World):Value→Value→Prop
 |int (k:IntKind) (n:Int):Told W (.int k n) (.int k n)
 |string (s:ByteArray):Told W (.string s) (.string s)
 |bool (b:Bool):Told W (.bool b) (.bool b)
 | sl (z n : Nat) (cs : List Value) (k d c : Nat) (cs' : Array Value) (el : TypeId) (fr : Nat × Nat) (hk : W.heap[k]? = some (.cells cs' el fr)) (hn : n ≤ c) (hr : d + c * z ≤ cs'.size) (hl : d + cs.length ≤ cs'.size)
   (h: ∀(i:Nat) x y,cs[i]? =some x→cs'[i+d]? =some y→Told W x y):Told W (.func (.yield z) ⟨[.int .i64 n]⟩ ⟨cs⟩) (.slice (some ⟨k,d,none⟩) n c)
 |nil (z:Nat) (a:Option Addr) (k:Nat) (cs':Array Value) (el:TypeId) (fr:Nat×Nat) (hk:W.heap[k]? =some (.cells cs' el fr)):Told W (.func (.yield z) ⟨[.int .i64 0]⟩ ⟨[]⟩) (.slice a 0 0)
 | ptr (z : Nat) (cs : List Value) (k d : Nat) (cs' : Array Value) (el : TypeId) (fr : Nat × Nat) (hk : W.heap[k]? = some (.cells cs' el fr)) (hl : d + cs.length ≤ cs'.size)
   (h: ∀(i:Nat) x y,cs[i]? =some x→cs'[i+d]? =some y→Told W x y):Told W (.func (.yield z) ⟨[.bool true]⟩ ⟨cs⟩) (.pointer (some ⟨k,d,none⟩))
def Zc [Eta] (x y:Value):Prop:= ∃W,Eta.w=some W∧Told W x y
def Old (W w:World):Prop:= ∀(k:Nat) cs el fr,W.heap[k]? =some (.cells cs el fr)→w.heap[k]? =some (.cells cs el fr)
inductive VR [Eta] (ρ:Emb) (w:World):Value→Value→Prop
 |bool (b:Bool):VR ρ w (.bool b) (.bool b)
 |int (k:IntKind) (n:Int):VR ρ w (.int k n) (.int k n)
 |string (s:ByteArray):VR ρ w (.string s) (.string s)
 |nilp:VR ρ w (.pointer none) (.pointer none)
 |ptr (b o k d:Nat) (hb:ρ b=some (k,d)):VR ρ w (.pointer (some ⟨b,o,none⟩)) (.pointer (some ⟨k,o+d,none⟩))
 |nils:VR ρ w (.slice none 0 0) (.slice none 0 0)
 |sl (b o n sz c k d:Nat) (hb:ρ b=some (k,d)) (h:n≤c) (hr:Room w k (o+d) c sz):VR ρ w (.slice (some ⟨b,o,none⟩) n sz) (.slice (some ⟨k,o+d,none⟩) n c)
 |sl0 (b o sz:Nat) (a:Option Addr):VR ρ w (.slice (some ⟨b,o,none⟩) 0 sz) (.slice a 0 0)
 |nilm:VR ρ w (.map none) (.map none)
 |map (r k d:Nat) (hb:ρ r=some (k,d)):VR ρ w (.map (some r)) (.map (some k))
 |told (z:Nat) (n:Value) (cs:List Value) (y:Value) (h:Zc (.func (.yield z) ⟨[n]⟩ ⟨cs⟩) y):VR ρ w (.func (.yield z) ⟨[n]⟩ ⟨cs⟩) y
 | func (fn : Fn) (hf : ∀ l, fn ≠ .yield l) (xs ys xs' ys' : Array Value) (h1 : xs.toList.length = xs'.toList.length) (h2 : ∀ (i : Nat) x y, xs.toList[i]? = some x → xs'.toList[i]? = some y → VR ρ w x y)
   (h3:ys.toList.length=ys'.toList.length) (h4: ∀(i:Nat) x y,ys.toList[i]? =some x→ys'.toList[i]? =some y→VR ρ w x y):VR ρ w (.func fn xs ys) (.func fn xs' ys')
 |nilFunc:VR ρ w .nilFunc .nilFunc
 |nilIface:VR ρ w .nilIface .nilIface
 |iface (t:TypeId) (x y:Value) (h:VR ρ w x y):VR ρ w (.iface t x) (.iface t y)
 |agg (xs ys:Array Value) (h1:xs.toList.length=ys.toList.length) (h2: ∀(i:Nat) x y,xs.toList[i]? =some x→ys.toList[i]? =some y→VR ρ w x y):VR ρ w (.agg xs) (.agg ys)
 |tok (re im:Nat) (y:Value) (e:Eta.v re=y) (h:fZ y=true):VR ρ w (.complex .f32 re im) y
 |ref (m b:Nat) (y:Value) (h:yg ρ w (Eta.r m) b y):VR ρ w (.complex .f64 m b) y
 |tuple (xs ys:Array Value) (h1:xs.toList.length=ys.toList.length) (h2: ∀(i:Nat) x y,xs.toList[i]? =some x→ys.toList[i]? =some y→VR ρ w x y):VR ρ w (.tuple xs) (.tuple ys)
variable [Eta]
structure VRL (ρ:Emb) (w:World) (xs ys:List Value):Prop where
 len:xs.length=ys.length
 at_: ∀(i:Nat) x y,xs[i]? =some x→ys[i]? =some y→VR ρ w x y
theorem VRL.nil {ρ:Emb} {w:World}:VRL ρ w [] []:=⟨rfl,fun i x y h=>by simp at h⟩
theorem VRL.cons {ρ:Emb} {w:World} {x y:Value} {xs ys:List Value} (h:VR ρ w x y) (t:VRL ρ w xs ys):VRL ρ w (x::xs) (y::ys):=
 ⟨by simp [t.len], fun i u v hu hv => by
  cases i with
  |zero=>simp at hu hv;subst hu;subst hv;exact h
  |succ i=>simp at hu hv;exact t.at_ i u v hu hv⟩
theorem VRL.head {ρ:Emb} {w:World} {x y:Value} {xs ys:List Value} (h:VRL ρ w (x::xs) (y::ys)):VR ρ w x y:=h.at_ 0 x y rfl rfl
theorem VRL.tail {ρ:Emb} {w:World} {x y:Value} {xs ys:List Value} (h:VRL ρ w (x::xs) (y::ys)):VRL ρ w xs ys:=
 ⟨by simpa using h.len,fun i u v hu hv=>h.at_ (i+1) u v (by simpa using hu) (by simpa using hv)⟩
theorem VRL.zp {ρ:Emb} {w:World} {x:Value} {xs ys:List Value} (h:VRL ρ w (x::xs) ys): ∃y ys',ys=y::ys'∧VR ρ w x y∧VRL ρ w xs ys':=by
 cases ys with
 |nil=>have:=h.len;simp at this
 |cons y ys=>exact⟨y,ys,rfl,h.head,h.tail⟩
theorem VRL.kg {ρ:Emb} {w:World} {ys:List Value} (h:VRL ρ w [] ys):ys=[]:=by
 cases ys with
 |nil=>rfl
 |cons y ys=>have:=h.len;simp at this
theorem VRL.append {ρ:Emb} {w:World} {xs ys us vs:List Value} (h:VRL ρ w xs ys) (k:VRL ρ w us vs):VRL ρ w (xs++us) (ys++vs):=
 ⟨by simp [h.len, k.len], fun i x y hx hy => by
  by_cases hi:i<xs.length
  ·rw [BC hi] at hx
   rw[BC (by rw[←h.len];exact hi)]at hy
   exact h.at_ i x y hx hy
  ·rw [By (by omega)] at hx
   rw[By (by rw[←h.len];omega),←h.len]at hy
   exact k.at_ _ x y hx hy⟩
theorem VRL.take {ρ:Emb} {w:World} {xs ys:List Value} (h:VRL ρ w xs ys) (n:Nat):VRL ρ w (xs.take n) (ys.take n):=
 ⟨by simp [h.len], fun i x y hx hy => by
  rw[BB]at hx hy
  split at hx
  ·rename_i hi;rw[Ax hi]at hy;exact h.at_ i x y hx hy
  ·cases hx⟩
theorem VRL.drop {ρ:Emb} {w:World} {xs ys:List Value} (h:VRL ρ w xs ys) (n:Nat):VRL ρ w (xs.drop n) (ys.drop n):=
 ⟨by simp [h.len], fun i x y hx hy => by
  rw[Br]at hx hy
  exact h.at_ _ x y hx hy⟩
theorem VRL.get {ρ:Emb} {w:World} {xs ys:List Value} (h:VRL ρ w xs ys) {i:Nat} {x:Value} (hx:xs[i]? =some x): ∃y,ys[i]? =some y∧VR ρ w x y:=by
 have hi:i<xs.length:=(AH.1 hx).1
 have hy:ys[i]? =some (ys[i]'(by rw[←h.len];exact hi)):=Au _
 exact⟨_,hy,h.at_ i x _ hx hy⟩
structure Grow (w w':World):Prop where
 size:w.heap.size≤w'.heap.size
 os:w'.os=w.os
 tape:w'.tape=w.tape
 output:w'.output=w.output
 form: ∀(k:Nat) cs el fr,w.heap[k]? =some (.cells cs el fr)→ ∃cs',w'.heap[k]? =some (.cells cs' el fr)∧cs'.size=cs.size
theorem Grow.refl (w:World):Grow w w:=⟨Aw _,rfl,rfl,rfl,fun k cs el fr h=>⟨cs,h,rfl⟩⟩
theorem Grow.trans {a b c:World} (h:Grow a b) (k:Grow b c):Grow a c:=
 ⟨Bd h.size k.size, k.os.trans h.os, k.tape.trans h.tape, k.output.trans h.output, fun i cs el fr hi => by
  obtain⟨cs1,h1,e1⟩:=h.form i cs el fr hi
  obtain⟨cs2,h2,e2⟩:=k.form i cs1 el fr h1
  exact⟨cs2,h2,e2.trans e1⟩⟩
theorem Room.grow {w w':World} {k o c sz:Nat} (h:Room w k o c sz) (g:Grow w w'):Room w' k o c sz:=by
 obtain⟨cs,⟨el,fr,h1,h2⟩,h3⟩:=h
 obtain⟨cs',h1',e⟩:=g.form k cs el fr h1
 exact⟨cs',⟨el,fr,h1',fun hb j hj=>h2 hb j (by omega)⟩,by omega⟩
theorem yg.grow {ρ:Emb} {w w':World} {d:Jo} {b:Nat} {y:Value} (h:yg ρ w d b y) (g:Grow w w'):yg ρ w' d b y:=by
 cases d with
 |none=>exact h
 |sl off n sz=>
  rcases h with⟨k,dd,c,h1,h2,h3,h4⟩|h
  ·exact .inl ⟨k,dd,c,h1,h2,h3.grow g,h4⟩
  ·exact .inr h
 |ptr off=>exact h
theorem VR.grow {ρ:Emb} {w w':World} {x y:Value} (h:VR ρ w x y) (g:Grow w w'):VR ρ w' x y:=by
 induction h with
 |bool b=>exact .bool b
 |int k n=>exact .int k n
 |string s=>exact .string s
 |nilp=>exact .nilp
 |ptr b o k d hb=>exact .ptr b o k d hb
 |nils=>exact .nils
 |sl b o n sz c k d hb h hr=>exact .sl b o n sz c k d hb h (hr.grow g)
 |sl0 b o sz a=>exact .sl0 b o sz a
 |nilm=>exact .nilm
 |map r k d hb=>exact .map r k d hb
 |told z n cs y h=>exact .told z n cs y h
 |func fn hf xs ys xs' ys' h1 h2 h3 h4 i2 i4=>exact .func fn hf xs ys xs' ys' h1 i2 h3 i4
 |nilFunc=>exact .nilFunc
 |nilIface=>exact .nilIface
 |iface t x y h ih=>exact .iface t x y ih
 |agg xs ys h1 h2 i2=>exact .agg xs ys h1 i2
 |tok re im y e h=>exact .tok re im y e h
 |ref m b y h=>exact .ref m b y (yg.grow h g)
 |tuple xs ys h1 h2 i2=>exact .tuple xs ys h1 i2
theorem VRL.grow {ρ:Emb} {w w':World} {xs ys:List Value} (h:VRL ρ w xs ys) (g:Grow w w'):VRL ρ w' xs ys:=
 ⟨h.len,fun i x y hx hy=>(h.at_ i x y hx hy).grow g⟩
def Emb.le (ρ ρ':Emb):Prop:= ∀b x,ρ b=some x→ρ' b=some x
theorem Emb.le.refl (ρ:Emb):ρ.le ρ:=fun _ _ h=>h
theorem Emb.le.trans {a b c:Emb} (h:a.le b) (k:b.le c):a.le c:=fun i x hi=>k i x (h i x hi)
theorem yg.le {ρ ρ':Emb} {w:World} {d:Jo} {b:Nat} {y:Value} (h:yg ρ w d b y) (g:ρ.le ρ'):yg ρ' w d b y:=by
 cases d with
 |none=>exact h
 |sl off n sz=>
  rcases h with⟨k,dd,c,h1,h2⟩|h
  ·exact .inl ⟨k,dd,c,g _ _ h1,h2⟩
  ·exact .inr h
 |ptr off=>
  obtain⟨k,dd,h1,h2⟩:=h
  exact⟨k,dd,g _ _ h1,h2⟩
theorem VR.le {ρ ρ':Emb} {w:World} {x y:Value} (h:VR ρ w x y) (g:ρ.le ρ'):VR ρ' w x y:=by
 induction h with
 |bool b=>exact .bool b
 |int k n=>exact .int k n
 |string s=>exact .string s
 |nilp=>exact .nilp
 |ptr b o k d hb=>exact .ptr b o k d (g _ _ hb)
 |nils=>exact .nils
 |sl b o n sz c k d hb h hr=>exact .sl b o n sz c k d (g _ _ hb) h hr
 |sl0 b o sz a=>exact .sl0 b o sz a
 |nilm=>exact .nilm
 |map r k d hb=>exact .map r k d (g _ _ hb)
 |told z n cs y h=>exact .told z n cs y h
 |func fn hf xs ys xs' ys' h1 h2 h3 h4 i2 i4=>exact .func fn hf xs ys xs' ys' h1 i2 h3 i4
 |nilFunc=>exact .nilFunc
 |nilIface=>exact .nilIface
 |iface t x y h ih=>exact .iface t x y ih
 |agg xs ys h1 h2 i2=>exact .agg xs ys h1 i2
 |tok re im y e h=>exact .tok re im y e h
 |ref m b y h=>exact .ref m b y (yg.le h g)
 |tuple xs ys h1 h2 i2=>exact .tuple xs ys h1 i2
theorem VRL.le {ρ ρ':Emb} {w:World} {xs ys:List Value} (h:VRL ρ w xs ys) (g:ρ.le ρ'):VRL ρ' w xs ys:=
 ⟨h.len,fun i x y hx hy=>(h.at_ i x y hx hy).le g⟩
def TV (ρ:Emb) (w:World) (o:Option Value) (y:Value):Prop:= ∀v,o=some v→VR ρ w v y
theorem TV.le {ρ ρ':Emb} {w:World} {o:Option Value} {y:Value} (h:TV ρ w o y) (g:ρ.le ρ'):TV ρ' w o y:=fun v hv=>(h v hv).le g
theorem TV.grow {ρ:Emb} {w w':World} {o:Option Value} {y:Value} (h:TV ρ w o y) (g:Grow w w'):TV ρ w' o y:=fun v hv=>(h v hv).grow g
theorem TV.some {ρ:Emb} {w:World} {v y:Value} (h:VR ρ w v y):TV ρ w (some v) y:=fun u hu=>by cases hu;exact h
def gL (busy:Bool) (fn:FuncId) (tmps:Array Value) (ps:List Tmp) (assign body:Code) (kd:Nat):Obj:= .loop {state:=cond busy .busy .ready,pending:=none,fn,tmps,params:=ps.toArray,assign,body,defers:=kd}
def OR (ρ:Emb) (w:World) (k d:Nat):Ob→Prop
 | .cells cs=> ∃cs',Cells w k cs'∧cs.length+d≤cs'.size∧ ∀(j:Nat) x y,cs[j]? =some x→cs'[j+d]? =some y→VR ρ w x y
 | .map es clock=> ∃es',w.heap[k]? =some (.map es' clock)∧es.length=es'.size∧ ∀(j:Nat) e e',es[j]? =some e→es'[j]? =some e'→e'.key=e.1∧VR ρ w e.2.1 e'.val∧e'.born=e.2.2
 | .sit s pos=>d=0∧w.heap[k]? =some (.stringIter s pos)
 | .mit m since seen last=> ∃m' yq,(m=none∧m'=none∨ ∃r k' d',m=some r∧ρ r=some (k',d')∧m'=some k')∧(∀b,b∈yq↔b∈seen)∧yq.back? =seen.head? ∧d=0∧w.heap[k]? =some (.mapIter m' since yq last)
 | .loop busy t m ps assign body db=> ∃fn tmps kd dd,d=0∧w.heap[k]? =some (gL busy fn tmps ps assign body kd)∧m=tmps.size∧(∀j,j<m→TV ρ w (t.get j) (tmps.getD j undef))∧ρ db=some (kd,dd)
 | .dfb=>d=0∧w.heap[k]? =some (.deferred (some []))
 | .row j=>(Eta.l j).all qp=true∧ ∃cs',Cells w k cs'∧(Eta.l j).length+d≤cs'.size∧ ∀(i:Nat) x y,(Eta.l j)[i]? =some x→cs'[i+d]? =some y→VR ρ w x y
structure Rel (base n0:Nat) (ρ:Emb) (H:Nat→Option Ob) (w:World):Prop where
 at_: ∀b o,H b=some o→ ∃k d,ρ b=some (k,d)∧OR ρ w k d o
 inj: ∀b b' k d d',base≤k→H b≠none→H b'≠none→ρ b=some (k,d)→ρ b'=some (k,d')→b=b'
 high: ∀b k d,n0≤b→ρ b=some (k,d)→base≤k
 low: ∀b k d,ρ b=some (k,d)→k<w.heap.size
 sz:Eta.b≤base∧base≤w.heap.size
theorem OR.le {ρ ρ':Emb} {w:World} {k d:Nat} {o:Ob} (h:OR ρ w k d o) (g:ρ.le ρ'):OR ρ' w k d o:=by
 cases o with
 |cells cs=>obtain⟨cs',h1,h2,h3⟩:=h;exact⟨cs',h1,h2,fun j x y hx hy=>(h3 j x y hx hy).le g⟩
 |map es clock=>obtain⟨es',h1,h2,h3⟩:=h;exact⟨es',h1,h2,fun j e e' he he'=>⟨(h3 j e e' he he').1,((h3 j e e' he he').2.1).le g,(h3 j e e' he he').2.2⟩⟩
 |sit s pos=>exact h
 |loop busy t m ps assign body db=>
  obtain⟨fn,tmps,kd,dd,h1,h2,h3,h4,h5⟩:=h
  exact⟨fn,tmps,kd,dd,h1,h2,h3,fun j hj=>(h4 j hj).le g,g _ _ h5⟩
 |dfb=>exact h
 |row j=>obtain⟨h0,cs',h1,h2,h3⟩:=h;exact⟨h0,cs',h1,h2,fun i x y hx hy=>(h3 i x y hx hy).le g⟩
 |mit m since seen last=>
  obtain⟨m',yq,h1,h2⟩:=h
  refine⟨m',yq,?_,h2⟩
  rcases h1 with h1|⟨r,k',d',a1,a2,a3⟩
  ·exact .inl h1
  ·exact .inr ⟨r,k',d',a1,g _ _ a2,a3⟩
theorem OR.grow {ρ:Emb} {w w':World} {k d:Nat} {o:Ob} (h:OR ρ w k d o) (g:Grow w w') (e:w'.heap[k]? =w.heap[k]?):OR ρ w' k d o:=by
 cases o with
 |cells cs=>
  obtain⟨cs',⟨el,fr,h1,h4⟩,h2,h3⟩:=h
  exact⟨cs',⟨el,fr,e.trans h1,h4⟩,h2,fun j x y hx hy=>(h3 j x y hx hy).grow g⟩
 |map es clock=>obtain⟨es',h1,h2,h3⟩:=h;exact⟨es',e.trans h1,h2,fun j e e' he he'=>⟨(h3 j e e' he he').1,((h3 j e e' he he').2.1).grow g,(h3 j e e' he he').2.2⟩⟩
 |sit s pos=>exact⟨h.1,e.trans h.2⟩
 |loop busy t m ps assign body db=>
  obtain⟨fn,tmps,kd,dd,h1,h2,h3,h4,h5⟩:=h
  exact⟨fn,tmps,kd,dd,h1,e.trans h2,h3,fun j hj=>(h4 j hj).grow g,h5⟩
 |dfb=>exact⟨h.1,e.trans h.2⟩
 |row j=>
  obtain⟨h0,cs',⟨el,fr,h1,h4⟩,h2,h3⟩:=h
  exact⟨h0,cs',⟨el,fr,e.trans h1,h4⟩,h2,fun i x y hx hy=>(h3 i x y hx hy).grow g⟩
 |mit m since seen last=>obtain⟨m',yq,h1,h2,h2b,h3,h4⟩:=h;exact⟨m',yq,h1,h2,h2b,h3,e.trans h4⟩
theorem Rel.forget {base n0:Nat} {ρ:Emb} {H H':Nat→Option Ob} {w:World} (h:Rel base n0 ρ H w) (hs: ∀b o,H' b=some o→H b=some o):Rel base n0 ρ H' w:=
 have hn: ∀b,H' b≠none→H b≠none:=fun b hb=>by
  cases he:H' b with
  |none=>exact absurd he hb
  |some o=>rw[hs b o he];simp
 ⟨fun b o hb=>h.at_ b o (hs b o hb),fun b b' k d d' z hb hb'=>h.inj b b' k d d' z (hn b hb) (hn b' hb'),h.high,h.low,h.sz⟩
structure Ext (base n0:Nat) (ρ:Emb) (H:Nat→Option Ob) (n:Nat) (w:World) (ρ':Emb) (H':Nat→Option Ob) (n':Nat) (W:List Nat) (w':World):Prop where
 le:ρ.le ρ'
 dom: ∀b x,ρ' b=some x→ρ b=some x∨(n≤b∧b<n')
 nn:n≤n'
 rel:Rel base n0 ρ' H' w'
 grow:Grow w w'
 frame: ∀k,k<w.heap.size→(∀b∈W,H b≠none→ ∀d,ρ b≠some (k,d))→w'.heap[k]? =w.heap[k]?
 new: ∀b k d,n≤b→b<n'→H' b≠none→ρ' b=some (k,d)→w.heap.size≤k∨ ∃b0∈W,H b0≠none∧ ∃d0,ρ b0=some (k,d0)
 old: ∀b,b<n∨n'≤b→H' b=H b∨b∈W∧H b≠none
 wr: ∀b∈W,n0≤b
theorem Ext.refl {base n0:Nat} {ρ:Emb} {H:Nat→Option Ob} {n:Nat} {w:World} (h:Rel base n0 ρ H w):Ext base n0 ρ H n w ρ H n [] w:=
 ⟨.refl ρ,fun b x hb=> .inl hb,Aw _,h,.refl w,fun k hk hw=>rfl,fun b k d h1 h2=>by omega,fun b hb=> .inl rfl,fun b hb=>by cases hb⟩
def kX (ρ:Emb) (n N:Nat):Prop:= ∀b,n≤b→b<N→ρ b=none
theorem Ext.trans {base n0:Nat} {ρ ρ1 ρ2:Emb} {H H1 H2:Nat→Option Ob} {n n1 n2:Nat} {W1 W2:List Nat} {w w1 w2:World} (hf:kX ρ n n2) (hr:Rel base n0 ρ H w)
  (h:Ext base n0 ρ H n w ρ1 H1 n1 W1 w1) (k:Ext base n0 ρ1 H1 n1 w1 ρ2 H2 n2 W2 w2):Ext base n0 ρ H n w ρ2 H2 n2 (W2++W1) w2:=by
 have hn: ∀b,n≤b→b<n2→H b=none:=fun b h1 h2=>by
  cases e:H b with
  |none=>rfl
  |some o=>obtain⟨k,d,hk,_⟩:=hr.at_ b o e;rw[hf b h1 h2]at hk;cases hk
 have hnn:=h.nn
 have knn:=k.nn
 refine⟨h.le.trans k.le,fun b x hb=> ?_,by omega,k.rel,h.grow.trans k.grow,fun j hj hw=> ?_,fun b j d hb1 hb2 hb3 hb4=> ?_,fun b hb=> ?_,fun b hb=> ?_⟩
 ·rcases k.dom b x hb with h1 | h1
  ·rcases h.dom b x h1 with h2 | h2
   ·exact .inl h2
   ·exact .inr (by omega)
  ·exact .inr (by omega)
 ·have e1 := h.frame j hj (fun b hb => hw b (by simp [hb]))
  refine(k.frame j (Co hj h.grow.size) (fun b hb hlive d hd=> ?_)).trans e1
  rcases h.dom b _ hd with h1|h1
  ·have hbn : ¬ (n ≤ b ∧ b < n2) := fun hc => by rw [hf b hc.1 hc.2] at h1; cases h1
   rcases h.old b (by omega)with h2|h2
   ·rw [h2] at hlive
    exact hw b (by simp[hb]) hlive d h1
   ·exact hw b (by simp[hb]) h2.2 d h1
  ·rcases h.new b j d h1.1 h1.2 hlive hd with h2 | ⟨b0, h2, h3, d0, h4⟩
   ·omega
   ·exact hw b0 (by simp[h2]) h3 d0 h4
 ·by_cases hlt : b < n1
  ·rcases k.old b (.inl hlt) with h1 | h1
   ·have hne : H1 b ≠ none := by rw [← h1]; exact hb3
    cases e:H1 b with
    |none=>exact absurd e hne
    |some o=>
     obtain⟨k',d',hk',_⟩:=h.rel.at_ b o e
     have:=k.le b _ hk'
     rw[hb4]at this
     obtain⟨rfl,rfl⟩:=Prod.mk.inj (A9 this)
     rcases h.new b _ _ hb1 hlt hne hk' with h2|⟨b0,h2,h3,d0,h4⟩
     ·exact .inl h2
     ·exact .inr ⟨b0,by simp[h2],h3,d0,h4⟩
   ·cases e : H1 b with
    |none=>exact absurd e h1.2
    |some o=>
     obtain⟨k',d',hk',_⟩:=h.rel.at_ b o e
     have:=k.le b _ hk'
     rw[hb4]at this
     obtain⟨rfl,rfl⟩:=Prod.mk.inj (A9 this)
     rcases h.new b _ _ hb1 hlt h1.2 hk' with h2|⟨b0,h2,h3,d0,h4⟩
     ·exact .inl h2
     ·exact .inr ⟨b0,by simp[h2],h3,d0,h4⟩
  ·rcases k.new b j d (by omega) hb2 hb3 hb4 with h2 | ⟨b0, h2, h3, d0, h4⟩
   ·have:=h.grow.size;exact .inl (by omega)
   ·rcases h.dom b0 _ h4 with h5 | h5
    ·have hbn : ¬ (n ≤ b0 ∧ b0 < n2) := fun hc => by rw [hf b0 hc.1 hc.2] at h5; cases h5
     rcases h.old b0 (by omega)with h6|h6
     ·rw [h6] at h3
      exact .inr ⟨b0,by simp[h2],h3,d0,h5⟩
     ·exact .inr ⟨b0,by simp[h2],h6.2,d0,h5⟩
    ·rcases h.new b0 j d0 h5.1 h5.2 h3 h4 with h6 | ⟨b1, h6, h7, d1, h8⟩
     ·exact .inl h6
     ·exact .inr ⟨b1,by simp[h6],h7,d1,h8⟩
 ·rcases k.old b (by omega) with h1 | h1
  ·rcases h.old b (by omega) with h2 | h2
   ·exact .inl (h1.trans h2)
   ·exact .inr ⟨by simp[h2.1],h2.2⟩
  ·rcases h.old b (by omega) with h2 | h2
   ·rw[h2]at h1;exact .inr ⟨by simp[h1.1],h1.2⟩
   ·exact .inr ⟨by simp[h2.1],h2.2⟩
 ·rcases AT.1 hb with h1 | h1
  ·exact k.wr b h1
  ·exact h.wr b h1
theorem Ext.weaken {base n0:Nat} {ρ ρ':Emb} {H H':Nat→Option Ob} {n n':Nat} {W W':List Nat} {w w':World} (h:Ext base n0 ρ H n w ρ' H' n' W w') (hs: ∀b∈W,b∈W') (hw: ∀b∈W',n0≤b):Ext base n0 ρ H n w ρ' H' n' W' w':=
 ⟨h.le, h.dom, h.nn, h.rel, h.grow, fun k hk hf => h.frame k hk (fun b hb => hf b (hs b hb)), fun b k d h1 h2 h3 h4 => (h.new b k d h1 h2 h3 h4).imp id (fun ⟨b0, a1, a2, a3⟩ => ⟨b0, hs b0 a1, a2, a3⟩),
  fun b hb=>(h.old b hb).imp id (fun h=>⟨hs b h.1,h.2⟩),hw⟩
theorem Ext.low {base n0:Nat} {ρ ρ':Emb} {H H':Nat→Option Ob} {n n':Nat} {W:List Nat} {w w':World} (hr:Rel base n0 ρ H w) (h:Ext base n0 ρ H n w ρ' H' n' W w'):RowKit.Below base w w':=
 ⟨h.grow.os,h.grow.tape,h.grow.output,h.grow.size,fun k hk=>h.frame k (by have:=hr.sz;omega) (fun b hb hl d hd=>by have:=hr.high b k d (h.wr b hb) hd;omega)⟩
end
section
open Go
variable [Eta]
theorem dH {n m:Nat} (h:n≠m):Nat.beq n m=false:=by
 cases e:Nat.beq n m with
 |false=>rfl
 |true=>exact absurd (Am e) h
theorem kQ {n m:Nat} (h:Nat.blt n m=true):n<m:=by rwa [AB]at h
theorem yl {n m:Nat} (h:Nat.blt n m=false): ¬n<m:=fun k=>by rw[←Nat.blt_eq,h]at k;cases k
theorem kU {n m:Nat} (h:Nat.ble n m=true):n≤m:=AW h
theorem wu {n m:Nat} (h:Nat.beq n m=true):n=m:=Am h
theorem PT.get_set_same {α:Type}: ∀(k:Nat) (t:PT α) (n:Nat) (x:Option α),n+1<2 ^ k→(PT.set k t n x).get n=x
 |0,t,n,x,h=>by simp at h
 |k+1,.leaf,n,x,h=>by
  unfold PT.set
  cases e:Nat.beq n 0 with
  |true=>simp[PT.get,e]
  |false=>
   have hn:n≠0:=fun h=>by subst h;simp at e
   have hp:2 ^ (k+1)=2 ^ k*2:=CD ..
   cases e2:Nat.beq (n % 2) 1 with
   |true=>
    have:n % 2=1:=Am e2
    simp only[Ah,Ai,PT.get,e,e2]
    exact PT.get_set_same k .leaf _ x (by omega)
   |false=>
    have:n % 2≠1:=Bc e2
    simp only[Ah,Ai,PT.get,e,e2]
    exact PT.get_set_same k .leaf _ x (by omega)
 |k+1,.node v l r,n,x,h=>by
  unfold PT.set
  cases e:Nat.beq n 0 with
  |true=>simp[PT.get,e]
  |false=>
   have hn:n≠0:=fun h=>by subst h;simp at e
   have hp:2 ^ (k+1)=2 ^ k*2:=CD ..
   cases e2:Nat.beq (n % 2) 1 with
   |true=>
    have:n % 2=1:=Am e2
    simp only[Ah,Ai,PT.get,e,e2]
    exact PT.get_set_same k l _ x (by omega)
   |false=>
    have:n % 2≠1:=Bc e2
    simp only[Ah,Ai,PT.get,e,e2]
    exact PT.get_set_same k r _ x (by omega)
theorem PT.yN {α:Type} (n:Nat):(PT.leaf:PT α).get n=none:=rfl
theorem PT.get_set_other {α:Type}: ∀(k:Nat) (t:PT α) (n m:Nat) (x:Option α),m≠n→(PT.set k t n x).get m=t.get m
 |0,t,n,m,x,h=>rfl
 |k+1,.leaf,n,m,x,h=>by
  unfold PT.set
  cases e:Nat.beq n 0 with
  |true=>
   have hn:n=0:=Am e
   have em:Nat.beq m 0=false:=dH (by omega)
   simp[PT.get,em]
  |false=>
   have hn:n≠0:=Bc e
   cases e2:Nat.beq (n % 2) 1 with
   |true=>
    have h2:n % 2=1:=Am e2
    simp only[Ah,Ai,PT.get]
    cases em:Nat.beq m 0 with
    |true=>rfl
    |false=>
     cases em2:Nat.beq (m % 2) 1 with
     |true=>
      have:m % 2=1:=Am em2
      exact(PT.get_set_other k .leaf (n / 2) (m / 2) x (by omega)).trans rfl
     |false=>rfl
   |false=>
    have h2:n % 2≠1:=Bc e2
    simp only[Ah,Ai,PT.get]
    cases em:Nat.beq m 0 with
    |true=>rfl
    |false=>
     have:m≠0:=Bc em
     cases em2:Nat.beq (m % 2) 1 with
     |true=>rfl
     |false=>
      have:m % 2≠1:=Bc em2
      exact(PT.get_set_other k .leaf (n / 2 - 1) (m / 2 - 1) x (by omega)).trans rfl
 |k+1,.node v l r,n,m,x,h=>by
  unfold PT.set
  cases e:Nat.beq n 0 with
  |true=>
   have hn:n=0:=Am e
   have em:Nat.beq m 0=false:=dH (by omega)
   simp[PT.get,em]
  |false=>
   have hn:n≠0:=Bc e
   cases e2:Nat.beq (n % 2) 1 with
   |true=>
    have h2:n % 2=1:=Am e2
    simp only[Ah,Ai,PT.get]
    cases em:Nat.beq m 0 with
    |true=>rfl
    |false=>
     cases em2:Nat.beq (m % 2) 1 with
     |true=>
      have:m % 2=1:=Am em2
      exact PT.get_set_other k l (n / 2) (m / 2) x (by omega)
     |false=>rfl
   |false=>
    have h2:n % 2≠1:=Bc e2
    simp only[Ah,Ai,PT.get]
    cases em:Nat.beq m 0 with
    |true=>rfl
    |false=>
     have:m≠0:=Bc em
     cases em2:Nat.beq (m % 2) 1 with
     |true=>rfl
     |false=>
      have:m % 2≠1:=Bc em2
      exact PT.get_set_other k r (n / 2 - 1) (m / 2 - 1) x (by omega)
theorem PT.zx {α:Type} (t:PT α) (n:Nat) (x:Option α) (h:n<lim):(t.put n x).get n=x:=PT.get_set_same 40 t n x (by unfold lim at h;omega)
theorem PT.qL {α:Type} (t:PT α) (n m:Nat) (x:Option α) (h:m≠n):(t.put n x).get m=t.get m:=PT.get_set_other 40 t n m x h
def af (m b:Nat):Value:=
 match(Eta.r m:Jo)with
 | .sl off n sz=> .slice (some ⟨b,off,none⟩) n sz
 | .ptr off=> .pointer (some ⟨b,off,none⟩)
 | .none=> .complex .f64 m b
def rU (v:Value):Value:=
 match v with
 | .complex .f32 i m=>if qp (Eta.v i)=true then Eta.v i else .complex .f32 i m
 | .complex .f64 m b=>af m b
 |v=>v
def sub (v:Value):Value:=
 match v with
 | .agg cs=> .agg (cs.toList.map rU).toArray
 |v=>rU v
structure zu (c:Cfg):Prop where
 und: ∀t d,c.und t=some d→c.P.underlying t=some d
 siz: ∀t n,c.siz t=some n→(c.P.info? t).map (·.size)=some n
 zer: ∀t z,c.zer t=some z→(c.P.info? t).bind (·.zero)=some z∧pfd 2 z=true
 fns: ∀f fn,c.fns f=some fn→c.P.funcs[f]? =some fn
 byt: ∀t n,c.byt t=some n→(c.P.info? t).map (·.bytes)=some n
 met: ∀t m p,c.met t m=some p→ ∃i r,c.P.info? t=some i∧i.methods.find? (·.name==m)=some r∧r.path= #[]∧r.func=some p
 eqs: ∀t,c.eqs t=true→c.P.stoodInHeld t=false∧c.P.eqGuardType c.P.depth t=false
def Vx (c:Cfg) (ρ:Emb):Prop:= ∀g,g<c.G→ρ g=some (g,0)
theorem Vx.le {c:Cfg} {ρ ρ':Emb} (h:Vx c ρ) (k:ρ.le ρ'):Vx c ρ':=fun g hg=>k _ _ (h g hg)
theorem VR.flat {ρ:Emb} {w:World} {v:Value} (h:pf v=true):VR ρ w v v:=by
 cases v with
 |bool b=>exact .bool b
 |int k n=>exact .int k n
 |string s=>exact .string s
 |pointer a=>cases a with|none=>exact .nilp|some a=>simp[pf]at h
 |slice a n k=>
  cases a with
  |some a=>simp[pf]at h
  |none=>cases n with
   |zero=>cases k with
    |zero=>exact .nils
    |succ k=>simp[pf]at h
   |succ n=>simp[pf]at h
 |map r=>cases r with|none=>exact .nilm|some r=>simp[pf]at h
 |nilFunc=>exact .nilFunc
 |nilIface=>exact .nilIface
 |_=>simp[pf]at h
theorem VR.ye {ρ:Emb} {w:World}: ∀(n:Nat) {v:Value},pfd n v=true→VR ρ w v v
 |0,v,h=>VR.flat h
 |n+1,v,h=>by
  cases v with
  |agg cs=>
   simp only[pfd,Ap]at h
   exact .agg cs cs rfl (fun i x y hx hy=>by rw[hx]at hy;cases hy;exact VR.ye n (h x (AR hx)))
  |tuple cs=>
   simp only[pfd,Ap]at h
   exact .tuple cs cs rfl (fun i x y hx hy=>by rw[hx]at hy;cases hy;exact VR.ye n (h x (AR hx)))
  |_=>exact VR.flat h
theorem VR.undef {ρ:Emb} {w:World}:VR ρ w undef undef:= .tuple #[] #[] rfl (fun i x y h=>by simp at h)
theorem VRL.ye {ρ:Emb} {w:World} (n:Nat) {l:List Value} (h:l.all (pfd n)=true):VRL ρ w l l:=
 ⟨rfl,fun i x y hx hy=>by rw[hx]at hy;cases hy;exact VR.ye n (Ap.1 h x (AR hx))⟩
theorem yg.one {ρ:Emb} {w:World} {d:Jo} {b:Nat} {y:Value} (h:yg ρ w d b y):y.oneCell'=true∧y.cells.toList=[y]:=by
 cases d with
 |none=>exact h.elim
 |sl off n sz=>rcases h with⟨k,dd,c,_,_,_,rfl⟩|⟨_,a,rfl⟩<;>exact⟨rfl,rfl⟩
 |ptr off=>obtain⟨k,dd,_,rfl⟩:=h;exact⟨rfl,rfl⟩
theorem Zc.one {z:Nat} {n:Value} {cs:List Value} {y:Value} (h:Zc (.func (.yield z) ⟨[n]⟩ ⟨cs⟩) y):y.oneCell'=true∧y.cells.toList=[y]:=by
 obtain⟨W,_,h⟩:=h
 cases h<;>exact⟨rfl,rfl⟩
theorem VR.cells {ρ:Emb} {w:World} {x y:Value} (h:VR ρ w x y):VRL ρ w (qJ x) y.cells.toList:=by
 cases h with
 |agg xs ys h1 h2=>exact⟨h1,h2⟩
 |tok re im y e h=>cases y<;>first|exact VRL.cons (.tok re im _ e h) VRL.nil|cases h
 |ref m b y h=>
  obtain⟨h1,h2⟩:=yg.one h
  rw[h2]
  exact VRL.cons (.ref m b y h) VRL.nil
 |told z n cs y h=>
  obtain⟨h1,h2⟩:=h.one
  rw[h2]
  exact VRL.cons (.told z n cs y h) VRL.nil
 |_=>exact VRL.cons (by constructor<;>assumption) VRL.nil
theorem VR.one {ρ:Emb} {w:World} {x y:Value} (h:VR ρ w x y) (h1:wz x=true):y.oneCell'=true:=by
 cases h<;>first|rfl|(simp[wz]at h1;done)|(rename_i hr;exact(yg.one hr).1)|(rename_i hr;exact(Zc.one hr).1)|(rename_i hr;cases y<;>first|rfl|(simp[fZ,gi]at hr))
structure TR (ρ:Emb) (w:World) (T:Tm) (a:Act):Prop where
 size:T.m=a.tmps.size
 at_: ∀t,t<T.m→TV ρ w (T.get t) (a.tmps.getD t undef)
theorem TR.le {ρ ρ':Emb} {w:World} {T:Tm} {a:Act} (h:TR ρ w T a) (k:ρ.le ρ'):TR ρ' w T a:=⟨h.size,fun t ht=>(h.at_ t ht).le k⟩
theorem TR.grow {ρ:Emb} {w w':World} {T:Tm} {a:Act} (h:TR ρ w T a) (k:Grow w w'):TR ρ w' T a:=⟨h.size,fun t ht=>(h.at_ t ht).grow k⟩
theorem TR.put {ρ:Emb} {w:World} {T:Tm} {a:Act} (h:TR ρ w T a) (hm:T.m≤lim) (d:Option Tmp) {v v':Value} (hv:VR ρ w v v'):TR ρ w (xl T d v) (a.put d v'):=by
 cases d with
 |none=>exact h
 |some d=>
  unfold xl Act.put
  cases e:Nat.blt d T.m with
  |false=>
   have hd: ¬d<T.m:=yl e
   show TR ρ w (bif Nat.blt d T.m then _ else _) _
   rw[e]
   have:a.tmps.setIfInBounds d v'=a.tmps:=by
    apply Array.ext
    ·simp
    ·intro i h1 h2
     simp at h1
     rw[Array.getElem_setIfInBounds]
     have hd2:a.tmps.size≤d:=h.size▸Nat.le_of_not_lt hd
     rw[Aq (fun e=>absurd h1 (by rw[←e];simpa using hd2))]
   simp only[Ah]
   show TR ρ w T {a with tmps:=a.tmps.setIfInBounds d v'}
   rw[this]
   exact h
  |true=>
   have hd:d<T.m:=kQ e
   show TR ρ w (bif Nat.blt d T.m then _ else _) {a with tmps:=a.tmps.setIfInBounds d v'}
   rw[e]
   simp only[Ai]
   refine⟨by simpa using h.size,fun t ht0=> ?_⟩
   have ht:t<T.m:=ht0
   clear ht0
   by_cases htd:t=d
   ·subst htd
    have e1:(Tm.get ⟨T.t.put t (some v),T.m⟩ t)=some v:=by unfold Tm.get;rw[PT.zx _ _ _ (by omega)]
    have e2:(a.tmps.setIfInBounds t v').getD t undef=v':=by
     have hs:t<a.tmps.size:=by rw[←h.size];exact hd
     simp[hs]
    rw[e1,e2]
    exact TV.some hv
   ·have e1 : (Tm.get ⟨T.t.put d (some v), T.m⟩ t) = T.get t := by unfold Tm.get; rw [PT.qL _ _ _ _ htd]
    have e2:(a.tmps.setIfInBounds d v').getD t undef=a.tmps.getD t undef:=by
     simp[Cr (Ne.symm htd)]
    rw[e1,e2]
    exact h.at_ t ht
def EV (c:Cfg) (ρ:Emb) (w:World) (T:Tm) (a:Act) (x:Operand):Prop:= ∀v,ev c T x=some v→VR ρ w v (a.eval x)
theorem TR.ev {c:Cfg} {ρ:Emb} {w:World} {T:Tm} {a:Act} (h:TR ρ w T a) (hg:Vx c ρ) (x:Operand):EV c ρ w T a x:=by
 intro v hv
 cases x with
 |tmp t=>
  simp only[_root_.Go.Proofs.YtaiokpmmjbiajaaGreatDoorDx.ev]at hv
  cases e:Nat.blt t T.m with
  |false=>rw[e]at hv;cases hv
  |true=>
   rw[e]at hv
   exact h.at_ t (kQ e) v hv
 |const k=>
  simp only[_root_.Go.Proofs.YtaiokpmmjbiajaaGreatDoorDx.ev]at hv
  cases e:pfd 3 k with
  |false=>rw[e]at hv;cases hv
  |true=>rw[e]at hv;cases hv;exact VR.ye 3 e
 |global g=>
  simp only[_root_.Go.Proofs.YtaiokpmmjbiajaaGreatDoorDx.ev]at hv
  cases e:Nat.blt g c.G with
  |false=>rw[e]at hv;cases hv
  |true=>rw[e]at hv;cases hv;exact .ptr g 0 g 0 (hg g (kQ e))
 |func f=>
  simp only[_root_.Go.Proofs.YtaiokpmmjbiajaaGreatDoorDx.ev]at hv
  cases hv
  exact .func _ (fun l e=>by cases e) _ _ _ _ rfl (fun i x y hx=>by simp at hx) rfl (fun i x y hx=>by simp at hx)
theorem Ql {c:Cfg} {ρ:Emb} {w:World} {T:Tm} {a:Act}: ∀(l:List Operand) (vs:List Value),(∀x∈l,EV c ρ w T a x)→evs c T l=some vs→VRL ρ w vs (l.map a.eval)
 |[],vs,h,hv=>by cases hv;exact VRL.nil
 |x::l,vs,h,hv=>by
  unfold evs at hv
  obtain⟨v,h1,h2⟩:=Aj.1 hv
  obtain⟨r,h3,h4⟩:=Aj.1 h2
  cases h4
  exact VRL.cons (h x (by simp) v h1) (Ql l r (fun y hy=>h y (by simp[hy])) h3)
def kz (c:Cfg) (base:Nat) (ρ:Emb) (h:Hp) (w:World) (outs:List Out) (r:Result Next):Prop:=
 ∃v h' W,(v,h',W)∈outs∧ ∃v' w' ρ',(r= .ok (.value v') w'∨r= .ok .skip w'∧v'=undef)∧VR ρ' w' v v'∧Ext base c.n0 ρ h.t.get h.n w ρ' h'.t.get h'.n W w'
theorem kz.pure {c:Cfg} {base:Nat} {ρ:Emb} {h:Hp} {w:World} {v v':Value} {r:Result Next} (hr:Rel base c.n0 ρ h.t.get w) (e:r= .ok (.value v') w) (hv:VR ρ w v v'):kz c base ρ h w [(v,h,[])] r:=
 ⟨v,h,[],by simp,v',w,ρ,.inl e,hv,.refl hr⟩
theorem kz.zi {c:Cfg} {base:Nat} {ρ:Emb} {h:Hp} {w:World} {o:Option Value} {outs:List Out} {r:Result Next} (ho:zi h o=some outs) (hr:Rel base c.n0 ρ h.t.get w) (hv: ∀v,o=some v→ ∃v',r= .ok (.value v') w∧VR ρ w v v'):kz c base ρ h w outs r:=by
 unfold _root_.Go.Proofs.YtaiokpmmjbiajaaGreatDoorDx.zi at ho
 cases o with
 |none=>cases ho
 |some v=>cases ho;obtain⟨v',e,h1⟩:=hv v rfl;exact .pure hr e h1
end
section
open Go
variable [Eta]
theorem heap_alloc (w:World) (o:Obj) (k:Nat):(w.alloc o).heap[k]? =if k=w.heap.size then some o else w.heap[k]? :=by
 show (w.heap.push o)[k]? =_
 rw[Array.getElem?_push]
theorem Grow.alloc (w:World) (o:Obj):Grow w (w.alloc o):=
 ⟨by show w.heap.size ≤ (w.heap.push o).size; simp, rfl, rfl, rfl, fun k cs el fr h => ⟨cs, by
  rw[heap_alloc,Aq (fun e=>by subst e;rw[Array.getElem?_eq_none (Aw _)]at h;cases h)];exact h,rfl⟩⟩
theorem Grow.drew (w:World):Grow w w.drew:=⟨Aw _,rfl,rfl,rfl,fun k cs el fr h=>⟨cs,h,rfl⟩⟩
def Emb.put (ρ:Emb) (n:Nat) (x:Nat×Nat):Emb:=fun b=>if b=n then some x else ρ b
theorem Emb.ky (ρ:Emb) (n:Nat) (x:Nat×Nat):ρ.put n x n=some x:=by simp[Emb.put]
theorem Emb.Zr {ρ:Emb} {n:Nat} {x:Nat×Nat} (h:ρ n=none):ρ.le (ρ.put n x):=fun b y hb=>by
 unfold Emb.put
 rw[Aq (fun e=>by subst e;rw[h]at hb;cases hb)]
 exact hb
theorem Ext.K6 {c:Cfg} {base:Nat} {ρ:Emb} {h h':Hp} {w w1:World} {o:Ob} {ob:Obj} (hr:Rel base c.n0 ρ h.t.get w) (hfree:ρ h.n=none) (hn:Vj h o=some h')
  (hg:Grow w w1) (hh:w1.heap=w.heap) (ho:OR (ρ.put h.n (w.heap.size,0)) (w1.alloc ob) w.heap.size 0 o):
  Ext base c.n0 ρ h.t.get h.n w (ρ.put h.n (w.heap.size,0)) h'.t.get h'.n [] (w1.alloc ob)∧h'.n=h.n+1:=by
 unfold Vj at hn
 cases e:Nat.blt h.n lim with
 |false=>rw[e]at hn;cases hn
 |true=>
  rw[e]at hn
  obtain rfl:=A9 hn
  have hlim:=kQ e
  have hle:ρ.le (ρ.put h.n (w.heap.size,0)):=Emb.Zr hfree
  have hgr:Grow w (w1.alloc ob):=hg.trans (.alloc _ _)
  have hk: ∀k,k<w.heap.size→(w1.alloc ob).heap[k]? =w.heap[k]? :=fun k hk=>by rw[heap_alloc,hh,Aq (by omega)]
  refine⟨⟨hle,fun b x hb=> ?_,by simp,⟨fun b o' hb=> ?_,fun b b' k d d' z hb hb' hbk lI=> ?_,fun b k d h0 hb=> ?_,fun b k d hb=> ?_,?_⟩,hgr,fun k hk' _=>hk k hk',fun b k d h1 h2 h3 h4=> ?_,fun b hb=> ?_,fun b hb=>by cases hb⟩,rfl⟩
  ·unfold Emb.put at hb
   split at hb
   ·rename_i e;subst e;exact .inr ⟨Aw _,by simp⟩
   ·exact .inl hb
  ·by_cases e : b = h.n
   ·subst e
    simp only at hb
    rw[PT.zx _ _ _ hlim]at hb
    cases hb
    exact⟨_,_,Emb.ky _ _ _,ho⟩
   ·simp only at hb
    rw[PT.qL _ _ _ _ e]at hb
    obtain⟨k,d,h1,h2⟩:=hr.at_ b o' hb
    exact⟨k,d,hle _ _ h1,(h2.le hle).grow hgr (hk k (hr.low b k d h1))⟩
  ·have key : ∀ b k d, b ≠ h.n → ρ.put h.n (w.heap.size, 0) b = some (k, d) → ρ b = some (k, d) := fun b k d e hb => by unfold Emb.put at hb; rwa [Aq e] at hb
   simp only at hb hb'
   by_cases e1:b=h.n
   ·by_cases e2 : b' = h.n
    ·rw[e1,e2]
    ·subst e1
     rw[Emb.ky]at hbk
     cases hbk
     have:=hr.low b' _ d' (key b' _ _ e2 lI)
     omega
   ·by_cases e2 : b' = h.n
    ·subst e2
     rw[Emb.ky]at lI
     cases lI
     have:=hr.low b _ d (key b _ _ e1 hbk)
     omega
    ·rw [PT.qL _ _ _ _ e1] at hb
     rw[PT.qL _ _ _ _ e2]at hb'
     exact hr.inj b b' k d d' z hb hb' (key _ _ _ e1 hbk) (key _ _ _ e2 lI)
  ·unfold Emb.put at hb
   split at hb
   ·cases hb;exact hr.sz.2
   ·exact hr.high b k d h0 hb
  ·have := hgr.size
   have hs:(w1.alloc ob).heap.size=w.heap.size+1:=by show (w1.heap.push ob).size=_;simp[hh]
   unfold Emb.put at hb
   split at hb
   ·cases hb;omega
   ·have:=hr.low b k d hb;omega
  ·have:=hgr.size;have:=hr.sz;omega
  ·have : b = h.n := by simp at h2; omega
   subst this
   rw[Emb.ky]at h4
   cases h4
   exact .inl (Aw _)
  ·refine .inl ?_
   simp only
   rw[PT.qL _ _ _ _ (by simp at hb;omega)]
theorem ZV {w1 w:World} (hh:w1.heap=w.heap) (cs:Array Value) (el:TypeId) (fr:Nat×Nat) (hfr: ∀j,j<cs.size→ ¬(fr.1≤j∧j<fr.2)):Cells (w1.alloc (.cells cs el fr)) w.heap.size cs:=
 ⟨el,fr,by rw[heap_alloc,hh,Ax rfl],fun _=>hfr⟩
theorem kz.new {c:Cfg} {base:Nat} {ρ:Emb} {h:Hp} {w w1:World} {cs:List Value} {f:Nat→Value} {outs:List Out} {cs':Array Value} {el:TypeId} {fr:Nat×Nat} {v':Value} {r:Result Next}
  (ho:Zh h cs f=some outs) (hr:Rel base c.n0 ρ h.t.get w) (hfree: ∀v h' W,(v,h',W)∈outs→kX ρ h.n h'.n)
  (hg:Grow w w1) (hh:w1.heap=w.heap) (hv:VRL ρ w cs (cs'.toList.take cs.length)) (hfr: ∀j,j<cs'.size→ ¬(fr.1≤j∧j<fr.2))
  (e:r= .ok (.value v') (w1.alloc (.cells cs' el fr)))
  (hf: ∀ρ' w',ρ' h.n=some (w.heap.size,0)→Cells w' w.heap.size cs'→VR ρ' w' (f h.n) v'):kz c base ρ h w outs r:=by
 unfold Zh at ho
 cases hn:Vj h (.cells cs)with
 |none=>rw[hn]at ho;cases ho
 |some h'=>
  rw[hn]at ho
  cases ho
  have hn1:h'.n=h.n+1:=by
   unfold Vj at hn
   cases e:Nat.blt h.n lim with
   |false=>rw[e]at hn;cases hn
   |true=>rw[e]at hn;obtain rfl:=A9 hn;rfl
  have Yv:ρ h.n=none:=hfree (f h.n) h' [] (by simp) h.n (Aw _) (by omega)
  have hcl:=ZV hh cs' el fr hfr
  have hlen:cs.length≤cs'.size:=by have:=hv.len;simp at this;omega
  have hx:=Ext.K6 (ob:= .cells cs' el fr) hr Yv hn hg hh ⟨cs',hcl,by omega,fun j x y hx hy=>by
   have hj:j<cs.length:=(AH.1 hx).1
   have:(cs'.toList.take cs.length)[j]? =some y:=by rw[BB,Ax hj];simpa using hy
   exact((hv.at_ j x y hx this).grow (hg.trans (.alloc _ _))).le (Emb.Zr Yv)⟩
  exact⟨_,_,_,by simp,v',_,_,.inl e,hf _ _ (Emb.ky _ _ _) hcl,hx.1⟩
theorem VRL.we {ρ:Emb} {w:World} {xs:List Value} {ys:Array Value} (h:VRL ρ w xs ys.toList):VRL ρ w xs (ys.toList.take xs.length):=by
 rw[h.len,Bo];exact h
section
variable {c:Cfg} {base:Nat} {ρ:Emb} {h:Hp} {w:World} {T:Tm} {a:Act} {outs:List Out}
theorem ji (hc:zu c) {t:TypeId} {z:Value} (hz:c.zer t=some z) (w:World):(zeroValue t).run c.P w= .ok z w:=by
 have:=(hc.zer t z hz).1
 obtain⟨i,h1,h2⟩:=Aj.1 this
 simp[zeroValue,typeInfo,program,h1,h2,Sem.run]
theorem zC (hc:zu c) {t:TypeId} {n:Nat} (hz:c.siz t=some n) (w:World):(sizeOf t).run c.P w= .ok n w:=by
 have:=hc.siz t n hz
 obtain⟨i,h1,h2⟩:=Ak.1 this
 simp[sizeOf,typeInfo,program,h1,h2,Sem.run]
theorem qR (hc:zu c) {t:TypeId} {d:TypeDesc} (hz:c.und t=some d) (w:World):(underlying t).run c.P w= .ok d w:=run_underlying (hc.und t d hz) w
theorem Kh (hc:zu c) {t:TypeId} {b:Bool} (hz:WV c t=some b) (w:World):(isAgg t).run c.P w= .ok b w:=by
 unfold WV at hz
 unfold isAgg
 cases e:c.und t with
 |none=>rw[e]at hz;cases hz
 |some d=>
  rw[e]at hz
  rw[Sem.run_bind,qR hc e]
  simp only[Result.andThen]
  cases d<;>simp at hz<;>subst hz<;>rfl
theorem Ws: ∀(l:List Value) (n:Nat),nth l n=l[n]?
 |[],n=>by simp[nth]
 |x::l,0=>by simp[nth]
 |x::l,n+1=>by
  have:nth (x::l) (n+1)=nth l n:=rfl
  rw[this,Ws l n]
  simp
theorem j5 {l r:List Value} {o n:Nat} (h:slc l o n=some r):o+n≤l.length∧r=(l.drop o).take n:=by
 unfold slc at h
 cases e:Nat.ble (o+n) l.length with
 |false=>rw[e]at h;cases h
 |true=>rw[e]at h;exact⟨kU e,(A9 h).symm⟩
theorem Za (hc:zu c) {t:TypeId} {cs:List Value} {cs':Array Value} {off:Nat} {v:Value} (hv:VRL ρ w cs cs'.toList) (hp:xa c t cs off=some v) (w':World):
  ∃v',(part t cs' off).run c.P w'= .ok v' w'∧VR ρ w v v':=by
 unfold xa at hp
 obtain⟨b,h1,h2⟩:=Aj.1 hp
 cases b with
 |true=>
  simp only[Ai]at h2
  obtain⟨n,h3,h4⟩:=Aj.1 h2
  obtain⟨l,h5,rfl⟩:=Ak.1 h4
  obtain⟨h6,rfl⟩:=j5 h5
  refine⟨.agg (cs'.extract off (off+n)),?_,?_⟩
  ·simp[part,Sem.run_bind,Kh hc h1,zC hc h3,Result.andThen,Sem.run_pure]
  ·have := (hv.drop off).take n
   refine .agg _ _ (by simpa using this.len) (fun i x y hx hy=>this.at_ i x y (by simpa using hx) ?_)
   rw[←hy]
   simp[Array.toList_extract,List.extract_eq_take_drop]
 |false=>
  simp only[Ah]at h2
  rw[Ws]at h2
  obtain⟨y,h3,h4⟩:=hv.get h2
  have h3':cs'[off]? =some y:=by simpa using h3
  exact⟨y,by simp[part,Sem.run_bind,Kh hc h1,h3',Result.andThen,Sem.run_pure],h4⟩
end
end
section
open Go
variable [Eta]
theorem Addr.jC (k o j:Nat):(⟨k,o,none⟩:Addr).add j=⟨k,o+j,none⟩:=by unfold Addr.add;split<;>simp_all
theorem Cells.cell {w:World} {k:Nat} {cs:Array Value} (h:Cells w k cs) (i:Nat):w.cell? ⟨k,i,none⟩=cs[i]? :=by
 obtain⟨el,fr,h1,h2⟩:=h
 simp[World.cell?,h1]
theorem Cells.free {w:World} {k:Nat} {cs:Array Value} (h:Cells w k cs) (hb:Eta.b≤k) {i:Nat} (hi:i<cs.size):w.frozen? ⟨k,i,none⟩=false:=by
 obtain⟨el,fr,h1,h2⟩:=h
 have:=h2 hb i hi
 simp only[World.frozen?,h1]
 cases e:(decide (fr.1≤i)&&decide (i<fr.2))with
 |false=>rfl
 |true=>simp at e;exact absurd e this
theorem OR.vrl {ρ:Emb} {w:World} {k d:Nat} {cs:List Value} (h:OR ρ w k d (.cells cs)): ∃cs',Cells w k cs'∧cs.length+d≤cs'.size∧VRL ρ w cs ((cs'.toList.drop d).take cs.length):=by
 obtain⟨cs',h1,h2,h3⟩:=h
 refine⟨cs',h1,h2,⟨by simp;omega,fun i x y hx hy=> ?_⟩⟩
 rw[BB]at hy
 split at hy
 ·rw [Br] at hy
  exact h3 i x y hx (by rw[Nat.add_comm];simpa using hy)
 ·cases hy
section
variable {c:Cfg} {base:Nat} {ρ:Emb} {h:Hp} {w:World} {T:Tm} {a:Act} {outs:List Out}
theorem kF {h:Hp} {b:Nat} {cs:List Value} (e:zS h b=some cs):h.t.get b=some (.cells cs):=by
 unfold zS at e
 split at e
 ·cases e;assumption
 ·cases e
theorem Vs (hc:zu c) {t:TypeId} {o k d:Nat} {cs:List Value} {x:Value} (e2:OR ρ w k d (.cells cs)) (h2:xa c t cs o=some x): ∃v',(loadVar t ⟨k,o+d,none⟩).run c.P w= .ok v' w∧VR ρ w x v':=by
 obtain⟨cs',h3,h4,h5⟩:=e2.vrl
 unfold xa at h2
 obtain⟨ag,h6,h7⟩:=Aj.1 h2
 cases ag with
 |true=>
  simp only[Ai]at h7
  obtain⟨n,h8,h9⟩:=Aj.1 h7
  obtain⟨l,h10,rfl⟩:=Ak.1 h9
  obtain⟨h11,rfl⟩:=j5 h10
  have hlen:((cs'.toList.drop (o+d)).take n).length=n:=by simp;omega
  have hrun:=run_loadCells_list (P:=c.P) w ⟨k,o+d,none⟩ ((cs'.toList.drop (o+d)).take n) (fun j v hj=>by
   rw[Addr.jC,h3.cell]
   rw[BB]at hj
   split at hj
   ·rw[Br]at hj;simpa using hj
   ·cases hj)
  rw[hlen]at hrun
  refine⟨.agg ((cs'.toList.drop (o+d)).take n).toArray,by simp[loadVar,Sem.run_bind,Kh hc h6,zC hc h8,hrun,Result.andThen,Sem.run_pure],?_⟩
  have:=(h5.drop o).take n
  refine .agg _ _ (by simp;omega) (fun i x y hx hy=> ?_)
  refine this.at_ i x y (by simpa using hx) ?_
  rw[←hy]
  simp only[BB,Br]
  split
  ·rw[Ax (by omega)];congr 1;omega
  ·rfl
 |false=>
  simp only[Ah]at h7
  rw[Ws]at h7
  obtain⟨v',h8,h9⟩:=h5.get h7
  rw[BB]at h8
  split at h8
  ·rw [Br] at h8
   have hcell:w.cell? ⟨k,o+d,none⟩=some v':=by rw[h3.cell,Nat.add_comm];simpa using h8
   exact⟨v',by simp[loadVar,Sem.run_bind,Kh hc h6,load,Sem.run,hcell,Result.andThen],h9⟩
  ·cases h8
theorem ZS (hc:zu c) {t:TypeId} {b o:Nat} {x:Value} {y:Value} (hr:Rel base c.n0 ρ h.t.get w) (hy:VR ρ w (.pointer (some ⟨b,o,none⟩)) y) (hl:Vm c h t (.pointer (some ⟨b,o,none⟩))=some x):
  ∃k d v',y= .pointer (some ⟨k,o+d,none⟩)∧(loadVar t ⟨k,o+d,none⟩).run c.P w= .ok v' w∧VR ρ w x v':=by
 simp only[Vm]at hl
 obtain⟨cs,h1,h2⟩:=Aj.1 hl
 cases hy with
 |ptr b o k d hb=>
  obtain⟨k',d',e1,e2⟩:=hr.at_ b _ (kF h1)
  rw[hb]at e1
  cases e1
  obtain⟨v',f1,f2⟩:=Vs hc e2 h2
  exact⟨k,d,v',rfl,f1,f2⟩
theorem aT: ∀(l:List Value) (n:Nat) (v:Value) (j:Nat),(ins l n v)[j]? =if j=n∧n<l.length then some v else l[j]?
 |[],n,v,j=>by simp[ins]
 |x::l,0,v,j=>by
  have:ins (x::l) 0 v=v::l:=rfl
  rw[this]
  cases j<;>simp
 |x::l,n+1,v,j=>by
  have:ins (x::l) (n+1) v=x::ins l n v:=rfl
  rw[this]
  cases j with
  |zero=>simp
  |succ j=>simp[aT l n v j]
theorem aA (l:List Value) (n:Nat) (v:Value):(ins l n v).length=l.length:=by
 induction l generalizing n with
 |nil=>rfl
 |cons x l ih=>
  cases n with
  |zero=>rfl
  |succ n=>show (x::ins l n v).length=_;simp[ih]
theorem Xm: ∀(vs l:List Value) (o:Nat),(zt l o vs).length=l.length
 |[],l,o=>by cases l<;>rfl
 |v::r,l,o=>by
  have:zt l o (v::r)=zt (ins l o v) (o+1) r:=by cases l<;>rfl
  rw[this,Xm r,aA]
theorem JI: ∀(vs l:List Value) (o j:Nat),o+vs.length≤l.length→(zt l o vs)[j]? =if o≤j∧j<o+vs.length then vs[j - o]? else l[j]?
 |[],l,o,j,h=>by
  have:zt l o []=l:=by cases l<;>rfl
  rw[this,Aq (fun hh=>by have:=hh.2;have:=hh.1;simp at*;omega)]
 |v::r,l,o,j,h=>by
  have:zt l o (v::r)=zt (ins l o v) (o+1) r:=by cases l<;>rfl
  simp at h
  rw[this,JI r _ _ _ (by rw[aA];omega),aT]
  by_cases h1:j=o
  ·subst h1
   rw[Aq (by omega),Ax ⟨rfl,by omega⟩,Ax (by simp)]
   simp
  ·by_cases h2 : o + 1 ≤ j ∧ j < o + 1 + r.length
   ·rw [Ax h2, Ax (by simp; omega)]
    obtain⟨i,rfl⟩: ∃i,j=o+1+i:=⟨j - (o+1),by omega⟩
    rw[show o+1+i - o=i+1 by omega,show o+1+i - (o+1)=i by omega]
    rfl
   ·rw[Aq h2,Aq (fun hh=>h1 hh.1),Aq (by simp;omega)]
theorem QD (w:World) (k o:Nat) (v:Value) (j:Nat):(w.setCell ⟨k,o,none⟩ v).heap[j]? =if j=k then(w.heap[j]?).map (fun x=>match x with| .cells c el fr=> .cells (c.setIfInBounds o v) el fr|x=>x)else w.heap[j]? :=by
 simp only[World.setCell,Array.getElem?_modify]
 by_cases e:k=j
 ·subst e;simp;cases w.heap[k]? with|none=>rfl|some x=>cases x<;>rfl
 ·rw[Aq e,Aq (Ne.symm e)]
theorem xo (k:Nat): ∀(vs:List Value) (o:Nat) (w:World) (cs:Array Value) (el:TypeId) (fr:Nat×Nat),w.heap[k]? =some (.cells cs el fr)→o+vs.length≤cs.size→
  ∃cs',(w.setCells k o vs).heap[k]? =some (.cells cs' el fr)∧cs'.size=cs.size∧(∀j,cs'[j]? =if o≤j∧j<o+vs.length then vs[j - o]? else cs[j]?)∧
   (∀j,j≠k→(w.setCells k o vs).heap[j]? =w.heap[j]?)∧(w.setCells k o vs).heap.size=w.heap.size∧(w.setCells k o vs).os=w.os∧(w.setCells k o vs).tape=w.tape∧(w.setCells k o vs).output=w.output
 |[],o,w,cs,el,fr,h,hl=>⟨cs,h,rfl,fun j=>by rw[Aq (fun hh=>by have:=hh.2;have:=hh.1;simp at*;omega)],fun j hj=>rfl,rfl,rfl,rfl,rfl⟩
 |v::r,o,w,cs,el,fr,h,hl=>by
  simp at hl
  have h1:(w.setCell ⟨k,o,none⟩ v).heap[k]? =some (.cells (cs.setIfInBounds o v) el fr):=by rw[QD,Ax rfl,h];rfl
  obtain⟨cs',a1,a2,a3,a4,a5,a6,a7,a8⟩:=xo k r (o+1) _ _ _ _ h1 (by simp;omega)
  refine⟨cs',a1,by simpa using a2,fun j=> ?_,fun j hj=>(a4 j hj).trans (by rw[QD,Aq hj]),a5.trans (by simp[World.setCell]),a6,a7,a8⟩
  rw[a3 j]
  by_cases h1:j=o
  ·subst h1
   have hj:j<cs.size:=by omega
   rw[Aq (by omega),Ax (by simp)]
   simp[hj]
  ·by_cases h2 : o + 1 ≤ j ∧ j < o + 1 + r.length
   ·rw [Ax h2, Ax (by simp; omega)]
    obtain⟨i,rfl⟩: ∃i,j=o+1+i:=⟨j - (o+1),by omega⟩
    rw[show o+1+i - o=i+1 by omega,show o+1+i - (o+1)=i by omega]
    rfl
   ·rw[Aq h2,Aq (by simp;omega),Cr (Ne.symm h1)]
theorem Ext.store {b o k d:Nat} {cs vs:List Value} {vs':List Value} (hr:Rel base c.n0 ρ h.t.get w) (hb:h.t.get b=some (.cells cs)) (hk:ρ b=some (k,d)) (h0:c.n0≤b) (hlim:b<lim)
  (hlen:o+vs.length≤cs.length) (hv:VRL ρ w vs vs'):
  Ext base c.n0 ρ h.t.get h.n w ρ (h.t.put b (some (.cells (zt cs o vs)))).get h.n [b] (w.setCells k (o+d) vs'):=by
 obtain⟨k',d',e1,e2⟩:=hr.at_ b _ hb
 rw[hk]at e1
 cases e1
 obtain⟨cs',⟨el,fr,h3,h3'⟩,h4,h5⟩:=e2
 have hvl:=hv.len
 obtain⟨cs2,a1,a2,a3,a4,a5,a6,a7,a8⟩:=xo k vs' (o+d) w cs' el fr h3 (by omega)
 have hg:Grow w (w.setCells k (o+d) vs'):=⟨by omega,a6,a7,a8,fun j cs el' fr' hj=>by
  by_cases e:j=k
  ·subst e;rw[h3]at hj;cases hj;exact⟨cs2,a1,a2⟩
  ·exact⟨cs,(a4 j e).trans hj,rfl⟩⟩
 refine⟨.refl ρ,fun b x hb=> .inl hb,Aw _,⟨fun b' o' hb'=> ?_,fun b1 b2 k1 d1 d2 z hb1 hb2=> ?_,hr.high,fun b' k' d' hb'=>by rw[a5];exact hr.low b' k' d' hb',by rw[a5];exact hr.sz⟩,hg,fun j hj hw=> ?_,fun b' k' d' h1 h2=>by omega,fun b' hb'=> ?_,fun b' hb'=>by simp at hb';omega⟩
 ·by_cases e : b' = b
  ·subst e
   rw[PT.zx _ _ _ hlim]at hb'
   cases hb'
   refine⟨k,d,hk,cs2,⟨el,fr,a1,fun hb j hj=>h3' hb j (by omega)⟩,by rw[Xm];omega,fun j x y hx hy=> ?_⟩
   rw[JI _ _ _ _ hlen]at hx
   rw[a3]at hy
   split at hx
   ·rename_i h6
    rw[Ax (by omega)]at hy
    exact(hv.at_ (j - o) x y hx (by rw[←hy];congr 1;omega)).grow hg
   ·rename_i h6
    rw[Aq (by omega)]at hy
    exact(h5 j x y hx hy).grow hg
  ·rw [PT.qL _ _ _ _ e] at hb'
   obtain⟨k',d',f1,f2⟩:=hr.at_ b' o' hb'
   refine⟨k',d',f1,f2.grow hg (a4 k' (fun ek=> ?_))⟩
   subst ek
   exact e (hr.inj b' b k' d' d (hr.high b _ d (by assumption) hk) (by rw[hb'];simp) (by rw[hb];simp) f1 hk)
 ·have key: ∀b',(h.t.put b (some (.cells (zt cs o vs)))).get b'≠none→h.t.get b'≠none:=fun b' hn=>by
   by_cases e:b'=b
   ·subst e;rw[hb];simp
   ·rwa [PT.qL _ _ _ _ e]at hn
  exact hr.inj b1 b2 k1 d1 d2 z (key b1 hb1) (key b2 hb2)
 ·exact a4 j (fun e=>hw b (by simp) (by rw[hb];simp) d (by rw[e];exact hk))
 ·by_cases e : b' = b
  ·subst e;exact .inr ⟨by simp,by rw[hb];simp⟩
  ·exact .inl (PT.qL _ _ _ _ e)
end
end
section
open Go
variable [Eta]
theorem yF: ∀(a b:List UInt8),eqU a b=(a==b)
  |[],[]=>rfl
  |[],y::b=>rfl
  |x::a,[]=>rfl
  | x :: a, y :: b => by
    simp only[eqU,yF a b]
    have:Nat.beq x.toNat y.toNat=(x==y):=by
      cases e:Nat.beq x.toNat y.toNat with
      |true=>have:=wu e;have:x=y:=Cm.1 this;subst this;simp
      |false=>symm;rw[Ao];intro h;subst h;simp at e
    rw[this]
    rfl
theorem fY: ∀(a b:List UInt8),ltU a b=Op.bytesLess a b
  |[],[]=>rfl
  |[],y::b=>rfl
  |x::a,[]=>rfl
  | x :: a, y :: b => by
    simp only[ltU,Op.bytesLess,fY a b]
    have h1:Nat.beq x.toNat y.toNat=(x==y):=by
      cases e:Nat.beq x.toNat y.toNat with
      |true=>have:=wu e;have:x=y:=Cm.1 this;subst this;simp
      |false=>symm;rw[Ao];intro h;subst h;simp at e
    have h2:Nat.blt x.toNat y.toNat=decide (x<y):=by
      cases e:Nat.blt x.toNat y.toNat with
      |true=>have:=kQ e;symm;simpa[UInt8.lt_iff_toNat_lt]using this
      |false=>have:=yl e;symm;simpa[UInt8.lt_iff_toNat_lt]using this
    rw[h1,h2]
section
variable {c:Cfg} {base:Nat} {ρ:Emb} {h:Hp} {w:World} {T:Tm} {a:Act} {outs:List Out}
theorem Y5 (hc:zu c) (d:Nat) (cmp:TypeId→Value→Value→Option Bool) (ih: ∀t x y x' y' b,cmp t x y=some b→VR ρ w x x'→VR ρ w y y'→(Op.equalIn d t x' y').run c.P w= .ok b w):
    ∀(fs:List Field) (xs ys:List Value) (xs' ys':Array Value) (b:Bool),VRL ρ w xs xs'.toList→VRL ρ w ys ys'.toList→eqF c cmp fs xs ys=some b→(Op.eqFields d xs' ys' fs).run c.P w= .ok b w
  |[],xs,ys,xs',ys',b,hx,hy,e=>by cases e;rfl
  | f :: fs, xs, ys, xs', ys', b, hx, hy, e => by
    unfold eqF at e
    split at e
    · cases e
    · rename_i hn
      obtain⟨x,e1,e⟩:=Aj.1 e
      obtain⟨y,e2,e⟩:=Aj.1 e
      obtain⟨r,e3,e⟩:=Aj.1 e
      obtain⟨q,e4,rfl⟩:=Ak.1 e
      obtain⟨x',p1,v1⟩:=Za hc hx e1 w
      obtain⟨y',p2,v2⟩:=Za hc hy e2 w
      have p3:=ih _ _ _ _ _ _ e3 v1 v2
      have p4:=Y5 hc d cmp ih fs xs ys xs' ys' q hx hy e4
      unfold Op.eqFields
      rw[Ax hn]
      simp only[Sem.run_bind,p1,p2,p3,Result.andThen]
      cases r
      · simp[Sem.run_pure]
      · simpa using p4
theorem aU {n:Nat} {b:Bool} (e:(bif Nat.beq n 0 then none else some false)=some b):n≠0∧b=false:=by
  cases n with
  |zero=>cases e
  |succ n=>cases e;exact⟨by omega,rfl⟩
theorem Jm (hc:zu c): ∀(n d:Nat),n≤d→ ∀(t:TypeId) (x y x' y':Value) (b:Bool),eqD c n t x y=some b→VR ρ w x x'→VR ρ w y y'→(Op.equalIn d t x' y').run c.P w= .ok b w
  |0,d,hd,t,x,y,x',y',b,e,hx,hy=>by cases e
  |n+1,0,hd,t,x,y,x',y',b,e,hx,hy=>by omega
  | n + 1, d + 1, hd, t, x, y, x', y', b, e, hx, hy => by
    unfold eqD at e
    split at e
    · rename_i hu;cases hx;cases hy;cases e;exact run_equalIn_bool' w d t _ _ (hc.und _ _ hu)
    · rename_i hu
      cases hx;cases hy
      split at e
      · rename_i hk;subst hk;cases e;exact run_equalIn_int w d t _ _ _ _ (hc.und _ _ hu)
      · cases e
    · rename_i hu;cases hx;cases hy;cases e;rw[run_equalIn_string w d t _ _ (hc.und _ _ hu),yF];simp[ByteArray.toList_eq]
    · rename_i hu;cases hx;cases e;cases hy<;>simp[Op.equalIn,Sem.run_bind,qR hc hu,Result.andThen,Sem.run_pure]
    · rename_i hu;cases hx;cases e;cases hy<;>simp[Op.equalIn,Sem.run_bind,qR hc hu,Result.andThen,Sem.run_pure]
    · rename_i hu;cases hx;cases hy;cases e;simp[Op.equalIn,Sem.run_bind,qR hc hu,Result.andThen,Sem.run_pure]
    · rename_i hu;obtain⟨hz,rfl⟩:=aU e;cases hx;cases hy<;>first|exact absurd rfl hz|simp[Op.equalIn,Sem.run_bind,qR hc hu,Result.andThen,Sem.run_pure]
    · rename_i hu;obtain⟨hz,rfl⟩:=aU e;cases hy;cases hx<;>first|exact absurd rfl hz|simp[Op.equalIn,Sem.run_bind,qR hc hu,Result.andThen,Sem.run_pure]
    · rename_i hu;cases hx;cases e;cases hy<;>simp[Op.equalIn,Sem.run_bind,qR hc hu,Result.andThen,Sem.run_pure]
    · rename_i hu;cases hx;cases e;cases hy<;>simp[Op.equalIn,Sem.run_bind,qR hc hu,Result.andThen,Sem.run_pure]
    · rename_i hu;cases hx;cases e;cases hy<;>simp[Op.equalIn,Sem.run_bind,qR hc hu,Result.andThen,Sem.run_pure]
    · rename_i fn _ _ hu
      obtain⟨hb,rfl⟩:noY fn=true∧false=b:=(by cases hb:noY fn with|true=>rw[hb]at e;exact⟨rfl,A9 e⟩|false=>rw[hb]at e;cases e)
      cases hx;cases hy with
      |func=>simp[Op.equalIn,Sem.run_bind,qR hc hu,Result.andThen,Sem.run_pure]
      |told=>cases hb
    · rename_i fn _ _ hu
      obtain⟨hb,rfl⟩:noY fn=true∧false=b:=(by cases hb:noY fn with|true=>rw[hb]at e;exact⟨rfl,A9 e⟩|false=>rw[hb]at e;cases e)
      cases hy;cases hx with
      |func=>simp[Op.equalIn,Sem.run_bind,qR hc hu,Result.andThen,Sem.run_pure]
      |told=>cases hb
    · rename_i fs xs ys hu
      cases hs:c.eqs t with
      |false=>rw[hs]at e;cases e
      | true =>
        rw[hs]at e
        simp only[Ai]at e
        cases hx with
        | agg _ xs' a1 a2 =>
          cases hy with
          | agg _ ys' b1 b2 =>
            have hf:c.P.fieldsOf t=fs:=by unfold Program.fieldsOf;rw[hc.und _ _ hu]
            rw[run_equalIn_struct w d t xs' ys' (by rw[hf];exact hc.und _ _ hu) (hc.eqs t hs).1,hf]
            exact Y5 hc d (eqD c n) (fun t x y x' y' b h1 h2 h3=>Jm hc n d (by omega) t x y x' y' b h1 h2 h3) fs.toList xs.toList ys.toList xs' ys' b ⟨a1,a2⟩ ⟨b1,b2⟩ e
    · cases e
theorem bX {op:BinOp} {k:IntKind} {x y:Int} {v:Value} {t:TypeId} (h:J2 op k x y=some v) (hs:op≠ .shl∧op≠ .shr):(binOp op t (.int k x) (.int k y)).run c.P w= .ok v w∧VR ρ w v v:=by
  unfold J2 at h
  split at h
  all_goals first
    |(cases h;exact⟨by simp[binOp,Op.intArith,Op.intCmp,Op.intBits,Sem.run_pure],by constructor⟩)
    | (split at h
       · cases h
       · rename_i h0;cases h;exact⟨by simp[binOp,Op.intDiv,h0,Sem.run_pure],by constructor⟩)
    |cases h
theorem cG {op:BinOp} {x y:ByteArray} {v:Value} {t:TypeId} (h:dQ op x y=some v):(binOp op t (.string x) (.string y)).run c.P w= .ok v w∧VR ρ w v v:=by
  unfold dQ at h
  split at h
  · cases e : Nat.ble (x.data.toList.length + y.data.toList.length) 9223372036854775807 with
    |false=>rw[e]at h;cases h
    | true =>
      rw[e]at h
      cases h
      have h1:=kU e
      refine⟨?_,by constructor⟩
      have h2: ¬(((x.size+y.size:Nat):Int)>IntKind.i64.max):=by
        have e1:x.size=x.data.toList.length:=by obtain⟨x⟩:=x;rfl
        have e2:y.size=y.data.toList.length:=by obtain⟨y⟩:=y;rfl
        have:IntKind.i64.max=9223372036854775807:=rfl
        rw[this,e1,e2];omega
      have h3:(x++y:ByteArray)=⟨(x.data.toList++y.data.toList).toArray⟩:=by
        apply ByteArray.ext
        rw[Cu]
        apply BW
        simp
      simp only[binOp,Op.stringOp,Aq h2,h3]
      rfl
  all_goals first
    |(cases h;exact⟨by simp[binOp,Op.stringOp,yF,fY,ByteArray.toList_eq,Sem.run_pure],by constructor⟩)
    |cases h
theorem vE (op:BinOp) (t:TypeId) (x y:Operand) (v u:Value) (h1: ∀a b,¬(v= .agg a∧u= .agg b)) (h2: ¬(v= .nilIface∧u= .nilIface)):(eqGuard op t x y v u).run c.P w= .ok () w:=by
  unfold eqGuard
  cases v<;>cases u<;>first
    |(cases op<;>simp[Sem.run_pure];done)
    |exact absurd ⟨rfl,rfl⟩ (h1 _ _)
    |exact absurd ⟨rfl,rfl⟩ h2
theorem wv {op:BinOp} {t:TypeId} {X Y:Operand} {v u r:Value} (hg:(eqGuard op t X Y v u).run c.P w= .ok () w) (hb:(binOp op t v u).run c.P w= .ok r w):
    ((do eqGuard op t X Y v u;binOp op t v u:Sem Value)).run c.P w= .ok r w:=by
  simp[Sem.run_bind,hg,Result.andThen,hb]
def fj:Value→Bool
  | .complex _ _ _=>true
  | .func (.yield _) _ _=>true
  |_=>false
theorem aG {fn:Fn} {a b:Array Value} {r x:Bool} (h:(bif noY fn then some r else none)=some x):fj (.func fn a b)=false:=by
  cases fn<;>first|rfl|cases h
theorem xD {n:Nat} {t:TypeId} {x y:Value} {b:Bool} (h:eqD c n t x y=some b):fj x=false∧fj y=false:=by
  cases n with
  |zero=>cases h
  | succ n =>
    unfold eqD at h
    split at h<;>first|cases h;done|exact⟨rfl,rfl⟩|exact⟨rfl,aG h⟩|exact⟨aG h,rfl⟩
theorem QX {t:TypeId} {x y x' y':Value} (hx:VR ρ w x x') (hy:VR ρ w y y') (hf1:fj x=false) (hf2:fj y=false) (h1: ∀k a k' b,x= .int k a→y= .int k' b→False) (h2: ∀a b,x= .string a→y= .string b→False):
    binOp .eql t x' y'=(do pure (.bool (←Op.equal t x' y')))∧binOp .neq t x' y'=(do pure (.bool (!(←Op.equal t x' y')))):=by
  cases hx<;>cases hy<;>first
    |exact⟨rfl,rfl⟩
    |exact absurd rfl (fun e=>h1 _ _ _ _ e rfl)
    |exact absurd rfl (fun e=>h2 _ _ e rfl)
    |cases hf1;done
    |cases hf2;done
theorem QJ (hc:zu c) {n:Nat} {op:BinOp} {t:TypeId} {X Y:Operand} {x y x' y':Value} {b:Bool} (he:eqD c n t x y=some b) (hx:VR ρ w x x') (hy:VR ρ w y y'):(eqGuard op t X Y x' y').run c.P w= .ok () w:=by
  by_cases hag: ∃p q,x'= .agg p∧y'= .agg q
  · obtain ⟨xs_, ys_, rfl, rfl⟩ := hag
    cases hx with
    |tok re im _ e h=>simp[fZ,gi]at h
    |ref m b _ h=>exact absurd (yg.one h).1 (by simp[Value.oneCell'])
    |told z n cs _ h=>exact absurd (Zc.one h).1 (by simp[Value.oneCell'])
    | agg xs _ a1 a2 =>
      cases hy with
      |tok re im _ e h=>simp[fZ,gi]at h
      |ref m b _ h=>exact absurd (yg.one h).1 (by simp[Value.oneCell'])
      |told z n cs _ h=>exact absurd (Zc.one h).1 (by simp[Value.oneCell'])
      | agg ys _ b1 b2 =>
        cases n with
        |zero=>cases he
        | succ n =>
          cases hs:c.eqs t with
          |true=>exact run_eqGuard_agg w op t X Y xs_ ys_ (hc.eqs t hs).2
          | false =>
            cases hu:c.und t with
            |none=>simp[eqD,hu]at he
            |some d=>cases d<;>simp[eqD,hu,hs]at he
  · refine vE op t X Y x' y' (fun p q hpq => hag ⟨p, q, hpq⟩) ?_
    rintro⟨rfl,rfl⟩
    have hnt:=xD he
    cases hx with
    |tok re im _ e h=>cases hnt.1
    |ref m b _ h=>cases hnt.1
    |told z n cs _ h=>cases hnt.1
    |nilIface=>
    cases hy with
    |tok re im _ e h=>cases hnt.2
    |ref m b _ h=>cases hnt.2
    |told z n cs _ h=>cases hnt.2
    |nilIface=>
    cases n with
    |zero=>cases he
    | succ n =>
      unfold eqD at he
      split at he<;>simp_all
theorem cU (hc:zu c) {op:BinOp} {t:TypeId} {x y x' y':Value} {v:Value} (X Y:Operand) (h:iW c op t x y=some v) (hx:VR ρ w x x') (hy:VR ρ w y y'):
    ∃v',((do eqGuard op t X Y x' y';binOp op t x' y':Sem Value)).run c.P w= .ok v' w∧VR ρ w v v':=by
  unfold iW at h
  split at h
  · cases hx; cases hy
    split at h
    · cases h
    · rename_i h0
      cases h
      exact⟨_,wv (vE _ _ _ _ _ _ (fun a b=>by simp) (by simp)) (by simp[binOp,Op.shift,h0,Sem.run_pure];rfl),by constructor⟩
  · cases hx; cases hy
    split at h
    · cases h
    · rename_i h0
      cases h
      exact⟨_,wv (vE _ _ _ _ _ _ (fun a b=>by simp) (by simp)) (by simp[binOp,Op.shift,h0,Sem.run_pure];rfl),by constructor⟩
  · rename_i hn1 hn2
    cases hx;cases hy
    split at h
    · rename_i hk
      subst hk
      obtain⟨e1,e2⟩:=bX (c:=c) (ρ:=ρ) (w:=w) (t:=t) h ⟨hn1,hn2⟩
      exact⟨_,wv (vE _ _ _ _ _ _ (fun a b=>by simp) (by simp)) e1,e2⟩
    · cases h
  · cases hx; cases hy
    obtain⟨e1,e2⟩:=cG (c:=c) (ρ:=ρ) (w:=w) (t:=t) h
    exact⟨_,wv (vE _ _ _ _ _ _ (fun a b=>by simp) (by simp)) e1,e2⟩
  · rename_i hn1 hn2
    obtain⟨b,hb,rfl⟩:=Ak.1 h
    have e:=Jm hc 20 10000 (by omega) t x y x' y' b hb hx hy
    refine⟨.bool b,wv (QJ hc hb hx hy) ?_,.bool b⟩
    rw[(QX hx hy (xD hb).1 (xD hb).2 (fun k a k' b e1 e2=>hn1 k a k' b e1 e2) (fun a b e1 e2=>hn2 a b e1 e2)).1]
    simp[Op.equal,Op.maxDepth,Sem.run_bind,e,Result.andThen,Sem.run_pure]
  · rename_i hn1 hn2
    obtain⟨b,hb,rfl⟩:=Ak.1 h
    have e:=Jm hc 20 10000 (by omega) t x y x' y' b hb hx hy
    refine⟨.bool (!b),wv (QJ hc hb hx hy) ?_,.bool _⟩
    rw[(QX hx hy (xD hb).1 (xD hb).2 (fun k a k' b e1 e2=>hn1 k a k' b e1 e2) (fun a b e1 e2=>hn2 a b e1 e2)).2]
    simp[Op.equal,Op.maxDepth,Sem.run_bind,e,Result.andThen,Sem.run_pure]
  · cases h
end
end
section
open Go
variable [Eta]
theorem WU: ∀(l:List Value) (n:Nat) (v:Value),ins l n v=l.set n v
 |[],n,v=>rfl
 |x::l,0,v=>rfl
 |x::l,n+1,v=>by
  have:ins (x::l) (n+1) v=x::ins l n v:=rfl
  rw[this,WU l n v]
  rfl
theorem KG (off:Nat): ∀(l:List Value) (k:Nat) (cells:Array Value),((l.zipIdx k).foldl (fun(cs:Array Value) (x:Value×Nat)=>cs.setIfInBounds (off+x.2) x.1) cells).toList=zt cells.toList (off+k) l
 |[],k,cells=>by
  have:zt cells.toList (off+k) []=cells.toList:=by cases cells.toList<;>rfl
  rw[this];rfl
 |v::r,k,cells=>by
  simp only[List.zipIdx_cons,Bi]
  rw[KG off r (k+1)]
  have:zt cells.toList (off+k) (v::r)=zt (ins cells.toList (off+k) v) (off+k+1) r:=by cases cells.toList<;>rfl
  rw[this,WU,Array.toList_setIfInBounds]
  rfl
section
variable {c:Cfg} {base:Nat} {ρ:Emb} {h:Hp} {w:World} {T:Tm} {a:Act} {outs:List Out}
theorem VRL.set {xs ys:List Value} {x y:Value} (h:VRL ρ w xs ys) (n:Nat) (hv:VR ρ w x y):VRL ρ w (xs.set n x) (ys.set n y):=
 ⟨by simp [h.len], fun i u v hu hv' => by
  rw[List.getElem?_set]at hu hv'
  split at hu
  ·rename_i e
   rw[Ax e]at hv'
   split at hu
   ·rename_i hl
    rw[Ax (by rw[←h.len];exact hl)]at hv'
    cases hu;cases hv';exact hv
   ·cases hu
  ·rename_i e
   rw[Aq e]at hv'
   exact h.at_ i u v hu hv'⟩
theorem VRL.zt: ∀{vs vs':List Value} {xs ys:List Value} {o:Nat},VRL ρ w xs ys→VRL ρ w vs vs'→VRL ρ w (_root_.Go.Proofs.YtaiokpmmjbiajaaGreatDoorDx.zt xs o vs) (_root_.Go.Proofs.YtaiokpmmjbiajaaGreatDoorDx.zt ys o vs')
 |[],vs',xs,ys,o,h,k=>by
  obtain rfl:=k.kg
  have e1:_root_.Go.Proofs.YtaiokpmmjbiajaaGreatDoorDx.zt xs o []=xs:=by cases xs<;>rfl
  have e2:_root_.Go.Proofs.YtaiokpmmjbiajaaGreatDoorDx.zt ys o []=ys:=by cases ys<;>rfl
  rw[e1,e2];exact h
 |v::r,vs',xs,ys,o,h,k=>by
  obtain⟨v',r',rfl,hv,hr⟩:=k.zp
  have e1:_root_.Go.Proofs.YtaiokpmmjbiajaaGreatDoorDx.zt xs o (v::r)=_root_.Go.Proofs.YtaiokpmmjbiajaaGreatDoorDx.zt (ins xs o v) (o+1) r:=by cases xs<;>rfl
  have e2:_root_.Go.Proofs.YtaiokpmmjbiajaaGreatDoorDx.zt ys o (v'::r')=_root_.Go.Proofs.YtaiokpmmjbiajaaGreatDoorDx.zt (ins ys o v') (o+1) r':=by cases ys<;>rfl
  rw[e1,e2,WU,WU]
  exact VRL.zt (h.set o hv) hr
inductive PR (ρ:Emb) (w:World):List (Nat×Value)→List (Nat×Value)→Prop
 |nil:PR ρ w [] []
 |cons (i:Nat) (x y:Value) (xs ys:List (Nat×Value)) (h:VR ρ w x y) (k:PR ρ w xs ys):PR ρ w ((i,x)::xs) ((i,y)::ys)
theorem Zo: ∀(l:List (Nat×Operand)) (vs:List (Nat×Value)),(∀p∈l,EV c ρ w T a p.2)→KN c T l=some vs→PR ρ w vs (l.map fun p=>(p.1,a.eval p.2))
 |[],vs,h,hv=>by cases hv;exact .nil
 |p::l,vs,h,hv=>by
  unfold KN at hv
  obtain⟨v,h1,h2⟩:=Aj.1 hv
  obtain⟨r,h3,h4⟩:=Aj.1 h2
  cases h4
  exact .cons _ _ _ _ _ (h p (by simp) v h1) (Zo l r (fun q hq=>h q (by simp[hq])) h3)
theorem Ko (place:Nat→Option (Nat×Nat)): ∀(ps ps':List (Nat×Value)) (cs:List Value) (cs':Array Value) (r:List Value),PR ρ w ps ps'→VRL ρ w cs cs'.toList→VY place cs ps=some r→
  ∃r',Instr.fill place cs' ps'=some r'∧VRL ρ w r r'.toList
 |[],ps',cs,cs',r,hp,hc,e=>by
  cases hp
  cases e
  exact⟨cs',rfl,hc⟩
 |p::ps,ps',cs,cs',r,hp,hc,e=>by
  cases hp with
  |cons i v v' _ ps' hv h2=>
   unfold VY at e
   obtain⟨⟨off,size⟩,e1,e2⟩:=Aj.1 e
   simp only at e1 e2
   cases e3:(Nat.beq (qJ v).length size&&Nat.ble (off+size) cs.length)with
   |false=>rw[e3]at e2;cases e2
   |true=>
    rw[e3]at e2
    simp only[Ag]at e3
    have l1:=wu e3.1
    have l2:=kU e3.2
    have hvc:=hv.cells
    have l3:=hvc.len
    have l4:=hc.len
    simp at l3 l4
    unfold Instr.fill
    rw[e1]
    simp only
    rw[Aq (by simp;omega)]
    refine Ko place ps ps' _ _ r h2 ?_ e2
    have hf:=KG off v'.cells.toList 0 cs'
    rw[←Array.foldl_toList,Array.toList_zipIdx]
    have hf2:(List.foldl (fun cs x=>match x with|(c,j)=>Array.setIfInBounds cs (off+j) c) cs' (v'.cells.toList.zipIdx 0)).toList=_root_.Go.Proofs.YtaiokpmmjbiajaaGreatDoorDx.zt cs'.toList (off+0) v'.cells.toList:=hf
    rw[hf2]
    exact hc.zt hvc
theorem run_places (hc:zu c) (w:World): ∀(l:List Field) (ps:List (Nat×Nat)),Kp c l=some ps→
  (l.mapM fun f=>Prod.mk f.offset <$> sizeOf f.type).run c.P w= .ok ps w
 |[],ps,e=>by cases e;rfl
 |f::r,ps,e=>by
  unfold Kp at e
  obtain⟨s,e1,e2⟩:=Aj.1 e
  obtain⟨q,e3,e4⟩:=Aj.1 e2
  cases e4
  have ih:=run_places hc w r q e3
  simp[List.mapM_cons,zC hc e1,ih]
theorem run_build (hc:zu c) {t:TypeId} {vs:List (Nat×Value)} {ps:Array (Nat×Value)} {v:Value} (hp:PR ρ w vs ps.toList) (hb:Yb c t vs=some v):
  ∃v',(Instr.build t ps).run c.P w= .ok v' w∧VR ρ w v v':=by
 unfold Yb at hb
 obtain⟨z,e1,e2⟩:=Aj.1 hb
 have hz:VRL ρ w (qJ z) z.cells.toList:=(VR.ye 2 (hc.zer t z e1).2).cells
 unfold Instr.build
 split at e2
 ·rename_i fs hu
  obtain⟨pl,e3,e4⟩:=Aj.1 e2
  obtain⟨r,e5,rfl⟩:=Ak.1 e4
  have hm:=run_places hc w _ _ e3
  obtain⟨r',f1,f2⟩:=Ko _ _ _ _ _ _ hp hz e5
  refine⟨.agg r',?_,.agg _ _ (by simpa using f2.len) (fun i x y hx hy=>f2.at_ i x y (by simpa using hx) hy)⟩
  simp only[Sem.run_bind,ji hc e1,qR hc hu,Result.andThen]
  have hm':(fs.mapM fun f=>(do pure (f.offset,←sizeOf f.type):Sem (Nat×Nat))).run c.P w= .ok pl.toArray w:=by
   simp[Array.mapM_eq_mapM_toList,hm]
  rw[hm']
  have hf:(fun(i:Nat)=>pl.toArray[i]?)=fun(i:Nat)=>pl[i]? :=by funext i;simp
  simp only[hf]
  rw[f1]
  rfl
 ·rename_i n el hu
  obtain⟨s,e3,e4⟩:=Aj.1 e2
  obtain⟨r,e5,rfl⟩:=Ak.1 e4
  obtain⟨r',f1,f2⟩:=Ko _ _ _ _ _ _ hp hz e5
  refine⟨.agg r',?_,.agg _ _ (by simpa using f2.len) (fun i x y hx hy=>f2.at_ i x y (by simpa using hx) hy)⟩
  simp only[Sem.run_bind,ji hc e1,qR hc hu,Result.andThen,zC hc e3]
  rw[f1]
  rfl
 ·cases e2
end
end
section
open Go
variable [Eta]
theorem QG (z:List Value): ∀n,(rep z n).length=n*z.length
 |0=>by simp[rep]
 |n+1=>by simp[rep,QG z n,Nat.succ_mul];omega
theorem Jj (z:List Value): ∀(n i:Nat),i<n*z.length→(rep z n)[i]? =z[i % z.length]?
 |0,i,h=>by simp at h
 |n+1,i,h=>by
  unfold rep
  by_cases hi:i<z.length
  ·rw[BC hi,Nat.mod_eq_of_lt hi]
  ·rw [By (by omega), Jj z n _ (by rw [Nat.succ_mul] at h; omega)]
   congr 1
   exact(Nat.mod_eq_sub_mod (by omega)).symm
theorem ByteArray.wU (s:ByteArray):s.size=s.data.toList.length:=by obtain⟨s⟩:=s;rfl
theorem VW (off:Nat): ∀(l:List Value) (k:Nat) (cells:Array Value),((l.zipIdx k).foldl (fun(cs:Array Value) (x:Value×Nat)=>cs.setIfInBounds (off+x.2) x.1) cells).size=cells.size
 |[],k,cells=>rfl
 |v::r,k,cells=>by
  simp only[List.zipIdx_cons,Bi]
  rw[VW off r (k+1)]
  simp
theorem V9 (place:Nat→Option (Nat×Nat)): ∀(ps:List (Nat×Value)) (cells r:Array Value),Instr.fill place cells ps=some r→r.size=cells.size
 |[],cells,r,h=>by cases h;rfl
 |p::ps,cells,r,h=>by
  obtain⟨i,v⟩:=p
  unfold Instr.fill at h
  cases e:place i with
  |none=>rw[e]at h;cases h
  |some q=>
   obtain⟨off,size⟩:=q
   rw[e]at h
   simp only at h
   split at h
   ·cases h
   ·rw [V9 place ps _ r h, ← Array.foldl_toList, Array.toList_zipIdx]
    exact VW off v.cells.toList 0 cells
section
variable {c:Cfg} {base:Nat} {ρ:Emb} {h:Hp} {w:World} {T:Tm} {a:Act} {outs:List Out}
theorem Z3 (hc:zu c) {t:TypeId} {n:Nat} {vs:List (Nat×Value)} {ps:Array (Nat×Value)} (hr:Rel base c.n0 ρ h.t.get w) (hp:PR ρ w vs ps.toList) (ho:yB c h t n vs=some outs)
  (hfree: ∀v h' W,(v,h',W)∈outs→kX ρ h.n h'.n) {r:Result Next} (he:r=((do pure (Next.value (←Instr.buildSlice t n ps)):Sem Next)).run c.P w):kz c base ρ h w outs r:=by
 unfold yB at ho
 split at ho
 ·rename_i el hu
  obtain⟨s,e1,ho⟩:=Aj.1 ho
  cases e2:(Nat.beq s 0||Nat.blt 16777216 (n*s))with
  |true=>rw[e2]at ho;cases ho
  |false=>
   rw[e2]at ho
   simp only[AU]at e2
   simp only[Ah]at ho
   have hs0:s≠0:=fun e=>by subst e;simp at e2
   have hns: ¬n*s>16777216:=yl e2.2
   obtain⟨zs,e3,ho⟩:=Aj.1 ho
   obtain⟨l,e4,ho⟩:=Aj.1 ho
   have tj:(2:Nat) ^ 24=16777216:=by decide
   have key: ∃JE:Array Value,VRL ρ w zs JE.toList∧JE.size=n*s∧ ∀l',Instr.fill (fun i=>some (i*s,s)) JE ps.toList=some l'→
     (Instr.buildSlice t n ps).run c.P w= .ok (.slice (some ⟨w.heap.size,0,none⟩) n n) (w.alloc (.cells l' el)):=by
    by_cases hn:n=0
    ·subst hn
     rw[Ax rfl]at e3
     cases e3
     refine⟨#[],by simpa using VRL.nil,by simp,fun l' hl'=> ?_⟩
     have h0:Array.range 0= #[]:=rfl
     simp[Instr.buildSlice,qR hc hu,zC hc e1,Result.andThen,h0,hl',newRow,Sem.run,newObj]
    ·rw [Aq hn] at e3
     obtain⟨z,e5,e6⟩:=Aj.1 e3
     cases e7:Nat.beq (qJ z).length s with
     |false=>rw[e7]at e6;cases e6
     |true=>
      rw[e7]at e6
      cases e6
      have hl:=wu e7
      have hz:VRL ρ w (qJ z) z.cells.toList:=(VR.ye 2 (hc.zer el z e5).2).cells
      have hzl:z.cells.size=s:=by have:=hz.len;simp at this;omega
      have hnz: ¬n*s=0:=by
       intro hm
       rcases Nat.mul_eq_zero.1 hm with h1|h1<;>omega
      refine⟨(Array.range (n*s)).map (z.cells[· % z.cells.size]!),⟨by simp[QG,hl],fun i x y hx hy=> ?_⟩,by simp,fun l' hl'=> ?_⟩
      ·have hi : i < n * s := by have := (AH.1 hx).1; rw [QG, hl] at this; exact this
       rw[Jj _ _ _ (by rw[hl];exact hi),hl]at hx
       simp[hi,hzl]at hy
       have hm:i % s<z.cells.size:=by rw[hzl];exact Nat.mod_lt _ (by omega)
       refine hz.at_ (i % s) x y hx ?_
       rw[←hy]
       simp[hm]
      ·simp only [Instr.buildSlice, Sem.run_bind, qR hc hu, zC hc e1, Result.andThen, tj, Aq hns, Aq hnz, ji hc e5, Sem.run_pure]
       rw[hl']
       simp[newRow,Sem.run_bind,Result.andThen,Sem.run_pure,Sem.run,newObj]
   obtain⟨JE,f2,f5,f6⟩:=key
   obtain⟨l',f3,f4⟩:=Ko _ _ _ _ _ _ hp f2 e4
   have f7:=f6 l' f3
   have hl1:l'.size=n*s:=by rw[←f5];exact V9 _ _ _ _ f3
   refine kz.new (cs':=l') (el:=el) (fr:=(0,0)) ho hr hfree (.refl w) rfl f4.we (fun j hj hh=>by simp at hh) (v':= .slice (some ⟨w.heap.size,0,none⟩) n n) ?_ (fun ρ' w' hρ hcl=> ?_)
   ·rw [he]
    simp only[Sem.run_bind,f7,Result.andThen]
    rfl
   ·exact .sl h.n 0 n s n _ 0 hρ (Aw _) ⟨l',hcl,by omega⟩
 ·cases ho
end
end
section
open Go
variable [Eta]
theorem wo {i:Int} {n:Nat} (h:xb i=some n):i=(n:Int):=by
 cases i with
 |ofNat m=>cases h;rfl
 |negSucc m=>cases h
theorem ByteArray.QE (s:ByteArray) (b e:Nat):s.extract b e=⟨((s.data.toList.take e).drop b).toArray⟩:=by
 obtain⟨⟨l⟩⟩:=s
 have:=ByteArray.extract_mk l b e
 rw[show (ByteArray.mk ⟨l⟩)=ByteArray.mk l.toArray from rfl,this]
 congr 2
 rw[List.drop_take]
section
variable {c:Cfg} {base:Nat} {ρ:Emb} {h:Hp} {w:World} {T:Tm} {a:Act} {outs:List Out}
def OV (ρ:Emb) (w:World):Option Value→Option Value→Prop
 |none,none=>True
 |some x,some y=>VR ρ w x y
 |_,_=>False
theorem VJ {x y:Option Value} {d m e:Nat} {code:BoundsCode} (hb:bound x d m=some e) (hd:d≤m) (hv:OV ρ w x y) (M:Nat) (hM:m≤M):
  e≤m∧((∃y',y=some y'∧(Instr.sliceBound y' M code).run c.P w= .ok e w)∨(y=none∧e=d)):=by
 cases x with
 |none=>
  cases y with
  |some y=>cases hv
  |none=>cases hb;exact⟨hd,.inr ⟨rfl,rfl⟩⟩
 |some x=>
  cases y with
  |none=>cases hv
  |some y=>
   have hv':VR ρ w x y:=hv
   unfold bound at hb
   split at hb
   ·rename_i h1;cases h1
   ·rename_i k i h1
    cases h1
    cases hv'
    obtain⟨n,e1,e2⟩:=Aj.1 hb
    cases e3:Nat.ble n m with
    |false=>rw[e3]at e2;cases e2
    |true=>
     rw[e3]at e2
     cases e2
     have hle:=kU e3
     obtain rfl:=wo e1
     refine⟨hle,.inl ⟨_,rfl,?_⟩⟩
     have:(0:Int)≤(e:Int)∧(e:Int)≤(M:Int):=by omega
     simp[Instr.sliceBound,asIntOf,Sem.run_bind,Result.andThen,Sem.run_pure]
     intro hx;omega
   ·cases hb
theorem wg {l u l' u':Option Value} {n m e b:Nat} (isS:Bool) (hu:bound u n n=some e) (hl:bound l 0 e=some b) (hvu:OV ρ w u u') (hvl:OV ρ w l l') (hm:n≤m):
  (Instr.sliceBounds isS n m l' u' none).run c.P w= .ok (b,e,m) w∧b≤e∧e≤n:=by
 obtain⟨a1,a2⟩:=VJ (c:=c) (code:=if isS then .sliceAcap else .sliceAlen) hu (Aw _) hvu m hm
 obtain⟨b1,b2⟩:=VJ (c:=c) (code:= .sliceB) hl (Cq _) hvl e (Aw _)
 refine⟨?_,b1,a1⟩
 unfold Instr.sliceBounds
 rcases a2 with⟨y,rfl,ha⟩|⟨rfl,rfl⟩<;>rcases b2 with⟨z,rfl,hb⟩|⟨rfl,rfl⟩<;>simp[Sem.run_bind,Result.andThen,Sem.run_pure, *]
theorem XZ (hc:zu c) {t:TypeId} {x y:Value} {l u l' u':Option Value} {v:Value} (hs:Qx c t x l u=some v) (hx:VR ρ w x y) (hvu:OV ρ w u u') (hvl:OV ρ w l l'):
  ∃v',(Instr.sliceAt t y l' u' none).run c.P w= .ok v' w∧VR ρ w v v':=by
 unfold Qx at hs
 split at hs
 ·rename_i s hu
  cases hx
  replace hs:=Aj.1 hs
  obtain⟨e,e1,hs⟩:=hs
  replace hs:=Aj.1 hs
  obtain⟨b,e2,hs⟩:=hs
  cases hs
  rw[←ByteArray.wU]at e1
  obtain⟨h1,h2,h3⟩:=wg (c:=c) false e1 e2 hvu hvl (Aw _)
  refine⟨.string (s.extract b e),?_,by rw[ByteArray.QE];exact .string _⟩
  simp[Instr.sliceAt,Instr.slice,Sem.run_bind,qR hc hu,Result.andThen,h1,Sem.run_pure]
 ·rename_i el a n sz hu
  replace hs:=Aj.1 hs
  obtain⟨e,e1,hs⟩:=hs
  replace hs:=Aj.1 hs
  obtain⟨b,e2,hs⟩:=hs
  replace hs:=Aj.1 hs
  obtain⟨s,e3,hs⟩:=hs
  cases hx with
  |nils=>
   cases hs
   obtain⟨h1,h2,h3⟩:=wg (c:=c) true e1 e2 hvu hvl (Aw _)
   obtain rfl:e=0:=by omega
   obtain rfl:b=0:=by omega
   exact⟨.slice none 0 0,by simp[Instr.sliceAt,Instr.slice,Sem.run_bind,qR hc hu,zC hc e3,Result.andThen,h1,Sem.run_pure],.nils⟩
  |sl b0 o n sz cp k d hb hn hroom=>
   cases e4:Nat.beq s sz with
   |false=>rw[e4]at hs;cases hs
   |true=>
    rw[e4]at hs
    cases hs
    obtain rfl:=wu e4
    obtain⟨h1,h2,h3⟩:=wg (c:=c) true e1 e2 hvu hvl hn
    by_cases hcb:cp=b
    ·subst hcb
     obtain rfl:e=cp:=by omega
     refine⟨.slice (some ⟨k,o+d,none⟩) 0 0,by simp[Instr.sliceAt,Instr.slice,Sem.run_bind,qR hc hu,zC hc e3,Result.andThen,h1,Sem.run_pure],?_⟩
     rw[Nat.sub_self]
     exact .sl0 b0 _ s _
    ·refine ⟨.slice (some ⟨k, o + b * s + d, none⟩) (e - b) (cp - b), ?_, ?_⟩
     ·have KS : (⟨k, o + d, none⟩ : Addr).add (b * s) = ⟨k, o + b * s + d, none⟩ := by rw [Addr.jC]; congr 1; omega
      simp[Instr.sliceAt,Instr.slice,Sem.run_bind,qR hc hu,zC hc e3,Result.andThen,h1,Sem.run_pure,hcb,KS]
     ·refine .sl b0 (o + b * s) (e - b) s (cp - b) k d hb (by omega) ?_
      obtain⟨cs,f1,f2⟩:=hroom
      refine⟨cs,f1,?_⟩
      have:b*s+(cp - b)*s=cp*s:=by rw[←Nat.add_mul];congr 1;omega
      omega
  |sl0 b0 o sz a'=>
   cases e4:Nat.beq s sz with
   |false=>rw[e4]at hs;cases hs
   |true=>
    rw[e4]at hs
    cases hs
    obtain⟨h1,h2,h3⟩:=wg (c:=c) true e1 e2 hvu hvl (Aw _)
    obtain rfl:e=0:=by omega
    obtain rfl:b=0:=by omega
    refine⟨.slice a' 0 0,by simp[Instr.sliceAt,Instr.slice,Sem.run_bind,qR hc hu,zC hc e3,Result.andThen,h1,Sem.run_pure],?_⟩
    exact .sl0 b0 _ sz a'
 ·cases hs
theorem KQ (hc:zu c) {t:TypeId} {x y i i':Value} {v:Value} (hs:xX c t x i=some v) (hx:VR ρ w x y) (hi:VR ρ w i i'):
  ∃v',(Instr.indexAt t y i').run c.P w= .ok v' w∧VR ρ w v v':=by
 unfold xX at hs
 split at hs
 ·rename_i kk j0
  cases hi
  replace hs:=Aj.1 hs
  obtain⟨j,e1,hs⟩:=hs
  obtain rfl:=wo e1
  split at hs
  ·rename_i el b o n _ hu
   replace hs:=Aj.1 hs
   obtain⟨s,e3,hs⟩:=hs
   cases e4:Nat.blt j n with
   |false=>rw[e4]at hs;cases hs
   |true=>
    rw[e4]at hs
    cases hs
    have hlt:=kQ e4
    cases hx with
    |sl b o n sz cp k d hb hn hroom=>
     refine⟨.pointer (some ⟨k,o+j*s+d,none⟩),?_,.ptr b (o+j*s) k d hb⟩
     have KS:(⟨k,o+d,none⟩:Addr).add (j*s)=⟨k,o+j*s+d,none⟩:=by rw[Addr.jC];congr 1;omega
     simp[Instr.indexAt,asIntOf,Sem.run_bind,qR hc hu,zC hc e3,Result.andThen,Sem.run_pure,hlt,KS]
    |sl0 b o sz a'=>omega
  ·rename_i n el b o hu
   replace hs:=Aj.1 hs
   obtain⟨s,e3,hs⟩:=hs
   cases e4:Nat.blt j n with
   |false=>rw[e4]at hs;cases hs
   |true=>
    rw[e4]at hs
    cases hs
    have hlt:=kQ e4
    cases hx with
    |ptr b o k d hb=>
     refine⟨.pointer (some ⟨k,o+j*s+d,none⟩),?_,.ptr b (o+j*s) k d hb⟩
     have KS:(⟨k,o+d,none⟩:Addr).add (j*s)=⟨k,o+j*s+d,none⟩:=by rw[Addr.jC];congr 1;omega
     simp[Instr.indexAt,asIntOf,Instr.sureAddr,Sem.run_bind,qR hc hu,zC hc e3,Result.andThen,Sem.run_pure,hlt,KS]
  ·cases hs
 ·cases hs
theorem Yw (hc:zu c) {t:TypeId} {x y i i':Value} {v:Value} (hs:WH c t x i=some v) (hx:VR ρ w x y) (hi:VR ρ w i i'):
  ∃v',(Instr.index t y i').run c.P w= .ok v' w∧VR ρ w v v':=by
 unfold WH at hs
 split at hs
 ·rename_i kk j0
  cases hi
  replace hs:=Aj.1 hs
  obtain⟨j,e1,hs⟩:=hs
  obtain rfl:=wo e1
  split at hs
  ·rename_i s hu
   cases hx
   obtain⟨b,e2,rfl⟩:=Ak.1 hs
   rw[List.head?_drop]at e2
   have hlt:j<s.size:=by rw[ByteArray.wU];exact(AH.1 e2).1
   have hb:s[j]? =some b:=by
    rw[ByteArray.getElem?_lt' s j hlt]
    have:=(AH.1 e2).2
    rw[←this]
    rfl
   refine⟨.int .u8 b.toNat,?_,.int _ _⟩
   simp[Instr.index,asIntOf,Sem.run_bind,qR hc hu,Result.andThen,Sem.run_pure,hb]
  ·rename_i n el cs hu
   replace hs:=Aj.1 hs
   obtain⟨s,e3,hs⟩:=hs
   cases e4:Nat.blt j n with
   |false=>rw[e4]at hs;cases hs
   |true=>
    rw[e4]at hs
    simp only[Ai]at hs
    have hlt:=kQ e4
    cases hx with
    |agg _ ys a1 a2=>
     obtain⟨v',f1,f2⟩:=Za hc (⟨a1,a2⟩:VRL ρ w cs.toList ys.toList) hs w
     refine⟨v',?_,f2⟩
     simp[Instr.index,asIntOf,Sem.run_bind,qR hc hu,zC hc e3,Result.andThen,hlt,f1]
  ·cases hs
 ·cases hs
theorem xS (mx:Bool): ∀(r:List Value) (x v:Value) (r':List Value) (x':Value),ZE mx x r=some v→VR ρ w x x'→VRL ρ w r r'→
  ∃v',((List.foldlM (if mx then Builtin.max2 else Builtin.min2) x' r':Sem Value)).run c.P w= .ok v' w∧VR ρ w v v'
 |[],x,v,r',x',e,hx,hr=>by
  obtain rfl:=hr.kg
  have:ZE mx x []=some x:=by cases x<;>rfl
  rw[this]at e
  cases e
  exact⟨x',rfl,hx⟩
 |y::r,x,v,r',x',e,hx,hr=>by
  obtain⟨y',r',rfl,hy,hr⟩:=hr.zp
  unfold ZE at e
  split at e
  ·rename_i h1;cases h1
  ·rename_i k a k' b r0 h1 h2
   cases h2
   cases hx;cases hy
   split at e
   ·rename_i hk
    subst hk
    cases mx with
    |true=>
     obtain⟨v',f1,f2⟩:=xS true r _ v r' _ e (.int _ _) hr.tail
     refine⟨v',?_,f2⟩
     simp only[if_true]at f1 ⊢
     simp only[List.foldlM_cons,Sem.run_bind,Builtin.max2,Sem.run_pure,Result.andThen]
     exact f1
    |false=>
     obtain⟨v',f1,f2⟩:=xS false r _ v r' _ e (.int _ _) hr.tail
     refine⟨v',?_,f2⟩
     simp only[BJ,if_false]at f1 ⊢
     simp only[List.foldlM_cons,Sem.run_bind,Builtin.min2,Sem.run_pure,Result.andThen]
     exact f1
   ·cases e
  ·cases e
theorem gA (hc:zu c) {t ty:TypeId} {x y v:Value} (hr:Rel base c.n0 ρ h.t.get w) (hl:hU h (c.und t) x=some v) (hx:VR ρ w x y):(Builtin.len_ #[t] ty #[y]).run c.P w= .ok v w∧VR ρ w v v:=by
 unfold hU at hl
 split at hl
 ·rename_i s hu
  cases hx;cases hl
  refine⟨?_,.int _ _⟩
  rw[←ByteArray.wU]
  simp[Builtin.len_,Sem.run_bind,qR hc hu,Result.andThen,Sem.run_pure,goInt]
 ·rename_i el a n _ hu
  cases hl
  refine⟨?_,.int _ _⟩
  cases hx<;>simp[Builtin.len_,Sem.run_bind,qR hc hu,Result.andThen,Sem.run_pure,goInt]
 ·rename_i hu
  cases hx;cases hl
  exact⟨by simp[Builtin.len_,Sem.run_bind,qR hc hu,Result.andThen,Sem.run_pure,goInt],.int _ _⟩
 ·rename_i r hu
  split at hl
  ·rename_i es clock e1
   cases hl
   cases hx with
   |map _ k d hb=>
    obtain⟨k',d',e2,es',e3,e4,_⟩:=hr.at_ r _ e1
    rw[hb]at e2
    cases e2
    refine⟨?_,.int _ _⟩
    rw[e4]
    simp[Builtin.len_,Sem.run_bind,qR hc hu,Result.andThen,Sem.run_pure,goInt,getObj,Sem.run,e3]
  ·cases hl
 ·cases hl
end
end
section
open Go
variable [Eta]
theorem VS (m:Nat): ∀(r c:Nat),Builtin.growBy m r c≤2 ^ r*(c+1000)
 |0,c=>by simp[Builtin.growBy]
 |r+1,c=>by
  unfold Builtin.growBy
  split
  ·have : 1 ≤ 2 ^ (r + 1) := Nat.one_le_two_pow
   calc c≤1*(c+1000):=by omega
    _≤_:=BA _ this
  ·have := VS m r (c + (c + 768) / 4)
   refine Bd this ?_
   rw[CD,Nat.mul_assoc]
   exact Nat.mul_le_mul_left _ (by omega)
theorem YG {qI old:Nat} (h1:qI≤1000000) (h2:old≤1000000):Builtin.nextslicecap qI old≤100000000:=by
 unfold Builtin.nextslicecap
 split
 ·omega
 ·split
  ·omega
  ·have h4 := VS qI 4 old
   have h5:(2:Nat) ^ 4=16:=by decide
   rw[h5]at h4
   refine Bd h4 ?_
   clear h4
   omega
theorem ZG {w w1:World} (h:w1.heap=w.heap) (a:Addr):w1.cell? a=w.cell? a:=by unfold World.cell?;rw[h]
section
variable {c:Cfg} {base:Nat} {ρ:Emb} {h:Hp} {w:World} {T:Tm} {a:Act} {outs:List Out}
theorem yZ {cs:List Value} {k d o m:Nat} {cs':Array Value} {w1:World} (hcl:Cells w k cs') (hh:w1.heap=w.heap) (hlen:cs.length+d≤cs'.size) (hv:VRL ρ w cs ((cs'.toList.drop d).take cs.length)) (hm:o+m≤cs.length):
  ∃l:Array Value,(loadCells ⟨k,o+d,none⟩ m).run c.P w1= .ok l w1∧VRL ρ w ((cs.drop o).take m) l.toList∧l.size=m:=by
 have hl:((cs'.toList.drop (o+d)).take m).length=m:=by simp;omega
 have hrun:=run_loadCells_list (P:=c.P) w1 ⟨k,o+d,none⟩ ((cs'.toList.drop (o+d)).take m) (fun j v hj=>by
  rw[Addr.jC,ZG hh,hcl.cell]
  rw[BB]at hj
  split at hj
  ·rw[Br]at hj;simpa using hj
  ·cases hj)
 rw[hl]at hrun
 refine⟨_,hrun,?_,by simpa using hl⟩
 have:=(hv.drop o).take m
 refine⟨by simp;omega,fun i x y hx hy=>this.at_ i x y hx ?_⟩
 rw[←hy]
 simp only[BB,Br]
 split
 ·rw[Ax (by omega)];congr 1;omega
 ·rfl
theorem QS {sz:Nat} {x x':Value} {nw:List Value×Nat} (hn:jS h sz x=some nw) (hr:Rel base c.n0 ρ h.t.get w) (hx:VR ρ w x x'):
  (∀w1,(Builtin.lenOf x').run c.P w1= .ok nw.2 w1)∧ ∀w1,w1.heap=w.heap→ ∃l:Array Value,(Builtin.firstCells sz nw.2 x').run c.P w1= .ok l w1∧VRL ρ w nw.1 l.toList∧l.size=nw.2*sz:=by
 unfold jS at hn
 split at hn
 ·rename_i b o m _
  split at hn
  ·rename_i hm
   subst hm
   cases hn
   cases hx with
   |sl b o n sz' cp k d hb hn' hroom=>exact⟨fun w1=>rfl,fun w1 hw1=>⟨#[],by simp[Builtin.firstCells,loadCells,loadCellsFrom,Sem.run_pure],by simpa using VRL.nil,by simp⟩⟩
   |sl0 b o sz' a'=>exact⟨fun w1=>rfl,fun w1 hw1=>⟨#[],by cases a'<;>simp[Builtin.firstCells,loadCells,loadCellsFrom,Sem.run_pure],by simpa using VRL.nil,by simp⟩⟩
  ·rename_i hm
   obtain⟨cs,e1,e2⟩:=Aj.1 hn
   obtain⟨l,e3,rfl⟩:=Ak.1 e2
   obtain⟨e4,rfl⟩:=j5 e3
   cases hx with
   |sl0 b o sz' a'=>exact absurd rfl hm
   |sl b o n sz' cp k d hb hn' hroom=>
    obtain⟨k',d',f1,f2⟩:=hr.at_ b _ (kF e1)
    rw[hb]at f1
    cases f1
    obtain⟨cs',f3,f4,f5⟩:=f2.vrl
    refine⟨fun w1=>rfl,fun w1 hw1=> ?_⟩
    obtain⟨l,g1,g2,g3⟩:=yZ (c:=c) (o:=o) (m:=m*sz) f3 hw1 f4 f5 e4
    exact⟨l,g1,g2,g3⟩
 ·cases hn
  cases hx
  exact⟨fun w1=>rfl,fun w1 hw1=>⟨#[],by simp[Builtin.firstCells,Sem.run_pure],by simpa using VRL.nil,by simp⟩⟩
 ·rename_i s
  cases e:Nat.beq sz 1 with
  |false=>rw[e]at hn;cases hn
  |true=>
   rw[e]at hn
   cases hn
   obtain rfl:=wu e
   cases hx
   refine⟨fun w1=>by show Result.ok s.size w1=Result.ok s.data.toList.length w1;rw[ByteArray.wU],fun w1 hw1=>⟨s.data.map fun b=> .int .u8 b.toNat,?_,?_,by simp⟩⟩
   ·have : (s.extract 0 s.data.toList.length) = s := by rw [ByteArray.QE]; obtain ⟨⟨l⟩⟩ := s; simp
    simp only[Builtin.firstCells]
    rw[this]
    rfl
   ·refine ⟨by simp, fun i x y hx hy => ?_⟩
    have hxy:x=y:=by
     simp at hx hy
     obtain⟨b1,h1,rfl⟩:=hx
     obtain⟨b2,h2,rfl⟩:=hy
     rw[h1]at h2
     cases h2
     rfl
    subst hxy
    simp at hx
    obtain⟨b1,h1,rfl⟩:=hx
    exact .int _ _
 ·cases hn
theorem Ext.drop {b:Nat} {o:Ob} (hr:Rel base c.n0 ρ h.t.get w) (hb:h.t.get b=some o) (h0:c.n0≤b) (hlim:b<lim):Ext base c.n0 ρ h.t.get h.n w ρ (h.t.put b none).get h.n [b] w:=by
 have key: ∀b' o',(h.t.put b none).get b'=some o'→h.t.get b'=some o':=fun b' o' he=>by
  by_cases e:b'=b
  ·subst e;rw[PT.zx _ _ _ hlim]at he;cases he
  ·rwa [PT.qL _ _ _ _ e]at he
 refine⟨.refl ρ,fun b x hb=> .inl hb,Aw _,hr.forget key,.refl w,fun _ _ _=>rfl,fun b' k' d' h1 h2=>by omega,fun b' hb'=> ?_,fun b' hb'=>by simp at hb';omega⟩
 by_cases e:b'=b
 ·subst e;exact .inr ⟨by simp,by rw[hb];simp⟩
 ·exact .inl (PT.qL _ _ _ _ e)
theorem Ext.l7 {b o k d m:Nat} {cs old nw:List Value} {nw':List Value} (hr:Rel base c.n0 ρ h.t.get w) (hfree:ρ h.n=none) (hb:h.t.get b=some (.cells cs)) (hk:ρ b=some (k,d)) (h0:c.n0≤b) (hlim:b<lim) (hlim':h.n<lim)
  (ho:slc cs o m=some old) (hv:VRL ρ w nw nw') {cs':Array Value} (hcl:Cells w k cs') (hroom:o+d+m+nw.length≤cs'.size):
  Ext base c.n0 ρ h.t.get h.n w (ρ.put h.n (k,o+d)) ((h.t.put b none).put h.n (some (.cells (old++nw)))).get (h.n+1) [b] (w.setCells k (o+d+m) nw'):=by
 obtain⟨h5,rfl⟩:=j5 ho
 obtain⟨k',d',e1,e2⟩:=hr.at_ b _ hb
 rw[hk]at e1
 cases e1
 obtain⟨cs0,tO,h4,h5'⟩:=e2
 obtain⟨el,fr,h3,h3'⟩:=hcl
 obtain⟨el0,fr0,h30,_⟩:=tO
 rw[h3]at h30
 cases h30
 have hvl:=hv.len
 obtain⟨cs2,a1,a2,a3,a4,a5,a6,a7,a8⟩:=xo k nw' (o+d+m) w cs' el fr h3 (by omega)
 have hg:Grow w (w.setCells k (o+d+m) nw'):=⟨by omega,a6,a7,a8,fun j cs el' fr' hj=>by
  by_cases e:j=k
  ·subst e;rw[h3]at hj;cases hj;exact⟨cs2,a1,a2⟩
  ·exact⟨cs,(a4 j e).trans hj,rfl⟩⟩
 have hbn:b≠h.n:=fun e=>by subst e;rw[hfree]at hk;cases hk
 have hle:ρ.le (ρ.put h.n (k,o+d)):=Emb.Zr hfree
 have keyρ: ∀b' x,b'≠h.n→ρ.put h.n (k,o+d) b'=some x→ρ b'=some x:=fun b' x e hb=>by unfold Emb.put at hb;rwa [Aq e]at hb
 have keyH: ∀b',b'≠h.n→b'≠b→((h.t.put b none).put h.n (some (.cells ((cs.drop o).take m++nw)))).get b'=h.t.get b':=fun b' e1 e2=>by rw[PT.qL _ _ _ _ e1,PT.qL _ _ _ _ e2]
 have rD:((h.t.put b none).put h.n (some (.cells ((cs.drop o).take m++nw)))).get b=none:=by rw[PT.qL _ _ _ _ hbn,PT.zx _ _ _ hlim]
 refine⟨hle,fun b' x hb'=> ?_,by omega,⟨fun b' o' hb'=> ?_,fun b1 b2 k1 d1 d2 z hb1 hb2 hk1 hk2=> ?_,fun b' k' d' h1 h2=> ?_,fun b' k' d' h1=> ?_,by rw[a5];exact hr.sz⟩,hg,fun j hj hw=> ?_,fun b' k' d' h1 h2 h3 h4=> ?_,fun b' hb'=> ?_,fun b' hb'=>by simp at hb';omega⟩
 ·by_cases e : b' = h.n
  ·exact .inr (by omega)
  ·exact .inl (keyρ _ _ e hb')
 ·by_cases e : b' = h.n
  ·subst e
   rw[PT.zx _ _ _ hlim']at hb'
   cases hb'
   refine⟨k,o+d,Emb.ky _ _ _,cs2,⟨el,fr,a1,fun hb j hj=>h3' hb j (by omega)⟩,by simp;omega,fun j x y hx hy=> ?_⟩
   rw[a3]at hy
   have hol:((cs.drop o).take m).length=m:=by simp;omega
   by_cases hj:j<m
   ·rw [BC (by omega)] at hx
    rw[Aq (by omega)]at hy
    rw[BB,Ax hj,Br]at hx
    exact((h5' (o+j) x y hx (by rw[←hy];congr 1;omega)).grow hg).le hle
   ·rw [By (by omega), hol] at hx
    have hjl:j - m<nw.length:=(AH.1 hx).1
    rw[Ax (by omega)]at hy
    exact((hv.at_ (j - m) x y hx (by rw[←hy];congr 1;omega)).grow hg).le hle
  ·by_cases e2 : b' = b
   ·subst e2;rw[rD]at hb';cases hb'
   ·rw [keyH _ e e2] at hb'
    obtain⟨k',d',f1,f2⟩:=hr.at_ b' o' hb'
    refine⟨k',d',hle _ _ f1,(f2.le hle).grow hg (a4 k' (fun ek=> ?_))⟩
    subst ek
    exact e2 (hr.inj b' b k' d' d (hr.high b _ d h0 hk) (by rw[hb'];simp) (by rw[hb];simp) f1 hk)
 ·have live: ∀b' k' d',b'≠h.n→((h.t.put b none).put h.n (some (.cells ((cs.drop o).take m++nw)))).get b'≠none→ρ.put h.n (k,o+d) b'=some (k',d')→b'≠b∧h.t.get b'≠none∧ρ b'=some (k',d'):=fun b' k' d' e hl hp=>by
   have e2:b'≠b:=fun e2=>by subst e2;rw[rD]at hl;exact hl rfl
   exact⟨e2,by rwa [keyH _ e e2]at hl,keyρ _ _ e hp⟩
  by_cases e1:b1=h.n
  ·by_cases e2 : b2 = h.n
   ·rw[e1,e2]
   ·subst e1
    rw[Emb.ky]at hk1
    cases hk1
    obtain⟨f1,f2,f3⟩:=live b2 _ _ e2 hb2 hk2
    exact absurd (hr.inj b2 b k d2 d z f2 (by rw[hb];simp) f3 hk) f1
  ·by_cases e2 : b2 = h.n
   ·subst e2
    rw[Emb.ky]at hk2
    cases hk2
    obtain⟨f1,f2,f3⟩:=live b1 _ _ e1 hb1 hk1
    exact absurd (hr.inj b1 b k d1 d z f2 (by rw[hb];simp) f3 hk) f1
   ·obtain ⟨f1, f2, f3⟩ := live b1 _ _ e1 hb1 hk1
    obtain⟨g1,g2,g3⟩:=live b2 _ _ e2 hb2 hk2
    exact hr.inj b1 b2 k1 d1 d2 z f2 g2 f3 g3
 ·by_cases e : b' = h.n
  ·subst e;rw[Emb.ky]at h2;cases h2;exact hr.high b k d h0 hk
  ·exact hr.high b' k' d' h1 (keyρ _ _ e h2)
 ·rw [a5]
  by_cases e:b'=h.n
  ·subst e;rw[Emb.ky]at h1;cases h1;exact hr.low b k d hk
  ·exact hr.low b' k' d' (keyρ _ _ e h1)
 ·exact a4 j (fun e=>hw b (by simp) (by rw[hb];simp) d (by rw[e];exact hk))
 ·have e : b' = h.n := by omega
  subst e
  rw[Emb.ky]at h4
  cases h4
  exact .inr ⟨b,by simp,by rw[hb];simp,d,hk⟩
 ·by_cases e2 : b' = b
  ·subst e2;exact .inr ⟨by simp,by rw[hb];simp⟩
  ·exact .inl (keyH _ (by omega) e2)
end
end
section
open Go
variable [Eta]
section
variable {c:Cfg} {base:Nat} {ρ:Emb} {h:Hp} {w:World} {T:Tm} {a:Act} {outs:List Out}
theorem K4 {vs vs':List Value} (hv:VRL ρ w vs vs') (h:vs.all wz=true): ∀v∈vs',v.oneCell'=true:=by
  intro v hm
  obtain⟨i,hi⟩:=List.mem_iff_getElem?.1 hm
  have hlt:i<vs.length:=by rw[hv.len];exact(AH.1 hi).1
  have hx:=Au hlt
  exact(hv.at_ i _ v hx hi).one (Ap.1 h _ (Bf hlt))
theorem wk {k o:Nat} {cs:Array Value} {vs:List Value} {w:World} (hcl:Cells w k cs) (hbk:Eta.b≤k) (hl:o+vs.length≤cs.size) (h1: ∀v∈vs,v.oneCell'=true):
    (storeCells ⟨k,o,none⟩ vs).run c.P w= .ok () (w.setCells k o vs):=by
  have:=run_storeCells_cells (P:=c.P) k o vs 0 w (fun j hj=>by rw[hcl.cell];simp;omega) (fun j hj=>hcl.free hbk (by omega)) h1
  simpa using this
theorem vB (z:Array Value) (n:Nat):(Builtin.zeroCells z n).size=n*z.size:=by simp[Builtin.zeroCells]
theorem jD (hc:zu c) {st xt ty:TypeId} {elem:TypeId} {xd:TypeDesc} {sz m n cap:Nat} {bs:Option Addr} {x':Value} {K6:Array Value} (hu:c.und st=some (.slice elem)) (hux:c.und xt=some xd) (hxd:Qs xd=true) (e1:c.siz elem=some sz)
    (n1: ∀w1,(Builtin.lenOf x').run c.P w1= .ok m w1) (hcap:n+m≤cap) (hnew:(Builtin.firstCells sz m x').run c.P w= .ok K6 w):
    (Builtin.append_ #[st,xt] ty #[.slice bs n cap,x']).run c.P w=match bs with
      |some a=>((storeCells (a.add (n*sz)) K6.toList).run c.P w).andThen fun _ w'=> .ok (.slice (some a) (n+m) cap) w'
      |none=> .ok (.slice none (n+m) cap) w:=by
  have hx2:(∃e,xd= .slice e)∨xd= .string:=by cases xd<;>simp[Qs]at hxd ⊢
  rcases hx2 with⟨e,rfl⟩|rfl
  all_goals
    (cases bs<;>simp[Builtin.append_,Sem.run_bind,qR hc hu,qR hc hux,zC hc e1,Result.andThen,n1,hnew,Sem.run_pure,hcap])
theorem Zb (hc:zu c) {st xt ty:TypeId} {elem:TypeId} {xd:TypeDesc} {sz m n cap:Nat} {bs:Option Addr} {x' z:Value} {ib:TypeInfo} {K6 old':Array Value} (hu:c.und st=some (.slice elem)) (hux:c.und xt=some xd) (hxd:Qs xd=true) (e1:c.siz elem=some sz)
    (n1: ∀w1,(Builtin.lenOf x').run c.P w1= .ok m w1) (hcap: ¬n+m≤cap) (hneed:n+m≤200000000000000) (ht: ∀w1,(typeInfo elem).run c.P w1= .ok ib w1) (hb:(n+m)*ib.bytes≤200000000000000) (hbs:ib.bytes≤1000000) (e3:c.zer elem=some z)
    (hold:(Builtin.firstCells sz n (.slice bs n cap)).run c.P w.drew= .ok old' w.drew) (hnew:(Builtin.firstCells sz m x').run c.P w.drew= .ok K6 w.drew):
    (Builtin.append_ #[st,xt] ty #[.slice bs n cap,x']).run c.P w= .ok (.slice (some ⟨w.heap.size,0,none⟩) (n+m) (grownCap w (n+m) cap elem)) (w.drew.alloc (.cells (old'++K6++Builtin.zeroCells z.cells (grownCap w (n+m) cap elem - (n+m))) elem)):=by
  have tQ: ¬(((n+m:Nat):Int)>IntKind.i64.max):=by have:IntKind.i64.max=9223372036854775807:=rfl;rw[this];omega
  have gB: ¬(IntKind.i64.max<(n:Int)+(m:Int)):=by have:IntKind.i64.max=9223372036854775807:=rfl;rw[this];omega
  have hcp: ¬(2 ^ 48<Builtin.nextslicecap (n+m) cap*ib.bytes):=by
    refine Nat.not_lt.2 (growslice_fits_wide (show cap<n+m by omega) ?_)
    generalize n+m=q at hb
    have h1:=BA ib.bytes (Nat.div_mul_le_self q 4)
    have h2:q / 4*4*ib.bytes=4*(q / 4*ib.bytes):=by rw[Nat.mul_comm (q / 4) 4,Nat.mul_assoc]
    rw[Nat.add_mul,Nat.add_mul]
    omega
  have hd:({w with drawn:=w.drawn+1}:World)=w.drew:=rfl
  have hx2:(∃e,xd= .slice e)∨xd= .string:=by cases xd<;>simp[Qs]at hxd ⊢
  rcases hx2 with⟨e,rfl⟩|rfl
  all_goals
    (simp [Builtin.append_, qR hc hu, qR hc hux, zC hc e1, Result.andThen, n1, hcap, ht, gB, hcp, choose, Sem.run, Question.forced, hd, hold, hnew, ji hc e3, askRoom, newRow, newObj, grownCap]
     rw[Aq (fun hh=>by have:=hh.1;omega)]
     rfl)
theorem J5 (hc:zu c) {st xt ty:TypeId} {s x s' x':Value} (hr:Rel base c.n0 ρ h.t.get w) (hs:VR ρ w s s') (hx:VR ρ w x x') (ho:jA c h st xt s x=some outs)
    (hfree: ∀v h' W,(v,h',W)∈outs→kX ρ h.n h'.n) {r:Result Next} (he:r=((do pure (Next.value (←Builtin.append_ #[st,xt] ty #[s',x'])):Sem Next)).run c.P w):kz c base ρ h w outs r:=by
  unfold jA at ho
  split at ho
  · rename_i elem xd bs n cz hu hux
    cases hi:Qs xd with
    |false=>rw[hi]at ho;cases ho
    |true=>
    rw[hi]at ho
    simp only[Bh,Ah]at ho
    replace ho:=Aj.1 ho
    obtain⟨sz,e1,ho⟩:=ho
    replace ho:=Aj.1 ho
    obtain⟨bt,e2,ho⟩:=ho
    replace ho:=Aj.1 ho
    obtain⟨z,e3,ho⟩:=ho
    cases e4:(Nat.beq sz 0||Nat.blt 1000000 bt|| !Nat.beq (qJ z).length sz)with
    |true=>rw[e4]at ho;cases ho
    |false=>
    rw[e4]at ho
    simp only[AU,Cp]at e4
    simp only[Ah]at ho
    obtain⟨⟨e5,e6⟩,e7⟩:=e4
    have hsz:sz≠0:=fun e=>by subst e;simp at e5
    have hbt:bt≤1000000:=by have:=yl e6;omega
    have hzl:=wu e7
    have hz:VRL ρ w (qJ z) z.cells.toList:=(VR.ye 2 (hc.zer elem z e3).2).cells
    have hzs:z.cells.size=sz:=by have:=hz.len;simp at this;omega
    replace ho:=Aj.1 ho
    obtain⟨nw,e8,ho⟩:=ho
    obtain⟨n1,n2⟩:=QS e8 hr hx
    obtain⟨ib,ib1,ib2⟩:=Ak.1 (hc.byt elem bt e2)
    have cF: ∀w1,(typeInfo elem).run c.P w1= .ok ib w1:=fun w1=>by simp[typeInfo,program,ib1,Sem.run]
    split at ho
    ·
      rename_i h0
      cases ho
      rw[h0]at n1 n2
      obtain⟨l,l1,l2,l3⟩:=n2 w rfl
      obtain rfl:l= #[]:=by simpa using l3
      refine kz.pure hr ?_ hs
      rw[he]
      cases hs with
      |nils=>simp only[Sem.run_bind,jD hc hu hux hi e1 n1 (Aw _) l1,Result.andThen];rfl
      |sl b o n sz' cp k d hb hn hroom=>simp only[Sem.run_bind,jD hc hu hux hi e1 n1 (show n+0≤cp by omega) l1,Result.andThen];rfl
      |sl0 b o sz' a'=>simp only[Sem.run_bind,jD hc hu hux hi e1 n1 (Aw _) l1,Result.andThen];cases a'<;>rfl
    · rename_i h0
      cases e9:(Nat.ble (n+nw.2) 200000000000000&&Nat.ble ((n+nw.2)*bt) 200000000000000&&nw.1.all wz)with
      |false=>rw[e9]at ho;cases ho
      |true=>
      rw[e9]at ho
      simp only[Ag]at e9
      obtain⟨⟨e10,tl⟩,e11⟩:=e9
      have hneed:=kU e10
      simp only[Ai]at ho
      have hib:(n+nw.2)*ib.bytes≤200000000000000:=by rw[ib2];exact kU tl
      obtain⟨K6,l1,l2,l3⟩:=n2 w rfl
      obtain⟨Xr,m1,m2,m3⟩:=n2 w.drew rfl
      have hl3:nw.1.length=nw.2*sz:=by have:=l2.len;simp at this;omega
      split at ho
      ·
        split at ho
        · rename_i hn0
          subst hn0
          cases hs with
          | nils =>
            have hmv:=Zb (w:=w) (ty:=ty) hc hu hux hi e1 n1 (show¬0+nw.2≤0 by omega) hneed cF hib (show ib.bytes≤1000000 by rw[ib2];exact hbt) e3 (bs:=none) (old':= #[]) (by simp[Builtin.firstCells,Sem.run_pure]) m1
            refine kz.new (w1:=w.drew) (cs':= #[]++Xr++Builtin.zeroCells z.cells (grownCap w (0+nw.2) 0 elem - (0+nw.2))) (el:=elem) (fr:=(0,0)) (v':= .slice (some ⟨w.heap.size,0,none⟩) nw.2 (grownCap w (0+nw.2) 0 elem)) ho hr hfree (.drew w) rfl ?_ (fun j hj hh=>by simp at hh) ?_ (fun ρ' w' hρ hcl=> ?_)
            · have:((#[]++Xr++Builtin.zeroCells z.cells (grownCap w (0+nw.2) 0 elem - (0+nw.2))).toList.take nw.1.length)=Xr.toList:=by
                rw[hl3,←m3]
                simp
              rw[this]
              exact m2
            · rw [he]
              simp only[Sem.run_bind,hmv,Result.andThen,AQ]
              rfl
            · have hge := grownCap_ge w (0 + nw.2) 0 elem
              refine .sl h.n 0 nw.2 sz _ _ 0 hρ (by omega) ⟨_,hcl,?_⟩
              have:nw.2*sz+(grownCap w (0+nw.2) 0 elem - (0+nw.2))*sz=grownCap w (0+nw.2) 0 elem*sz:=by rw[←Nat.add_mul];congr 1;omega
              have h0:(#[]:Array Value).size=0:=rfl
              rw[B1,B1,vB,m3,hzs,h0]
              omega
        · cases ho
      · rename_i b o
        replace ho:=Aj.1 ho
        obtain⟨cs,f1,ho⟩:=ho
        cases f2:(Nat.ble c.n0 b&&Nat.blt b lim&&Nat.blt h.n lim&&Nat.beq cz sz)with
        |false=>rw[f2]at ho;cases ho
        |true=>
        rw[f2]at ho
        simp only[Ag]at f2
        obtain⟨⟨⟨f3,f4⟩,f5⟩,f8⟩:=f2
        obtain rfl:sz=cz:=(wu f8).symm
        simp only[Ai]at ho
        replace ho:=Aj.1 ho
        obtain⟨old,f6,ho⟩:=ho
        cases ho
        have hb0:=kU f3
        have mJ:=kQ f4
        have rR:=kQ f5
        have hcs:=kF f1
        obtain⟨k,d,hk,hor⟩:=hr.at_ b _ hcs
        obtain⟨cs',hcl,hlen,hvl⟩:=hor.vrl
        obtain⟨f7,rfl⟩:=j5 f6
        have Yv:ρ h.n=none:=hfree _ _ _ (AL.2 rfl) h.n (Aw _) (by simp)
        have mc: ∀(bs':Option Addr) (cap':Nat) (old':Array Value),s'= .slice bs' n cap'→ ¬n+nw.2≤cap'→(Builtin.firstCells sz n (.slice bs' n cap')).run c.P w.drew= .ok old' w.drew→VRL ρ w ((cs.drop o).take (n*sz)) old'.toList→
            kz c base ρ h w [(.slice (some ⟨h.n,0,none⟩) (n+nw.2) sz,⟨(h.t.put b none).put h.n (some (.cells ((cs.drop o).take (n*sz)++nw.1))),h.n+1⟩,[b])] r:=by
          intro bs' cap' old' hs' hcap hold hvo
          have hmv:=Zb (w:=w) (ty:=ty) hc hu hux hi e1 n1 hcap hneed cF hib (show ib.bytes≤1000000 by rw[ib2];exact hbt) e3 hold m1
          have hd:=Ext.drop hr hcs hb0 mJ
          have hnew:Vj ⟨h.t.put b none,h.n⟩ (.cells ((cs.drop o).take (n*sz)++nw.1))=some ⟨(h.t.put b none).put h.n (some (.cells ((cs.drop o).take (n*sz)++nw.1))),h.n+1⟩:=by
            unfold Vj;rw[f5];rfl
          have hge:=grownCap_ge w (n+nw.2) cap' elem
          have hol:((cs.drop o).take (n*sz)).length=n*sz:=by simp;omega
          have tW:old'.size=n*sz:=by have:=hvo.len;simp at this;omega
          have pM:=ZV (w1:=w.drew) (w:=w) rfl (old'++Xr++Builtin.zeroCells z.cells (grownCap w (n+nw.2) cap' elem - (n+nw.2))) elem (0,0) (fun j hj hh=>by simp at hh)
          have hva:VRL ρ w ((cs.drop o).take (n*sz)++nw.1) (old'.toList++Xr.toList):=hvo.append m2
          have hx2:=Ext.K6 (h:=⟨h.t.put b none,h.n⟩) (w:=w) (w1:=w.drew) (ob:= .cells (old'++Xr++Builtin.zeroCells z.cells (grownCap w (n+nw.2) cap' elem - (n+nw.2))) elem (0,0)) hd.rel Yv hnew (.drew w) rfl ⟨_,pM,by simp;omega,fun j x y hx hy=>by
            have hj:j<((cs.drop o).take (n*sz)++nw.1).length:=(AH.1 hx).1
            have hj2:j<(old'++Xr).size:=by have:=hva.len;simp at this hj ⊢;omega
            have hy2:(old'.toList++Xr.toList)[j]? =some y:=by
              rw[←hy,Cj,Array.getElem?_append_left hj2]
              simp[←Array.toList_append]
            exact((hva.at_ j x y hx hy2).grow (Grow.trans (.drew w) (.alloc _ _))).le (Emb.Zr Yv)⟩
          have oM:kX ρ h.n (h.n+1):=fun b' h1 h2=>by
            have e:b'=h.n:=by omega
            rw[e];exact Yv
          have tF:=Ext.trans (H1:=(h.t.put b none).get) (n1:=h.n) oM hr hd hx2.1
          refine⟨_,_,_,AL.2 rfl,.slice (some ⟨w.heap.size,0,none⟩) (n+nw.2) (grownCap w (n+nw.2) cap' elem),_,_,.inl ?_,?_,tF.weaken (by simp) (by simp;exact hb0)⟩
          · rw [he, hs']
            simp only[Sem.run_bind,hmv,Result.andThen]
            rfl
          · refine .sl h.n 0 _ sz _ _ 0 (Emb.ky _ _ _) hge ⟨_, pM, ?_⟩
            simp only[B1,vB,m3,hzs,tW]
            have:n*sz+nw.2*sz+(grownCap w (n+nw.2) cap' elem - (n+nw.2))*sz=grownCap w (n+nw.2) cap' elem*sz:=by rw[←Nat.add_mul,←Nat.add_mul];congr 1;omega
            omega
        cases hs with
        | sl b o n sz' cp k2 d2 hb hn hroom =>
          rw[hk]at hb
          cases hb
          by_cases hcap:n+nw.2≤cp
          · obtain ⟨csR, nt, hro⟩ := hroom
            have hmul:n*sz+nw.2*sz≤cp*sz:=by rw[←Nat.add_mul];exact BA _ hcap
            have hst:=jD (w:=w) (ty:=ty) hc hu hux hi e1 n1 hcap (bs:=some ⟨k,o+d,none⟩) l1
            have hsc:=wk (c:=c) (w:=w) (k:=k) (o:=o+d+n*sz) (cs:=csR) (vs:=K6.toList) nt (Bd hr.sz.1 (hr.high _ _ _ hb0 hk)) (by simp;omega) (K4 l2 e11)
            have hin:=Ext.l7 (m:=n*sz) (old:=(cs.drop o).take (n*sz)) hr Yv hcs hk hb0 mJ rR f6 l2 nt (by omega)
            refine⟨_,_,_,AL.2 rfl,.slice (some ⟨k,o+d,none⟩) (n+nw.2) cp,_,_,.inl ?_,?_,hin⟩
            · rw [he]
              simp only[Sem.run_bind,hst,Addr.jC,hsc,Result.andThen]
              rfl
            · have := VR.sl (ρ := ρ.put h.n (k, o + d)) (w := w.setCells k (o + d + n * sz) K6.toList) h.n 0 (n + nw.2) sz cp k (o + d) (Emb.ky _ _ _) hcap (by rw [AQ]; exact Room.grow ⟨csR, nt, hro⟩ hin.grow)
              rwa [AQ]at this
          · obtain ⟨l, g1, g2, g3⟩ := yZ (c := c) (w1 := w.drew) (o := o) (m := n * sz) hcl rfl hlen hvl f7
            exact mc (some ⟨k,o+d,none⟩) cp l rfl hcap (by simpa[Builtin.firstCells]using g1) g2
        | sl0 b o sz' a' =>
          refine mc a' 0 #[] rfl (by omega) (by cases a'<;>simp[Builtin.firstCells,loadCells,loadCellsFrom,Sem.run_pure]) ?_
          simpa using VRL.nil
      · cases ho
  · cases ho
end
end
section
open Go
variable [Eta]
section
variable {c:Cfg} {base:Nat} {ρ:Emb} {h:Hp} {w:World} {T:Tm} {a:Act} {outs:List Out}
theorem J0 {z:Value} {s n:Nat} (hz:VRL ρ w (qJ z) z.cells.toList) (hl:(qJ z).length=s) (hs:s≠0):
  VRL ρ w (rep (qJ z) n) ((Array.range (n*s)).map (z.cells[· % z.cells.size]!)).toList:=by
 have hzl:z.cells.size=s:=by have:=hz.len;simp at this;omega
 refine⟨by simp[QG,hl],fun i x y hx hy=> ?_⟩
 have hi:i<n*s:=by have:=(AH.1 hx).1;rw[QG,hl]at this;exact this
 rw[Jj _ _ _ (by rw[hl];exact hi),hl]at hx
 simp[hi,hzl]at hy
 have hm:i % s<z.cells.size:=by rw[hzl];exact Nat.mod_lt _ (by omega)
 refine hz.at_ (i % s) x y hx ?_
 rw[←hy]
 simp[hm]
theorem wrap_small {n:Nat} (h:n≤1000000):IntKind.i64.wrap (n:Int)=(n:Int):=by
 simp[IntKind.wrap,IntKind.bits,IntKind.signed]
 omega
theorem Vf (hc:zu c) {t:TypeId} {x y x' y':Value} (hr:Rel base c.n0 ρ h.t.get w) (hx:VR ρ w x x') (hy:VR ρ w y y') (ho:jW c h t x y=some outs)
  (hfree: ∀v h' W,(v,h',W)∈outs→kX ρ h.n h'.n) {r:Result Next} (he:r=((do pure (Next.value (←Instr.makeSlice t x' y')):Sem Next)).run c.P w):kz c base ρ h w outs r:=by
 unfold jW at ho
 split at ho
 ·rename_i el k1 l k2 u hu
  cases hx
  cases hy
  replace ho:=Aj.1 ho
  obtain⟨l1,e1,ho⟩:=ho
  replace ho:=Aj.1 ho
  obtain⟨u1,e2,ho⟩:=ho
  replace ho:=Aj.1 ho
  obtain⟨s,e3,ho⟩:=ho
  replace ho:=Aj.1 ho
  obtain⟨bt,e4,ho⟩:=ho
  replace ho:=Aj.1 ho
  obtain⟨z,e5,ho⟩:=ho
  obtain rfl:=wo e1
  obtain rfl:=wo e2
  cases e6:(Nat.beq s 0||Nat.blt 1000000 bt||Nat.blt 1000000 u1||Nat.blt u1 l1|| !Nat.beq (qJ z).length s)with
  |true=>rw[e6]at ho;cases ho
  |false=>
   rw[e6]at ho
   simp only[AU,Cp]at e6
   simp only[Ah]at ho
   obtain⟨⟨⟨⟨g1,g2⟩,g3⟩,g4⟩,g5⟩:=e6
   have hs:s≠0:=fun e=>by subst e;simp at g1
   have hbt:bt≤1000000:=by have:=yl g2;omega
   have hu1:u1≤1000000:=by have:=yl g3;omega
   have hl1:l1≤u1:=by have:=yl g4;omega
   have hzl:=wu g5
   have hz:VRL ρ w (qJ z) z.cells.toList:=(VR.ye 2 (hc.zer el z e5).2).cells
   obtain⟨ib,ib1,ib2⟩:=Ak.1 (hc.byt el bt e4)
   have cF: ∀w1,(typeInfo el).run c.P w1= .ok ib w1:=fun w1=>by simp[typeInfo,program,ib1,Sem.run]
   have hw1:IntKind.i64.wrap (l1:Int)=(l1:Int):=wrap_small (by omega)
   have hw2:IntKind.i64.wrap (u1:Int)=(u1:Int):=wrap_small hu1
   have pz:(2:Int) ^ 48=281474976710656:=by decide
   have hmul:ib.bytes*u1≤1000000*1000000:=Nat.mul_le_mul (by omega) hu1
   have av:ib.bytes*u1≤1000000000000:=hmul
   have uM:(ib.bytes:Int)*(u1:Int)≤1000000000000:=by rw[←Int.natCast_mul];exact Int.ofNat_le.2 av
   have hno:(decide ((u1:Int)<0)||decide ((ib.bytes:Int)*(u1:Int)>281474976710656)||decide ((l1:Int)<0)||decide ((l1:Int)>(u1:Int)))=false:=by
    simp only[AU,Bx]
    refine⟨⟨⟨?_,?_⟩,?_⟩,?_⟩<;>omega
   have hrun:(Instr.makeSlice t (.int k1 (l1:Int)) (.int k2 (u1:Int))).run c.P w= .ok (.slice (some ⟨w.heap.size,0,none⟩) l1 u1) (w.alloc (.cells ((Array.range (u1*s)).map (z.cells[· % z.cells.size]!)) el)):=by
    have hrb: ¬(u1*ib.bytes>roomBytes):=by
     have h47:roomBytes=140737488355328:=by decide
     rw[h47,Nat.mul_comm]
     have:=av
     omega
    have hcell:(if u1*s=0 then(pure #[]:Sem (Array Value))else do pure (←zeroValue el).cells).run c.P w= .ok (if u1*s=0 then #[]else z.cells) w:=by
     split
     ·rfl
     ·simp only[Sem.run_bind,ji hc e5,Result.andThen];rfl
    simp only[Instr.makeSlice,Sem.run_bind,qR hc hu,Result.andThen,asInt,asIntOf,Sem.run_pure,cF,hw1,hw2,pz]
    rw[Aq (by rw[hno];decide)]
    simp only[askRoom,Av,Aq hrb,Sem.run_bind,zC hc e3,Result.andThen,Sem.run_pure]
    by_cases h0:u1*s=0
    ·have h00 : u1 = 0 := by rcases Nat.mul_eq_zero.1 h0 with h1 | h1 <;> omega
     subst h00
     have hr0:Array.range 0= #[]:=rfl
     simp[newRow,Sem.run_bind,Result.andThen,Sem.run_pure,Sem.run,newObj,hr0]
    ·rw [Aq h0]
     simp only[Sem.run_bind,ji hc e5,Result.andThen,Sem.run_pure]
     simp[newRow,Sem.run_bind,Result.andThen,Sem.run_pure,Sem.run,newObj]
   refine kz.new (cs':=(Array.range (u1*s)).map (z.cells[· % z.cells.size]!)) (el:=el) (fr:=(0,0)) ho hr hfree (.refl w) rfl ?_ (fun j hj hh=>by simp at hh) (v':= .slice (some ⟨w.heap.size,0,none⟩) l1 u1) ?_ (fun ρ' w' hρ hcl=> ?_)
   ·exact(J0 hz hzl hs).we
   ·rw [he]
    simp only[Sem.run_bind,hrun,Result.andThen]
    rfl
   ·exact .sl h.n 0 l1 s u1 _ 0 hρ hl1 ⟨_,hcl,by simp⟩
 ·cases ho
theorem WN (hc:zu c) {st xt ty:TypeId} {s x s' x':Value} (hi:ZF (c.und xt)=true) (hr:Rel base c.n0 ρ h.t.get w) (hs:VR ρ w s s') (hx:VR ρ w x x') (ho:KO c h st s x=some outs)
  (hfree: ∀v h' W,(v,h',W)∈outs→kX ρ h.n h'.n) {r:Result Next} (he:r=((do pure (Next.value (←Builtin.append_ #[st,xt] ty #[s',x'])):Sem Next)).run c.P w):kz c base ρ h w outs r:=by
 unfold KO at ho
 split at ho
 ·rename_i elem k l hu
  cases hs
  cases hx
  replace ho:=Aj.1 ho
  obtain⟨n,e1,ho⟩:=ho
  replace ho:=Aj.1 ho
  obtain⟨sz,e3,ho⟩:=ho
  replace ho:=Aj.1 ho
  obtain⟨bt,e4,ho⟩:=ho
  replace ho:=Aj.1 ho
  obtain⟨z,e5,ho⟩:=ho
  obtain rfl:=wo e1
  cases e6:(Nat.beq n 0||Nat.beq sz 0||Nat.blt 1000000 bt||Nat.blt 1000000 n|| !Nat.beq (qJ z).length sz)with
  |true=>rw[e6]at ho;cases ho
  |false=>
   rw[e6]at ho
   simp only[AU,Cp]at e6
   simp only[Ah]at ho
   obtain⟨⟨⟨⟨g1,g2⟩,g3⟩,g4⟩,g5⟩:=e6
   have hn0:n≠0:=fun e=>by subst e;simp at g1
   have hs:sz≠0:=fun e=>by subst e;simp at g2
   have hbt:bt≤1000000:=by have:=yl g3;omega
   have hn1:n≤1000000:=by have:=yl g4;omega
   have hzl:=wu g5
   have hz:VRL ρ w (qJ z) z.cells.toList:=(VR.ye 2 (hc.zer elem z e5).2).cells
   have hzs:z.cells.size=sz:=by have:=hz.len;simp at this;omega
   obtain⟨ib,ib1,ib2⟩:=Ak.1 (hc.byt elem bt e4)
   have cF: ∀w1,(typeInfo elem).run c.P w1= .ok ib w1:=fun w1=>by simp[typeInfo,program,ib1,Sem.run]
   obtain⟨ik,hik⟩: ∃ik,c.und xt=some (.int ik):=by
    unfold ZF at hi
    split at hi
    ·rename_i ik e;exact⟨ik,e⟩
    ·cases hi
   have hw1:IntKind.i64.wrap (n:Int)=(n:Int):=wrap_small hn1
   have av:ib.bytes*n≤1000000000000:=Nat.mul_le_mul (show ib.bytes≤1000000 by omega) hn1
   have pz:(2:Int) ^ 48=281474976710656:=by decide
   have hl2: ¬((n:Int)*(ib.bytes:Int)>281474976710656):=by
    rw[←Int.natCast_mul,Nat.mul_comm]
    have:=Int.ofNat_le.2 av
    omega
   have ru: ¬((n:Int)<0):=by omega
   have tQ: ¬(((0+n:Nat):Int)>IntKind.i64.max):=by have:IntKind.i64.max=9223372036854775807:=rfl;rw[this];omega
   have hcp: ¬(Builtin.nextslicecap (0+n) 0*ib.bytes>2 ^ 48):=by
    have h1:=YG (show 0+n≤1000000 by omega) (show 0≤1000000 by omega)
    have h3:=Nat.mul_le_mul h1 (show ib.bytes≤1000000 by omega)
    have h4:(2:Nat) ^ 48=281474976710656:=by decide
    rw[h4]
    exact Nat.not_lt.2 (Bd h3 (by decide))
   have hnz: ¬n*sz=0:=by
    intro hm
    rcases Nat.mul_eq_zero.1 hm with h1|h1<;>omega
   have hle: ¬0+n≤0:=by omega
   have hd:({w with drawn:=w.drawn+1}:World)=w.drew:=rfl
   have hrun:(Builtin.append_ #[st,xt] ty #[.slice none 0 0,.int k (n:Int)]).run c.P w= .ok (.slice (some ⟨w.heap.size,0,none⟩) (0+n) (grownCap w (0+n) 0 elem)) (w.drew.alloc (.cells (#[]++Builtin.zeroCells z.cells n++Builtin.zeroCells z.cells (grownCap w (0+n) 0 elem - (0+n))) elem)):=by
    have gB: ¬(IntKind.i64.max<(n:Int)):=by have:IntKind.i64.max=9223372036854775807:=rfl;rw[this];omega
    have tV: ¬(2 ^ 48<Builtin.nextslicecap n 0*ib.bytes):=by rw[AQ]at hcp;exact hcp
    have hl3: ¬((2:Int) ^ 48<(n:Int)*(ib.bytes:Int)):=by rw[pz];exact hl2
    simp[Builtin.append_,qR hc hu,qR hc hik,zC hc e3,Result.andThen,asInt,asIntOf,hw1,hn0,hs,cF,ru,hl3,gB,tV,choose,Sem.run,Question.forced,hd,ji hc e5,askRoom,newRow,newObj,grownCap,Builtin.firstCells]
    have hnn: ¬(9223372036854775807<(n:Int)):=by omega
    have hl4: ¬(281474976710656<(n:Int)*(ib.bytes:Int)):=hl2
    have ti: ¬(281474976710656<Builtin.nextslicecap n 0*ib.bytes):=by rw[AQ]at hcp;exact hcp
    have pE: ¬((n:Int)<0):=ru
    simp only[Aq hnn,Aq hl4,Aq ti,Aq hnz,Aq pE]
    rfl
   have hge:=grownCap_ge w (0+n) 0 elem
   refine kz.new (w1:=w.drew) (cs':= #[]++Builtin.zeroCells z.cells n++Builtin.zeroCells z.cells (grownCap w (0+n) 0 elem - (0+n))) (el:=elem) (fr:=(0,0)) (v':= .slice (some ⟨w.heap.size,0,none⟩) n (grownCap w (0+n) 0 elem)) ho hr hfree (.drew w) rfl ?_ (fun j hj hh=>by simp at hh) ?_ (fun ρ' w' hρ hcl=> ?_)
   ·have e9 : Builtin.zeroCells z.cells n = (Array.range (n * sz)).map (z.cells[· % z.cells.size]!) := by unfold Builtin.zeroCells; rw [hzs]
    have hv:=J0 (n:=n) hz hzl hs
    rw[←e9]at hv
    have e10:((#[]++Builtin.zeroCells z.cells n++Builtin.zeroCells z.cells (grownCap w (0+n) 0 elem - (0+n))).toList.take (rep (qJ z) n).length)=(Builtin.zeroCells z.cells n).toList:=by
     rw[hv.len]
     simp
    rw[e10]
    exact hv
   ·rw [he]
    simp only[Sem.run_bind,hrun,Result.andThen,AQ]
    rfl
   ·refine .sl h.n 0 n sz _ _ 0 hρ (by omega) ⟨_, hcl, ?_⟩
    have e11:n*sz+(grownCap w (0+n) 0 elem - (0+n))*sz=grownCap w (0+n) 0 elem*sz:=by rw[←Nat.add_mul];congr 1;omega
    have h0:(#[]:Array Value).size=0:=rfl
    rw[B1,B1,vB,vB,hzs,h0]
    omega
 ·cases ho
theorem XX (hc:zu c) {src dst el:TypeId} {s:ByteArray} (h1:c.und src=some .string) (h2:c.und dst=some (.slice el)) (hr:Rel base c.n0 ρ h.t.get w) (ho:K7 c h el s=some outs)
  (hfree: ∀v h' W,(v,h',W)∈outs→kX ρ h.n h'.n) {r:Result Next} (he:r=((do pure (Next.value (←convert src dst (.string s))):Sem Next)).run c.P w):kz c base ρ h w outs r:=by
 unfold K7 at ho
 split at ho
 ·rename_i hu hs
  cases e6:Nat.ble s.data.toList.length 1000000 with
  |false=>rw[e6]at ho;cases ho
  |true=>
   rw[e6]at ho
   simp only[Ai]at ho
   have hrun:=run_bytes_of_string (P:=c.P) w src dst el s (hc.und _ _ h1) (hc.und _ _ h2) (hc.und _ _ hu)
   have hge:=grownCap_ge w s.size 0 el
   have hss:s.size=s.data.toList.length:=ByteArray.wU s
   have hbs:(bytesRow s (grownCap w s.size 0 el)).size=grownCap w s.size 0 el:=by
    have hd:s.data.size=s.size:=rfl
    unfold bytesRow
    rw[B1,Array.size_map,Array.size_replicate,hd]
    omega
   refine kz.new (w1:=w.drew) (cs':=bytesRow s (grownCap w s.size 0 el)) (el:=el) (fr:=((bytesRow s (grownCap w s.size 0 el)).size,(bytesRow s (grownCap w s.size 0 el)).size+1)) (v':= .slice (some ⟨w.heap.size,0,none⟩) s.data.toList.length (grownCap w s.size 0 el)) ho hr hfree (.drew w) rfl ?_ (fun j hj hh=>by simp only at hh;omega) ?_ (fun ρ' w' hρ hcl=> ?_)
   ·have e10:((bytesRow s (grownCap w s.size 0 el)).toList.take (s.data.toList.map fun b=>Value.int .u8 b.toNat).length)=s.data.toList.map fun b=>Value.int .u8 b.toNat:=by
     unfold bytesRow
     rw[B3,B7,List.take_left]
    rw[e10]
    refine⟨rfl,fun i x y hx hy=> ?_⟩
    rw[hx]at hy
    cases hy
    simp only[BN,Ak]at hx
    obtain⟨b,_,rfl⟩:=hx
    exact .int _ _
   ·rw [he]
    simp only[Sem.run_bind,hrun,Result.andThen,hss]
    rfl
   ·exact .sl h.n 0 _ 1 _ _ 0 hρ (by omega) ⟨_,hcl,by rw[hbs];omega⟩
 ·cases ho
theorem yL (s:ByteArray): ∀(k i:Nat) (acc:Array Value),(Conv.runesFrom s k i acc).toList=acc.toList++wG s k i
 |0,i,acc=>by simp[Conv.runesFrom,wG]
 |k+1,i,acc=>by
  have hss:s.size=s.data.toList.length:=ByteArray.wU s
  unfold Conv.runesFrom wG
  cases e:Nat.blt i s.data.toList.length with
  |true=>rw[Ax (by rw[hss];exact kQ e)];simp only[Ai];rw[yL s k];simp
  |false=>rw[Aq (by rw[hss];exact yl e)];simp
theorem Yk (hc:zu c) {src dst el:TypeId} {s:ByteArray} (h1:c.und src=some .string) (h2:c.und dst=some (.slice el)) (hr:Rel base c.n0 ρ h.t.get w) (ho:YJ c h el s=some outs)
  (hfree: ∀v h' W,(v,h',W)∈outs→kX ρ h.n h'.n) {r:Result Next} (he:r=((do pure (Next.value (←convert src dst (.string s))):Sem Next)).run c.P w):kz c base ρ h w outs r:=by
 unfold YJ at ho
 split at ho
 ·rename_i hu hs
  cases e6:Nat.ble s.data.toList.length 1000000 with
  |false=>rw[e6]at ho;cases ho
  |true=>
   rw[e6]at ho
   simp only[Ai]at ho
   have hss:s.size=s.data.toList.length:=ByteArray.wU s
   have hsz:=size_runesFrom s s.size 0 #[]
   have hle:=kU e6
   have hrun:=run_runes_of_string (P:=c.P) w src dst el s (hc.und _ _ h1) (hc.und _ _ h2) (hc.und _ _ hu) (by simp at hsz;omega)
   have hL:(Conv.runesFrom s s.size 0 #[]).toList=wG s s.data.toList.length 0:=by rw[yL,hss];simp
   have hLs:(Conv.runesFrom s s.size 0 #[]).size=(wG s s.data.toList.length 0).length:=by rw[←hL];simp
   generalize hR:Conv.runesFrom s s.size 0 #[]=R at hrun hL hLs
   have hge:=grownCap_ge w R.size 0 el
   have hbs:(R++Array.replicate (grownCap w R.size 0 el - R.size) (Value.int .i32 0)).size=grownCap w R.size 0 el:=by
    rw[B1,Array.size_replicate]
    omega
   refine kz.new (w1:=w.drew) (cs':=R++Array.replicate (grownCap w R.size 0 el - R.size) (Value.int .i32 0)) (el:=el) (fr:=(0,0)) (v':= .slice (some ⟨w.heap.size,0,none⟩) (wG s s.data.toList.length 0).length (grownCap w R.size 0 el)) ho hr hfree (.drew w) rfl ?_ (fun j hj hh=>by simp only at hh;omega) ?_ (fun ρ' w' hρ hcl=> ?_)
   ·have e10:((R++Array.replicate (grownCap w R.size 0 el - R.size) (Value.int .i32 0)).toList.take (wG s s.data.toList.length 0).length)=wG s s.data.toList.length 0:=by
     rw[B3,hL,List.take_left]
    rw[e10]
    have pD: ∀(k i j:Nat) (v:Value),(wG s k i)[j]? =some v→ ∃n,v= .int .i32 n:=by
     intro k
     induction k with
     |zero=>intro i j v hv;simp[wG]at hv
     |succ k ih=>
      intro i j v hv
      unfold wG at hv
      cases e:Nat.blt i s.data.toList.length with
      |false=>rw[e]at hv;simp at hv
      |true=>
       rw[e]at hv
       simp only[Ai]at hv
       cases j with
       |zero=>simp at hv;exact⟨_,hv.symm⟩
       |succ j=>exact ih _ j v (by simpa using hv)
    refine⟨rfl,fun i x y hx hy=> ?_⟩
    rw[hx]at hy
    cases hy
    obtain⟨n,rfl⟩:=pD _ _ _ _ hx
    exact .int _ _
   ·rw [he]
    simp only[Sem.run_bind,hrun,Result.andThen,hLs]
    rfl
   ·exact .sl h.n 0 _ 1 _ _ 0 hρ (by omega) ⟨_,hcl,by rw[hbs];omega⟩
 ·cases ho
theorem bZ (hc:zu c) {src dst el:TypeId} {s:ByteArray} (h1:c.und src=some .string) (h2:c.und dst=some (.slice el)) (hr:Rel base c.n0 ρ h.t.get w) (ho:ba c h el s=some outs)
  (hfree: ∀v h' W,(v,h',W)∈outs→kX ρ h.n h'.n) {r:Result Next} (he:r=((do pure (Next.value (←convert src dst (.string s))):Sem Next)).run c.P w):kz c base ρ h w outs r:=by
 unfold ba at ho
 cases e:Y8 (c.und el)with
 |true=>rw[e]at ho;exact Yk hc h1 h2 hr ho hfree he
 |false=>rw[e]at ho;exact XX hc h1 h2 hr ho hfree he
theorem cP (hc:zu c) {m:String} {t:TypeId} {x':Value} {p:FuncId×Bool} {e:TypeId} {rest:Array Value} (h1:c.met t m=some p) (h2:c.und t=some (.pointer e)) (h3:p.2=true) (w:World):
  (callMethod (.iface t x') m rest).run c.P w=(callFunc p.1 (#[x']++rest)).run c.P w:=by
 obtain⟨i,r,a1,a2,a3,a4⟩:=hc.met t m p h1
 have hti:(typeInfo t).run c.P w= .ok i w:=by simp[typeInfo,program,a1,Sem.run]
 obtain⟨f,pr⟩:=p
 simp only at h3
 subst h3
 have hm: ∀n,(method (n+1) t x' m).run c.P w= .ok (f,x') w:=fun n=>by
  unfold method
  simp only[Sem.run_bind,hti,Result.andThen,a2,a3]
  have hf:(follow (#[]:Array FieldStep).toList t (.val x')).run c.P w= .ok (t,.val x') w:=rfl
  simp only[Sem.run_bind,hf,Result.andThen,a4,receiverAt,qR hc h2,Place.get,Sem.run_pure]
 unfold callMethod
 have hpr:program.run c.P w= .ok c.P w:=rfl
 have hfu:c.P.types.size+Made.depth=(c.P.types.size+99)+1:=rfl
 simp only[Sem.run_bind,hpr,Result.andThen]
 rw[hfu,hm]
theorem bJ (hc:zu c) {t t2 ty:TypeId} {d s d' s':Value} (hr:Rel base c.n0 ρ h.t.get w) (hd:VR ρ w d d') (hs:VR ρ w s s') (ho:eK c h t d s=some outs)
  {r:Result Next} (he:r=((do pure (Next.value (←Builtin.copy_ #[t,t2] ty #[d',s'])):Sem Next)).run c.P w):kz c base ρ h w outs r:=by
 unfold eK at ho
 split at ho
 ·rename_i el a n cz hu
  replace ho:=Aj.1 ho
  obtain⟨sz,e1,ho⟩:=ho
  replace ho:=Aj.1 ho
  obtain⟨nw,e2,ho⟩:=ho
  obtain⟨n1,n2⟩:=QS e2 hr hs
  obtain⟨l,l1,l2,l3⟩:=n2 w rfl
  obtain⟨a',cp,rfl⟩: ∃a' cp,d'= .slice a' n cp:=by
   cases hd
   ·exact⟨_,_,rfl⟩
   ·exact⟨_,_,rfl⟩
   ·exact⟨_,_,rfl⟩
  split at ho
  ·rename_i h0
   cases ho
   rw[h0]at n1 l1 l3
   obtain rfl:l= #[]:=by simpa using l3
   refine kz.pure hr ?_ (.int .i64 0)
   rw[he]
   cases a' with
   |none=>simp[Builtin.copy_,Sem.run_bind,qR hc hu,zC hc e1,Result.andThen,n1,l1,Sem.run_pure,goInt]
   |some a'=>simp[Builtin.copy_,Sem.run_bind,qR hc hu,zC hc e1,Result.andThen,n1,l1,Sem.run_pure,goInt,storeCells]
  ·rename_i h0
   cases e3:Nat.ble nw.2 n with
   |false=>rw[e3]at ho;cases ho
   |true=>
   rw[e3]at ho
   simp only[Ai]at ho
   have hle:=kU e3
   split at ho
   ·rename_i b o
    obtain⟨p,e5,rfl⟩:=Ak.1 ho
    unfold xJ at e5
    replace e5:=Aj.1 e5
    obtain⟨cs,e6,e7⟩:=e5
    cases e8:(Nat.ble c.n0 b&&Nat.blt b lim&&Nat.ble (o+nw.1.length) cs.length&&nw.1.all wz)with
    |false=>rw[e8]at e7;cases e7
    |true=>
     rw[e8]at e7
     cases e7
     simp only[Ag]at e8
     obtain⟨⟨⟨g1,g2⟩,g3⟩,g4⟩:=e8
     cases hd with
     |sl _ _ _ _ _ k d hb hn hroom=>
      obtain⟨k',d',f1,f2⟩:=hr.at_ b _ (kF e6)
      rw[hb]at f1
      cases f1
      obtain⟨cs',hcl,hlen,hvl⟩:=f2.vrl
      have hl2:=l2.len
      have h3:=kU g3
      have hst:=wk (c:=c) (w:=w) (k:=k) (o:=o+d) (cs:=cs') (vs:=l.toList) hcl (Bd hr.sz.1 (hr.high _ _ _ (kU g1) hb)) (by simp at hl2 ⊢;omega) (K4 l2 g4)
      have hex:=Ext.store (o:=o) (vs:=nw.1) (vs':=l.toList) hr (kF e6) hb (kU g1) (kQ g2) h3 l2
      refine⟨_,_,_,AL.2 rfl,.int .i64 nw.2,_,_,.inl ?_,.int _ _,hex⟩
      have tN:Nat.min nw.2 n=nw.2:=Nat.min_eq_left hle
      rw[he]
      simp[Builtin.copy_,Sem.run_bind,qR hc hu,zC hc e1,Result.andThen,n1,tN,l1,hst,Sem.run_pure,goInt]
     |sl0 _ _ _ a=>exact absurd (Nat.le_zero.1 hle) h0
   ·cases ho
 ·cases ho
end
end
section
open Go
variable [Eta]
section
variable {c:Cfg} {base:Nat} {ρ:Emb} {h:Hp} {w:World} {T:Tm} {a:Act} {outs:List Out}
def ERL (ρ:Emb) (w:World) (es:List Ent) (es':List MapEntry):Prop:=es.length=es'.length∧ ∀(j:Nat) e e',es[j]? =some e→es'[j]? =some e'→e'.key=e.1∧VR ρ w e.2.1 e'.val∧e'.born=e.2.2
theorem ERL.grow {w':World} {es:List Ent} {es':List MapEntry} (h:ERL ρ w es es') (g:Grow w w'):ERL ρ w' es es':=⟨h.1,fun j e e' he he'=>⟨(h.2 j e e' he he').1,(h.2 j e e' he he').2.1.grow g,(h.2 j e e' he he').2.2⟩⟩
theorem ERL.head {e:Ent} {e':MapEntry} {es:List Ent} {es':List MapEntry} (h:ERL ρ w (e::es) (e'::es')):(e'.key=e.1∧VR ρ w e.2.1 e'.val∧e'.born=e.2.2)∧ERL ρ w es es':=
 ⟨h.2 0 e e' rfl rfl,by simpa using h.1,fun j x y hx hy=>h.2 (j+1) x y (by simpa using hx) (by simpa using hy)⟩
theorem ERL.zp {e:Ent} {es:List Ent} {l:List MapEntry} (h:ERL ρ w (e::es) l): ∃e' es',l=e'::es'∧(e'.key=e.1∧VR ρ w e.2.1 e'.val∧e'.born=e.2.2)∧ERL ρ w es es':=by
 cases l with
 |nil=>have:=h.1;simp at this
 |cons e' es'=>exact⟨e',es',rfl,h.head⟩
theorem ERL.kg {l:List MapEntry} (h:ERL ρ w [] l):l=[]:=by
 cases l with
 |nil=>rfl
 |cons e' es'=>have:=h.1;simp at this
theorem ERL.nil:ERL ρ w [] []:=⟨rfl,fun j e e' h=>by simp at h⟩
theorem ERL.cons {e:Ent} {e':MapEntry} {es:List Ent} {es':List MapEntry} (h:e'.key=e.1∧VR ρ w e.2.1 e'.val∧e'.born=e.2.2) (t:ERL ρ w es es'):ERL ρ w (e::es) (e'::es'):=
 ⟨by simp [t.1], fun j x y hx hy => by
  cases j with
  |zero=>simp at hx hy;subst hx;subst hy;exact h
  |succ j=>simp at hx hy;exact t.2 j x y hx hy⟩
theorem ERL.append {es us:List Ent} {es' us':List MapEntry} (h:ERL ρ w es es') (k:ERL ρ w us us'):ERL ρ w (es++us) (es'++us'):=by
 induction es generalizing es' with
 |nil=>rw[h.kg];exact k
 |cons e es ih=>obtain⟨e',l,rfl,a1,a2⟩:=h.zp;exact ERL.cons a1 (ih a2)
end
end
section
open Go
variable [Eta]
section
variable {c:Cfg} {base:Nat} {ρ:Emb} {h:Hp} {w:World} {T:Tm} {a:Act} {outs:List Out}
end
end
section
open Go
variable [Eta]
section
variable {c:Cfg} {base:Nat} {ρ:Emb} {h:Hp} {w:World} {T:Tm} {a:Act} {outs:List Out}
theorem VR.pair {w':World} {v v':Value} {n:Nat} (hv:VR ρ w' v v'):VR ρ w' (.tuple #[v,.int .i64 n]) (.tuple #[v',.int .i64 n]):=by
 have:VRL ρ w' [v,.int .i64 n] [v',.int .i64 n]:=VRL.cons hv (VRL.cons (.int _ _) VRL.nil)
 exact .tuple _ _ this.len this.at_
end
end
section
open Go
variable [Eta]
section
variable {c:Cfg} {base:Nat} {ρ:Emb} {h:Hp} {w:World} {T:Tm} {a:Act} {outs:List Out}
end
end
section
open Go
variable [Eta]
section
variable {c:Cfg} {base:Nat} {ρ:Emb} {h:Hp} {w:World} {T:Tm} {a:Act} {outs:List Out}
theorem Xu {b:Nat} {l:List Nat}:ch b l=true↔b∈l:=by
 unfold ch
 rw[List.any_eq_true]
 constructor
 ·rintro⟨x,h1,h2⟩;rw[wu h2];exact h1
 ·intro h;exact⟨b,h,by simp⟩
theorem ERL.filter {p:Ent→Bool} {q:MapEntry→Bool}: ∀{es:List Ent} {es':List MapEntry},ERL ρ w es es'→(∀e e',e'.born=e.2.2→q e'=p e)→ERL ρ w (es.filter p) (es'.filter q)
 |[],es',he,hp=>by obtain rfl:=he.kg;exact ERL.nil
 |e::es,l,he,hp=>by
  obtain⟨e',es',rfl,h1,h2⟩:=he.zp
  have ih:=ERL.filter h2 hp
  simp only[Cw,hp e e' h1.2.2]
  split
  ·exact ERL.cons h1 ih
  ·exact ih
theorem ERL.all {p:Ent→Bool} {q:MapEntry→Bool}: ∀{es:List Ent} {es':List MapEntry},ERL ρ w es es'→(∀e e',e'.born=e.2.2→q e'=p e)→es'.all q=es.all p
 |[],es',he,hp=>by obtain rfl:=he.kg;rfl
 |e::es,l,he,hp=>by
  obtain⟨e',es',rfl,h1,h2⟩:=he.zp
  simp only[A1,hp e e' h1.2.2,ERL.all h2 hp]
theorem ERL.isEmpty {es:List Ent} {es':List MapEntry} (he:ERL ρ w es es'):es'.isEmpty=es.isEmpty:=by
 cases es with
 |nil=>rw[he.kg];rfl
 |cons e es=>obtain⟨e',es',rfl,_⟩:=he.zp;rfl
end
end
section
open Go
variable [Eta]
section
variable {c:Cfg} {base:Nat} {ρ:Emb} {h:Hp} {w:World} {T:Tm} {a:Act} {outs:List Out}
theorem VQ: ∀{l:List Value} {r:List UInt8} {l':List Value},yz l=some r→VRL ρ w l l'→ ∃ns:List Int,l'=ns.map (Value.int .u8)∧r=ns.map fun n=>UInt8.ofNat n.toNat
 |[],r,l',h,hv=>by cases h;rw[hv.kg];exact⟨[],rfl,rfl⟩
 |v::l,r,l',h,hv=>by
  unfold yz at h
  obtain⟨b,h1,h2⟩:=Aj.1 h
  obtain⟨r',h3,rfl⟩:=Ak.1 h2
  obtain⟨y,ys,rfl,k1,k2⟩:=hv.zp
  obtain⟨ns,e1,e2⟩:=VQ h3 k2
  unfold fu at h1
  split at h1
  ·rename_i n
   cases h1
   cases k1
   exact⟨n::ns,by simp[e1],by simp[e2]⟩
  ·cases h1
theorem VL: ∀{l:List Value} {r:List Int} {l':List Value},ZB l=some r→VRL ρ w l l'→l'=r.map (Value.int .i32)
 |[],r,l',h,hv=>by cases h;rw[hv.kg];rfl
 |v::l,r,l',h,hv=>by
  unfold ZB at h
  obtain⟨b,h1,h2⟩:=Aj.1 h
  obtain⟨r',h3,rfl⟩:=Ak.1 h2
  obtain⟨y,ys,rfl,k1,k2⟩:=hv.zp
  have e1:=VL h3 k2
  unfold mq at h1
  split at h1
  ·cases h1
   cases k1
   simp[e1]
  ·cases h1
theorem Z4 (ns:List Int):runesBytes ns=⟨(ns.flatMap fun n=>(Utf8.encode n).data.toList).toArray⟩:=by
 have key: ∀(ns:List Int) (s:ByteArray),ns.foldl (fun r n=>r++Utf8.encode n) s=⟨s.data++(ns.flatMap fun n=>(Utf8.encode n).data.toList).toArray⟩:=by
  intro ns
  induction ns with
  |nil=>intro s;simp
  |cons n ns ih=>
   intro s
   rw[Bi,ih]
   apply ByteArray.ext
   apply BW
   simp[Cu]
 unfold runesBytes
 rw[key]
 apply ByteArray.ext
 apply BW
 simp[ByteArray.empty,ByteArray.emptyWithCapacity]
 rfl
theorem Xp (hc:zu c) {src dst el:TypeId} {ad:Option Addr} {n k:Nat} {y v:Value} (h1:c.und src=some (.slice el)) (h2:c.und dst=some .string) (hr:Rel base c.n0 ρ h.t.get w) (hx:VR ρ w (.slice ad n k) y) (ho:QT c h el ad n=some v):
  ∃v',(convert src dst y).run c.P w= .ok v' w∧VR ρ w v v':=by
 unfold QT at ho
 split at ho
 ·rename_i hu
  cases ho
  cases hx
  refine⟨.string ⟨#[]⟩,?_,.string _⟩
  rw[run_convert_bytes_string w src dst el none 0 0 (hc.und _ _ h1) (hc.und _ _ hu) (hc.und _ _ h2)]
  rfl
 ·rename_i b o hu
  obtain⟨cs,e1,ho⟩:=Aj.1 ho
  obtain⟨l,e2,ho⟩:=Aj.1 ho
  obtain⟨r,e3,rfl⟩:=Ak.1 ho
  obtain⟨e4,rfl⟩:=j5 e2
  have fin: ∀(k' off cap:Nat) (l':Array Value),(loadCells ⟨k',off,none⟩ n).run c.P w= .ok l' w→VRL ρ w ((cs.drop o).take n) l'.toList→ ∃v',(convert src dst (.slice (some ⟨k',off,none⟩) n cap)).run c.P w= .ok v' w∧VR ρ w (.string ⟨r.toArray⟩) v':=by
   intro k' off cap l' hrun hv
   obtain⟨ns,f1,f2⟩:=VQ e3 hv
   have hl:l'=(ns.map (Value.int .u8)).toArray:=BW (by simpa using f1)
   rw[hl]at hrun
   refine⟨.string ⟨r.toArray⟩,?_,.string _⟩
   rw[run_convert_bytes_string w src dst el _ _ _ (hc.und _ _ h1) (hc.und _ _ hu) (hc.und _ _ h2),run_bytesToString w _ _ _ ns hrun,foldl_push_bytes,f2]
   simp[ByteArray.empty,ByteArray.emptyWithCapacity]
   rfl
  cases hx with
  |sl b o m sz cc kk d hb hh hro=>
   obtain⟨k',d',g1,g2⟩:=hr.at_ b _ (kF e1)
   rw[hb]at g1
   cases g1
   obtain⟨cs',h3,h4,h5⟩:=g2.vrl
   obtain⟨l',f1,f2,f3⟩:=yZ (c:=c) (w1:=w) h3 rfl h4 h5 e4
   exact fin _ _ _ l' f1 f2
  |sl0 b o sz ad=>
   have hz:yz ((cs.drop o).take 0)=some r:=e3
   have e3':r=[]:=by simp[yz]at hz;exact hz
   refine⟨.string ⟨#[]⟩,?_,by rw[e3'];exact .string _⟩
   cases ad with
   |none=>
    rw[run_convert_bytes_string w src dst el none 0 0 (hc.und _ _ h1) (hc.und _ _ hu) (hc.und _ _ h2)]
    rfl
   |some ad=>
    obtain⟨kb,ko,ks⟩:=ad
    rw[run_convert_bytes_string w src dst el _ _ _ (hc.und _ _ h1) (hc.und _ _ hu) (hc.und _ _ h2),run_bytesToString w _ _ _ [] rfl]
    rfl
 ·rename_i hu
  cases ho
  cases hx
  refine⟨.string ⟨#[]⟩,?_,.string _⟩
  rw[run_convert_runes_string w src dst el none 0 0 (hc.und _ _ h1) (hc.und _ _ hu) (hc.und _ _ h2)]
  rfl
 ·rename_i b o hu
  obtain⟨cs,e1,ho⟩:=Aj.1 ho
  obtain⟨l,e2,ho⟩:=Aj.1 ho
  obtain⟨r,e3,rfl⟩:=Ak.1 ho
  obtain⟨e4,rfl⟩:=j5 e2
  have fin: ∀(k' off cap:Nat) (l':Array Value),(loadCells ⟨k',off,none⟩ n).run c.P w= .ok l' w→VRL ρ w ((cs.drop o).take n) l'.toList→ ∃v',(convert src dst (.slice (some ⟨k',off,none⟩) n cap)).run c.P w= .ok v' w∧VR ρ w (.string ⟨(r.flatMap fun n=>(Utf8.encode n).data.toList).toArray⟩) v':=by
   intro k' off cap l' hrun hv
   have f1:=VL e3 hv
   have hl:l'=(r.map (Value.int .i32)).toArray:=BW (by simpa using f1)
   rw[hl]at hrun
   refine⟨_,?_,.string _⟩
   rw[run_convert_runes_string w src dst el _ _ _ (hc.und _ _ h1) (hc.und _ _ hu) (hc.und _ _ h2),run_runesToString w _ _ _ r hrun,Z4]
  cases hx with
  |sl b o m sz cc kk d hb hh hro=>
   obtain⟨k',d',g1,g2⟩:=hr.at_ b _ (kF e1)
   rw[hb]at g1
   cases g1
   obtain⟨cs',h3,h4,h5⟩:=g2.vrl
   obtain⟨l',f1,f2,f3⟩:=yZ (c:=c) (w1:=w) h3 rfl h4 h5 e4
   exact fin _ _ _ l' f1 f2
  |sl0 b o sz ad=>
   have hz:ZB ((cs.drop o).take 0)=some r:=e3
   have e3':r=[]:=by simp[ZB]at hz;exact hz
   refine⟨.string ⟨#[]⟩,?_,by rw[e3'];exact .string _⟩
   cases ad with
   |none=>
    rw[run_convert_runes_string w src dst el none 0 0 (hc.und _ _ h1) (hc.und _ _ hu) (hc.und _ _ h2)]
    rfl
   |some ad=>
    obtain⟨kb,ko,ks⟩:=ad
    rw[run_convert_runes_string w src dst el _ _ _ (hc.und _ _ h1) (hc.und _ _ hu) (hc.und _ _ h2),run_runesToString w _ _ _ [] rfl]
    rfl
 ·cases ho
end
end
section
open Go
variable [Eta]
section
variable {c:Cfg} {base:Nat} {ρ:Emb} {h:Hp} {w:World} {T:Tm} {a:Act} {outs:List Out}
theorem iz {v:Bool} {x y x' y':Value} (hx:VR ρ w x x') (hy:VR ρ w y y'):VR ρ w (gw v x y) (if v then x' else y'):=by
 unfold gw
 split
 ·cases hx;cases hy;cases v<;>constructor
 ·cases v
  ·simpa using hy
  ·simpa using hx
theorem zz {α β:Type} {x:Option α} {f:α→Option β} {y:β} (h:x.bind f=some y): ∃a,x=some a∧f a=some y:=Aj.1 h
theorem eA {x:Option Operand} {v:Option Value} (hx: ∀y,x=some y→EV c ρ w T a y) (h:evo c T x=some v):OV ρ w v (x.map a.eval):=by
 cases x with
 |none=>cases h;trivial
 |some x=>
  obtain⟨u,h1,rfl⟩:=Ak.1 h
  exact hx x rfl u h1
set_option maxHeartbeats 4000000 in
theorem eZ (hc:zu c) {op:BinOp} {t:TypeId} {x y x' y':Value} {v:Value} (X Y:Operand) (hb:wC c op t X Y x y=some v) (hx:VR ρ w x x') (hy:VR ρ w y y'):
  ∃v',(do eqGuard op t X Y x' y';binOp op t x' y').run c.P w= .ok v' w∧VR ρ w v v':=by
 unfold wC at hb
 split at hb
 ·rename_i u hn
  cases hb
  unfold pe at hn
  have key: ∀(r:Bool) ms,lS x y=some r→c.und t=some (.interface ms)→(Op.equal t x' y').run c.P w= .ok r w∧(∀op,(jr X||jr Y)=true→(eqGuard op t X Y x' y').run c.P w= .ok () w)∧binOp .eql t x' y'=(do pure (.bool (←Op.equal t x' y')))∧binOp .neq t x' y'=(do pure (.bool (!(←Op.equal t x' y')))):=by
   intro r ms hr hu
   have heq: ∀a b,((a= .nilIface∧b= .nilIface∧r=true)∨(∃t v,a= .iface t v∧b= .nilIface∧r=false)∨(∃t v,a= .nilIface∧b= .iface t v∧r=false))→(Op.equal t a b).run c.P w= .ok r w∧(∀op,(jr X||jr Y)=true→(eqGuard op t X Y a b).run c.P w= .ok () w)∧binOp .eql t a b=(do pure (.bool (←Op.equal t a b)))∧binOp .neq t a b=(do pure (.bool (!(←Op.equal t a b)))):=by
    intro a b hab
    refine⟨?_,fun op hco=> ?_,?_,?_⟩
    ·show (Op.equalIn (9999 + 1) t a b).run c.P w = _
     unfold Op.equalIn
     rcases hab with⟨rfl,rfl,rfl⟩|⟨_,_,rfl,rfl,rfl⟩|⟨_,_,rfl,rfl,rfl⟩<;>(simp only[Sem.run_bind,qR hc hu,Result.andThen];rfl)
    ·rcases hab with⟨rfl,rfl,rfl⟩|⟨_,_,rfl,rfl,rfl⟩|⟨_,_,rfl,rfl,rfl⟩<;>first|(cases op<;>rfl)|(cases X<;>cases Y<;>first|(cases hco;done)|(cases op<;>rfl))
    ·rcases hab with⟨rfl,rfl,rfl⟩|⟨_,_,rfl,rfl,rfl⟩|⟨_,_,rfl,rfl,rfl⟩<;>rfl
    ·rcases hab with⟨rfl,rfl,rfl⟩|⟨_,_,rfl,rfl,rfl⟩|⟨_,_,rfl,rfl,rfl⟩<;>rfl
   refine heq x' y' ?_
   unfold lS at hr
   split at hr
   ·cases hr;cases hx;cases hy;exact .inl ⟨rfl,rfl,rfl⟩
   ·cases hr;cases hx;cases hy;exact .inr (.inl ⟨_,_,rfl,rfl,rfl⟩)
   ·cases hr;cases hx;cases hy;exact .inr (.inr ⟨_,_,rfl,rfl,rfl⟩)
   ·cases hr
  split at hn
  ·rename_i ms hu
   cases hco:(jr X||jr Y)with
   |false=>rw[hco]at hn;cases hn
   |true=>
    rw[hco]at hn
    obtain⟨r,h1,rfl⟩:=Ak.1 hn
    obtain⟨k1,k2,k3,k4⟩:=key r ms h1 hu
    refine⟨.bool r,?_,.bool r⟩
    rw[Sem.run_bind,k2 _ hco,k3]
    simp only[Result.andThen,Sem.run_bind,k1]
    rfl
  ·rename_i ms hu
   cases hco:(jr X||jr Y)with
   |false=>rw[hco]at hn;cases hn
   |true=>
    rw[hco]at hn
    obtain⟨r,h1,rfl⟩:=Ak.1 hn
    obtain⟨k1,k2,k3,k4⟩:=key r ms h1 hu
    refine⟨.bool (!r),?_,.bool _⟩
    rw[Sem.run_bind,k2 _ hco,k4]
    simp only[Result.andThen,Sem.run_bind,k1]
    rfl
  ·cases hn
 ·exact cU hc X Y hb hx hy
set_option maxHeartbeats 2000000 in
theorem cX (hc:zu c) (o:Oper) (hr:Rel base c.n0 ρ h.t.get w) (hev: ∀x∈o.op.operands.toList,EV c ρ w T a x) (ho:opP c T h o=some outs) (hfree: ∀v h' W,(v,h',W)∈outs→kX ρ h.n h'.n):
  kz c base ρ h w outs ((execOp a.eval o).run c.P w):=by
 obtain⟨dst,op,ty,pos,after,guard⟩:=o
 cases op with
 |move x=>
  exact kz.zi ho hr (fun v hv=>⟨a.eval x,rfl,hev x (by simp[Op.operands]) v hv⟩)
 |assign x=>
  exact kz.zi ho hr (fun v hv=>⟨a.eval x,rfl,hev x (by simp[Op.operands]) v hv⟩)
 |pick q x y=>
  simp only[opP]at ho
  replace ho:=zz ho
  obtain⟨qv,e1,ho⟩:=ho
  replace ho:=zz ho
  obtain⟨xv,e2,ho⟩:=ho
  replace ho:=zz ho
  obtain⟨yv,e3,ho⟩:=ho
  have v1:=hev q (by simp[Op.operands]) _ e1
  have v2:=hev x (by simp[Op.operands]) _ e2
  have v3:=hev y (by simp[Op.operands]) _ e3
  split at ho
  ·rename_i b
   generalize hq:a.eval q=qe at v1
   cases v1
   refine kz.zi ho hr (fun v hv=>⟨if b then a.eval x else a.eval y,?_,?_⟩)
   ·simp[execOp,asBool,hq,Sem.run_pure]
   ·cases hv;exact iz v2 v3
  ·cases ho
 |alloc e=>
  simp only[opP]at ho
  replace ho:=zz ho
  obtain⟨z,e1,ho⟩:=ho
  have hz:VRL ρ w (qJ z) z.cells.toList:=(VR.ye 2 (hc.zer e z e1).2).cells
  refine kz.new (w1:=w) (cs':=z.cells) (el:=e) (fr:=(0,0)) (v':= .pointer (some ⟨w.heap.size,0,none⟩)) ho hr hfree (.refl w) rfl hz.we (fun j hj hh=>by simp at hh) ?_ (fun ρ' w' hρ hcl=> ?_)
  ·simp[execOp,Instr.alloc,Sem.run_bind,ji hc e1,Result.andThen,newVar,newRow,newObj,Sem.run]
  ·exact .ptr h.n 0 _ 0 hρ
 |box e x=>
  simp only[opP]at ho
  replace ho:=zz ho
  obtain⟨v,e1,ho⟩:=ho
  have v1:=hev x (by simp[Op.operands]) _ e1
  refine kz.new (w1:=w) (cs':=(a.eval x).cells) (el:=e) (fr:=(0,0)) (v':= .pointer (some ⟨w.heap.size,0,none⟩)) ho hr hfree (.refl w) rfl v1.cells.we (fun j hj hh=>by simp at hh) ?_ (fun ρ' w' hρ hcl=> ?_)
  ·simp[execOp,Instr.box,Sem.run_bind,Result.andThen,newVar,newRow,newObj,Sem.run]
  ·exact .ptr h.n 0 _ 0 hρ
 |build t ps=>
  simp only[opP]at ho
  replace ho:=zz ho
  obtain⟨vs,e1,ho⟩:=ho
  have hp:=Zo (c:=c) (ρ:=ρ) (w:=w) (T:=T) (a:=a) ps.toList vs (fun p hp=>hev p.2 (by simp[Op.operands];exact⟨p.1,by simpa using hp⟩)) e1
  refine kz.zi ho hr (fun v hv=> ?_)
  obtain⟨v',f1,f2⟩:=run_build hc (ps:=ps.map fun(i,x)=>(i,a.eval x)) (by simpa using hp) hv
  exact⟨v',by simp only[execOp,Sem.run_bind,f1,Result.andThen];rfl,f2⟩
 |buildSlice t n ps=>
  simp only[opP]at ho
  replace ho:=zz ho
  obtain⟨vs,e1,ho⟩:=ho
  have hp:=Zo (c:=c) (ρ:=ρ) (w:=w) (T:=T) (a:=a) ps.toList vs (fun p hp=>hev p.2 (by simp[Op.operands];exact⟨p.1,by simpa using hp⟩)) e1
  exact Z3 hc hr (ps:=ps.map fun(i,x)=>(i,a.eval x)) (by simpa using hp) ho hfree rfl
 |load t x=>
  simp only[opP]at ho
  replace ho:=zz ho
  obtain⟨v,e1,ho⟩:=ho
  have v1:=hev x (by simp[Op.operands]) _ e1
  refine kz.zi ho hr (fun u hu=> ?_)
  have hu':=hu
  unfold Vm at hu'
  split at hu'
  ·obtain ⟨k, d, v', f1, f2, f3⟩ := ZS hc hr v1 hu
   exact⟨v',by simp only[execOp,Instr.loadAt,f1,Instr.sureAddr,Sem.run_bind,Sem.run_pure,Result.andThen,f2],f3⟩
  ·cases hu'
 |store t x y=>
  simp only[opP]at ho
  replace ho:=zz ho
  obtain⟨v,e1,ho⟩:=ho
  replace ho:=zz ho
  obtain⟨u,e2,ho⟩:=ho
  replace ho:=zz ho
  obtain⟨s,e3,ho⟩:=ho
  have v1:=hev x (by simp[Op.operands]) _ e1
  have v2:=hev y (by simp[Op.operands]) _ e2
  split at ho
  ·rename_i b o
   cases e4:Nat.beq (qJ u).length s with
   |false=>rw[e4]at ho;cases ho
   |true=>
    rw[e4]at ho
    simp only[Ai]at ho
    obtain⟨p,e5,rfl⟩:=Ak.1 ho
    have hls:=wu e4
    unfold xJ at e5
    obtain⟨cs,e6,e7⟩:=zz e5
    cases e8:(Nat.ble c.n0 b&&Nat.blt b lim&&Nat.ble (o+(qJ u).length) cs.length&&(qJ u).all wz)with
    |false=>rw[e8]at e7;cases e7
    |true=>
     rw[e8]at e7
     cases e7
     simp only[Ag]at e8
     obtain⟨⟨⟨g1,g2⟩,g3⟩,g4⟩:=e8
     generalize hx:a.eval x=xe at v1
     cases v1 with
     |ptr b o k d hb=>
      obtain⟨k',d',f1,f2⟩:=hr.at_ b _ (kF e6)
      rw[hb]at f1
      cases f1
      obtain⟨cs',hcl,hlen,hvl⟩:=f2.vrl
      have hvc:=v2.cells
      have hl2:=hvc.len
      have h3:=kU g3
      have hst:=wk (c:=c) (w:=w) (k:=k) (o:=o+d) (cs:=cs') (vs:=(a.eval y).cells.toList) hcl (Bd hr.sz.1 (hr.high _ _ _ (kU g1) hb)) (by simp at hl2 ⊢;omega) (K4 hvc g4)
      have hex:=Ext.store (o:=o) (vs:=qJ u) (vs':=(a.eval y).cells.toList) hr (kF e6) hb (kU g1) (kQ g2) h3 hvc
      refine⟨_,_,_,AL.2 rfl,undef,_,_,.inr ⟨?_,rfl⟩,.undef,hex⟩
      have hsz: ¬((a.eval y).cells.size≠s):=by simp at hl2 ⊢;omega
      simp only[execOp,Instr.storeAt,hx,Instr.sureAddr,Sem.run_bind,Sem.run_pure,Result.andThen,storeVar,zC hc e3,Aq hsz,hst]
  ·cases ho
 |nilCheck x=>
  simp only[opP]at ho
  replace ho:=zz ho
  obtain⟨v,e1,ho⟩:=ho
  have v1:=hev x (by simp[Op.operands]) _ e1
  split at ho
  ·rename_i p
   refine kz.zi ho hr (fun u hu=> ?_)
   cases hu
   generalize hx:a.eval x=xe at v1
   cases v1 with
   |ptr b o k d hb=>exact⟨_,by simp[execOp,hx,Sem.run_pure],.ptr b o k d hb⟩
  ·rename_i t p
   refine kz.zi ho hr (fun u hu=> ?_)
   cases hu
   generalize hx:a.eval x=xe at v1
   cases v1 with
   |iface _ _ y hy=>exact⟨_,by simp[execOp,hx,Sem.run_pure],.iface t _ y hy⟩
  ·cases ho
 |binOp op t x y yt=>
  simp only[opP]at ho
  replace ho:=zz ho
  obtain⟨v,e1,ho⟩:=ho
  replace ho:=zz ho
  obtain⟨u,e2,ho⟩:=ho
  have v1:=hev x (by simp[Op.operands]) _ e1
  have v2:=hev y (by simp[Op.operands]) _ e2
  refine kz.zi ho hr (fun z hz=> ?_)
  obtain⟨v',f1,f2⟩:=eZ hc x y hz v1 v2
  refine⟨v',?_,f2⟩
  simp only[execOp]
  rw[Sem.run_bind,f1]
  rfl
 |unOp op t x=>
  simp only[opP]at ho
  replace ho:=zz ho
  obtain⟨v,e1,ho⟩:=ho
  have v1:=hev x (by simp[Op.operands]) _ e1
  generalize hx:a.eval x=xe at v1
  split at ho
  ·cases v1
   exact kz.zi ho hr (fun u hu=>by cases hu;exact⟨_,by simp[execOp,hx,Op.unary,Op.intArith,Sem.run_pure],.int _ _⟩)
  ·cases v1
   exact kz.zi ho hr (fun u hu=>by cases hu;exact⟨_,by simp[execOp,hx,Op.unary,Sem.run_pure],.bool _⟩)
  ·cases v1
   exact kz.zi ho hr (fun u hu=>by cases hu;exact⟨_,by simp[execOp,hx,Op.unary,Op.intBits,Sem.run_pure],.int _ _⟩)
  ·cases ho
 |convert src dst x=>
  simp only[opP]at ho
  replace ho:=zz ho
  obtain⟨v,e1,ho⟩:=ho
  have v1:=hev x (by simp[Op.operands]) _ e1
  generalize hx:a.eval x=xe at v1
  split at ho
  ·rename_i d1 k kk n hs hd
   cases v1
   refine kz.zi ho hr (fun u hu=> ?_)
   cases hu
   refine⟨.int k (k.wrap n),?_,.int _ _⟩
   simp[execOp,hx,convert,Sem.run_bind,qR hc hs,qR hc hd,Result.andThen,Conv.intToInt,Sem.run_pure]
  ·rename_i d1 s hs hd
   cases v1
   refine kz.zi ho hr (fun u hu=> ?_)
   cases hu
   refine⟨.string s,?_,.string _⟩
   simp[execOp,hx,convert,Sem.run_bind,qR hc hs,qR hc hd,Result.andThen,Sem.run_pure]
  ·rename_i el s hs hd
   cases v1
   exact bZ hc hs hd hr ho hfree (by simp only[execOp,hx])
  ·rename_i el ad n k hs hd
   refine kz.zi ho hr (fun u hu=> ?_)
   obtain⟨v',f1,f2⟩:=Xp hc hs hd hr v1 hu
   exact⟨v',by simp only[execOp,hx,Sem.run_bind,f1,Result.andThen];rfl,f2⟩
  ·cases ho
 |makeInterface t x=>
  simp only[opP]at ho
  replace ho:=zz ho
  obtain⟨v,e1,ho⟩:=ho
  have v1:=hev x (by simp[Op.operands]) _ e1
  split at ho
  ·cases ho
  ·rename_i d hd hu
   refine kz.zi ho hr (fun u hu'=> ?_)
   cases hu'
   refine⟨.iface t (a.eval x),?_,.iface t _ _ v1⟩
   simp only[execOp,Instr.makeInterface,Sem.run_bind,qR hc hu,Result.andThen]
   cases d<;>first|rfl|exact absurd rfl (hd _)
  ·cases ho
 |makeFunc fn f k=>
  simp only[opP]at ho
  replace ho:=zz ho
  obtain⟨u,e1,ho⟩:=ho
  replace ho:=zz ho
  obtain⟨v,e2,ho⟩:=ho
  have v1:=Ql (ρ:=ρ) (w:=w) (a:=a) f.toList u (fun x hx=>hev x (by simp[Op.operands];exact .inl (by simpa using hx))) e1
  have v2:=Ql (ρ:=ρ) (w:=w) (a:=a) k.toList v (fun x hx=>hev x (by simp[Op.operands];exact .inr (by simpa using hx))) e2
  cases hny:noY fn with
  |false=>rw[hny]at ho;cases ho
  |true=>
   rw[hny]at ho
   refine kz.zi ho hr (fun z hz=> ?_)
   cases hz
   exact⟨.func fn (f.map a.eval) (k.map a.eval),rfl,.func fn (fun l e=>by subst e;cases hny) _ _ _ _ (by simpa using v1.len) (fun i x y hx hy=>v1.at_ i x y hx (by simpa using hy)) (by simpa using v2.len) (fun i x y hx hy=>v2.at_ i x y hx (by simpa using hy))⟩
 |makeSlice t l u=>
  simp only[opP]at ho
  replace ho:=zz ho
  obtain⟨v,e1,ho⟩:=ho
  replace ho:=zz ho
  obtain⟨x,e2,ho⟩:=ho
  have v1:=hev l (by simp[Op.operands]) _ e1
  have v2:=hev u (by simp[Op.operands]) _ e2
  exact Vf hc hr v1 v2 ho hfree rfl
 |slice t x lo hi mx=>
  simp only[opP]at ho
  split at ho
  ·cases ho
  ·replace ho := zz ho
   obtain⟨v,e1,ho⟩:=ho
   replace ho:=zz ho
   obtain⟨l,e2,ho⟩:=ho
   replace ho:=zz ho
   obtain⟨u,e3,ho⟩:=ho
   have v1:=hev x (by simp[Op.operands]) _ e1
   have v2:=eA (fun y hy=>hev y (by subst hy;simp[Op.operands])) e2
   have v3:=eA (fun y hy=>hev y (by subst hy;simp[Op.operands])) e3
   refine kz.zi ho hr (fun z hz=> ?_)
   obtain⟨v',f1,f2⟩:=XZ hc hz v1 v3 v2
   refine⟨v',?_,f2⟩
   simp only[execOp,Sem.run_bind,Option.map_none]
   rw[f1]
   rfl
 |fieldAddr s x f=>
  simp only[opP]at ho
  replace ho:=zz ho
  obtain⟨v,e1,ho⟩:=ho
  have v1:=hev x (by simp[Op.operands]) _ e1
  generalize hx:a.eval x=xe at v1
  split at ho
  ·rename_i fs b o hu
   replace ho:=zz ho
   obtain⟨fd,e2,ho⟩:=ho
   replace ho:=zz ho
   obtain⟨n,e3,ho⟩:=ho
   cases e4:Nat.beq n 0 with
   |true=>rw[e4]at ho;cases ho
   |false=>
    rw[e4]at ho
    simp only[Ah]at ho
    have hn0:n≠0:=fun e=>by subst e;simp at e4
    cases v1 with
    |ptr b o k d hb=>
     refine kz.zi ho hr (fun z hz=> ?_)
     cases hz
     refine⟨.pointer (some ⟨k,o+fd.offset+d,none⟩),?_,.ptr b _ k d hb⟩
     have KS:(⟨k,o+d,none⟩:Addr).add fd.offset=⟨k,o+fd.offset+d,none⟩:=by rw[Addr.jC];congr 1;omega
     simp only[execOp,Instr.fieldAt,hx,Sem.run_bind,qR hc hu,Result.andThen,e2,Instr.sureAddr,Sem.run_pure,fieldPlace,zC hc e3,Aq hn0,KS]
  ·cases ho
 |field t x f=>
  simp only[opP]at ho
  replace ho:=zz ho
  obtain⟨v,e1,ho⟩:=ho
  have v1:=hev x (by simp[Op.operands]) _ e1
  generalize hx:a.eval x=xe at v1
  split at ho
  ·rename_i fs cs hu
   replace ho:=zz ho
   obtain⟨fd,e2,ho⟩:=ho
   cases v1 with
   |agg _ ys a1 a2=>
    refine kz.zi ho hr (fun z hz=> ?_)
    obtain⟨v',f1,f2⟩:=Za hc (⟨a1,a2⟩:VRL ρ w cs.toList ys.toList) hz w
    refine⟨v',?_,f2⟩
    simp only[execOp,Instr.field,hx,Sem.run_bind,qR hc hu,Result.andThen,e2,asAgg,Sem.run_pure,f1]
  ·cases ho
 |indexAddr t x i=>
  simp only[opP]at ho
  replace ho:=zz ho
  obtain⟨v,e1,ho⟩:=ho
  replace ho:=zz ho
  obtain⟨u,e2,ho⟩:=ho
  have v1:=hev x (by simp[Op.operands]) _ e1
  have v2:=hev i (by simp[Op.operands]) _ e2
  refine kz.zi ho hr (fun z hz=> ?_)
  obtain⟨v',f1,f2⟩:=KQ hc hz v1 v2
  exact⟨v',by simp only[execOp,Sem.run_bind,f1,Result.andThen];rfl,f2⟩
 |index t x i=>
  simp only[opP]at ho
  replace ho:=zz ho
  obtain⟨v,e1,ho⟩:=ho
  replace ho:=zz ho
  obtain⟨u,e2,ho⟩:=ho
  have v1:=hev x (by simp[Op.operands]) _ e1
  have v2:=hev i (by simp[Op.operands]) _ e2
  refine kz.zi ho hr (fun z hz=> ?_)
  obtain⟨v',f1,f2⟩:=Yw hc hz v1 v2
  exact⟨v',by simp only[execOp,Sem.run_bind,f1,Result.andThen];rfl,f2⟩
 |extract t i=>
  simp only[opP]at ho
  replace ho:=zz ho
  obtain⟨v,e1,ho⟩:=ho
  have v1:=hev t (by simp[Op.operands]) _ e1
  generalize hx:a.eval t=xe at v1
  split at ho
  ·cases v1 with
   |tuple _ ys a1 a2=>
    refine kz.zi ho hr (fun z hz=> ?_)
    rw[Ws]at hz
    obtain⟨y,f1,f2⟩:=VRL.get (⟨a1,a2⟩:VRL ρ w _ ys.toList) hz
    have f1':ys[i]? =some y:=by simpa using f1
    refine⟨y,?_,f2⟩
    simp[execOp,Instr.extract,hx,f1',Sem.run_pure]
  ·cases ho
 |call q=>
  simp only[opP]at ho
  replace ho:=zz ho
  obtain⟨args,e1,ho⟩:=ho
  obtain⟨callee,qa,qt⟩:=q
  cases callee with
  |value f=>cases ho
  |invoke r m=>cases ho
  |builtin b=>
   have v1:=Ql (ρ:=ρ) (w:=w) (a:=a) qa.toList args (fun x hx=>hev x (by simp[Op.operands,Call.operands];simpa using hx)) e1
   simp only at ho
   unfold KF at ho
   split at ho
   ·rename_i t x hts
    obtain rfl:qt= #[t]:=by simpa using Bg List.toArray hts
    obtain⟨y,l',hm,hv,hl⟩:=v1.zp
    obtain rfl:=hl.kg
    have hq:qa.map a.eval= #[y]:=BW (by rw[B7];exact hm)
    refine kz.zi ho hr (fun z hz=> ?_)
    obtain⟨f1,f2⟩:=gA (ty:=ty) hc hr hz hv
    refine⟨z,?_,f2⟩
    simp only[execOp,resolve,Sem.run_bind,Sem.run_pure,Result.andThen,invoke,builtin,hq,f1]
   ·rename_i t u s x hts
    obtain rfl:qt= #[t,u]:=by simpa using Bg List.toArray hts
    obtain⟨y,l',hm,hv,hl⟩:=v1.zp
    obtain⟨y2,l2,rfl,hv2,hl2⟩:=hl.zp
    obtain rfl:=hl2.kg
    have hq:qa.map a.eval= #[y,y2]:=BW (by rw[B7];exact hm)
    cases hit:ZF (c.und u)with
    |true=>
     rw[hit]at ho
     refine WN (ty:=ty) hc hit hr hv hv2 ho hfree ?_
     simp only[execOp,resolve,Sem.run_bind,Sem.run_pure,Result.andThen,invoke,builtin,hq]
    |false=>
     rw[hit]at ho
     refine J5 (ty:=ty) hc hr hv hv2 ho hfree ?_
     simp only[execOp,resolve,Sem.run_bind,Sem.run_pure,Result.andThen,invoke,builtin,hq]
   ·rename_i t hts
    obtain rfl:qt= #[t]:=by simpa using Bg List.toArray hts
    obtain⟨y,l',hm,hv,hl⟩:=v1.zp
    obtain rfl:=hl.kg
    have hq:qa.map a.eval= #[y]:=BW (by rw[B7];exact hm)
    cases hv
    refine kz.zi ho hr (fun z hz=> ?_)
    split at hz
    ·rename_i el hu
     cases hz
     refine⟨.int .i64 0,?_,.int _ _⟩
     simp[execOp,resolve,Sem.run_bind,Sem.run_pure,Result.andThen,invoke,builtin,hq,Builtin.cap_,qR hc hu,goInt]
    ·cases hz
   ·rename_i t u s x hts
    obtain rfl:qt= #[t,u]:=by simpa using Bg List.toArray hts
    obtain⟨y,l',hm,hv,hl⟩:=v1.zp
    obtain⟨y2,l2,rfl,hv2,hl2⟩:=hl.zp
    obtain rfl:=hl2.kg
    have hq:qa.map a.eval= #[y,y2]:=BW (by rw[B7];exact hm)
    refine bJ (t2:=u) (ty:=ty) hc hr hv hv2 ho ?_
    simp only[execOp,resolve,Sem.run_bind,Sem.run_pure,Result.andThen,invoke,builtin,hq]
   ·rename_i x r
    obtain⟨y,l',hm,hv,hl⟩:=v1.zp
    have hq:(qa.map a.eval).toList=y::l':=by simpa using hm
    refine kz.zi ho hr (fun z hz=> ?_)
    obtain⟨v',f1,f2⟩:=xS (c:=c) true r x z l' y hz hv hl
    refine⟨v',?_,f2⟩
    simp only[if_true]at f1
    simp only[execOp,resolve,Sem.run_bind,Sem.run_pure,Result.andThen,invoke,builtin,Builtin.max_,hq,f1]
   ·rename_i x r
    obtain⟨y,l',hm,hv,hl⟩:=v1.zp
    have hq:(qa.map a.eval).toList=y::l':=by simpa using hm
    refine kz.zi ho hr (fun z hz=> ?_)
    obtain⟨v',f1,f2⟩:=xS (c:=c) false r x z l' y hz hv hl
    refine⟨v',?_,f2⟩
    simp only[BJ,if_false]at f1
    simp only[execOp,resolve,Sem.run_bind,Sem.run_pure,Result.andThen,invoke,builtin,Builtin.min_,hq,f1]
   ·cases ho
 |_=>cases ho
end
end
section
open Go
variable [Eta]
theorem jV {α β:Type} {f:α→Option β}: ∀{l:List α} {r:List β},wI f l=some r→l.length=r.length∧ ∀(i:Nat) x,l[i]? =some x→ ∃y,r[i]? =some y∧f x=some y
 |[],r,h=>by cases h;exact⟨rfl,fun i x hx=>by simp at hx⟩
 |x::l,r,h=>by
  unfold wI at h
  obtain⟨y,h1,h2⟩:=Aj.1 h
  obtain⟨r',h3,rfl⟩:=Ak.1 h2
  obtain⟨g1,g2⟩:=jV h3
  refine⟨by simp[g1],fun i z hz=> ?_⟩
  cases i with
  |zero=>simp at hz;subst hz;exact⟨y,by simp,h1⟩
  |succ i=>obtain⟨u,a,b⟩:=g2 i z (by simpa using hz);exact⟨u,by simpa using a,b⟩
section
variable {ρ ρ':Emb} {w:World} {f:Nat→Option Nat}
theorem VRL.ren (hf: ∀b b' x,f b=some b'→ρ b=some x→ρ' b'=some x) (n:Nat) (ih: ∀{x y x':Value},VR ρ w x y→wA f n x=some x'→VR ρ' w x' y) {xs ys xs':List Value} (h:VRL ρ w xs ys) (hr:wI (wA f n) xs=some xs'):VRL ρ' w xs' ys:=by
 obtain⟨h1,h2⟩:=jV hr
 refine⟨by rw[←h1,h.len],fun i x y hx hy=> ?_⟩
 have hi:i<xs.length:=by rw[h1];exact(AH.1 hx).1
 obtain⟨x',a,b⟩:=h2 i xs[i] (Au hi)
 rw[hx]at a
 cases a
 exact ih (h.at_ i _ y (Au hi) hy) b
theorem VR.ren (hf: ∀b b' x,f b=some b'→ρ b=some x→ρ' b'=some x): ∀(n:Nat) {x y x':Value},VR ρ w x y→wA f n x=some x'→VR ρ' w x' y
 |0,x,y,x',h,hr=>by cases hr
 |n+1,x,y,x',h,hr=>by
  have ihL:=fun{xs ys xs':List Value}=>VRL.ren (xs:=xs) (ys:=ys) (xs':=xs') hf n (fun hh hk=>VR.ren hf n hh hk)
  cases h with
  |bool b=>cases hr;exact .bool b
  |int k m=>cases hr;exact .int k m
  |string s=>cases hr;exact .string s
  |nilp=>cases hr;exact .nilp
  |ptr b o k d hb=>
   simp only[wA,gm]at hr
   obtain⟨a,h1,rfl⟩:=Ak.1 hr
   obtain⟨b',h2,rfl⟩:=Ak.1 h1
   exact .ptr b' o k d (hf _ _ _ h2 hb)
  |nils=>cases hr;exact .nils
  |sl b o m sz c k d hb hh hro=>
   simp only[wA,gm]at hr
   obtain⟨a,h1,rfl⟩:=Ak.1 hr
   obtain⟨b',h2,rfl⟩:=Ak.1 h1
   exact .sl b' o m sz c k d (hf _ _ _ h2 hb) hh hro
  |sl0 b o sz a=>
   simp only[wA,gm]at hr
   obtain⟨a',h1,rfl⟩:=Ak.1 hr
   obtain⟨b',h2,rfl⟩:=Ak.1 h1
   exact .sl0 b' o sz a
  |nilm=>cases hr;exact .nilm
  |map r k d hb=>
   simp only[wA]at hr
   obtain⟨b',h2,rfl⟩:=Ak.1 hr
   exact .map b' k d (hf _ _ _ h2 hb)
  |told z q cs y h=>cases hr;exact .told z q cs y h
  |func fn hfn xs ys xs2 ys2 h1 h2 h3 h4=>
   have hr':((wI (wA f n) xs.toList).bind fun xs=>(wI (wA f n) ys.toList).map fun ys=>Value.func fn xs.toArray ys.toArray)=some x':=by
    cases fn<;>first|exact hr|exact absurd rfl (hfn _)
   obtain⟨xs',g1,g2⟩:=Aj.1 hr'
   obtain⟨ys',g3,rfl⟩:=Ak.1 g2
   have k1:=ihL (⟨h1,h2⟩:VRL ρ w xs.toList xs2.toList) g1
   have k2:=ihL (⟨h3,h4⟩:VRL ρ w ys.toList ys2.toList) g3
   exact .func fn hfn _ _ _ _ k1.len k1.at_ k2.len k2.at_
  |nilFunc=>cases hr;exact .nilFunc
  |nilIface=>cases hr;exact .nilIface
  |iface t u v hh=>
   simp only[wA]at hr
   obtain⟨u',g1,rfl⟩:=Ak.1 hr
   exact .iface t u' v (VR.ren hf n hh g1)
  |agg xs ys h1 h2=>
   simp only[wA]at hr
   obtain⟨l,g1,rfl⟩:=Ak.1 hr
   have k1:=ihL (⟨h1,h2⟩:VRL ρ w xs.toList ys.toList) g1
   exact .agg _ _ k1.len k1.at_
  |tok re im y e hh=>cases hr;exact .tok re im _ e hh
  |ref m b y hh=>
   simp only[wA]at hr
   obtain⟨b',g1,rfl⟩:=Ak.1 hr
   refine .ref m b' y ?_
   revert hh
   generalize (Eta.r m:Jo)=d
   intro hh
   cases d with
   |none=>exact hh
   |sl off n sz=>
    rcases hh with⟨k,dd,c,h1,h2⟩|hh
    ·exact .inl ⟨k,dd,c,hf _ _ _ g1 h1,h2⟩
    ·exact .inr hh
   |ptr off=>
    obtain⟨k,dd,h1,h2⟩:=hh
    exact⟨k,dd,hf _ _ _ g1 h1,h2⟩
  |tuple xs ys h1 h2=>
   simp only[wA]at hr
   obtain⟨l,g1,rfl⟩:=Ak.1 hr
   have k1:=ihL (⟨h1,h2⟩:VRL ρ w xs.toList ys.toList) g1
   exact .tuple _ _ k1.len k1.at_
theorem OR.ren (hf: ∀b b' x,f b=some b'→ρ b=some x→ρ' b'=some x) {k d:Nat} {o o':Ob} (h:OR ρ w k d o) (hr:fa f (some o)=some (some o')):OR ρ' w k d o':=by
 cases o with
 |cells cs=>
  simp only[fa]at hr
  obtain⟨l,g1,g2⟩:=Ak.1 hr
  obtain rfl:=A9 g2
  obtain⟨cs',h1,h2,h3⟩:=h
  obtain⟨k1,k2⟩:=jV g1
  refine⟨cs',h1,by omega,fun j x y hx hy=> ?_⟩
  have hj:j<cs.length:=by rw[k1];exact(AH.1 hx).1
  obtain⟨x',a,b⟩:=k2 j cs[j] (Au hj)
  rw[hx]at a
  cases a
  exact VR.ren hf _ (h3 j _ y (Au hj) hy) b
 |map es clock=>
  simp only[fa]at hr
  obtain⟨l,g1,g2⟩:=Ak.1 hr
  obtain rfl:=A9 g2
  obtain⟨es',h1,h2,h3⟩:=h
  obtain⟨k1,k2⟩:=jV g1
  refine⟨es',h1,by omega,fun j e e' he he'=> ?_⟩
  have hj:j<es.length:=by rw[k1];exact(AH.1 he).1
  obtain⟨x',a,b⟩:=k2 j es[j] (Au hj)
  rw[he]at a
  cases a
  obtain⟨c1,c2,c3⟩:=h3 j _ e' (Au hj) he'
  unfold ri at b
  obtain⟨v,b1,rfl⟩:=Ak.1 b
  exact⟨c1,VR.ren hf _ c2 b1,c3⟩
 |sit s pos=>cases hr;exact h
 |mit m since seen last=>
  cases m with
  |none=>cases hr;obtain⟨m',yq,h1,h2⟩:=h;refine⟨m',yq,?_,h2⟩;rcases h1 with h1|⟨_,_,_,hh,_⟩;exact .inl h1;cases hh
  |some m=>
   simp only[fa]at hr
   obtain⟨m2,g1,g2⟩:=Ak.1 hr
   obtain rfl:=A9 g2
   obtain⟨m',yq,h1,h2⟩:=h
   refine⟨m',yq,?_,h2⟩
   rcases h1 with⟨hh,_⟩|⟨r,k',d',e1,e2,e3⟩
   ·cases hh
   ·cases e1;exact .inr ⟨m2,k',d',rfl,hf _ _ _ g1 e2,e3⟩
 |loop busy t m ps assign body db=>cases hr
 |dfb=>cases hr;exact h
 |row j=>
  cases hr
  obtain⟨h0,cs',h1,h2,h3⟩:=h
  refine⟨h0,cs',h1,h2,fun i x y hx hy=> ?_⟩
  have hs:=Ap.1 h0 x (AR hx)
  have hv:=h3 i x y hx hy
  cases x<;>first|(cases hs;done)|(cases hv;constructor)
end
theorem cx {a b:ByteArray} (h:eqU a.data.toList b.data.toList=true):a=b:=by
 rw[yF]at h
 obtain⟨⟨x⟩⟩:=a
 obtain⟨⟨y⟩⟩:=b
 obtain rfl:x=y:=by simpa using h
 rfl
end
section
open Go
variable [Eta]
theorem JV: ∀{L:List Nat} {b i:Nat},idx L b=some i→L[i]? =some b
 |x::l,b,i,h=>by
  unfold idx at h
  cases e:Nat.beq x b with
  |true=>rw[e]at h;cases h;rw[wu e];rfl
  |false=>
   rw[e]at h
   obtain⟨j,h1,rfl⟩:=Ak.1 h
   simpa using JV h1
theorem Vk: ∀{L:List Nat},nodupB L=true→ ∀(i j b:Nat),L[i]? =some b→L[j]? =some b→i=j
 |x::l,h,i,j,b,hi,hj=>by
  simp only[nodupB,Ag,Bm]at h
  have hx: ∀(m:Nat),l[m]? ≠some x:=fun m hm=>by
   have:=Xu.2 (AR hm)
   rw[h.1]at this;cases this
  cases i with
  |zero=>
   simp at hi
   subst hi
   cases j with
   |zero=>rfl
   |succ j=>exact absurd (by simpa using hj) (hx j)
  |succ i=>
   cases j with
   |zero=>simp at hj;subst hj;exact absurd (by simpa using hi) (hx i)
   |succ j=>rw[Vk h.2 i j b (by simpa using hi) (by simpa using hj)]
end
section
open Go
variable [Eta]
theorem R.zG {α β:Type} {x:R α} {f:α→R β} {y:β} (h:x.bind f= .ok y): ∃a,x= .ok a∧f a= .ok y:=by
 cases x with
 |ok a=>exact⟨a,rfl,h⟩
 |no w=>cases h
theorem R.XS {α:Type} {why:String} {x:Option α} {y:α} (h:R.of why x= .ok y):x=some y:=by
 cases x with
 |some a=>cases h;rfl
 |none=>cases h
theorem R.ot {α:Type} {why:String} {x:R α} {y:α} (h:R.ctx why x= .ok y):x= .ok y:=by
 cases x with
 |ok a=>exact h
 |no w=>cases h
theorem vX {α β:Type} {f:α→R (List β)}: ∀{l:List α} {r:List β},Qe l f= .ok r→ ∀x∈l,∃rx,f x= .ok rx∧ ∀y∈rx,y∈r
 |[],r,h,x,hx=>by cases hx
 |z::l,r,h,x,hx=>by
  obtain⟨a,h1,h2⟩:=R.zG h
  obtain⟨b,h3,h4⟩:=R.zG h2
  cases h4
  rcases AX.1 hx with rfl|hx
  ·exact⟨a,h1,fun y hy=>BL _ hy⟩
  ·obtain ⟨rx, g1, g2⟩ := vX h3 x hx
   exact⟨rx,g1,fun y hy=>BF _ (g2 y hy)⟩
theorem jN {α β:Type} {f:α→R (List β)}: ∀{l:List α} {r:List β},Qe l f= .ok r→ ∀y∈r,∃x∈l,∃rx,f x= .ok rx∧y∈rx
 |[],r,h,y,hy=>by cases h;cases hy
 |z::l,r,h,y,hy=>by
  obtain⟨a,h1,h2⟩:=R.zG h
  obtain⟨b,h3,h4⟩:=R.zG h2
  cases h4
  rcases AT.1 hy with hy|hy
  ·exact⟨z,by simp,a,h1,hy⟩
  ·obtain ⟨x, g1, g2⟩ := jN h3 y hy
   exact⟨x,by simp[g1],g2⟩
theorem Yp {n:Nat} {l r:List Out} (h:chk n l= .ok r):l=r∧r≠[]∧ ∀x∈r,n≤x.2.1.n:=by
 unfold chk at h
 cases e:(l.all (fun x=>Nat.ble n x.2.1.n)&& !l.isEmpty)with
 |false=>rw[e]at h;cases h
 |true=>
  rw[e]at h
  cases h
  simp only[Ag,Ap]at e
  exact⟨rfl,by intro hh;subst hh;simp at e,fun x hx=>kU (e.1 x hx)⟩
structure Up (s:St) (l:List St):Prop where
 ne:l≠[]
 n: ∀o∈l,s.h.n≤o.h.n
 w: ∀o∈l,∀b∈s.w,b∈o.w
structure UpX (s:St) (l:List (Ex×St)):Prop where
 ne:l≠[]
 n: ∀o∈l,s.h.n≤o.2.h.n
 w: ∀o∈l,∀b∈s.w,b∈o.2.w
theorem UpX.one (e:Ex) (s:St):UpX s [(e,s)]:=⟨by simp,fun o ho=>by simp at ho;subst ho;exact Aw _,fun o ho b hb=>by simp at ho;subst ho;exact hb⟩
section
variable {c:Cfg} {call:kW}
theorem xY {ro:Bool} {ops:Array Oper}: ∀(l:List Oper) (s:St) (outs:List St),JF c call ro ops l s= .ok outs→Up s outs
 |[],s,outs,h=>by cases h;exact⟨by simp,by simp,by simp⟩
 |o::l,s,outs,h=>by
  unfold JF at h
  obtain⟨b,h1,h2⟩:=R.zG h
  cases b with
  |false=>
   have:=xY l _ outs h2
   exact⟨this.ne,this.n,this.w⟩
  |true=>
   simp only[Ai]at h2
   split at h2
   ·cases h2
   ·obtain ⟨os, h3, h4⟩ := R.zG h2
    unfold opD at h3
    obtain⟨os',h5,h6⟩:=R.zG h3
    obtain⟨rfl,g1,g2⟩:=Yp h6
    refine⟨fun e=> ?_,fun y hy=> ?_,fun y hy b hb=> ?_⟩
    ·cases os' with
     |nil=>exact g1 rfl
     |cons x r=>
      obtain⟨rx,k1,k2⟩:=vX h4 x (by simp)
      have:=xY l _ rx k1
      cases rx with
      |nil=>exact this.ne rfl
      |cons z zs=>have:=k2 z (by simp);rw[e]at this;cases this
    ·obtain ⟨x, k1, rx, k2, k3⟩ := jN h4 y hy
     exact Bd (g2 x k1) ((xY l _ rx k2).n y k3)
    ·obtain ⟨x, k1, rx, k2, k3⟩ := jN h4 y hy
     exact(xY l _ rx k2).w y k3 b (by simp[hb])
theorem gl {l:List (Ex×St)} {f:St→Vt} {outs:List (Ex×St)} {s:St} (h:VO l f= .ok outs) (hl:UpX s l) (hf: ∀s r,f s= .ok r→UpX s r):UpX s outs:=by
 unfold VO at h
 have key: ∀(x:Ex×St) rx,(match x.1 with| .normal=>f x.2|e=> .ok [(e,x.2)])=R.ok rx→UpX x.2 rx:=by
  intro x rx hx
  obtain⟨e,s⟩:=x
  cases e with
  |normal=>exact hf s rx hx
  |exit id=>cases hx;exact UpX.one _ _
  |ret=>cases hx;exact UpX.one _ _
 refine⟨fun e=> ?_,fun y hy=> ?_,fun y hy b hb=> ?_⟩
 ·cases l with
  |nil=>exact hl.ne rfl
  |cons x r=>
   obtain⟨rx,k1,k2⟩:=vX h x (by simp)
   have:=key x rx k1
   cases rx with
   |nil=>exact this.ne rfl
   |cons z zs=>have:=k2 z (by simp);rw[e]at this;cases this
 ·obtain ⟨x, k1, rx, k2, k3⟩ := jN h y hy
  exact Bd (hl.n x k1) ((key x rx k2).n y k3)
 ·obtain ⟨x, k1, rx, k2, k3⟩ := jN h y hy
  exact(key x rx k2).w y k3 b (hl.w x k1 b hb)
theorem zX: ∀{l:List (Ex×St)} {s:St},s∈kt l↔(Ex.normal,s)∈l
 |[],s=>by simp[kt]
 |(.normal,x)::l,s=>by simp[kt,zX (l:=l)]
 |(.exit i,x)::l,s=>by simp[kt,zX (l:=l)]
 |(.ret,x)::l,s=>by simp[kt,zX (l:=l)]
theorem kx: ∀{l:List (Ex×St)} {p:Ex×St},p∈jc l↔p∈l∧p.1≠ .normal
 |[],p=>by simp[jc]
 |(.normal,x)::l,p=>by
  simp only[jc,kx (l:=l),AX]
  constructor
  ·rintro⟨h1,h2⟩;exact⟨.inr h1,h2⟩
  ·rintro ⟨rfl | h1, h2⟩
   ·exact absurd rfl h2
   ·exact⟨h1,h2⟩
 |(.exit i,x)::l,p=>by
  simp only[jc,AX,kx (l:=l)]
  constructor
  ·rintro(rfl|h);exact⟨.inl rfl,by simp⟩;exact⟨.inr h.1,h.2⟩
  ·rintro⟨h|h,h2⟩;exact .inl h;exact .inr ⟨h,h2⟩
 |(.ret,x)::l,p=>by
  simp only[jc,AX,kx (l:=l)]
  constructor
  ·rintro(rfl|h);exact⟨.inl rfl,by simp⟩;exact⟨.inr h.1,h.2⟩
  ·rintro⟨h|h,h2⟩;exact .inl h;exact .inr ⟨h,h2⟩
theorem WR {α β:Type} {f:α→Option β} {l:List α} {r:List β} (h:wI f l=some r):(∀y∈r,∃x∈l,f x=some y)∧ ∀x∈l,∃y∈r,f x=some y:=by
 obtain⟨h1,h2⟩:=jV h
 refine⟨fun y hy=> ?_,fun x hx=> ?_⟩
 ·obtain ⟨i, hi⟩ := List.getElem?_of_mem hy
  have hl:i<l.length:=by rw[h1];exact(AH.1 hi).1
  obtain⟨y',a,b⟩:=h2 i _ (Au hl)
  rw[hi]at a
  cases a
  exact⟨_,Bf hl,b⟩
 ·obtain ⟨i, hi⟩ := List.getElem?_of_mem hx
  obtain⟨y,a,b⟩:=h2 i x hi
  exact⟨y,AR a,b⟩
end
end
section
open Go
variable [Eta]
section
variable {c:Cfg} {base:Nat} {ρ:Emb} {h:Hp} {w:World} {T:Tm} {a:Act} {outs:List Out}
theorem Told.vr {W:World} (hE:Eta.w=some W) {x y:Value} (h:Told W x y):VR ρ w x y:=by
 have h':=h
 cases h with
 |int k n=>exact .int k n
 |string s=>exact .string s
 |bool b=>exact .bool b
 |sl z n cs k d c cs' el fr hk hn hr hl h=>exact .told z _ cs _ ⟨W,hE,h'⟩
 |nil z a k cs' el fr hk=>exact .told z _ [] _ ⟨W,hE,h'⟩
 |ptr z cs k d cs' el fr hk hl h=>exact .told z _ cs _ ⟨W,hE,h'⟩
theorem Told.mono {W w:World} (ho:Old W w) {x y:Value} (h:Told W x y):Told w x y:=by
 induction h with
 |int k n=>exact .int k n
 |string s=>exact .string s
 |bool b=>exact .bool b
 |sl z n cs k d c cs' el fr hk hn hr hl h ih=>exact .sl z n cs k d c cs' el fr (ho _ _ _ _ hk) hn hr hl ih
 |nil z a k cs' el fr hk=>exact .nil z a k cs' el fr (ho _ _ _ _ hk)
 |ptr z cs k d cs' el fr hk hl h ih=>exact .ptr z cs k d cs' el fr (ho _ _ _ _ hk) hl ih
theorem VR.yM {z:Nat} {n:Value} {cs:List Value} {y:Value} (h:VR ρ w (.func (.yield z) ⟨[n]⟩ ⟨cs⟩) y): ∃W,Eta.w=some W∧Told W (.func (.yield z) ⟨[n]⟩ ⟨cs⟩) y:=by
 cases h with
 |told z n cs y h=>exact h
 |func fn hf=>exact absurd rfl (hf _)
theorem fO (hc:zu c) {t ty:TypeId} {x y v:Value} (hl:Qa (c.und t) x=some v) (hx:VR ρ w x y):(Builtin.len_ #[t] ty #[y]).run c.P w= .ok v w∧VR ρ w v v:=by
 unfold Qa at hl
 split at hl
 ·rename_i el z n cs hu
  cases hl
  obtain⟨cs⟩:=cs
  obtain⟨W,_,h⟩:=hx.yM
  refine⟨?_,.int _ _⟩
  cases h<;>simp[Builtin.len_,Sem.run_bind,qR hc hu,Result.andThen,Sem.run_pure,goInt]
 ·cases hl
theorem Wa {W:World} {cs:List Value} {cs':Array Value} {d m:Nat} (h: ∀(i:Nat) x y,cs[i]? =some x→cs'[i+d]? =some y→Told W x y): ∀(i:Nat) x y,(cs.drop m)[i]? =some x→cs'[i+(m+d)]? =some y→Told W x y:=fun i x y h1 h2=>by
 rw[Br]at h1
 exact h (m+i) x y h1 (by rw[←h2];congr 1;omega)
theorem Ys (hc:zu c) {t:TypeId} {x y i i':Value} {v:Value} (hs:Wu c t x i=some v) (hx:VR ρ w x y) (hi:VR ρ w i i'): ∃v',(Instr.indexAt t y i').run c.P w= .ok v' w∧VR ρ w v v':=by
 unfold Wu at hs
 split at hs
 ·rename_i kk j0
  cases hi
  replace hs:=Aj.1 hs
  obtain⟨j,e1,hs⟩:=hs
  obtain rfl:=wo e1
  split at hs
  ·rename_i el z n cs hu
   replace hs:=Aj.1 hs
   obtain⟨s,e3,hs⟩:=hs
   cases e4:Nat.beq s z&&decide ((j:Int)<n)with
   |false=>rw[e4]at hs;cases hs
   |true=>
    rw[e4]at hs
    cases hs
    rw[Ag]at e4
    obtain rfl:=wu e4.1
    have hlt:=AY e4.2
    obtain⟨W,hE,h⟩:=hx.yM
    cases h with
    |sl z n cs k d c cs' el fr hk hn hr hl h=>
     have hlt:j<n:=by omega
     have hin:j*s≤cs.length∨cs.length<j*s:=by omega
     refine⟨.pointer (some ⟨k,j*s+d,none⟩),?_,?_⟩
     ·have KS : (⟨k, d, none⟩ : Addr).add (j * s) = ⟨k, j * s + d, none⟩ := by rw [Addr.jC]; congr 1; omega
      simp[Instr.indexAt,asIntOf,Sem.run_bind,qR hc hu,zC hc e3,Result.andThen,Sem.run_pure,hlt,KS]
     ·refine Told.vr hE (.ptr 0 _ k (j * s + d) cs' el fr hk ?_ (Wa h))
      have h1:j*s≤c*s:=BA s (by omega)
      rw[B5];omega
    |nil=>omega
  ·cases hs
 ·cases hs
theorem X3 (hc:zu c) {t:TypeId} {x y:Value} {f:Nat} {v:Value} (hs:Wq c t x f=some v) (hx:VR ρ w x y): ∃v',(Instr.fieldAt t y f).run c.P w= .ok v' w∧VR ρ w v v':=by
 unfold Wq at hs
 split at hs
 ·rename_i fs z cs hu
  replace hs:=Aj.1 hs
  obtain⟨fd,e2,hs⟩:=hs
  replace hs:=Aj.1 hs
  obtain⟨n,e3,hs⟩:=hs
  cases e4':Nat.beq n 0|| !Nat.ble fd.offset cs.length with
  |true=>rw[e4']at hs;cases hs
  |false=>
   rw[e4']at hs
   cases hs
   obtain⟨e4,e5⟩:=AU.1 e4'
   have hle:=kU (show Nat.ble fd.offset cs.length=true by simpa using e5)
   have hn0:n≠0:=fun e=>by subst e;simp at e4
   obtain⟨W,hE,h⟩:=hx.yM
   cases h with
   |ptr z cs k d cs' el fr hk hl h=>
    refine⟨.pointer (some ⟨k,fd.offset+d,none⟩),?_,?_⟩
    ·have KS : (⟨k, d, none⟩ : Addr).add fd.offset = ⟨k, fd.offset + d, none⟩ := by rw [Addr.jC]; congr 1; omega
     simp only[Instr.fieldAt,Sem.run_bind,qR hc hu,Result.andThen,e2,Instr.sureAddr,Sem.run_pure,fieldPlace,zC hc e3,Aq hn0,KS]
    ·exact Told.vr hE (.ptr 0 _ k (fd.offset+d) cs' el fr hk (by rw[B5];omega) (Wa h))
 ·cases hs
theorem bP (hc:zu c) (hw: ∀W,Eta.w=some W→Old W w) (hb: ∀W k,Eta.w=some W→k<W.heap.size→k<Eta.b) {t:TypeId} {x y:Value} {v:Value} (hs:loadT c t x=some v) (hx:VR ρ w x y): ∃k d v',y= .pointer (some ⟨k,d,none⟩)∧(loadVar t ⟨k,d,none⟩).run c.P w= .ok v' w∧VR ρ w v v':=by
 unfold loadT at hs
 split at hs
 ·rename_i z cs
  obtain⟨W,hE,h⟩:=hx.yM
  cases h with
  |ptr z cs k d cs' el fr hk hl h=>
   have hkb:=hb W k hE (Be.1 hk).1
   have e2:OR ρ w k d (.cells cs):=⟨cs',⟨el,fr,hw W hE k _ _ _ hk,fun hle=>by omega⟩,by omega,fun i x y h1 h2=>Told.vr hE (h i x y h1 h2)⟩
   obtain⟨v',f1,f2⟩:=Vs hc e2 hs
   rw[AQ]at f1
   exact⟨k,d,v',rfl,f1,f2⟩
 ·cases hs
theorem ga (hc:zu c) (hw: ∀W,Eta.w=some W→Old W w) (hb: ∀W k,Eta.w=some W→k<W.heap.size→k<Eta.b) (o:Oper) (hev: ∀x∈o.op.operands.toList,EV c ρ w T a x) {v:Value} (ho:xh c T o=some v): ∃v',(execOp a.eval o).run c.P w= .ok (.value v') w∧VR ρ w v v':=by
 obtain⟨dst,op,ty,pos,after,guard⟩:=o
 cases op with
 |load t x=>
  simp only[xh]at ho
  obtain⟨u,e1,ho⟩:=zz ho
  obtain⟨k,d,v',f1,f2,f3⟩:=bP hc hw hb ho (hev x (by simp[Op.operands]) _ e1)
  exact⟨v',by simp only[execOp,Instr.loadAt,f1,Instr.sureAddr,Sem.run_bind,Sem.run_pure,Result.andThen,f2],f3⟩
 |indexAddr t x i=>
  simp only[xh]at ho
  obtain⟨u,e1,ho⟩:=zz ho
  obtain⟨j,e2,ho⟩:=zz ho
  obtain⟨v',f1,f2⟩:=Ys hc ho (hev x (by simp[Op.operands]) _ e1) (hev i (by simp[Op.operands]) _ e2)
  exact⟨v',by simp only[execOp,Sem.run_bind,f1,Result.andThen];rfl,f2⟩
 |fieldAddr t x f=>
  simp only[xh]at ho
  obtain⟨u,e1,ho⟩:=zz ho
  obtain⟨v',f1,f2⟩:=X3 hc ho (hev x (by simp[Op.operands]) _ e1)
  exact⟨v',by simp only[execOp,Sem.run_bind,f1,Result.andThen];rfl,f2⟩
 |call q=>
  obtain⟨callee,args,argTypes⟩:=q
  simp only[xh]at ho
  split at ho
  ·split at ho
   ·rename_i x t e1 e2
    obtain⟨u,e3,ho⟩:=zz ho
    have ex:args= #[x]:=by simpa using Bg List.toArray e1
    have et:argTypes= #[t]:=by simpa using Bg List.toArray e2
    subst ex et
    obtain⟨f1,f2⟩:=fO (ty:=ty) hc ho (hev x (by simp[Op.operands,Call.operands]) _ e3)
    refine⟨v,?_,f2⟩
    simp only[execOp,resolve,Sem.run_bind,Sem.run_pure,Result.andThen,invoke,builtin,List.map_toArray,BR,List.map_nil,f1]
   ·cases ho
  ·cases ho
 |_=>cases ho
end
end
section
open Go
variable [Eta]
theorem al {ρ:Emb} {w:World} {v:Value} (h:qp v=true):VR ρ w v v:=by
 cases v<;>first|exact .int _ _|exact .string _|cases h
theorem J6 {ρ:Emb} {w:World} {v v':Value} (h:qp v=true) (hr:VR ρ w v v'):v'=v:=by
 cases v<;>first|(cases h;done)|(cases hr;rfl)
end
section
open Go
variable [Eta]
def FW (r:Option Nat):Fence:={Fence.wide with round:=r}
theorem dR {r:Option Nat} {n:Nat} {P:Program} {f:FuncId} {args:Array Value} {w:World} {R:Ending→World→Prop} (h:Calls P f args w R):CallsIn (FW r) n P f args w R:=
 (callsIn_wide (n:=n)).2 h
structure Inv (base:Nat) (I:World→Prop):Prop where
 on: ∀w w',I w→RowKit.Below base w w'→I w'
 old: ∀W,Eta.w=some W→ ∀w,I w→Old W w
 tb: ∀W k,Eta.w=some W→k<W.heap.size→k<Eta.b
def DR1 (ρ:Emb) (w:World):Dfr→Deferred→Prop
 | .mark b,x=> ∃k,ρ b=some (k,0)∧x={target:= .collected k,args:= #[]}
 | .call f l,x=> ∃cap,x.target= .fn (.func f) cap∧VRL ρ w l (x.args++cap).toList
def DR (ρ:Emb) (w:World):List Dfr→List Deferred→Prop
 |[],[]=>True
 |a::l,b::m=>DR1 ρ w a b∧DR ρ w l m
 |_,_=>False
theorem DR1.le {ρ ρ':Emb} {w:World} {a:Dfr} {b:Deferred} (h:DR1 ρ w a b) (g:ρ.le ρ'):DR1 ρ' w a b:=by
 cases a with
 |mark b=>obtain⟨k,h1,h2⟩:=h;exact⟨k,g _ _ h1,h2⟩
 |call f l=>obtain⟨cap,h1,h2⟩:=h;exact⟨cap,h1,h2.le g⟩
theorem DR1.grow {ρ:Emb} {w w':World} {a:Dfr} {b:Deferred} (h:DR1 ρ w a b) (g:Grow w w'):DR1 ρ w' a b:=by
 cases a with
 |mark b=>exact h
 |call f l=>obtain⟨cap,h1,h2⟩:=h;exact⟨cap,h1,h2.grow g⟩
theorem DR.le {ρ ρ':Emb} {w:World}: ∀{l:List Dfr} {m:List Deferred},DR ρ w l m→ρ.le ρ'→DR ρ' w l m
 |[],[],h,g=>trivial
 |a::l,b::m,h,g=>⟨h.1.le g,DR.le h.2 g⟩
 |[],_::_,h,g=>h.elim
 |_::_,[],h,g=>h.elim
theorem DR.grow {ρ:Emb} {w w':World}: ∀{l:List Dfr} {m:List Deferred},DR ρ w l m→Grow w w'→DR ρ w' l m
 |[],[],h,g=>trivial
 |a::l,b::m,h,g=>⟨h.1.grow g,DR.grow h.2 g⟩
 |[],_::_,h,g=>h.elim
 |_::_,[],h,g=>h.elim
theorem DR.ren {ρ ρ':Emb} {w:World} {f:Nat→Option Nat} (hf: ∀b b' x,f b=some b'→ρ b=some x→ρ' b'=some x): ∀{l l':List Dfr} {m:List Deferred},DR ρ w l m→wI (oW f) l=some l'→DR ρ' w l' m
 |[],l',[],h,hl=>by cases hl;trivial
 |a::l,l',b::m,h,hl=>by
  unfold wI at hl
  obtain⟨y,h1,h2⟩:=Aj.1 hl
  obtain⟨r,h3,rfl⟩:=Ak.1 h2
  refine⟨?_,DR.ren hf h.2 h3⟩
  have hh:=h.1
  cases a with
  |mark b=>
   simp only[oW]at h1
   obtain⟨b',g1,rfl⟩:=Ak.1 h1
   obtain⟨k,k1,k2⟩:=hh
   exact⟨k,hf _ _ _ g1 k1,k2⟩
  |call g ls=>
   simp only[oW]at h1
   obtain⟨b',g1,rfl⟩:=Ak.1 h1
   obtain⟨cap,k1,k2⟩:=hh
   exact⟨cap,k1,VRL.ren hf wi (fun hh hk=>VR.ren hf wi hh hk) k2 g1⟩
 |[],l',_::_,h,hl=>h.elim
 |_::_,l',[],h,hl=>h.elim
structure SR (c:Cfg) (base:Nat) (I:World→Prop) (ρ:Emb) (s:St) (a:Act) (w:World):Prop where
 tr:TR ρ w s.T a
 dr:DR ρ w s.d a.defers
 rel:Rel base c.n0 ρ s.h.t.get w
 glob:Vx c ρ
 lim:s.T.m≤lim
 wr: ∀b∈s.w,c.n0≤b
 inv:I w
def To (c:Cfg) (base:Nat) (I:World→Prop) (ρ:Emb) (s:St) (w:World) (s':St) (a':Act) (w':World):Prop:=
 ∃ρ',SR c base I ρ' s' a' w'∧Ext base c.n0 ρ s.h.t.get s.h.n w ρ' s'.h.t.get s'.h.n s'.w w'
theorem Ext.after {base n0:Nat} {ρ ρ1 ρ2:Emb} {H H1 H2:Nat→Option Ob} {n n1 n2:Nat} {W1 W2:List Nat} {w w1 w2:World} (hf:kX ρ n n2) (hr:Rel base n0 ρ H w)
  (h:Ext base n0 ρ H n w ρ1 H1 n1 W1 w1) (k:Ext base n0 ρ1 H1 n1 w1 ρ2 H2 n2 W2 w2) (hs: ∀b∈W1,b∈W2):Ext base n0 ρ H n w ρ2 H2 n2 W2 w2:=
 (Ext.trans hf hr h k).weaken (fun b hb=>(AT.1 hb).elim id (hs b)) k.wr
theorem kX.after {base n0:Nat} {ρ ρ1:Emb} {H H1:Nat→Option Ob} {n n1 N:Nat} {W1:List Nat} {w w1:World} (hf:kX ρ n N) (h:Ext base n0 ρ H n w ρ1 H1 n1 W1 w1):kX ρ1 n1 N:=fun b h1 h2=>by
 cases e:ρ1 b with
 |none=>rfl
 |some x=>
  rcases h.dom b x e with h3|h3
  ·rw[hf b (Bd h.nn h1) h2]at h3;cases h3
  ·omega
theorem kX.mono {ρ:Emb} {n N M:Nat} (h:kX ρ n N) (k:M≤N):kX ρ n M:=fun b h1 h2=>h b h1 (by omega)
def CP (c:Cfg) (base:Nat) (ρ:Emb) (h:Hp) (w:World) (outs:List Out) (e:Ending) (w':World):Prop:=
 ∃o∈outs,∃v' ρ',e= .returned v'∧VR ρ' w' o.1 v'∧Ext base c.n0 ρ h.t.get h.n w ρ' o.2.1.t.get o.2.1.n o.2.2 w'
structure Pre (c:Cfg) (base:Nat) (I:World→Prop) (ρ:Emb) (h:Hp) (w:World) (args args':List Value) (outs:List Out):Prop where
 args:VRL ρ w args args'
 rel:Rel base c.n0 ρ h.t.get w
 glob:Vx c ρ
 inv:I w
 free: ∀o∈outs,kX ρ h.n o.2.1.n
structure jm (c:Cfg) (base:Nat) (I:World→Prop) (call:kW):Prop where
 fn: ∀f args h outs,call (.fn f) args h= .ok outs→ ∀ρ w args',Pre c base I ρ h w args args' outs→
  ∃fn,c.P.funcs[f]? =some fn∧fn.body.isNone=false∧(fn.name== "runtime.NumGoroutine")=false∧Calls c.P f args'.toArray w (CP c base ρ h w outs)
 yld: ∀b args h outs,call (.yld b) args h≠ .ok outs
def wj (c:Cfg) (base:Nat) (I:World→Prop):Prop:=
 ∀f args v h,c.prim f args h=some v→ ∀ρ w args',Pre c base I ρ h w args args' [(v,h,[])]→
  ∃fn,c.P.funcs[f]? =some fn∧fn.body.isNone=false∧(fn.name== "runtime.NumGoroutine")=false∧Calls c.P f args'.toArray w (CP c base ρ h w [(v,h,[])])
section
variable {c:Cfg} {base:Nat} {I:World→Prop} {call:kW}
theorem Jn {f:FuncId} {args:Array Value} {fn:Func} {w:World} (h1:c.P.funcs[f]? =some fn) (h2:fn.body.isNone=false) (h3:(fn.name== "runtime.NumGoroutine")=false):(callFunc f args).run c.P w= .ok (.enter f args) w:=by
 simp[callFunc,program,Sem.run,h1]
 rw[Aq (by simpa using h3),Aq (by intro e;simp[e]at h2)]
theorem fb (hcall:jm c base I call) (hprim:wj c base I) {f:FuncId} {args args':List Value} {h:Hp} {outs:List Out} (ho:KU c call h (.fn f) args= .ok outs) {ρ:Emb} {w:World} (hp:Pre c base I ρ h w args args' outs):
  ∃fn,c.P.funcs[f]? =some fn∧fn.body.isNone=false∧(fn.name== "runtime.NumGoroutine")=false∧Calls c.P f args'.toArray w (CP c base ρ h w outs):=by
 unfold KU at ho
 simp only at ho
 split at ho
 ·rename_i v hv
  cases ho
  exact hprim f args v h hv ρ w args' hp
 ·exact hcall.fn f args h outs ho ρ w args' hp
theorem yg.Yq {ρ:Emb} {w:World} {d:Jo} {b:Nat} {y:Value} (h:yg ρ w d b y): ∀x,y≠ .bool x:=by
 cases d with
 |none=>exact h.elim
 |sl off n sz=>rcases h with⟨k,dd,c,_,_,_,rfl⟩|⟨_,a,rfl⟩<;>exact fun x e=>by cases e
 |ptr off=>obtain⟨k,dd,_,rfl⟩:=h;exact fun x e=>by cases e
theorem Zc.Yq {z:Nat} {n:Value} {cs:List Value} {y:Value} (h:Zc (.func (.yield z) ⟨[n]⟩ ⟨cs⟩) y): ∀x,y≠ .bool x:=by
 obtain⟨W,_,h⟩:=h
 cases h<;>exact fun x e=>by cases e
theorem Vv {ops:Array Oper} {ρ:Emb} {w:World} {T:Tm} {a:Act} {o:Oper} {b:Bool} (hsz:T.m=a.tmps.size) (h: ∀j want d,o.guard=some (j,want)→(ops[j]?).bind (·.dst)=some d→d<T.m→TV ρ w (T.get d) (a.tmps.getD d undef))
  (hw:jy ops T o=some b):Region.wanted o (yielded ops a.tmps)=b:=by
 unfold jy at hw
 unfold Region.wanted
 split at hw
 ·rename_i hg;rw[hg];cases hw;rfl
 ·rename_i j want hg
  rw[hg]
  simp only
  split at hw
  ·rename_i d hd
   cases e:Nat.blt d T.m with
   |false=>rw[e]at hw;cases hw
   |true=>
    rw[e]at hw
    simp only[Ai]at hw
    have hdm:=kQ e
    have hv:=h j want d hg hd hdm
    have hds:d<a.tmps.size:=by rw[←hsz];exact hdm
    have tm:a.tmps[d]? =some (a.tmps.getD d undef):=by simp[hds]
    unfold yielded
    rw[hd]
    simp only[Ar,tm]
    split at hw
    ·rename_i x hx
     have hv:=hv _ hx
     generalize a.tmps.getD d undef=y at hv ⊢
     cases hv
     cases hw
     cases want<;>cases x<;>rfl
    ·rename_i z hx hz
     cases hw
     have hv:=hv _ hz
     generalize hy:a.tmps.getD d undef=y at hv ⊢
     cases hv<;>first|(cases want<;>rfl)|exact(hx _ rfl).elim|(rename_i hr;have hb:=Zc.Yq hr;cases y<;>first|(cases want<;>rfl)|exact(hb _ rfl).elim)|(rename_i hr;have hb:=yg.Yq hr;cases y<;>first|(cases want<;>rfl)|exact(hb _ rfl).elim)|(rename_i hr;cases y<;>first|(cases want<;>rfl)|(simp[fZ,gi]at hr))
    ·cases hw
  ·cases hw
theorem YL {ops:Array Oper} {ρ:Emb} {w:World} {T:Tm} {a:Act} (h:TR ρ w T a) {o:Oper} {b:Bool} (hw:jy ops T o=some b):Region.wanted o (yielded ops a.tmps)=b:=
 Vv h.size (fun j want d _ _ hd=>h.at_ d hd) hw
theorem XQ (hc:zu c) {ρ:Emb} {w:World} {m:String} {l l':List Value} {p:FuncId×List Value} (h:YW c m l=some p) (hv:VRL ρ w l l'):
  ∃t x' rest,l'= .iface t x'::rest∧VRL ρ w p.2 (x'::rest)∧(callMethod (.iface t x') m rest.toArray).run c.P w=(callFunc p.1 (x'::rest).toArray).run c.P w:=by
 unfold YW at h
 split at h
 ·rename_i t x r
  obtain⟨pr,e1,e2⟩:=zz h
  split at e2
  ·rename_i e hu hp
   cases e2
   obtain⟨y,l2,rfl,hy,hl⟩:=hv.zp
   cases hy with
   |iface _ _ x' hx=>
    refine⟨t,x',l2,rfl,VRL.cons hx hl,?_⟩
    rw[cP hc e1 hu hp w]
    congr 2
    simp
  ·cases e2
 ·cases h
theorem my (hc:zu c) (hI:Inv base I) (hcall:jm c base I call) (r:Option Nat) (o:Oper) {ρ:Emb} {T:Tm} {h:Hp} {a:Act} {w:World} {outs:List Out} {K:Act→World→Prop} {Q:Exit→Act→World→Prop}
  (ho:opD c call T h o= .ok outs) (hr:Rel base c.n0 ρ h.t.get w) (hg:Vx c ρ) (hi:I w) (hev: ∀x∈o.op.operands.toList,EV c ρ w T a x) (hprim:wj c base I)
  (hfree: ∀x∈outs,kX ρ h.n x.2.1.n)
  (hK: ∀x∈outs,∀v' w' ρ',VR ρ' w' x.1 v'→Ext base c.n0 ρ h.t.get h.n w ρ' x.2.1.t.get x.2.1.n x.2.2 w'→K (a.put o.dst v') w'):o.wpIn (FW r) 0 c.P a w K Q:=by
 unfold opD at ho
 obtain⟨os,h1,h2⟩:=R.zG ho
 obtain⟨rfl,h3,h4⟩:=Yp h2
 refine⟨fun _ _=>trivial,?_⟩
 cases hce:Kj c T o with
 |none=>
  rw[hce]at h1
  have h5:=R.XS h1
  unfold opT at h5
  cases htq:ai c T o with
  |true=>
   rw[htq]at h5
   obtain⟨v,hv,rfl⟩:=Ak.1 (show (xh c T o).map (fun v=>[(v,h,[])])=some os from h5)
   obtain⟨v',f1,f2⟩:=ga hc (fun W hW=>hI.old W hW w hi) hI.tb o hev hv
   rw[Oper.semAt_eq _ _ _ (fun q hq=>by unfold xh at hv;rw[hq]at hv;cases hv),f1]
   exact hK _ (AL.2 rfl) v' w ρ f2 (Ext.refl hr)
  |false=>
  rw[htq]at h5
  have h5:opP c T h o=some os:=h5
  rw[Oper.semAt_eq _ _ _ (fun q hq=>by unfold opP at h5;rw[hq]at h5;cases h5)]
  obtain⟨v,h',W,m1,v',w',ρ',m2,m3,m4⟩:=cX hc o hr hev h5 (fun v h' W hm=>hfree _ hm)
  rcases m2 with m2|⟨m2,rfl⟩
  ·rw[m2];exact hK _ m1 v' w' ρ' m3 m4
  ·rw[m2];exact hK _ m1 undef w' ρ' m3 m4
 |some p=>
  rw[hce]at h1
  obtain⟨cl,args⟩:=p
  simp only at h1
  have fin: ∀f args',cl= .fn f→VRL ρ w args args'→(execOp a.eval o).run c.P w=(callFunc f args'.toArray).run c.P w→Oper.uponIn (FW r) 0 c.P o a K Q ((execOp a.eval o).run c.P w):=by
   rintro f args' rfl hall hrun
   obtain⟨fn',k1,k2,k3,k4⟩:=fb hcall hprim h1 ⟨hall,hr,hg,hi,hfree⟩
   rw[hrun,Jn k1 k2 k3]
   refine⟨fun _=>by simp_all [FW,Fence.wide],CallsIn.mono (dR k4) ?_⟩
   rintro e w' ⟨x,m1,v',ρ',rfl,m2,m3⟩
   exact hK x m1 v' w' ρ' m2 m3
  unfold Kj at hce
  split at hce
  ·rename_i q hop
   rw[Oper.semAt_eq _ _ _ (fun q' hq=>by rw[hop]at hq;cases hq)]
   split at hce
   ·rename_i fo hfo
    obtain⟨fv,e1,hce⟩:=zz hce
    have hargs: ∀x∈q.args.toList,EV c ρ w T a x:=fun x hx=>hev x (by rw[hop];simp[Op.operands,Call.operands,hfo];exact .inr (by simpa using hx))
    have hv:=hev fo (by rw[hop];simp[Op.operands,Call.operands,hfo]) _ e1
    split at hce
    ·rename_i f0 fst cap
     obtain⟨asl,e2,e3⟩:=zz hce
     cases e3
     have hva:=Ql _ _ hargs e2
     generalize hfe:a.eval fo=fe at hv
     cases hv with
     |func fn hfn xs ys xs' ys' a1 a2 a3 a4=>
      refine fin f0 ((xs'.toList++q.args.toList.map a.eval)++ys'.toList) rfl ((VRL.append (⟨a1,a2⟩:VRL ρ w _ xs'.toList) hva).append (⟨a3,a4⟩:VRL ρ w _ ys'.toList)) ?_
      have de:xs'++q.args.map a.eval++ys'=((xs'.toList++q.args.toList.map a.eval)++ys'.toList).toArray:=BW (by simp)
      unfold execOp
      rw[hop]
      simp only[resolve,hfo,hfe,Deferred.ofValue,Sem.run_bind,Sem.run_pure,Result.andThen,invoke]
      rw[de]
    ·rename_i b0 fst cap
     obtain⟨asl,e2,e3⟩:=zz hce
     cases e3
     have h1:call (.yld b0) args h= .ok os:=h1
     exact(hcall.yld _ _ _ _ h1).elim
    ·rename_i m fst cap
     obtain⟨asl,e2,e3⟩:=zz hce
     obtain⟨p,e4,e5⟩:=Ak.1 e3
     cases e5
     have hva:=Ql _ _ hargs e2
     generalize hfe:a.eval fo=fe at hv
     cases hv with
     |func fn hfn xs ys xs' ys' a1 a2 a3 a4=>
      obtain⟨t,x',rest,g1,g2,g3⟩:=XQ hc e4 (VRL.append (⟨a1,a2⟩:VRL ρ w _ xs'.toList) hva)
      refine fin _ _ rfl g2 ?_
      have de:xs'++q.args.map a.eval=(Value.iface t x'::rest).toArray:=BW (by rw[B3,B7];exact g1)
      unfold execOp
      rw[hop]
      simp only[resolve,hfo,hfe,Deferred.ofValue,Sem.run_bind,Sem.run_pure,Result.andThen,invoke]
      rw[de,←g3]
      simp
    ·cases hce
   ·rename_i ro m hfo
    obtain⟨rv,e1,hce⟩:=zz hce
    obtain⟨asl,e2,e3⟩:=zz hce
    obtain⟨p,e4,e5⟩:=Ak.1 e3
    cases e5
    have hargs: ∀x∈q.args.toList,EV c ρ w T a x:=fun x hx=>hev x (by rw[hop];simp[Op.operands,Call.operands,hfo];exact .inr (by simpa using hx))
    have hv:=hev ro (by rw[hop];simp[Op.operands,Call.operands,hfo]) _ e1
    have hva:=Ql _ _ hargs e2
    obtain⟨t,x',rest,g1,g2,g3⟩:=XQ hc e4 (VRL.cons hv hva)
    refine fin _ _ rfl g2 ?_
    have de: #[a.eval ro]++q.args.map a.eval=(Value.iface t x'::rest).toArray:=BW (by rw[B3,B7];exact g1)
    unfold execOp
    rw[hop]
    simp only[resolve,hfo,Sem.run_bind,Sem.run_pure,Result.andThen,invoke]
    rw[de,←g3]
    simp
   ·cases hce
  ·cases hce
end
end
section
open Go
variable [Eta]
section
variable {c:Cfg} {base:Nat} {I:World→Prop} {call:kW}
theorem nh (T:Tm) (d:Option Tmp) (v:Value):(xl T d v).m=T.m:=by
 unfold xl
 split
 ·cases Nat.blt _ T.m<;>rfl
 ·rfl
theorem put_defers (a:Act) (d:Option Tmp) (v:Value):(a.put d v).defers=a.defers:=by cases d<;>rfl
theorem SR.after {ρ ρ':Emb} {s:St} {a:Act} {w w':World} (hI:Inv base I) (h:SR c base I ρ s a w) {h':Hp} {W:List Nat} (k:Ext base c.n0 ρ s.h.t.get s.h.n w ρ' h'.t.get h'.n W w') {v v':Value} (hv:VR ρ' w' v v') (d:Option Tmp):
  SR c base I ρ' ⟨xl s.T d v,h',W++s.w,s.d⟩ (a.put d v') w':=
 ⟨((h.tr.le k.le).grow k.grow).put h.lim d hv, by rw [put_defers]; exact (h.dr.le k.le).grow k.grow, k.rel, h.glob.le k.le, by
  show (xl s.T d v).m≤_root_.Go.Proofs.YtaiokpmmjbiajaaGreatDoorDx.lim
  rw[nh];exact h.lim,fun b hb=>(AT.1 hb).elim (k.wr b) (h.wr b),hI.on _ _ h.inv (k.low h.rel)⟩
theorem X8 (hc:zu c) (hI:Inv base I) (hcall:jm c base I call) (hprim:wj c base I) {ro:Bool} {r:Option Nat} (hro:ro=false→r=none) (ops:Array Oper) {Q:Exit→Act→World→Prop}:
  ∀(l:List Oper) (s:St) (outs:List St),JF c call ro ops l s= .ok outs→ ∀(ρ:Emb) (a:Act) (w:World),SR c base I ρ s a w→(∀o∈outs,kX ρ s.h.n o.h.n)→
   (∀o∈outs,∀a' w',To c base I ρ s w o a' w'→Q .normal a' w')→wpListIn (FW r) 0 c.P ops Q l a w
 |[],s,outs,h,ρ,a,w,hs,hf,hQ=>by
  cases h
  exact wpListIn_nil (hQ s (by simp) a w ⟨ρ,hs,(Ext.refl hs.rel).weaken (fun b hb=>by cases hb) hs.wr⟩)
 |o::l,s,outs,h,ρ,a,w,hs,hf,hQ=>by
  unfold JF at h
  obtain⟨b,h1,h2⟩:=R.zG h
  have hw:=YL hs.tr (R.XS h1)
  refine wpListIn_step (fun K hK=> ?_)
  rw[hw]
  cases b with
  |false=>
   simp only[BJ,if_false]
   simp only[Ah]at h2
   refine⟨fun _ _=>trivial,hK _ _ (X8 hc hI hcall hprim hro ops l ⟨xl s.T o.dst undef,s.h,s.w,s.d⟩ outs h2 ρ _ w ?_ hf (fun x hx a' w' ht=>hQ x hx a' w' ht))⟩
   exact SR.after hI hs (Ext.refl hs.rel) (VR.undef (ρ:=ρ) (w:=w)) o.dst
  |true=>
   simp only[if_true]
   simp only[Ai]at h2
   split at h2
   ·cases h2
   ·obtain ⟨os, h3, h4⟩ := R.zG h2
    have hup:=fun x (hx:x∈os)=>vX h4 x hx
    have hfo: ∀x∈os,kX ρ s.h.n x.2.1.n:=fun x hx=>by
     obtain⟨rx,k1,k2⟩:=hup x hx
     have:=xY l _ rx k1
     obtain⟨y,hy⟩:=BZ rx this.ne
     exact(hf y (k2 y hy)).mono (this.n y hy)
    refine my hc hI hcall r o h3 hs.rel hs.glob hs.inv (fun x _=>hs.tr.ev hs.glob x) hprim hfo (fun x hx v' w' ρ' hv hx2=>hK _ _ ?_)
    obtain⟨rx,k1,k2⟩:=hup x hx
    have hs':=SR.after hI hs hx2 hv o.dst
    refine X8 hc hI hcall hprim hro ops l _ rx k1 ρ' _ w' hs' (fun y hy=>(hf y (k2 y hy)).after hx2) (fun y hy a'' w'' ht=>hQ y (k2 y hy) a'' w'' ?_)
    obtain⟨ρ'',t1,t2⟩:=ht
    have hx3:=hx2.weaken (W':=x.2.2++s.w) (fun b hb=>by simp[hb]) hs'.wr
    exact⟨ρ'',t1,Ext.after (hf y (k2 y hy)) hs.rel hx3 t2 (fun b hb=>(xY l _ rx k1).w y hy b hb)⟩
def EX:Ex→Exit→Prop
 | .normal,.normal=>True
 | .exit i,.exit j=>i=j
 | .ret,.ret=>True
 |_,_=>False
def CQ (c:Cfg) (base:Nat) (I:World→Prop) (ρ:Emb) (s:St) (w:World) (outs:List (Ex×St)) (e:Exit) (a':Act) (w':World):Prop:= ∃o∈outs,EX o.1 e∧To c base I ρ s w o.2 a' w'
def V4 (c:Cfg) (base:Nat) (I:World→Prop) (call:kW):Prop:=
 ∀ro id ops draw s outs,cD c call ro ops draw s= .ok outs→UpX s outs∧
  ∀r,(ro=false→r=none)→ ∀ρ a w,SR c base I ρ s a w→(∀o∈outs,kX ρ s.h.n o.2.h.n)→(Code.region id ops draw).wpIn (FW r) 0 c.P (CQ c base I ρ s w outs) a w
theorem ym {a:Code} {f:St→Vt} {s0:St} (hf: ∀s r,f s= .ok r→UpX s r): ∀(k:Nat) (l:List St) (r:List (Ex×St)),Qk c a f s0 k l= .ok r→Up s0 l→UpX s0 r∧ ∀s∈l,∃o∈r,s.h.n≤o.2.h.n
 |0,l,r,h,hl=>by cases h
 |k+1,l,r,h,hl=>by
  unfold Qk at h
  obtain⟨q,h1,h2⟩:=R.zG h
  have hq: ∀p∈q,s0.h.n≤p.2.h.n∧ ∀b∈s0.w,b∈p.2.w:=fun p hp=>by
   obtain⟨x,k1,rx,k2,k3⟩:=jN h1 p hp
   have:=hf x rx k2
   exact⟨Bd (hl.n x k1) (this.n p k3),fun b hb=>this.w p k3 b (hl.w x k1 b hb)⟩
  have po: ∀s∈l,∃p∈q,s.h.n≤p.2.h.n:=fun s hs=>by
   obtain⟨rx,k1,k2⟩:=vX h1 s hs
   have:=hf s rx k1
   obtain⟨y,hy⟩:=BZ rx this.ne
   exact⟨y,k2 y hy,this.n y hy⟩
  split at h2
  ·rename_i hn
   cases h2
   have hl': ∀p∈q,p∈jc q:=fun p hp=>kx.2 ⟨hp,fun e=>by
    obtain⟨x,s⟩:=p
    simp only at e
    subst e
    have:=zX.2 hp
    rw[hn]at this;cases this⟩
   refine⟨⟨fun e=> ?_,fun o ho=>(hq o (kx.1 ho).1).1,fun o ho=>(hq o (kx.1 ho).1).2⟩,fun s hs=> ?_⟩
   ·obtain ⟨s, hs⟩ := BZ l hl.ne
    obtain⟨p,hp,_⟩:=po s hs
    have:=hl' p hp
    rw[e]at this;cases this
   ·obtain ⟨p, hp, hle⟩ := po s hs
    exact⟨p,hl' p hp,hle⟩
  ·rename_i hn
   obtain⟨r',h3,h4⟩:=R.zG h2
   cases h4
   have hnl:Up s0 (kt q):=⟨hn,fun o ho=>(hq _ (zX.1 ho)).1,fun o ho=>(hq _ (zX.1 ho)).2⟩
   have m1:=hnl
   have m2: ∀s∈kt q,∃s'∈kt q,s.h.n≤s'.h.n:=fun s hs=>⟨s,hs,Aw _⟩
   obtain⟨g1,g2⟩:=ym hf k _ _ h3 m1
   refine⟨⟨fun e=>g1.ne (List.append_eq_nil_iff.1 e).2,fun o ho=> ?_,fun o ho=> ?_⟩,fun s hs=> ?_⟩
   ·rcases AT.1 ho with ho | ho
    ·exact(hq o (kx.1 ho).1).1
    ·exact g1.n o ho
   ·rcases AT.1 ho with ho | ho
    ·exact(hq o (kx.1 ho).1).2
    ·exact g1.w o ho
   ·obtain ⟨⟨x, p⟩, hp, hle⟩ := po s hs
    by_cases e:x= .normal
    ·subst e
     obtain⟨p',k1,k2⟩:=m2 p (zX.2 hp)
     obtain⟨o,k3,k4⟩:=g2 p' k1
     exact⟨o,BF _ k3,Bd hle (Bd k2 k4)⟩
    ·exact⟨(x,p),BL _ (kx.2 ⟨hp,e⟩),hle⟩
theorem JM {ro:Bool} {lp:Code→St→Option (List (Ex×St))} {a:Code} {s:St} {l:List (Ex×St)} (h:lpD ro lp a s=some l):ro=false∧lp a s=some l∧upB s l=true:=by
 unfold lpD at h
 cases ro with
 |true=>cases h
 |false=>
  simp only[Ah]at h
  cases e:lp a s with
  |none=>rw[e]at h;cases h
  |some l'=>
   rw[e]at h
   simp only[Ar]at h
   cases e2:upB s l' with
   |false=>rw[e2]at h;cases h
   |true=>rw[e2]at h;cases h;exact⟨rfl,rfl,e2⟩
theorem pb {ro:Bool} {lp:Code→St→Option (List (Ex×St))} {a:Code} {s:St} {l:List (Ex×St)} (h:lpD ro lp a s=some l):UpX s l:=by
 obtain⟨_,_,h⟩:=JM h
 unfold upB at h
 simp only[Ag,Bm,Ap,ch,List.any_eq_true]at h
 refine⟨fun e=> ?_,fun o ho=>kU (h.2 o ho).1,fun o ho b hb=> ?_⟩
 ·rw[e]at h;cases h.1
 ·obtain ⟨x, h1, h2⟩ := (h.2 o ho).2 b hb
  rw[wu h2];exact h1
theorem vp (hreg:V4 c base I call) {ro:Bool} {lp:Code→St→Option (List (Ex×St))}: ∀(k:Nat) (q:Code) (s:St) (outs:List (Ex×St)),vx c call lp ro k q s= .ok outs→UpX s outs
 |0,q,s,outs,h=>by cases h
 |k+1,q,s,outs,h=>by
  cases q with
  |skip=>cases h;exact UpX.one _ _
  |label l=>cases h;exact UpX.one _ _
  |exit id=>cases h;exact UpX.one _ _
  |ret=>cases h;exact UpX.one _ _
  |region id ops d=>exact(hreg ro id ops d s outs h).1
  |scope a=>cases h
  |cond x a b=>
   simp only[vx]at h
   split at h
   ·rename_i v _
    cases v
    ·exact vp hreg k b s outs h
    ·exact vp hreg k a s outs h
   ·cases h
  |seq a b=>
   simp only[vx]at h
   obtain⟨l,h1,h2⟩:=R.zG h
   exact gl h2 (vp hreg k a s l h1) (fun s r hr=>vp hreg k b s r hr)
  |loop a=>
   simp only[vx]at h
   split at h
   ·rename_i l hl
    cases h
    exact pb hl
   ·exact(ym (fun s r hr=>vp hreg k a s r hr) k [s] outs h ⟨by simp,by simp,by simp⟩).1
  |block id a=>
   simp only[vx]at h
   obtain⟨l,h1,h2⟩:=R.zG h
   have g:=vp hreg k a s l h1
   cases h2
   have hb: ∀p:Ex×St,(ZC id p).2=p.2:=fun p=>by obtain⟨e,s⟩:=p;cases e<;>rfl
   refine⟨by simpa using g.ne,fun o ho=> ?_,fun o ho b hb'=> ?_⟩
   ·obtain ⟨p, hp, rfl⟩ := Bk.1 ho
    rw[hb];exact g.n p hp
   ·obtain ⟨p, hp, rfl⟩ := Bk.1 ho
    rw[hb];exact g.w p hp b hb'
  |rangeFunc f ps as bd=>cases h
  |goto l=>cases h
  |refuse w=>cases h
end
end
section
open Go
variable [Eta]
section
variable {c:Cfg} {base:Nat} {I:World→Prop} {call:kW}
theorem To.comp {ρ ρ':Emb} {s s' s'':St} {w w':World} {a a'':Act} {w'':World} (hf:kX ρ s.h.n s''.h.n) (hs:SR c base I ρ s a w) (h:Ext base c.n0 ρ s.h.t.get s.h.n w ρ' s'.h.t.get s'.h.n s'.w w') (k:To c base I ρ' s' w' s'' a'' w'') (hw: ∀b∈s'.w,b∈s''.w):To c base I ρ s w s'' a'' w'':=by
 obtain⟨ρ'',k1,k2⟩:=k
 exact⟨ρ'',k1,Ext.after hf hs.rel h k2 hw⟩
theorem bg {q:Code} {k:Nat} {ro:Bool} {lp:Code→St→Option (List (Ex×St))} {r:Option Nat} (hreg:V4 c base I call) (ih: ∀(s:St) (outs:List (Ex×St)),vx c call lp ro k q s= .ok outs→ ∀(ρ:Emb) (a:Act) (w:World),SR c base I ρ s a w→(∀o∈outs,kX ρ s.h.n o.2.h.n)→q.wpIn (FW r) 0 c.P (CQ c base I ρ s w outs) a w)
  {s0:St} {ρ0:Emb} {a0:Act} {w0:World} (hs0:SR c base I ρ0 s0 a0 w0): ∀(j:Nat) (l:List St) (res:List (Ex×St)),Qk c q (fun s=>vx c call lp ro k q s) s0 j l= .ok res→(∀o∈res,kX ρ0 s0.h.n o.2.h.n)→Up s0 l→
   ∀s∈l,∀(ρ:Emb) (a:Act) (w:World),SR c base I ρ s a w→Ext base c.n0 ρ0 s0.h.t.get s0.h.n w0 ρ s.h.t.get s.h.n s.w w→Code.roundsIn (FW r) 0 c.P q (CQ c base I ρ0 s0 w0 res) j a w
 |0,l,res,h,hf,hl,s,hm,ρ,a,w,hs,hx=>by cases h
 |j+1,l,res,h,hf,hl,s,hm,ρ,a,w,hs,hx=>by
  have hall:=ym (c:=c) (a:=q) (s0:=s0) (fun s r hr=>vp hreg k q s r hr) (j+1) l res h hl
  unfold Qk at h
  obtain⟨qs,h1,h2⟩:=R.zG h
  obtain⟨rs,h3,h4⟩:=vX h1 s hm
  have hups:=vp hreg k q s rs h3
  have hqs: ∀p∈qs,s0.h.n≤p.2.h.n∧ ∀b∈s0.w,b∈p.2.w:=fun p hp=>by
   obtain⟨x,k1,rx,k2,k3⟩:=jN h1 p hp
   have:=vp hreg k q x rx k2
   exact⟨Bd (hl.n x k1) (this.n p k3),fun b hb=>this.w p k3 b (hl.w x k1 b hb)⟩
  have hend:(∀p∈qs,p.1≠ .normal→p∈res)∧((kt qs=[]∧True)∨ ∃r',Qk c q (fun s=>vx c call lp ro k q s) s0 j (kt qs)= .ok r'∧(∀o∈r',o∈res)∧Up s0 (kt qs)):=by
   split at h2
   ·rename_i hn
    cases h2
    exact⟨fun p hp hne=>kx.2 ⟨hp,hne⟩,.inl ⟨hn,trivial⟩⟩
   ·rename_i hn
    obtain⟨r',h5,h6⟩:=R.zG h2
    cases h6
    exact⟨fun p hp hne=>BL _ (kx.2 ⟨hp,hne⟩),.inr ⟨r',h5,fun o ho=>BF _ ho,⟨hn,fun o ho=>(hqs _ (zX.1 ho)).1,fun o ho=>(hqs _ (zX.1 ho)).2⟩⟩⟩
  obtain⟨he1,he2⟩:=hend
  have hfo: ∀p∈qs,kX ρ0 s0.h.n p.2.h.n:=fun p hp=>by
   obtain⟨x,sp⟩:=p
   by_cases hne:x= .normal
   ·subst hne
    rcases he2 with⟨e,_⟩|⟨r',h5,h6,h7⟩
    ·have := zX.2 hp
     rw[e]at this;cases this
    ·obtain ⟨m1, m2⟩ : Up s0 (kt qs) ∧ ∀ s ∈ kt qs, ∃ s' ∈ kt qs, s.h.n ≤ s'.h.n := ⟨h7, fun s hs => ⟨s, hs, Aw _⟩⟩
     obtain⟨s',k1,k2⟩:=m2 sp (zX.2 hp)
     obtain⟨o,k3,k4⟩:=(ym (c:=c) (a:=q) (s0:=s0) (fun s r hr=>vp hreg k q s r hr) j _ r' h5 m1).2 s' k1
     exact(hf o (h6 o k3)).mono (Bd k2 k4)
   ·exact hf _ (he1 _ hp hne)
  rw[roundsIn_succ]
  refine wpIn_mono (ih s rs h3 ρ a w hs (fun o ho=>(hfo o (h4 o ho)).after hx)) ?_
  rintro e a' w' ⟨⟨x,s'⟩,ho,hex,ρ',hs',hx'⟩
  have hp:=h4 _ ho
  have hx2:=Ext.after (hfo _ hp) hs0.rel hx hx' (fun b hb=>hups.w _ ho b hb)
  cases x with
  |normal=>
   cases e<;>first|exact False.elim hex|skip
   rcases he2 with⟨e,_⟩|⟨r',h5,h6,h7⟩
   ·have := zX.2 hp
    rw[e]at this;cases this
   ·obtain ⟨m1, m2⟩ : Up s0 (kt qs) ∧ ∀ s ∈ kt qs, ∃ s' ∈ kt qs, s.h.n ≤ s'.h.n := ⟨h7, fun s hs => ⟨s, hs, Aw _⟩⟩
    have tz:=(ym (c:=c) (a:=q) (s0:=s0) (fun s r hr=>vp hreg k q s r hr) j _ r' h5 m1).2
    obtain⟨s'',k1,ρ'',k2,k3⟩: ∃s''∈kt qs,∃ρ'',SR c base I ρ'' s'' a' w'∧Ext base c.n0 ρ0 s0.h.t.get s0.h.n w0 ρ'' s''.h.t.get s''.h.n s''.w w':=⟨s',zX.2 hp,ρ',hs',hx2⟩
    have:=bg hreg ih hs0 j _ r' h5 (fun o ho=>hf o (h6 o ho)) m1 s'' k1 ρ'' a' w' k2 k3
    have pO: ∀(n:Nat) (a:Act) (w:World),Code.roundsIn (FW r) 0 c.P q (CQ c base I ρ0 s0 w0 r') n a w→Code.roundsIn (FW r) 0 c.P q (CQ c base I ρ0 s0 w0 res) n a w:=by
     intro n
     induction n with
     |zero=>intro a w hh;exact hh
     |succ n ihn=>
      intro a w hh
      rw[roundsIn_succ]at hh ⊢
      refine wpIn_mono hh (fun e a w hq=> ?_)
      cases e with
      |normal=>exact ihn a w hq
      |_=>obtain⟨o,o1,o2⟩:=hq;exact⟨o,h6 o o1,o2⟩
    exact pO j a' w' this
  |exit i=>
   cases e<;>first|exact False.elim hex|skip
   exact⟨_,he1 _ hp (by simp),hex,ρ',hs',hx2⟩
  |ret=>
   cases e<;>first|exact False.elim hex|skip
   exact⟨_,he1 _ hp (by simp),trivial,ρ',hs',hx2⟩
end
end
end Go.Proofs.YtaiokpmmjbiajaaGreatDoorDx
