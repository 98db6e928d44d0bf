/- A part of the proof of this claim. No condition beyond those that each theorem names. -/
import Derived.Test.YtaiokpmmjbiajaaGreatDoorAD0
import Derived.Test.YtaiokpmmjbiajaaGreatDoorAD1
import Derived.Lib.LaidIn
import Derived.Lib.LaidU8
import Derived.IntWalk
import Derived.Test.YtaiokpmmjbiajaaGreatDoorAShelf
import Derived.Below
import Derived.WalkSmall
import Derived.Lib.ItoaMem
import Derived.Lib.AppendIntMem
import Derived.Shelf.Unicode.DecodeSlow
import Derived.KernelRfl
import Derived.Deep.Strs
import Derived.Deep.Slices
import Derived.OpenShut
import Derived.SizedLaws
import Derived.DataShut
import Derived.Lib.SmallJoins
import Derived.Test.YtaiokpmmjbiajaaGreatDoorProg
set_option maxRecDepth 1000000
set_option linter.unusedSectionVars false
set_option linter.unusedVariables false
set_option linter.unusedSimpArgs false
namespace Go.Proofs.YtaiokpmmjbiajaaGreatDoorDx
section
open Go
inductive GT (α:Type) where
 |out (x:α)
 |no
 |br (b:Bool) (t f:GT α)
def GT.eval {α:Type}:GT α→Option α
 | .out x=>some x
 | .no=>none
 | .br b t f=>bif b then t.eval else f.eval
def GT.YI {α β:Type} (K:α→Option β):GT α→Option β
 | .out x=>K x
 | .no=>none
 | .br b t f=>bif b then t.YI K else f.YI K
def GT.qI {α:Type} (b:Bool) (t:GT α):GT α:= .br b t .no
inductive TK where
 |i (k:IntKind)
 |s
 |b
 |t
def r6:Option TypeDesc→Option TK
 |some (.int k)=>some (.i k)
 |some .string=>some .s
 |some .bool=>some .b
 |_=>none
def XY (f:TypeId→Option (List TK)):List Field→Option (List TK)
 |[]=>some []
 |fd::r=>(f fd.type).bind fun a=>(XY f r).map fun l=>a++l
def bf (c:Cfg):Nat→TypeId→Option (List TK)
 |0,_=>none
 |n+1,t=>match c.und t with
  |some (.struct fs)=>XY (bf c n) fs.toList
  |d=>(r6 d).map fun k=>[k]
def tTK:Option TypeDesc→Option TK
 |some (.slice _)=>some .t
 |d=>r6 d
def eh (c:Cfg):Nat→TypeId→Option (List TK)
 |0,_=>none
 |n+1,t=>match c.und t with
  |some (.struct fs)=>XY (eh c n) fs.toList
  |d=>(tTK d).map fun k=>[k]
def rdZ (cs:List Value) (o:Nat):Nat:=match nth cs o with
 |some (.func (.yield z) ⟨[.int .i64 (.ofNat _)]⟩ ⟨_⟩)=>z
 |_=>0
def rdN (cs:List Value) (o:Nat):Nat:=match nth cs o with
 |some (.func (.yield _) ⟨[.int .i64 (.ofNat n)]⟩ ⟨_⟩)=>n
 |_=>0
def rdC (cs:List Value) (o:Nat):List Value:=match nth cs o with
 |some (.func (.yield _) ⟨[.int .i64 (.ofNat _)]⟩ ⟨l⟩)=>l
 |_=>[]
def rdI (cs:List Value) (o:Nat):Int:=match nth cs o with
 |some (.int _ x)=>x
 |_=>0
def rdS (cs:List Value) (o:Nat):ByteArray:=match nth cs o with
 |some (.string x)=>x
 |_=>⟨#[]⟩
def rdB (cs:List Value) (o:Nat):Bool:=match nth cs o with
 |some (.bool x)=>x
 |_=>false
def rdV (cs:List Value) (o:Nat):TK→Value
 | .i k=> .int k (rdI cs o)
 | .s=> .string (rdS cs o)
 | .b=> .bool (rdB cs o)
 | .t=> .func (.yield (rdZ cs o)) ⟨[.int .i64 (Int.ofNat (rdN cs o))]⟩ ⟨rdC cs o⟩
def isV (cs:List Value) (o:Nat):TK→Bool
 | .i k=>match nth cs o with
  |some (.int k' _)=>decide (k'=k)
  |_=>false
 | .s=>match nth cs o with
  |some (.string _)=>true
  |_=>false
 | .b=>match nth cs o with
  |some (.bool _)=>true
  |_=>false
 | .t=>match nth cs o with
  |some (.func (.yield _) ⟨[.int .i64 (.ofNat _)]⟩ ⟨_⟩)=>true
  |_=>false
def rdL (cs:List Value):Nat→List TK→List Value
 |_,[]=>[]
 |o,k::r=>rdV cs o k::rdL cs (o+1) r
def isL (cs:List Value):Nat→List TK→Bool
 |_,[]=>true
 |o,k::r=>isV cs o k&&isL cs (o+1) r
def xp (h:Hp) (v:Value):GT Out:= .out (v,h,[])
def tP (h:Hp):Option Value→Option (GT Out)
 |some v=>some (xp h v)
 |none=>none
def eV (c:Cfg) (h:Hp) (t:TypeId) (cs:List Value) (o:Nat) (ks:List TK):Option (GT Out):=
 (WV c t).bind fun ag =>
  bif ag then(c.siz t).bind fun n=>bif Nat.beq n ks.length&& !ks.isEmpty then some (.qI (isL cs o ks) (xp h (.agg (rdL cs o ks).toArray)))else none
  else match ks with
   |[k]=>some (.qI (isV cs o k) (xp h (rdV cs o k)))
   |_=>none
def mB (c:Cfg) (h:Hp) (t:TypeId) (b o:Nat):Option (GT Out):=(zS h b).bind fun cs=>(bf c 9 t).bind fun ks=>eV c h t cs o ks
def aH (c:Cfg) (h:Hp) (t:TypeId) (v:Value) (j:Int):Option (GT Out):=
 match c.und t,v with
 |some (.slice el),.func (.yield z) ⟨[.int .i64 (.ofNat n)]⟩ ⟨cs⟩=>(c.siz el).bind fun s=>some (.qI (Nat.beq s z) (.qI (decide (0≤j)) (.qI (Nat.blt j.toNat n) (xp h (lQ (cs.drop (j.toNat*s)))))))
 |_,_=>none
def bD (c:Cfg) (h:Hp) (t:TypeId) (v:Value) (f:Nat):Option (GT Out):=
 match c.und t,v with
 |some (.struct fs),.func (.yield _) ⟨[.bool true]⟩ ⟨cs⟩=>(fs[f]?).bind fun fd=>(c.siz fd.type).bind fun n=>bif Nat.beq n 0 then none else some (.qI (Nat.ble fd.offset cs.length) (xp h (lQ (cs.drop fd.offset))))
 |_,_=>none
def dN (c:Cfg) (h:Hp) (t:TypeId) (v:Value):Option (GT Out):=
 match v with
 | .func (.yield _) ⟨[.bool true]⟩ ⟨cs⟩=>(eh c 9 t).bind fun ks=>eV c h t cs 0 ks
 |_=>none
def aK (c:Cfg) (T:Tm) (h:Hp) (o:Oper):Option (GT Out):=
 match o.op with
 | .load t x=>(ev c T x).bind fun v=>dN c h t v
 | .indexAddr t x i=>(ev c T x).bind fun v=>(ev c T i).bind fun j=>match j with
  | .int _ j=>aH c h t v j
  |_=>none
 | .fieldAddr t x f=>(ev c T x).bind fun v=>bD c h t v f
 |_=>tP h (xh c T o)
def dw (c:Cfg) (h:Hp) (t:TypeId) (v:Value) (j:Int):Option (GT Out):=
 match c.und t,v with
 |some (.slice el),.slice (some ⟨b,o,none⟩) n _=>(c.siz el).bind fun s=>some (.qI (decide (0≤j)) (.qI (Nat.blt j.toNat n) (xp h (.pointer (some ⟨b,o+j.toNat*s,none⟩)))))
 |some (.array n el),.pointer (some ⟨b,o,none⟩)=>(c.siz el).bind fun s=>some (.qI (decide (0≤j)) (.qI (Nat.blt j.toNat n) (xp h (.pointer (some ⟨b,o+j.toNat*s,none⟩)))))
 |_,_=>none
def dT (c:Cfg) (h:Hp) (t:TypeId) (v:Value) (j:Int):Option (GT Out):=
 match c.und t,v with
 |some .string,.string s=>some (.qI (decide (0≤j)) (.qI (Nat.blt j.toNat s.data.toList.length) (xp h (.int .u8 (s.data.toList.getD j.toNat 0).toNat))))
 |_,_=>none
def yK (x:Option Value) (d m:Nat):Option (Bool×Nat):=
 match x with
 |none=>some (true,d)
 |some (.int _ i)=>some (decide (0≤i)&&Nat.ble i.toNat m,i.toNat)
 |_=>none
def X2 (c:Cfg) (h:Hp) (t:TypeId) (v:Value) (l u:Option Value):Option (GT Out):=
 match c.und t,v with
 | some .string, .string s => (yK u s.data.toList.length s.data.toList.length).bind fun e => (yK l 0 e.2).bind fun b =>
   some (.qI e.1 (.qI b.1 (xp h (.string ⟨((s.data.toList.take e.2).drop b.2).toArray⟩))))
 |some (.slice el),.slice none 0 0=>(yK u 0 0).bind fun e=>(yK l 0 e.2).bind fun b=>(c.siz el).bind fun s=>some (.qI e.1 (.qI b.1 (xp h (.slice none 0 0))))
 | some (.slice el), .slice (some ⟨k, o, none⟩) n sz => (yK u n n).bind fun e => (yK l 0 e.2).bind fun b => (c.siz el).bind fun s =>
   bif Nat.beq s sz then some (.qI e.1 (.qI b.1 (xp h (.slice (some ⟨k,o+b.2*s,none⟩) (e.2 - b.2) sz))))else none
 |_,_=>none
def dG (c:Cfg) (h:Hp) (b o:Nat) (vs:List Value):Option (GT Out):=
 (zS h b).bind fun cs=>bif Nat.ble c.n0 b&&Nat.blt b lim&&vs.all wz then some (.qI (Nat.ble (o+vs.length) cs.length) (.out (undef,⟨h.t.put b (some (.cells (zt cs o vs))),h.n⟩,[b])))else none
def nR (h:Hp) (op:BinOp) (a b:Value):Option (GT Out):=
 match op,a,b with
 | .quo,.int k a,.int k' b=>bif decide (k=k')then some (.qI (!decide (b=0)) (xp h (.int k (k.wrap (a.tdiv b)))))else none
 | .rem,.int k a,.int k' b=>bif decide (k=k')then some (.qI (!decide (b=0)) (xp h (.int k (a.tmod b))))else none
 | .shl,.int k a,.int _ b=>some (.qI (!decide (b<0)) (xp h (.int k (k.wrap (a*2 ^ (min b.toNat k.bits))))))
 | .shr,.int k a,.int _ b=>some (.qI (!decide (b<0)) (xp h (.int k (a.fdiv (2 ^ (min b.toNat k.bits))))))
 | .add,.string a,.string b=>some (.qI (Nat.ble (a.data.toList.length+b.data.toList.length) 9223372036854775807) (xp h (.string ⟨(a.data.toList++b.data.toList).toArray⟩)))
 |_,_,_=>none
def nA (c:Cfg) (h:Hp) (elem:TypeId) (xd:TypeDesc) (t:ByteArray):Option (GT Out):=
 bif !Qs xd then none else
  (c.siz elem).bind fun sz=>(c.byt elem).bind fun by_=>(c.zer elem).bind fun z=>
  bif Nat.beq sz 0||Nat.blt 1000000 by_|| !Nat.beq (qJ z).length sz then none else
  bif Nat.beq sz 1&&Nat.blt h.n lim then
   some (.br (Nat.beq t.data.toList.length 0) (xp h (.slice none 0 0)) (.qI (Nat.ble (0+t.data.toList.length) 200000000000000) (.qI (Nat.ble ((0+t.data.toList.length)*by_) 200000000000000) (.qI ((t.data.toList.map fun b=>Value.int .u8 b.toNat).all wz)
    (.out (.slice (some ⟨h.n,0,none⟩) t.data.toList.length sz,⟨h.t.put h.n (some (.cells (t.data.toList.map fun b=> .int .u8 b.toNat))),h.n+1⟩,[]))))))
  else none
def nT (c:Cfg) (h:Hp) (elem:TypeId) (xd:TypeDesc) (b o m:Nat):Option (GT Out):=
 bif !Qs xd then none else
  (c.siz elem).bind fun sz=>(c.byt elem).bind fun by_=>(c.zer elem).bind fun z=>(zS h b).bind fun cs=>
  bif Nat.beq sz 0||Nat.blt 1000000 by_|| !Nat.beq (qJ z).length sz then none else
  bif Nat.blt h.n lim then
   some (.br (Nat.beq m 0) (xp h (.slice none 0 0)) (.qI (Nat.ble (0+m) 200000000000000) (.qI (Nat.ble ((0+m)*by_) 200000000000000) (.qI (Nat.ble (o+m*sz) cs.length) (.qI (((cs.drop o).take (m*sz)).all wz)
    (.out (.slice (some ⟨h.n,0,none⟩) m sz,⟨h.t.put h.n (some (.cells ((cs.drop o).take (m*sz)))),h.n+1⟩,[])))))))
  else none
def oC (c:Cfg) (h:Hp) (st xt:TypeId) (s x:Value):Option (GT Out):=
 match c.und st,c.und xt,s with
 |some (.slice elem),some xd,.slice (some ⟨b,o,none⟩) n cz=>bif !Qs xd then none else
  (c.siz elem).bind fun sz=>(c.byt elem).bind fun by_=>(c.zer elem).bind fun z=>(zS h b).bind fun cs=>
  bif Nat.beq sz 0||Nat.blt 1000000 by_|| !Nat.beq (qJ z).length sz then none else
  (jS h sz x).bind fun nw => bif Nat.ble c.n0 b && Nat.blt b lim && Nat.blt h.n lim && Nat.beq cz sz then
   some (.br (Nat.beq nw.2 0) (xp h s) (.qI (Nat.ble (n+nw.2) 200000000000000) (.qI (Nat.ble ((n+nw.2)*by_) 200000000000000) (.qI (nw.1.all wz) (.qI (Nat.ble (o+n*sz) cs.length)
    (.out (.slice (some ⟨h.n,0,none⟩) (n+nw.2) sz,⟨(h.t.put b none).put h.n (some (.cells ((cs.drop o).take (n*sz)++nw.1))),h.n+1⟩,[b])))))))
   else none
 |some (.slice elem),some xd,.slice none 0 0=>match x with
  | .string t=>nA c h elem xd t
  | .slice (some ⟨b,o,none⟩) m _=>nT c h elem xd b o m
  |_=>none
 |_,_,_=>none
def Yx:Value→UInt8
 | .int .u8 n=>UInt8.ofNat n.toNat
 |_=>0
def ep:Value→Bool
 | .int .u8 _=>true
 |_=>false
def u8L (l:List Value):ByteArray:=⟨(l.map Yx).toArray⟩
def ny (c:Cfg) (h:Hp) (el:TypeId) (b o n:Nat):Option (GT Out):=
 match c.und el with
 |some (.int .u8)=>(zS h b).bind fun cs=>some (.qI (Nat.ble (o+n) cs.length) (.qI (((cs.drop o).take n).all ep) (xp h (.string (u8L ((cs.drop o).take n))))))
 |_=>none
def Yz (c:Cfg) (h:Hp) (el:TypeId) (s:ByteArray):Option (GT Out):=
 match c.und el,c.siz el with
 |some (.int .u8),some 1=>bif Nat.blt h.n lim then some (.qI (Nat.ble s.data.toList.length 1000000) (.out (.slice (some ⟨h.n,0,none⟩) s.data.toList.length 1,⟨h.t.put h.n (some (.cells (s.data.toList.map fun b=> .int .u8 b.toNat))),h.n+1⟩,[])))else none
 |_,_=>none
def fE (c:Cfg) (h:Hp) (t:TypeId) (l u:Value):Option (GT Out):=
 match c.und t,l,u with
 |some (.slice el),.int _ l,.int _ u=>(c.siz el).bind fun s=>(c.byt el).bind fun by_=>(c.zer el).bind fun z=>
  bif Nat.beq s 0||Nat.blt 1000000 by_|| !Nat.beq (qJ z).length s then none else bif Nat.blt h.n lim then
   some (.qI (decide (0≤l)) (.qI (decide (0≤u)) (.qI (Nat.ble u.toNat 1000000) (.qI (Nat.ble l.toNat u.toNat)
    (.out (.slice (some ⟨h.n,0,none⟩) l.toNat s,⟨h.t.put h.n (some (.cells (rep (qJ z) u.toNat))),h.n+1⟩,[]))))))
  else none
 |_,_,_=>none
def opG (c:Cfg) (T:Tm) (h:Hp) (o:Oper):Option (GT Out):=
 match o.op with
 | .load t a=>(ev c T a).bind fun v=>match v with
  | .pointer (some ⟨b,o,none⟩)=>mB c h t b o
  |_=>none
 | .indexAddr t x i=>(ev c T x).bind fun v=>(ev c T i).bind fun j=>match j with
  | .int _ j=>dw c h t v j
  |_=>none
 | .index t x i=>(ev c T x).bind fun v=>(ev c T i).bind fun j=>match j with
  | .int _ j=>dT c h t v j
  |_=>none
 | .slice t x lo hi mx=>match mx with
  |some _=>none
  |none=>(ev c T x).bind fun v=>(evo c T lo).bind fun l=>(evo c T hi).bind fun u=>X2 c h t v l u
 | .store t a x=>(ev c T a).bind fun v=>(ev c T x).bind fun y=>(c.siz t).bind fun s=>match v with
  | .pointer (some ⟨b,o,none⟩)=>bif Nat.beq (qJ y).length s then dG c h b o (qJ y)else none
  |_=>none
 | .binOp op t x y _=>(ev c T x).bind fun a=>(ev c T y).bind fun b=>match pe c op t x y a b with
  |some _=>none
  |none=>nR h op a b
 | .makeSlice t l u=>(ev c T l).bind fun v=>(ev c T u).bind fun x=>fE c h t v x
 | .convert src dst x=>(ev c T x).bind fun v=>match c.und src,c.und dst,v with
  |some .string,some (.slice el),.string s=>bif Y8 (c.und el)then none else Yz c h el s
  |some (.slice el),some .string,.slice (some ⟨b,o,none⟩) n _=>ny c h el b o n
  |_,_,_=>none
 | .call q=>match q.callee with
  | .builtin .append=>(evs c T q.args.toList).bind fun l=>match q.argTypes.toList,l with
   |[t,u],[s,x]=>bif ZF (c.und u)then none else oC c h t u s x
   |_,_=>none
  |_=>none
 |_=>none
def rT:Option (List Out)→GT Out
 |some [x]=> .out x
 |_=> .no
def opQ (c:Cfg) (T:Tm) (h:Hp) (o:Oper):GT Out:=
 bif ai c T o then(aK c T h o).getD .no else
 match opG c T h o with
 |some t=>t
 |none=>rT (opP c T h o)
end
section
open Go
theorem GT.qh {α:Type} {b:Bool} {t:GT α} {x:α} (h:(GT.qI b t).eval=some x):b=true∧t.eval=some x:=by
 unfold GT.qI at h
 cases b with
 |true=>exact⟨rfl,h⟩
 |false=>cases h
theorem GT.xC {α β:Type} {K:α→Option β} {r:β}: ∀{t:GT α},t.YI K=some r→ ∃x,t.eval=some x∧K x=some r
 | .out x,h=>⟨x,rfl,h⟩
 | .no,h=>by cases h
 | .br b t f,h=>by
  cases b with
  |true=>exact GT.xC (t:=t) h
  |false=>exact GT.xC (t:=f) h
theorem zF {h:Hp} {v:Value} {x:Out} (e:(xp h v).eval=some x):x=(v,h,[]):=by cases e;rfl
theorem jK {j:Int} (h:decide (0≤j)=true):xb j=some j.toNat:=by
 have h:=AY h
 cases j with
 |ofNat n=>rfl
 |negSucc n=>exact absurd h (by omega)
theorem vM: ∀(l:List Value) (n:Nat),nth l n=l[n]?
 |[],n=>by simp[nth]
 |x::l,n=>by
  unfold nth
  cases n with
  |zero=>rfl
  |succ n=>
   show nth l (n+1 - 1)=_
   rw[Nat.add_sub_cancel,vM l n];rfl
theorem bH {cs:List Value} {o:Nat} {k:TK} (h:isV cs o k=true):nth cs o=some (rdV cs o k):=by
 cases k with
 |t=>
  simp only[isV]at h
  split at h
  ·rename_i z n l e
   rw[e]
   unfold rdV rdZ rdN rdC
   rw[e]
  ·cases h
 |i k=>
  simp only[isV,rdV,rdI]at h ⊢
  cases e:nth cs o with
  |none=>rw[e]at h;cases h
  |some v=>
   rw[e]at h
   cases v with
   |int k' x=>have:=AY h;subst this;rfl
   |_=>cases h
 |s=>
  simp only[isV,rdV,rdS]at h ⊢
  cases e:nth cs o with
  |none=>rw[e]at h;cases h
  |some v=>
   rw[e]at h
   cases v with
   |string x=>rfl
   |_=>cases h
 |b=>
  simp only[isV,rdV,rdB]at h ⊢
  cases e:nth cs o with
  |none=>rw[e]at h;cases h
  |some v=>
   rw[e]at h
   cases v with
   |bool x=>rfl
   |_=>cases h
theorem XO (cs:List Value): ∀(ks:List TK) (o:Nat),isL cs o ks=true→ks≠[]→o+ks.length≤cs.length∧(cs.drop o).take ks.length=rdL cs o ks
 |[],o,h,hn=>absurd rfl hn
 |k::r,o,h,hn=>by
  simp only[isL,Ag]at h
  have h1:=bH h.1
  rw[vM]at h1
  have hlt:=(AH.1 h1).1
  have hd:cs.drop o=rdV cs o k::cs.drop (o+1):=by
   rw[A8 hlt]
   have:=(AH.1 h1).2
   rw[this]
  rw[hd]
  cases r with
  |nil=>exact⟨by simp;omega,by simp[rdL]⟩
  |cons k2 r=>
   obtain⟨h3,h4⟩:=XO cs (k2::r) (o+1) h.2 (by simp)
   refine⟨by simp only[AK]at h3 ⊢;omega,?_⟩
   show rdV cs o k::(cs.drop (o+1)).take (k2::r).length=rdV cs o k::rdL cs (o+1) (k2::r)
   rw[h4]
theorem WG {cs:List Value} {o:Nat} {n:Nat} (h:o+n≤cs.length):slc cs o n=some ((cs.drop o).take n):=by
 unfold slc
 rw[show Nat.ble (o+n) cs.length=true from Nat.ble_eq_true_of_le h];rfl
theorem qi {α β:Type} {x:Option α} {f:α→Option β} {r:β} (h:x.bind f=some r): ∃a,x=some a∧f a=some r:=Aj.1 h
theorem zP {α:Type} {b:Bool} {x:Option α} {r:α} (h:(bif b then x else none)=some r):b=true∧x=some r:=by
 cases b with
 |true=>exact⟨rfl,h⟩
 |false=>cases h
theorem J4 {c:Cfg} {h:Hp} {t:TypeId} {cs:List Value} {o:Nat} {ks:List TK} {g:GT Out} {x:Out} (e:eV c h t cs o ks=some g) (hx:g.eval=some x):
  ∃v,xa c t cs o=some v∧x=(v,h,[]):=by
 obtain⟨ag,e3,e⟩:=qi e
 cases ag with
 |true=>
  simp only[Ai]at e
  obtain⟨n,e4,e⟩:=qi e
  obtain⟨e5,e⟩:=zP e
  cases e
  simp only[Ag,Bm,List.isEmpty_eq_false_iff]at e5
  obtain⟨g1,g2⟩:=GT.qh hx
  refine⟨.agg (rdL cs o ks).toArray,?_,zF g2⟩
  obtain rfl:=Am e5.1
  unfold xa
  simp only[e3,Ar,Ai,e4]
  obtain⟨h1,h2⟩:=XO cs ks o g1 e5.2
  rw[WG h1,h2];rfl
 |false=>
  simp only[Ah]at e
  cases ks with
  |nil=>cases e
  |cons k r=>
   cases r with
   |cons k2 r=>cases e
   |nil=>
    cases e
    obtain⟨g1,g2⟩:=GT.qh hx
    refine⟨_,?_,zF g2⟩
    unfold xa
    simp only[e3,Ar,Ah]
    exact bH g1
theorem eS {c:Cfg} {h:Hp} {t:TypeId} {b o:Nat} {g:GT Out} {x:Out} (e:mB c h t b o=some g) (hx:g.eval=some x):
  ∃v,Vm c h t (.pointer (some ⟨b,o,none⟩))=some v∧x=(v,h,[]):=by
 obtain⟨cs,e1,e⟩:=qi e
 obtain⟨ks,e2,e⟩:=qi e
 obtain⟨v,h1,h2⟩:=J4 e hx
 exact⟨v,by show (zS h b).bind (fun cs=>xa c t cs o)=_;rw[e1];exact h1,h2⟩
theorem dj {c:Cfg} {h:Hp} {t:TypeId} {v:Value} {j:Int} {k:IntKind} {g:GT Out} {x:Out} (e:dw c h t v j=some g) (hx:g.eval=some x):
  ∃r,xX c t v (.int k j)=some r∧x=(r,h,[]):=by
 unfold dw at e
 split at e
 ·rename_i el b o n z hu
  obtain⟨s,e1,e⟩:=qi e
  cases e
  obtain⟨g1,hx⟩:=GT.qh hx
  obtain⟨g2,hx⟩:=GT.qh hx
  refine⟨_,?_,zF hx⟩
  show (xb j).bind _=_
  rw[jK g1]
  simp only[Ar,hu,e1,g2,Ai]
 ·rename_i n el b o hu
  obtain⟨s,e1,e⟩:=qi e
  cases e
  obtain⟨g1,hx⟩:=GT.qh hx
  obtain⟨g2,hx⟩:=GT.qh hx
  refine⟨_,?_,zF hx⟩
  show (xb j).bind _=_
  rw[jK g1]
  simp only[Ar,hu,e1,g2,Ai]
 ·cases e
theorem fN {c:Cfg} {h:Hp} {t:TypeId} {v:Value} {j:Int} {k:IntKind} {g:GT Out} {x:Out} (e:dT c h t v j=some g) (hx:g.eval=some x):
  ∃r,WH c t v (.int k j)=some r∧x=(r,h,[]):=by
 unfold dT at e
 split at e
 ·rename_i s hu
  cases e
  obtain⟨g1,hx⟩:=GT.qh hx
  obtain⟨g2,hx⟩:=GT.qh hx
  refine⟨_,?_,zF hx⟩
  show (xb j).bind _=_
  rw[jK g1]
  simp only[Ar,hu]
  have hlt:j.toNat<s.data.toList.length:=by rwa [AB]at g2
  rw[List.head?_drop,Au hlt,AN,Au hlt]
  rfl
 ·cases e
theorem jI {x:Option Value} {d m:Nat} {p:Bool×Nat} (e:yK x d m=some p) (h:p.1=true):bound x d m=some p.2:=by
 unfold yK at e
 split at e
 ·cases e;rfl
 ·rename_i k i
  cases e
  simp only[Ag]at h
  show (xb i).bind _=_
  rw[jK h.1]
  simp only[Ar,h.2,Ai]
 ·cases e
theorem cn {c:Cfg} {h:Hp} {t:TypeId} {v:Value} {l u:Option Value} {g:GT Out} {x:Out} (e:X2 c h t v l u=some g) (hx:g.eval=some x):
  ∃r,Qx c t v l u=some r∧x=(r,h,[]):=by
 unfold X2 at e
 split at e
 ·rename_i s hu
  obtain⟨p,e1,e⟩:=qi e
  obtain⟨q,e2,e⟩:=qi e
  cases e
  obtain⟨g1,hx⟩:=GT.qh hx
  obtain⟨g2,hx⟩:=GT.qh hx
  refine⟨_,?_,zF hx⟩
  unfold Qx
  simp only[hu,jI e1 g1,jI e2 g2,Ar]
 ·rename_i el hu
  obtain⟨p,e1,e⟩:=qi e
  obtain⟨q,e2,e⟩:=qi e
  obtain⟨s,e3,e⟩:=qi e
  cases e
  obtain⟨g1,hx⟩:=GT.qh hx
  obtain⟨g2,hx⟩:=GT.qh hx
  refine⟨_,?_,zF hx⟩
  unfold Qx
  simp only[hu,jI e1 g1,jI e2 g2,Ar,e3]
 ·rename_i el k o n sz hu
  obtain⟨p,e1,e⟩:=qi e
  obtain⟨q,e2,e⟩:=qi e
  obtain⟨s,e3,e⟩:=qi e
  obtain⟨e4,e⟩:=zP e
  cases e
  obtain⟨g1,hx⟩:=GT.qh hx
  obtain⟨g2,hx⟩:=GT.qh hx
  refine⟨_,?_,zF hx⟩
  unfold Qx
  simp only[hu,jI e1 g1,jI e2 g2,Ar,e3,e4,Ai]
 ·cases e
theorem fR {c:Cfg} {h:Hp} {t:TypeId} {l u:Value} {g:GT Out} {x:Out} (e:fE c h t l u=some g) (hx:g.eval=some x):jW c h t l u=some [x]:=by
 unfold fE at e
 split at e
 ·rename_i el k1 l k2 u hu
  obtain⟨s,e1,e⟩:=qi e
  obtain⟨by_,e2,e⟩:=qi e
  obtain⟨z,e3,e⟩:=qi e
  cases e4:(Nat.beq s 0||Nat.blt 1000000 by_|| !Nat.beq (qJ z).length s)with
  |true=>rw[e4]at e;cases e
  |false=>
   rw[e4]at e
   obtain⟨e5,e⟩:=zP e
   cases e
   obtain⟨g1,hx⟩:=GT.qh hx
   obtain⟨g2,hx⟩:=GT.qh hx
   obtain⟨g3,hx⟩:=GT.qh hx
   obtain⟨g4,hx⟩:=GT.qh hx
   cases hx
   simp only[AU]at e4
   have h3:Nat.blt 1000000 u.toNat=false:=by
    cases q:Nat.blt 1000000 u.toNat with
    |false=>rfl
    |true=>rw[AB]at q;have:=AW g3;omega
   have h4:Nat.blt u.toNat l.toNat=false:=by
    cases q:Nat.blt u.toNat l.toNat with
    |false=>rfl
    |true=>rw[AB]at q;have:=AW g4;omega
   unfold jW
   simp only[hu,jK g1,jK g2,Ar,e1,e2,e3,e4,h3,h4,Cd,Ah,Zh,Vj,e5,Ai,Ba]
 ·cases e
theorem cv {c:Cfg} {h:Hp} {b o:Nat} {vs:List Value} {g:GT Out} {x:Out} (e:dG c h b o vs=some g) (hx:g.eval=some x):
  ∃q,xJ c h b o vs=some q∧x=(undef,q.1,q.2):=by
 obtain⟨cs,e1,e⟩:=qi e
 obtain⟨e2,e⟩:=zP e
 cases e
 obtain⟨g1,hx⟩:=GT.qh hx
 cases hx
 refine⟨(⟨h.t.put b (some (.cells (zt cs o vs))),h.n⟩,[b]),?_,rfl⟩
 unfold xJ
 simp only[Ag]at e2
 simp only[e1,Ar,e2.1.1,e2.1.2,e2.2,g1,AI,Ai]
theorem lV {c:Cfg} {h:Hp} {op:BinOp} {t:TypeId} {a b:Value} {g:GT Out} {x:Out} (e:nR h op a b=some g) (hx:g.eval=some x):
  ∃r,iW c op t a b=some r∧x=(r,h,[]):=by
 unfold nR at e
 split at e
 ·rename_i k a k' b
  obtain⟨e1,e⟩:=zP e
  cases e
  have hk:=AY e1
  obtain⟨g1,hx⟩:=GT.qh hx
  refine⟨_,?_,zF hx⟩
  have hb: ¬b=0:=by simpa using g1
  show (if k=k' then J2 .quo k a b else none)=_
  rw[Ax hk]
  show (if b=0 then none else some _)=_
  rw[Aq hb]
 ·rename_i k a k' b
  obtain⟨e1,e⟩:=zP e
  cases e
  have hk:=AY e1
  obtain⟨g1,hx⟩:=GT.qh hx
  refine⟨_,?_,zF hx⟩
  have hb: ¬b=0:=by simpa using g1
  show (if k=k' then J2 .rem k a b else none)=_
  rw[Ax hk]
  show (if b=0 then none else some _)=_
  rw[Aq hb]
 ·rename_i k a k' b
  cases e
  obtain⟨g1,hx⟩:=GT.qh hx
  refine⟨_,?_,zF hx⟩
  have hb: ¬b<0:=by simpa using g1
  show (if b<0 then none else some _)=_
  rw[Aq hb]
 ·rename_i k a k' b
  cases e
  obtain⟨g1,hx⟩:=GT.qh hx
  refine⟨_,?_,zF hx⟩
  have hb: ¬b<0:=by simpa using g1
  show (if b<0 then none else some _)=_
  rw[Aq hb]
 ·rename_i a b
  cases e
  obtain⟨g1,hx⟩:=GT.qh hx
  refine⟨_,?_,zF hx⟩
  show (bif Nat.ble (a.data.toList.length+b.data.toList.length) 9223372036854775807 then some _ else none)=_
  rw[g1];rfl
 ·cases e
theorem gH {c:Cfg} {h:Hp} {t u elem:TypeId} {xd:TypeDesc} {s:ByteArray} {g:GT Out} {x:Out} (hu:c.und t=some (.slice elem)) (hv:c.und u=some xd) (e:nA c h elem xd s=some g) (hx:g.eval=some x):jA c h t u (.slice none 0 0) (.string s)=some [x]:=by
 unfold nA at e
 obtain⟨e1,e⟩:(!Qs xd)=false∧_=some g:=by
  cases h:(!Qs xd)with
  |true=>rw[h]at e;cases e
  |false=>rw[h]at e;exact⟨rfl,e⟩
 obtain⟨sz,e2,e⟩:=qi e
 obtain⟨by_,e3,e⟩:=qi e
 obtain⟨z,e4,e⟩:=qi e
 obtain⟨e6,e⟩:(Nat.beq sz 0||Nat.blt 1000000 by_|| !Nat.beq (qJ z).length sz)=false∧_=some g:=by
  cases h:(Nat.beq sz 0||Nat.blt 1000000 by_|| !Nat.beq (qJ z).length sz)with
  |true=>rw[h]at e;cases e
  |false=>rw[h]at e;exact⟨rfl,e⟩
 obtain⟨e8,e⟩:=zP e
 simp only[Ag]at e8
 obtain⟨e7,e8⟩:=e8
 cases e
 unfold jA jS
 simp only[hu,hv,e1,Ah,e2,e3,e4,Ar,e6,e7,Ai]
 cases hn:Nat.beq s.data.toList.length 0 with
 |true=>
  have h0:=Am hn
  simp only[GT.eval,hn,Ai]at hx
  rw[Ax h0,zF hx]
 |false=>
  have h0: ¬s.data.toList.length=0:=fun q=>by rw[q]at hn;cases hn
  simp only[GT.eval,hn,Ah]at hx
  obtain⟨g1,hx⟩:=GT.qh hx
  obtain⟨g2,hx⟩:=GT.qh hx
  obtain⟨g3,hx⟩:=GT.qh hx
  cases hx
  rw[Aq h0]
  simp only[g1,g2,g3,AI,Ai,if_true,Zh,Vj,e8,Ba]
theorem iZ {c:Cfg} {h:Hp} {t u elem:TypeId} {xd:TypeDesc} {b o m k:Nat} {g:GT Out} {x:Out} (hu:c.und t=some (.slice elem)) (hv:c.und u=some xd) (e:nT c h elem xd b o m=some g) (hx:g.eval=some x):jA c h t u (.slice none 0 0) (.slice (some ⟨b,o,none⟩) m k)=some [x]:=by
 unfold nT at e
 obtain⟨e1,e⟩:(!Qs xd)=false∧_=some g:=by
  cases h:(!Qs xd)with
  |true=>rw[h]at e;cases e
  |false=>rw[h]at e;exact⟨rfl,e⟩
 obtain⟨sz,e2,e⟩:=qi e
 obtain⟨by_,e3,e⟩:=qi e
 obtain⟨z,e4,e⟩:=qi e
 obtain⟨cs,e5,e⟩:=qi e
 obtain⟨e6,e⟩:(Nat.beq sz 0||Nat.blt 1000000 by_|| !Nat.beq (qJ z).length sz)=false∧_=some g:=by
  cases h:(Nat.beq sz 0||Nat.blt 1000000 by_|| !Nat.beq (qJ z).length sz)with
  |true=>rw[h]at e;cases e
  |false=>rw[h]at e;exact⟨rfl,e⟩
 obtain⟨e8,e⟩:=zP e
 cases e
 unfold jA jS
 cases hn:Nat.beq m 0 with
 |true=>
  have h0:=Am hn
  simp only[hu,hv,e1,Ah,e2,e3,e4,Ar,e6,Ax h0]
  simp only[GT.eval,hn,Ai]at hx
  simp only[if_true]
  rw[zF hx]
 |false=>
  have h0: ¬m=0:=fun q=>by rw[q]at hn;cases hn
  simp only[GT.eval,hn,Ah]at hx
  obtain⟨g1,hx⟩:=GT.qh hx
  obtain⟨g2,hx⟩:=GT.qh hx
  obtain⟨g3,hx⟩:=GT.qh hx
  obtain⟨g4,hx⟩:=GT.qh hx
  cases hx
  simp only[hu,hv,e1,Ah,e2,e3,e4,Ar,e6,Aq h0,e5,WG (AW g3),Ba]
  simp only[g1,g2,g4,AI,Ai,if_true,Zh,Vj,e8,Ba]
theorem Wo: ∀{l:List Value},l.all ep=true→yz l=some (l.map Yx)
 |[],_=>rfl
 |v::l,h=>by
  simp only[A1,Ag]at h
  unfold yz
  rw[Wo h.2]
  have:fu v=some (Yx v):=by
   have:=h.1
   unfold ep at this
   split at this
   ·rfl
   ·cases this
  rw[this];rfl
theorem lT {c:Cfg} {h:Hp} {el:TypeId} {b o n:Nat} {g:GT Out} {x:Out} (e:ny c h el b o n=some g) (hx:g.eval=some x):(QT c h el (some ⟨b,o,none⟩) n).map (fun v=>[(v,h,[])])=some [x]:=by
 unfold ny at e
 split at e
 ·rename_i hu
  obtain⟨cs,e1,e⟩:=qi e
  cases e
  obtain⟨g1,hx⟩:=GT.qh hx
  obtain⟨g2,hx⟩:=GT.qh hx
  unfold QT
  simp only[hu,e1,Ar,WG (AW g1),Wo g2,Ba,zF hx]
  rfl
 ·cases e
theorem gY {c:Cfg} {h:Hp} {t u:TypeId} {s y:Value} {g:GT Out} {x:Out} (e:oC c h t u s y=some g) (hx:g.eval=some x):jA c h t u s y=some [x]:=by
 unfold oC at e
 split at e
 ·rename_i elem xd b o n cz hu hv
  obtain⟨e1,e⟩:(!Qs xd)=false∧_=some g:=by
   cases h:(!Qs xd)with
   |true=>rw[h]at e;cases e
   |false=>rw[h]at e;exact⟨rfl,e⟩
  obtain⟨sz,e2,e⟩:=qi e
  obtain⟨by_,e3,e⟩:=qi e
  obtain⟨z,e4,e⟩:=qi e
  obtain⟨cs,e5,e⟩:=qi e
  obtain⟨e6,e⟩:(Nat.beq sz 0||Nat.blt 1000000 by_|| !Nat.beq (qJ z).length sz)=false∧_=some g:=by
   cases h:(Nat.beq sz 0||Nat.blt 1000000 by_|| !Nat.beq (qJ z).length sz)with
   |true=>rw[h]at e;cases e
   |false=>rw[h]at e;exact⟨rfl,e⟩
  obtain⟨nw,e7,e⟩:=qi e
  obtain⟨e8,e⟩:=zP e
  cases e
  unfold jA
  simp only[hu,hv,e1,Ah,e2,e3,e4,Ar,e6,e7]
  cases hn:Nat.beq nw.2 0 with
  |true=>
   have h0:=Am hn
   simp only[GT.eval,hn,Ai]at hx
   rw[Ax h0,zF hx]
  |false=>
   have h0: ¬nw.2=0:=fun q=>by rw[q]at hn;cases hn
   simp only[GT.eval,hn,Ah]at hx
   obtain⟨g1,hx⟩:=GT.qh hx
   obtain⟨g2,hx⟩:=GT.qh hx
   obtain⟨g3,hx⟩:=GT.qh hx
   obtain⟨g4,hx⟩:=GT.qh hx
   cases hx
   rw[Aq h0]
   simp only[g1,g2,g3,AI,Ai,e5,Ar,e8,WG (AW g4)]
 ·rename_i elem xd hu hv
  split at e
  ·exact gH hu hv e hx
  ·exact iZ hu hv e hx
  ·cases e
 ·cases e
theorem cC {c:Cfg} {h:Hp} {el:TypeId} {s:ByteArray} {g:GT Out} {x:Out} (e:Yz c h el s=some g) (hx:g.eval=some x):K7 c h el s=some [x]:=by
 unfold Yz at e
 split at e
 ·rename_i hu hs
  obtain⟨e1,e⟩:=zP e
  cases e
  obtain⟨g1,hx⟩:=GT.qh hx
  cases hx
  unfold K7
  simp only[hu,hs,g1,Ai]
  unfold Zh Vj
  simp only[e1,Ai,Ba]
 ·cases e
end
section
open Go
theorem oc {c:Cfg} {T:Tm} {h:Hp} {o:Oper} {g:GT Out} {x:Out} (e:opG c T h o=some g) (hx:g.eval=some x):opP c T h o=some [x]:=by
 unfold opG at e
 unfold opP
 split at e
 ·
  rename_i t a ho
  obtain⟨v,e1,e⟩:=qi e
  split at e
  ·rename_i b p
   obtain⟨r,h1,h2⟩:=eS e hx
   simp only[ho,e1,Ar,h1,h2,zi,Ba]
  ·cases e
 ·
  rename_i t y i ho
  obtain⟨v,e1,e⟩:=qi e
  obtain⟨j,e2,e⟩:=qi e
  split at e
  ·rename_i k j
   obtain⟨r,h1,h2⟩:=dj (k:=k) e hx
   simp only[ho,e1,e2,Ar,h1,h2,zi,Ba]
  ·cases e
 ·
  rename_i t y i ho
  obtain⟨v,e1,e⟩:=qi e
  obtain⟨j,e2,e⟩:=qi e
  split at e
  ·rename_i k j
   obtain⟨r,h1,h2⟩:=fN (k:=k) e hx
   simp only[ho,e1,e2,Ar,h1,h2,zi,Ba]
  ·cases e
 ·
  rename_i t y lo hi mx ho
  split at e
  ·cases e
  ·obtain ⟨v, e1, e⟩ := qi e
   obtain⟨l,e2,e⟩:=qi e
   obtain⟨u,e3,e⟩:=qi e
   obtain⟨r,h1,h2⟩:=cn e hx
   simp only[ho,e1,e2,e3,Ar,h1,h2,zi,Ba]
 ·
  rename_i t a y ho
  obtain⟨v,e1,e⟩:=qi e
  obtain⟨w,e2,e⟩:=qi e
  obtain⟨s,e3,e⟩:=qi e
  split at e
  ·obtain ⟨e4, e⟩ := zP e
   obtain⟨q,h1,h2⟩:=cv e hx
   simp only[ho,e1,e2,e3,Ar,e4,Ai,h1,h2,Ba]
  ·cases e
 ·
  rename_i op t y z t' ho
  obtain⟨a,e1,e⟩:=qi e
  obtain⟨b,e2,e⟩:=qi e
  split at e
  ·cases e
  ·rename_i hn
   obtain⟨r,h1,h2⟩:=lV (c:=c) (t:=t) e hx
   simp only[ho,e1,e2,Ar,wC,hn,h1,h2,zi,Ba]
 ·
  rename_i t l u ho
  obtain⟨v,e1,e⟩:=qi e
  obtain⟨y,e2,e⟩:=qi e
  have h1:=fR e hx
  simp only[ho,e1,e2,Ar,h1]
 ·
  rename_i src dst y ho
  obtain⟨v,e1,e⟩:=qi e
  split at e
  ·rename_i el s hs hd
   cases hi:Y8 (c.und el)with
   |true=>rw[hi]at e;cases e
   |false=>
    rw[hi]at e
    have h1:=cC (c:=c) (el:=el) e hx
    simp only[ho,e1,Ar,hs,hd,ba,hi,Ah,h1]
  ·rename_i el b o n k hs hd
   have h1:=lT e hx
   simp only[ho,e1,Ar,hs,hd,zi,h1]
  ·cases e
 ·
  rename_i q ho
  split at e
  ·rename_i hq
   obtain⟨l,e1,e⟩:=qi e
   split at e
   ·rename_i t u s y ht
    cases hi:ZF (c.und u)with
    |true=>rw[hi]at e;cases e
    |false=>
     rw[hi]at e
     have h1:=gY e hx
     simp only[ho,e1,Ar,hq,ht,KF,hi,Ah,h1]
   ·cases e
  ·cases e
 ·cases e
theorem tp {j:Int} (h:0≤j):xb j=some j.toNat:=by
 obtain⟨n,rfl⟩:=AG h
 rfl
theorem fC {c:Cfg} {T:Tm} {h:Hp} {o:Oper} {g:GT Out} {x:Out} (e:aK c T h o=some g) (hx:g.eval=some x):zi h (xh c T o)=some [x]:=by
 unfold aK at e
 split at e
 ·rename_i t y ho
  obtain⟨v,e1,e⟩:=qi e
  unfold dN at e
  split at e
  ·rename_i z cs
   obtain⟨ks,e2,e⟩:=qi e
   obtain⟨v,h1,h2⟩:=J4 e hx
   unfold xh
   simp only[ho,e1,Ar,loadT,h1,h2,zi,Ba]
  ·cases e
 ·rename_i t y i ho
  obtain⟨v,e1,e⟩:=qi e
  obtain⟨j,e2,e⟩:=qi e
  split at e
  ·rename_i k j
   unfold aH at e
   split at e
   ·rename_i el z n cs hu _
    obtain⟨s,e3,e⟩:=qi e
    cases e
    obtain⟨g1,g2⟩:=GT.qh hx
    obtain⟨g3,g4⟩:=GT.qh g2
    obtain⟨g5,g6⟩:=GT.qh g4
    rw[zF g6]
    have g3:=AY g3
    have g5:j.toNat<n:=by rwa [AB]at g5
    obtain rfl:=Am g1
    have:(Nat.beq s s&&decide (((j.toNat:Nat):Int)<Int.ofNat n))=true:=by
     rw[g1,Al (show ((j.toNat:Nat):Int)<Int.ofNat n by show ((j.toNat:Nat):Int)<(n:Int);omega)];rfl
    unfold xh
    simp only[ho,e1,e2,Ar,Wu,tp g3,hu,e3,this,Ai,zi,Ba]
   ·cases e
  ·cases e
 ·rename_i t y f ho
  obtain⟨v,e1,e⟩:=qi e
  unfold bD at e
  split at e
  ·rename_i fs z cs hu
   obtain⟨fd,e2,e⟩:=qi e
   obtain⟨n,e3,e⟩:=qi e
   cases e4:Nat.beq n 0<;>rw[e4]at e
   ·cases e
    obtain⟨g1,g2⟩:=GT.qh hx
    rw[zF g2]
    unfold xh
    simp only[ho,e1,Ar,Wq,hu,e2,e3,e4,g1,Bh,Cd,Ah,zi,Ba]
   ·cases e
  ·cases e
 ·cases hp : xh c T o with
  |none=>rw[hp]at e;cases e
  |some v=>rw[hp]at e;cases e;rw[zF hx];rfl
theorem ng {c:Cfg} {T:Tm} {h:Hp} {o:Oper} {x:Out} (hx:(opQ c T h o).eval=some x):opT c T h o=some [x]:=by
 unfold opQ at hx
 unfold opT
 cases ht:ai c T o<;>rw[ht]at hx
 ·simp only [Ah] at hx ⊢
  split at hx
  ·rename_i t e;exact oc e hx
  ·unfold rT at hx
   split at hx
   ·rename_i y e;cases hx;exact e
   ·cases hx
 ·simp only [Ai] at hx ⊢
  cases e:aK c T h o with
  |none=>rw[e]at hx;cases hx
  |some g=>rw[e]at hx;exact fC e hx
end
section
open Go
abbrev jL:=FuncId→List Value→Hp→Option (GT Value)
def wh (gp:jL):FuncId→List Value→Hp→Option Value:=fun f a h=>(gp f a h).bind GT.eval
abbrev Qh (β:Type):=Cal→List Value→Hp→(Out→Option β)→Option β
def b7 (T:Tm) (d:Nat) (b:Bool):Tm:=⟨T.t.put d (some (.bool b)),T.m⟩
section
variable {β:Type}
def iH (n:Nat) (K:Out→Option β) (x:Out):Option β:=bif Nat.ble n x.2.1.n then K x else none
def dX (gp:jL) (call:Qh β) (h:Hp) (f:Cal) (args:List Value) (K:Out→Option β):Option β:=
 match f with
 | .fn f=>match gp f args h with
  |some t=>t.YI fun v=>K (v,h,[])
  |none=>call (.fn f) args h K
 |f=>call f args h K
def opK (c:Cfg) (gp:jL) (call:Qh β) (T:Tm) (h:Hp) (o:Oper) (K:Out→Option β):Option β:=
 match Kj c T o with
 |some p=>dX gp call h p.1 p.2 (iH h.n K)
 |none=>(opQ c T h o).YI (iH h.n K)
def Y2 (ops:Array Oper) (T:Tm) (o:Oper) (F:Tm→Bool→Option β):Option β:=
 match o.guard with
 |none=>F T true
 |some (j,want)=>match(ops[j]?).bind (·.dst)with
  |some d=>bif Nat.blt d T.m&&Nat.blt d lim then match T.get d with
   |some (.bool b)=>bif b then F (b7 T d true) want else F (b7 T d false) (!want)
   |some _=>F T false
   |none=>none
   else none
  |none=>none
def gb (c:Cfg) (gp:jL) (call:Qh β) (ops:Array Oper):List Oper→St→(St→Option β)→Option β
 |[],s,K=>K s
 |o::r,s,K=>Y2 ops s.T o fun T b=>
  bif b then match fk c T o with
   |some _=>none
   |none=>opK c gp call T s.h o fun x=>gb c gp call ops r ⟨xl T o.dst x.1,x.2.1,x.2.2++s.w,s.d⟩ K
  else gb c gp call ops r ⟨xl T o.dst undef,s.h,s.w,s.d⟩ K
def XJ (c:Cfg) (gp:jL) (call:Qh β) (ops:Array Oper):Nat→List Oper→List Rec→Tm→Hp→List Nat→(Dr→Option β)→Option β
 |_,[],rs,T,h,w,K=>K ⟨T,h,w⟩
 |i,o::l,rs,T,h,w,K=>
  let bef:=Kq rs o
  let un:=rs.filter fun r=> !bef.testBit r.i
  bif o.after.toList.all (fun e=> !Region.binds .any e||Nat.blt e.on i)then Y2 ops T o fun T b=>
   bif b then
    let foot:=JT c T o
    let M:PT Ob:=bk foot h.t (un.flatMap fun r=>Vy r.n (r.n' - r.n))
    opK c gp call T ⟨M,h.n⟩ o fun x=>
     let wr:=x.2.2.filter fun b=>Nat.blt b h.n
     let r:Rec:=⟨i,o,bef,foot,wr,h.n,x.2.1.n⟩
     bif un.all (fun q=>jt ops q r)&&Nat.blt x.2.1.n lim&&aI foot&&wr.all (fun b=>Nat.blt b lim)&&x.2.2.all (fun b=>Nat.blt b x.2.1.n)then
      XJ c gp call ops (i+1) l (r::rs) (xl T o.dst x.1) ⟨Qt h.t x.2.1.t (wr++Vy h.n (x.2.1.n - h.n)),x.2.1.n⟩ (wr++w) K
     else none
   else
    let r:Rec:=⟨i,o,bef,some [],[],h.n,h.n⟩
    bif un.all (fun q=>jt ops q r)then XJ c gp call ops (i+1) l (r::rs) (xl T o.dst undef) h w K else none
  else none
def ou (c:Cfg) (gp:jL) (call:Qh β) (ops:Array Oper) (draw:Bool) (s:St) (K:Ex×St→Option β):Option β:=
 bif draw then XJ c gp call ops 0 ops.toList [] s.T s.h s.w fun x=>K (.normal,⟨x.T,x.h,x.w,s.d⟩)else gb c gp call ops ops.toList s fun s=>K (.normal,s)
def Xd (f:St→Option β) (K:Ex×St→Option β) (p:Ex×St):Option β:=
 match p.1 with
 | .normal=>f p.2
 |_=>K p
def cT (c:Cfg) (s:St) (x:Operand) (F:St→Bool→Option β):Option β:=
 match x with
 | .tmp t=>bif Nat.blt t s.T.m&&Nat.blt t lim then match s.T.get t with
  |some (.bool v)=>bif v then F ⟨b7 s.T t true,s.h,s.w,s.d⟩ true else F ⟨b7 s.T t false,s.h,s.w,s.d⟩ false
  |_=>none
  else none
 |x=>match ev c s.T x with
  |some (.bool v)=>bif v then F s true else F s false
  |_=>none
def bj (f:St→(Ex×St→Option β)→Option β):Nat→St→(Ex×St→Option β)→Option β
 |0,_,_=>none
 |k+1,s,K=>f s (Xd (fun s=>bj f k s K) K)
def upK (s:St) (K:Ex×St→Option β) (x:Ex×St):Option β:=bif upB s [x]then K x else none
def lpK (ro:Bool) (lt:Code→St→Option (GT (Ex×St))) (a:Code) (s:St):Option (GT (Ex×St)):=bif ro then none else lt a s
def wy (c:Cfg) (gp:jL) (call:Qh β) (lt:Code→St→Option (GT (Ex×St))) (ro:Bool):Nat→Code→St→(Ex×St→Option β)→Option β
 |0,_,_,_=>none
 |k+1,q,s,K=>match q with
  | .skip=>K (.normal,s)
  | .label _=>K (.normal,s)
  | .region _ ops d=>ou c gp call ops d s K
  | .seq a b=>wy c gp call lt ro k a s (Xd (fun s=>wy c gp call lt ro k b s K) K)
  | .cond x a b=>cT c s x fun s v=>bif v then wy c gp call lt ro k a s K else wy c gp call lt ro k b s K
  | .block id a=>wy c gp call lt ro k a s fun p=>K (ZC id p)
  | .loop a=>match lpK ro lt a s with
   |some t=>t.YI (upK s K)
   |none=>bj (fun s K=>wy c gp call lt ro k a s K) k s K
  | .exit id=>K (.exit id,s)
  | .ret=>K (.ret,s)
  |_=>none
def oI (c:Cfg) (fn:Func) (K:Out→Option β) (p:Ex×St):Option β:=
 match p.1,p.2.d with
 | .exit _,_=>none
 |_,[]=>match Zl c p.2.T p.2.h fn.results.toList with
  |some vs=>K (Z8 vs,p.2.h,p.2.w)
  |none=>none
 |_,_=>none
def vL (c:Cfg) (gp:jL) (lt:FuncId→Code→St→Option (GT (Ex×St))):Nat→Qh β
 |k+1,.fn f,args,h,K=>match c.fns f with
  |some fn=>match fn.body with
   |some q=>bif Nat.ble args.length fn.ntmps&&Nat.blt fn.ntmps lim then wy c gp (vL c gp lt k) (lt f) false 100000 q ⟨⟨Qi .leaf 0 args,fn.ntmps⟩,h,[],[]⟩ (oI c fn K)else none
   |none=>none
  |none=>none
 |_,_,_,_,_=>none
end
def One {γ β:Type} (l:R (List γ)) (K:γ→Option β) (r:β):Prop:= ∃x,l= .ok [x]∧K x=some r
def yY {β:Type} (call:Qh β) (cd:kW):Prop:= ∀f args h (K:Out→Option β) r,call f args h K=some r→One (cd f args h) K r
section
variable {β:Type} {c:Cfg} {gp:jL} {call:Qh β} {cd:kW}
theorem lx {n:Nat} {K:Out→Option β} {x:Out} {r:β} (h:iH n K x=some r):Nat.ble n x.2.1.n=true∧K x=some r:=zP h
theorem One.chk {l:R (List Out)} {n:Nat} {K:Out→Option β} {r:β} (h:One l (iH n K) r):One (l.bind (_root_.Go.Proofs.YtaiokpmmjbiajaaGreatDoorDx.chk n)) K r:=by
 obtain⟨x,rfl,h2⟩:=h
 obtain⟨h3,h4⟩:=lx h2
 refine⟨x,?_,h4⟩
 show _root_.Go.Proofs.YtaiokpmmjbiajaaGreatDoorDx.chk n [x]=_
 unfold _root_.Go.Proofs.YtaiokpmmjbiajaaGreatDoorDx.chk
 simp[h3]
theorem fM (hp:c.prim=wh gp) (hc:yY call cd) (hf:c.facts=[]) (hr:c.rows=[]) {T:Tm} {h:Hp} {o:Oper} {K:Out→Option β} {r:β} (e:opK c gp call T h o K=some r):One (opD c cd T h o) K r:=by
 unfold opK at e
 unfold opD
 refine One.chk ?_
 split at e
 ·rename_i p hpp
  rw[hpp]
  show One (KU c cd h p.1 p.2) _ r
  unfold dX at e
  unfold KU
  split at e
  ·rename_i f hf'
   rw[hf']
   dsimp only
   split at e
   ·rename_i t hv
    obtain⟨v,h1,h2⟩:=GT.xC e
    have:c.prim f p.2 h=some v:=by rw[hp];unfold wh;rw[hv];exact h1
    rw[this]
    exact⟨_,rfl,h2⟩
   ·rename_i hv
    have:c.prim f p.2 h=none:=by rw[hp];unfold wh;rw[hv];rfl
    rw[this]
    exact hc _ _ _ _ _ e
  ·rename_i hn
   split
   ·rename_i f hf'
    exact absurd hf' (hn f)
   ·exact hc _ _ _ _ _ e
 ·rename_i hpp
  rw[hpp]
  simp only[hf,hr,List.isEmpty_nil,AI,Ai]
  obtain⟨x,h1,h2⟩:=GT.xC e
  exact⟨x,by rw[ng h1];rfl,h2⟩
end
end
section
open Go
theorem PT.X9 {α:Type}: ∀(k:Nat) (t:PT α) (n:Nat) (x:α),n+1<2 ^ k→t.get n=some x→PT.set k t n (some x)=t
 |0,t,n,x,h,e=>by simp at h
 |k+1,.leaf,n,x,h,e=>by cases e
 |k+1,.node v l r,n,x,h,e=>by
  unfold PT.set
  unfold PT.get at e
  cases e1:Nat.beq n 0 with
  |true=>rw[e1]at e;simp only[Ai]at e ⊢;rw[e]
  |false=>
   have hn:n≠0:=fun h=>by subst h;simp at e1
   have hp:2 ^ (k+1)=2 ^ k*2:=CD ..
   rw[e1]at e
   cases e2:Nat.beq (n % 2) 1 with
   |true=>
    have:n % 2=1:=Am e2
    rw[e2]at e
    simp only[Ah,Ai]at e ⊢
    rw[PT.X9 k l (n / 2) x (by omega) e]
   |false=>
    have:n % 2≠1:=Bc e2
    rw[e2]at e
    simp only[Ah,Ai]at e ⊢
    rw[PT.X9 k r (n / 2 - 1) x (by omega) e]
theorem Kn {T:Tm} {d:Nat} {b:Bool} (h:T.get d=some (.bool b)) (hd:Nat.blt d lim=true):b7 T d b=T:=by
 unfold b7 PT.put
 have hl:d<lim:=by rwa [AB]at hd
 rw[PT.X9 40 T.t d (.bool b) (by unfold lim at hl;omega) h]
section
variable {β:Type} {c:Cfg} {gp:jL} {call:Qh β} {cd:kW}
theorem JS {ops:Array Oper} {T:Tm} {o:Oper} {F:Tm→Bool→Option β} {r:β} (e:Y2 ops T o F=some r): ∃b,jy ops T o=some b∧F T b=some r:=by
 unfold Y2 at e
 unfold jy
 split at e
 ·rename_i h;rw[h];exact⟨true,rfl,e⟩
 ·rename_i j want h
  rw[h]
  dsimp only
  split at e
  ·rename_i d hd
   rw[hd]
   obtain⟨e1,e⟩:=zP e
   simp only[Ag]at e1
   simp only[e1.1,Ai]
   split at e
   ·rename_i b hb
    rw[hb]
    cases b with
    |true=>
     simp only[Ai]at e
     rw[Kn hb e1.2]at e
     exact⟨want,by cases want<;>rfl,e⟩
    |false=>
     simp only[Ah]at e
     rw[Kn hb e1.2]at e
     exact⟨!want,by cases want<;>rfl,e⟩
   ·rename_i v hb hv
    rw[hv]
    refine⟨false,?_,e⟩
    cases v with
    |bool b=>exact absurd rfl (hb b)
    |_=>rfl
   ·cases e
  ·cases e
theorem R.bok {α γ:Type} {x:R α} {a:α} {f:α→R γ} (h:x= .ok a):x.bind f=f a:=by rw[h];rfl
theorem jJ {α γ:Type} (x:α) (f:α→R (List γ)):Qe [x] f=f x:=by
 show (f x).bind (fun a=>(R.ok []).bind fun b=> .ok (a++b))=_
 cases f x with
 |ok a=>show R.ok (a++[])=_;rw[A0]
 |no w=>rfl
theorem Wv (hp:c.prim=wh gp) (hc:yY call cd) (hf:c.facts=[]) (hr:c.rows=[]) (ro:Bool) (ops:Array Oper): ∀(l:List Oper) (s:St) (K:St→Option β) (r:β),gb c gp call ops l s K=some r→One (JF c cd ro ops l s) K r
 |[],s,K,r,e=>⟨s,rfl,e⟩
 |o::l,s,K,r,e=>by
  unfold gb at e
  unfold JF
  obtain⟨b,h1,e⟩:=JS e
  rw[h1]
  show One (bif b then _ else _) K r
  cases b with
  |true=>
   simp only[Ai]at e ⊢
   split at e
   ·cases e
   ·rename_i hd
    rw[hd]
    dsimp only
    obtain⟨x,h2,h3⟩:=fM hp hc hf hr e
    rw[R.bok h2,jJ]
    exact Wv hp hc hf hr ro ops l _ K r h3
  |false=>
   simp only[Ah]at e ⊢
   exact Wv hp hc hf hr ro ops l _ K r e
def nx {γ β:Type} (l:R γ) (K:γ→Option β) (r:β):Prop:= ∃x,l= .ok x∧K x=some r
theorem KY (hp:c.prim=wh gp) (hc:yY call cd) (hf:c.facts=[]) (hr:c.rows=[]) (ops:Array Oper): ∀(l:List Oper) (i:Nat) (rs:List Rec) (T:Tm) (h:Hp) (w:List Nat) (K:Dr→Option β) (r:β),XJ c gp call ops i l rs T h w K=some r→nx (Qb c cd ops i l rs T h w) K r
 |[],i,rs,T,h,w,K,r,e=>⟨⟨T,h,w⟩,rfl,e⟩
 |o::l,i,rs,T,h,w,K,r,e=>by
  unfold XJ at e
  unfold Qb
  obtain⟨e1,e⟩:=zP e
  rw[Ax e1]
  show nx ((R.of o.pos (jy ops T o)).bind _) K r
  obtain⟨b,h1,e⟩:=JS e
  rw[h1]
  show nx (bif b then _ else _) K r
  cases b with
  |true=>
   simp only[Ai]at e ⊢
   obtain⟨x,h2,h3⟩:=fM hp hc hf hr e
   rw[R.bok h2]
   dsimp only
   obtain⟨e2,h3⟩:=zP h3
   rw[e2]
   simp only[Ai]
   exact KY hp hc hf hr ops l _ _ _ _ _ K r h3
  |false=>
   simp only[Ah]at e ⊢
   obtain⟨e2,e⟩:=zP e
   rw[e2]
   simp only[Ai]
   exact KY hp hc hf hr ops l _ _ _ _ _ K r e
theorem l8 (hp:c.prim=wh gp) (hc:yY call cd) (hf:c.facts=[]) (hr:c.rows=[]) {ro:Bool} {ops:Array Oper} {d:Bool} {s:St} {K:Ex×St→Option β} {r:β} (e:ou c gp call ops d s K=some r):One (cD c cd ro ops d s) K r:=by
 unfold ou at e
 unfold cD
 cases d with
 |true=>
  simp only[Ai]at e ⊢
  obtain⟨x,h1,h2⟩:=KY hp hc hf hr ops _ _ _ _ _ _ _ _ e
  rw[R.bok h1]
  exact⟨_,rfl,h2⟩
 |false=>
  simp only[Ah]at e ⊢
  obtain⟨x,h1,h2⟩:=Wv hp hc hf hr ro ops _ _ _ _ e
  rw[R.bok h1]
  exact⟨_,rfl,h2⟩
theorem gC {s:St} {x:Operand} {F:St→Bool→Option β} {r:β} (e:cT c s x F=some r): ∃v,ev c s.T x=some (.bool v)∧F s v=some r:=by
 unfold cT at e
 split at e
 ·rename_i t
  obtain⟨e1,e⟩:=zP e
  simp only[Ag]at e1
  split at e
  ·rename_i v hv
   refine⟨v,by unfold ev;simp only[e1.1,Ai,hv],?_⟩
   cases v with
   |true=>
    simp only[Ai]at e
    rw[Kn hv e1.2]at e
    exact e
   |false=>
    simp only[Ah]at e
    rw[Kn hv e1.2]at e
    exact e
  ·cases e
 ·split at e
  ·rename_i v hv
   refine⟨v,hv,?_⟩
   cases v<;>exact e
  ·cases e
def jO (lt:Code→St→Option (GT (Ex×St))):Code→St→Option (List (Ex×St)):=fun a s=>(lt a s).bind fun t=>t.eval.map fun x=>[x]
theorem fW {l:R (List (Ex×St))} {f:St→Option β} {g:St→Vt} {K:Ex×St→Option β} {r:β} (h:One l (Xd f K) r) (hg: ∀s,f s=some r→One (g s) K r):One (l.bind fun l=>VO l g) K r:=by
 obtain⟨p,rfl,h2⟩:=h
 show One (VO [p] g) K r
 unfold VO
 rw[jJ]
 unfold Xd at h2
 obtain⟨ex,s⟩:=p
 cases ex with
 |normal=>exact hg s h2
 |exit i=>exact⟨_,rfl,h2⟩
 |ret=>exact⟨_,rfl,h2⟩
theorem Xe {f:St→(Ex×St→Option β)→Option β} {g:St→Vt} (a:Code) (s0:St) (hfg: ∀s K r,f s K=some r→One (g s) K r): ∀(k:Nat) (s:St) (K:Ex×St→Option β) (r:β),bj f k s K=some r→One (Qk c a g s0 k [s]) K r
 |0,s,K,r,e=>by cases e
 |k+1,s,K,r,e=>by
  unfold bj at e
  unfold Qk
  obtain⟨p,h1,h2⟩:=hfg s _ r e
  rw[jJ,R.bok h1]
  unfold Xd at h2
  obtain⟨ex,s'⟩:=p
  cases ex with
  |normal=>
   show One ((Qk c a g s0 k [s']).bind _) K r
   obtain⟨x,h3,h4⟩:=Xe a s0 hfg k s' K r h2
   rw[R.bok h3]
   exact⟨x,rfl,h4⟩
  |exit i=>exact⟨_,rfl,h2⟩
  |ret=>exact⟨_,rfl,h2⟩
theorem np {ro:Bool} {lt:Code→St→Option (GT (Ex×St))} {a:Code} {s:St} {t:GT (Ex×St)} {K:Ex×St→Option β} {r:β} (h:lpK ro lt a s=some t) (e:t.YI (upK s K)=some r): ∃x,lpD ro (jO lt) a s=some [x]∧K x=some r:=by
 unfold lpK at h
 unfold lpD
 cases ro with
 |true=>cases h
 |false=>
  simp only[Ah]at h ⊢
  obtain⟨x,h1,h2⟩:=GT.xC e
  obtain⟨h3,h4⟩:=zP h2
  refine⟨x,?_,h4⟩
  unfold jO
  rw[h]
  simp only[Ar,h1,Ba,h3,Ai]
theorem fz {ro:Bool} {lt:Code→St→Option (GT (Ex×St))} {a:Code} {s:St} (h:lpK ro lt a s=none):lpD ro (jO lt) a s=none:=by
 unfold lpK at h
 unfold lpD
 cases ro with
 |true=>rfl
 |false=>
  simp only[Ah]at h ⊢
  unfold jO
  rw[h];rfl
theorem jh (hp:c.prim=wh gp) (hc:yY call cd) (hf:c.facts=[]) (hr:c.rows=[]) (lt:Code→St→Option (GT (Ex×St))) (ro:Bool): ∀(k:Nat) (q:Code) (s:St) (K:Ex×St→Option β) (r:β),wy c gp call lt ro k q s K=some r→One (vx c cd (jO lt) ro k q s) K r
 |0,q,s,K,r,e=>by cases e
 |k+1,q,s,K,r,e=>by
  unfold wy at e
  unfold vx
  cases q with
  |skip=>exact⟨_,rfl,e⟩
  |label _=>exact⟨_,rfl,e⟩
  |region _ ops d=>exact l8 hp hc hf hr e
  |seq a b=>exact fW (jh hp hc hf hr lt ro k a s _ r e) fun s h=>jh hp hc hf hr lt ro k b s K r h
  |cond x a b=>
   obtain⟨v,h1,e⟩:=gC e
   simp only[h1]
   cases v with
   |true=>exact jh hp hc hf hr lt ro k a s K r e
   |false=>exact jh hp hc hf hr lt ro k b s K r e
  |block id a=>
   obtain⟨p,h1,h2⟩:=jh hp hc hf hr lt ro k a s _ r e
   show One ((vx c cd (jO lt) ro k a s).bind _) K r
   rw[R.bok h1]
   exact⟨_,rfl,h2⟩
  |loop a=>
   dsimp only at e ⊢
   split at e
   ·rename_i t ht
    obtain⟨x,h1,h2⟩:=np ht e
    rw[h1]
    exact⟨x,rfl,h2⟩
   ·rename_i ht
    rw[fz ht]
    exact Xe a s (fun s K r h=>jh hp hc hf hr lt ro k a s K r h) k s K r e
  |exit id=>exact⟨_,rfl,e⟩
  |ret=>exact⟨_,rfl,e⟩
  |_=>cases e
theorem iT {fn:Func} {k:Nat} {l:Vt} {h:Hp} {p:Ex×St} {K:Out→Option β} {r:β} (h1:l= .ok [p]) (h2:oI c fn K p=some r):One ((Xv c (jP c k) fn [p]).bind fun outs=> .ok outs) K r:=by
 obtain⟨ex,s⟩:=p
 obtain⟨T,hp,w,d⟩:=s
 unfold oI at h2
 have key: ∀e0:Ex,(∀i,e0≠ .exit i)→(match d with|[]=>(match Zl c T hp fn.results.toList with|some vs=>K (Z8 vs,hp,w)|none=>none)|_=>none)=some r→One ((Xv c (jP c k) fn [(e0,⟨T,hp,w,d⟩)]).bind fun outs=> .ok outs) K r:=by
  intro e0 he h2
  cases d with
  |cons a l=>cases h2
  |nil=>
   dsimp only at h2
   split at h2
   ·rename_i vs hv
    have tI:Xv c (jP c k) fn [(e0,⟨T,hp,w,[]⟩)]= .ok [(Z8 vs,hp,w)]:=by
     unfold Xv
     rw[jJ]
     cases e0 with
     |exit i=>exact absurd rfl (he i)
     |normal=>show ((xT c (jP c k) [] hp w).bind _)=_;unfold xT;rw[R.bok (x:=R.ok [(hp,w)]) rfl,jJ];show (R.of _ (Zl c T hp fn.results.toList)).bind _=_;rw[hv];rfl
     |ret=>show ((xT c (jP c k) [] hp w).bind _)=_;unfold xT;rw[R.bok (x:=R.ok [(hp,w)]) rfl,jJ];show (R.of _ (Zl c T hp fn.results.toList)).bind _=_;rw[hv];rfl
    rw[R.bok tI]
    exact⟨_,rfl,h2⟩
   ·cases h2
 cases ex with
 |exit i=>cases h2
 |normal=>exact key .normal (fun i h=>by cases h) (by cases d<;>exact h2)
 |ret=>exact key .ret (fun i h=>by cases h) (by cases d<;>exact h2)
theorem KL (hp:c.prim=wh gp) (hf:c.facts=[]) (hr:c.rows=[]) (lt:FuncId→Code→St→Option (GT (Ex×St))) (hl:c.lops=fun f=>jO (lt f)): ∀k,yY (β:=β) (vL c gp lt k) (jP c k)
 |0,f,args,h,K,r,e=>by
  unfold vL at e
  cases e
 |k+1,f,args,h,K,r,e=>by
  cases f with
  |yld b=>unfold vL at e;cases e
  |dfr b=>unfold vL at e;cases e
  |fn f=>
   unfold vL at e
   split at e
   ·rename_i fn hfn
    split at e
    ·rename_i q hq
     obtain⟨e1,e⟩:=zP e
     unfold jP
     simp only[hfn,hq,e1,Ai]
     obtain⟨p,h1,h2⟩:=jh hp (KL hp hf hr lt hl k) hf hr (lt f) false _ _ _ _ _ e
     rw[hl]
     rw[R.bok h1]
     obtain⟨x,h3,h4⟩:=iT (k:=k) (h:=h) h1 h2
     exact⟨x,by rw[h3];rfl,h4⟩
    ·cases e
   ·cases e
end
end
section
open Go
structure App where
 f:FuncId
 xs:List Value
 r:Value
variable [Eta]
theorem Grow.QW {w w':World} (h:RowKit.Below w.heap.size w w'):Grow w w':=
 ⟨h.size,h.os,h.tape,h.output,fun k cs el fr hk=>⟨cs,by rw[h.block k (Be.1 hk).1];exact hk,rfl⟩⟩
theorem Ext.below {base n0:Nat} {ρ:Emb} {H:Nat→Option Ob} {n:Nat} {w w':World} (hr:Rel base n0 ρ H w) (h:RowKit.Below w.heap.size w w'):Ext base n0 ρ H n w ρ H n [] w':=by
 have hg:=Grow.QW h
 refine⟨.refl ρ,fun b x hb=> .inl hb,Aw _,⟨fun b o hb=> ?_,hr.inj,hr.high,fun b k d hb=>Co (hr.low b k d hb) h.size,⟨hr.sz.1,Bd hr.sz.2 h.size⟩⟩,hg,fun k hk _=>h.block k hk,fun b k d h1 h2=>by omega,fun b hb=> .inl rfl,fun b hb=>by cases hb⟩
 obtain⟨k,d,e1,e2⟩:=hr.at_ b o hb
 exact⟨k,d,e1,e2.grow hg (h.block k (hr.low b k d e1))⟩
end
section
open Go
section
variable {c c':Cfg} {base:Nat} {I:World→Prop}
theorem eL [E:Eta] {c':Cfg} {ρ:Emb} {s:St} {W:List Nat} {a:Act} {w:World} (hs:SR c base I ρ s a w) (hn:c'.n0=c.n0) (hG:c'.G=c.G) (hW: ∀b∈W,c.n0≤b):SR c' base I ρ ⟨s.T,s.h,W,s.d⟩ a w:=
 ⟨hs.tr,hs.dr,by rw[hn];exact hs.rel,fun g hg=>hs.glob g (by rw[←hG];exact hg),hs.lim,(fun b hb=>by rw[hn];exact hW b hb),hs.inv⟩
def Y3 (E:Eta) (c:Cfg) (base:Nat) (I:World→Prop) (b:Code) (s:St) (outs:List (Ex×St)):Prop:=
 ∀(ρ:Emb) a w,@SR E c base I ρ s a w→(∀o∈outs,kX ρ s.h.n o.2.h.n)→b.wpIn (FW none) 0 c.P (@CQ E c base I ρ s w outs) a w
end
end
section
open Go
structure uB where
 m:Nat
 n:Nat
 R:Nat
 vs:List (Nat×Value)
 objs:List (Nat×Nat)
 posts:List (Ex×List (Nat×Value))
section
variable {c:Cfg} {base:Nat} {I:World→Prop}
theorem Qf {F:Fence} {n:Nat} {P:Program} {b:Code} {Q Q':Exit→Act→World→Prop} (h: ∀e a w,Q e a w→Q' e a w): ∀{i:Nat} {a:Act} {w:World},Code.roundsIn F n P b Q i a w→Code.roundsIn F n P b Q' i a w
 |0,a,w,hr=>hr.elim
 |i+1,a,w,hr=>by
  rw[roundsIn_succ]at hr ⊢
  refine wpIn_mono hr fun e a' w' hq=> ?_
  cases e with
  |normal=>exact Qf h hq
  |_=>exact h _ _ _ hq
end
end
section
open Go
section
variable {c c':Cfg} {base:Nat} {I:World→Prop}
end
end
section
open Go
section
variable {c:Cfg} {base:Nat} {I:World→Prop}
end
end
section
open Go
section
variable {c:Cfg} {base:Nat} {I:World→Prop}
theorem eH (E:Eta) (hc:zu c) (hI:Inv base I) (hmix:c.P.follows .mixedOrders=true) (hname: ∀f fn,c.fns f=some fn→(fn.name== "runtime.NumGoroutine")=false) (hprim:wj c base I) (hlops:jY c base I)
  {lp:Code→St→Option (List (Ex×St))} {K k:Nat} {b:Code} (hlp: ∀x∈zl b,bR c base I lp x) {s:St} {outs:List (Ex×St)} (h:vx c (jP c K) lp false k b s= .ok outs):Y3 E c base I b s outs:=by
 have hcall:=sound hc hI hmix hname hprim hlops K
 exact fun ρ a w hs hf=>Wp hc hI hcall hprim (au hc hI hmix hprim hcall) (r:=none) (fun _=>rfl) k b (fun _=>hlp) s outs h ρ a w hs hf
end
end
section
open Go
variable [Eta]
theorem Vh {W:World} {k:Nat} {cs:Array Value} (h:Cells W k cs):k<W.heap.size:=by
 obtain⟨el,fr,h1,_⟩:=h
 exact(Be.1 h1).1
end
section
open Go
section
variable [E:Eta] {c:Cfg}
theorem nj {W:World} {I:World→Prop} (hI:Inv W.heap.size I) (hW:I W) (hc:zu c) (hmix:c.P.follows .mixedOrders=true) (hname: ∀f fn,c.fns f=some fn→(fn.name== "runtime.NumGoroutine")=false)
  (hprim:wj c W.heap.size I) (hlops:jY c W.heap.size I) {k:Nat} {f:FuncId} {args args':List Value} {h0:Hp} {outs:List Out} (h:jP c k (.fn f) args h0= .ok outs) {ρ0:Emb} (hrel:Rel W.heap.size c.n0 ρ0 h0.t.get W)
  (hglob:Vx c ρ0) (hfree: ∀x,h0.n≤x→ρ0 x=none) (hv:VRL ρ0 W args args'):
  Calls c.P f args'.toArray W fun e W'=> ∃o∈outs,∃v' ρ',e= .returned v'∧VR ρ' W' o.1 v'∧Rel W.heap.size c.n0 ρ' o.2.1.t.get W'∧RowKit.Below W.heap.size W W':=by
 obtain⟨fn,h1,h2,h3,h4⟩:=(sound hc hI hmix hname hprim hlops k).fn f args h0 outs h ρ0 W args' ⟨hv,hrel,hglob,hW,fun o ho b h1 h2=>hfree b h1⟩
 refine h4.mono ?_
 rintro e w' ⟨o,ho,v',ρ',rfl,hvr,hx⟩
 exact⟨o,ho,v',ρ',rfl,hvr,hx.rel,hx.low hrel⟩
end
end
section
open Go
end
section
open Go
def i64 (n:Int):Value:= .int .i64 n
section
variable {P:Program} {G n0:Nat} {eqs:TypeId→Bool} {prim:FuncId→List Value→Hp→Option Value} {facts:List Fact} {rows:List RF} {lops:FuncId→Code→St→Option (List (Ex×St))} {live:Nat→Nat→Option (List Nat)}
theorem Q1:(Je P G n0 eqs prim facts rows lops live).fns=fun f=>P.funcs[f]? :=rfl
theorem Qn:(Je P G n0 eqs prim facts rows lops live).P=P:=rfl
theorem Wn:(Je P G n0 eqs prim facts rows lops live).lops=lops:=rfl
theorem jx:(Je P G n0 eqs prim facts rows lops live).n0=n0∧(Je P G n0 eqs prim facts rows lops live).G=G:=⟨rfl,rfl⟩
end
theorem Xa {P:Program} (hP:(P.funcs.toList.all fun fn=> !(fn.name== "runtime.NumGoroutine"))=true) {c:Cfg} (h:c.fns=fun f=>P.funcs[f]?): ∀f fn,c.fns f=some fn→(fn.name== "runtime.NumGoroutine")=false:=by
 intro f fn hf
 rw[h]at hf
 have hm:fn∈P.funcs.toList:=by
  have:P.funcs[f]? =some fn:=hf
  exact Array.mem_toList_iff.2 (Array.mem_of_getElem? this)
 simpa using Ap.1 hP fn hm
theorem xf [Eta] {c:Cfg} {t el:TypeId} {m off n z:Nat} {r:Value} (h1:c.und t=some (.slice el)) (h2:(Eta.r m:Jo)= .sl off n z) (h3:sub r=i64 n): ∀b h,hU h (c.und t) (af m b)=some (sub r):=by
 intro b h
 have e1:af m b= .slice (some ⟨b,off,none⟩) n z:=by unfold af;rw[h2]
 rw[e1,h1,h3];rfl
noncomputable def Qv (P:Program) (f:Nat):Code:=match P.funcs[f]? with|some fn=>(match fn.body with|some q=>q|none=> .skip)|none=> .skip
noncomputable def qV (P:Program) (f i:Nat):Code:=(zl (Qv P f)).getD i .skip
noncomputable def WK (P:Program) (f:Nat):List Nat:=(zl (Qv P f)).map xA
def KT:Nat→List Nat→Nat→Nat→Bool
 |_,[],_,_=>true
 |k,x::l,r,i=>(!Nat.beq x r||Nat.beq k i)&&KT (k+1) l r i
theorem VN: ∀{l:List Nat} {k r i:Nat},KT k l r i=true→ ∀j,l[j]? =some r→k+j=i
 |[],k,r,i,h,j,hj=>by cases hj
 |x::l,k,r,i,h,j,hj=>by
  simp only[KT,Ag,AS,Bm]at h
  cases j with
  |zero=>
   have e:x=r:=by simpa using hj
   subst e
   rcases h.1 with h1|h1
   ·simp at h1
   ·simpa using Am h1
  |succ j=>
   have:=VN h.2 j (by simpa using hj)
   omega
structure LpT where
 f:FuncId
 reg:Nat
 i:Nat
 lp:Code→St→Option (List (Ex×St))
theorem VRL.pair [Eta] {ρ:Emb} {w:World} {a b:Value} {ys:List Value} (h:VRL ρ w [a,b] ys): ∃x y,ys=[x,y]∧VR ρ w a x∧VR ρ w b y:=by
 have hl:=h.len
 match ys,hl with
 |[x,y],_=>exact⟨x,y,rfl,h.at_ 0 a x rfl rfl,h.at_ 1 b y rfl rfl⟩
end
section
open Go
def QV (W:World) (v:Value) (n sz:Nat) (cs:List Value):Prop:=
 ∃k d cs' el fr,W.heap[k]? =some (.cells cs' el fr)∧cs.length+d≤cs'.size∧(∀i x,cs[i]? =some x→cs'[i+d]? =some x)∧((∃c,n≤c∧d+c*sz≤cs'.size∧v= .slice (some ⟨k,d,none⟩) n c)∨(n=0∧ ∃a:Option Addr,v= .slice a 0 0))
end
section
open Go
section
variable {c:Cfg} {base:Nat} {I:World→Prop}
end
end
section
open Go
section
variable {c:Cfg} {base:Nat} {I:World→Prop}
end
end
section
open Go
end
section
open Go
structure Bs where
 W:World
instance:Coe Bs Nat:=⟨fun b=>b.W.heap.size⟩
@[reducible] def zL (b:Bs):Eta:=⟨fun _=>undef,fun _=> .none,fun _=>[],b.W.heap.size,some b.W⟩
abbrev pa:Eta:=⟨fun _=>undef,fun _=> .none,fun _=>[],0,none⟩
noncomputable def zw (P:Program) (n0:Nat) (gp:jL) (lt:FuncId→Code→St→Option (GT (Ex×St))):Cfg:=Je P 0 n0 (Y4 P) (wh gp) [] [] (fun f=>jO (lt f)) (fun _ _=>none)
theorem Jq (P:Program) (n0:Nat) (gp:jL) (lt:FuncId→Code→St→Option (GT (Ex×St))):zu (zw P n0 gp lt):=
 @lb pa P 0 n0 (Y4 P) (wh gp) [] [] _ _ (fun t h=> @eE pa P t h)
theorem lP [Eta] {ρ:Emb} {w:World} {v v':Value} (h:pf v=true) (hr:VR ρ w v v'):v'=v:=by
 cases hr<;>first|rfl|cases h
theorem Wr [Eta] {ρ:Emb} {w:World}: ∀(n:Nat) {v v':Value},pfd n v=true→VR ρ w v v'→v'=v
 |0,v,v',h,hr=>lP h hr
 |n+1,v,v',h,hr=>by
  have key: ∀{xs ys:Array Value},(xs.toList.all (pfd n))=true→xs.toList.length=ys.toList.length→(∀(i:Nat) x y,xs.toList[i]? =some x→ys.toList[i]? =some y→VR ρ w x y)→ys=xs:=by
   intro xs ys ha hl hat
   apply BW
   apply List.ext_getElem?
   intro i
   cases e:xs.toList[i]? with
   |none=>
    rw[List.getElem?_eq_none_iff]at e
    exact List.getElem?_eq_none_iff.2 (by omega)
   |some x=>
    have hi:=(AH.1 e).1
    have hy:ys.toList[i]? =some (ys.toList[i]'(by omega)):=Au _
    rw[hy,Wr n (Ap.1 ha x (AR e)) (hat i x _ e hy)]
  cases hr with
  |agg xs ys h1 h2=>rw[key h h1 h2]
  |tuple xs ys h1 h2=>rw[key h h1 h2]
  |_=>first|rfl|cases h
theorem me [Eta] {ρ:Emb} {w:World} {v:Value} (h:pf v=true):VR ρ w v v:=by
 unfold pf at h
 split at h
 ·exact .bool _
 ·exact .int _ _
 ·exact .string _
 ·exact .nilp
 ·exact .nils
 ·exact .nilm
 ·exact .nilFunc
 ·exact .nilIface
 ·cases h
theorem X7 [Eta] {ρ:Emb} {w:World}: ∀(n:Nat) {v:Value},pfd n v=true→VR ρ w v v
 |0,v,h=>me h
 |n+1,v,h=>by
  have key: ∀{xs:Array Value},(xs.toList.all (pfd n))=true→ ∀(i:Nat) x y,xs.toList[i]? =some x→xs.toList[i]? =some y→VR ρ w x y:=by
   intro xs ha i x y hx hy
   rw[hx]at hy;cases hy
   exact X7 n (Ap.1 ha x (AR hx))
  unfold pfd at h
  split at h
  ·exact .agg _ _ rfl (key h)
  ·exact .tuple _ _ rfl (key h)
  ·exact me h
section
variable {P:Program} {n0:Nat} {gp:jL} {lt:FuncId→Code→St→Option (GT (Ex×St))}
theorem oF {k:Nat} {f:FuncId} {args:List Value} {h:Hp} {v:Value} (e:vL (zw P n0 gp lt) gp lt k (.fn f) args h (fun o=>some o.1)=some v): ∃x,jP (zw P n0 gp lt) k (.fn f) args h= .ok [x]∧x.1=v:=by
 obtain⟨x,h1,h2⟩:=KL (c:=zw P n0 gp lt) (gp:=gp) rfl rfl rfl lt rfl k _ _ _ _ _ e
 exact⟨x,h1,A9 h2⟩
theorem rH {W:World} {I:World→Prop} (hI: @Inv (zL ⟨W⟩) W.heap.size I) (hW:I W) (hmix:P.follows .mixedOrders=true) (hnames:(P.funcs.toList.all fun fn=> !(fn.name== "runtime.NumGoroutine"))=true)
  (hprim: @wj (zL ⟨W⟩) (zw P n0 gp lt) W.heap.size I) (hlops: @jY (zL ⟨W⟩) (zw P n0 gp lt) W.heap.size I) {k:Nat} {f:FuncId} {args args':List Value} {h0:Hp} {v:Value} (hv:pfd 3 v=true)
  (e:vL (zw P n0 gp lt) gp lt k (.fn f) args h0 (fun o=>some o.1)=some v) {ρ0:Emb} (hrel: @Rel (zL ⟨W⟩) W.heap.size n0 ρ0 h0.t.get W) (hfree: ∀x,h0.n≤x→ρ0 x=none) (ha: @VRL (zL ⟨W⟩) ρ0 W args args'):
  Calls P f args'.toArray W fun e W'=>e= .returned v∧RowKit.Below W.heap.size W W':=by
 obtain⟨x,h1,h2⟩:=oF e
 have hr:= @nj (zL ⟨W⟩) (zw P n0 gp lt) W I hI hW (Jq P n0 gp lt) (by show (Je _ _ _ _ _ _ _ _ _).P.follows _=true;rw[Qn];exact hmix) (Xa hnames Q1) hprim hlops k f args args' h0 [x] h1 ρ0 (by
  rw[show (zw P n0 gp lt).n0=n0 from jx.1];exact hrel) (fun g hg=>by
   rw[show (zw P n0 gp lt).G=0 from jx.2]at hg;omega) hfree ha
 rw[show (zw P n0 gp lt).P=P from Qn]at hr
 refine hr.mono ?_
 rintro e w' ⟨o,ho,v',ρ',rfl,hvr,_,hb⟩
 obtain rfl:=AL.1 ho
 rw[h2]at hvr
 rw[@Wr (zL ⟨W⟩) ρ' w' 3 v v' hv hvr]
 exact⟨rfl,hb⟩
end
end
section
open Go
def Zp (n:Nat) (L:List Nat) (b:Nat):Option Nat:=match idx L b with
 |some i=>some (n+i)
 |none=>bif Nat.blt b n then some b else none
def Kf (t:PT Ob) (n:Nat):List (List Value)→PT Ob
 |[]=>t
 |cs::l=>Kf (t.put n (some (.cells cs))) (n+1) l
def roT:List (Nat×List Value)→PT Ob
 |[]=> .leaf
 |p::l=>(roT l).put p.1 (some (.cells p.2))
def Vq (t:PT Ob):List Nat→PT Ob
 |[]=>t
 |b::l=>Vq (t.put b none) l
variable [Eta]
theorem Zi: ∀(l:List (List Value)) (t:PT Ob) (n b:Nat),n+l.length≤lim→(Kf t n l).get b=if n≤b∧b<n+l.length then(l[b - n]?).map .cells else t.get b
 |[],t,n,b,h=>by
  rw[Aq (by simp only[CB];omega)];rfl
 |cs::l,t,n,b,h=>by
  have h:n+(l.length+1)≤lim:=h
  unfold Kf
  rw[Zi l _ (n+1) b (by omega)]
  by_cases e:b=n
  ·subst e
   rw[Aq (by omega),Ax ⟨Aw _,by simp⟩,PT.zx _ _ _ (by omega)]
   simp
  ·rw [PT.qL _ _ _ _ e]
   by_cases e2:n≤b∧b<n+(cs::l).length
   ·have e2' := e2; simp only [AK] at e2'
    rw[Ax e2,Ax (by omega),show b - n=(b - (n+1))+1 by omega]
    simp
   ·have e2' := e2; simp only [AK] at e2'
    rw[Aq e2,Aq (by omega)]
theorem V5: ∀(L:List Nat) (t:PT Ob) (b:Nat),(∀x∈L,x<lim)→(Vq t L).get b=if b∈L then none else t.get b
 |[],t,b,h=>by simp[Vq]
 |x::l,t,b,h=>by
  unfold Vq
  rw[V5 l _ b (fun y hy=>h y (BK _ hy))]
  by_cases e:b∈l
  ·rw[Ax e,Ax (BK _ e)]
  ·rw [Aq e]
   by_cases e2:b=x
   ·subst e2;rw[Ax Ca,PT.zx _ _ _ (h b Ca)]
   ·rw[Aq (by simp[e,e2]),PT.qL _ _ _ _ e2]
theorem WE: ∀{l:List (Nat×List Value)} {b:Nat} {o:Ob},(∀p∈l,p.1<_root_.Go.Proofs.YtaiokpmmjbiajaaGreatDoorDx.lim)→(roT l).get b=some o→ ∃cs,(b,cs)∈l∧o= .cells cs
 |[],b,o,_,h=>by rw[roT,PT.yN]at h;cases h
 |p::l,b,o,hl,h=>by
  rw[roT]at h
  by_cases e:b=p.1
  ·subst e
   rw[PT.zx _ _ _ (hl p Ca)]at h
   cases h
   exact⟨p.2,Ca,rfl⟩
  ·rw [PT.qL _ _ _ _ e] at h
   obtain⟨cs,h1,h2⟩:=WE (fun q hq=>hl q (BK _ hq)) h
   exact⟨cs,BK _ h1,h2⟩
theorem Ja {ρ ρ':Emb} {w:World} {k d:Nat} {cs:List Value} (hs:cs.all qp=true) (h:OR ρ w k d (.cells cs)):OR ρ' w k d (.cells cs):=by
 obtain⟨cs',h1,h2,h3⟩:=h
 refine⟨cs',h1,h2,fun i x y hx hy=> ?_⟩
 have hs:=Ap.1 hs x (AR hx)
 rw[J6 hs (h3 i x y hx hy)]
 exact al hs
theorem aj {base n0 n R:Nat} {ρ ρ1:Emb} {H0 H1:Nat→Option Ob} {w0 w:World} {n1:Nat} {W1 L0 L:List Nat} {cars:List (List Value)} {ro:PT Ob}
  (hrel:Rel base n0 ρ H0 w0) (hfree:kX ρ n (n+R)) (hn0:n0≤n) (hL0: ∀b∈L0,n0≤b∧b<n∧H0 b≠none) (hH0: ∀b,n≤b→H0 b=none) (hro: ∀b o,ro.get b=some o→b<n∧b ∉ L0∧H0 b=some o∧ ∃cs,o= .cells cs∧cs.all qp=true)
  (hH: ∀b o,H0 b=some o→b∈L0∨ro.get b=some o) (hx:Ext base n0 ρ H0 n w0 ρ1 H1 n1 W1 w) (hW1: ∀b∈W1,n≤b∨b∈L0) (hnd:nodupB L=true) (hL: ∀b∈L,(n≤b∧b<n1)∨b∈L0) (hlen:cars.length=L.length)
  (hlim:n+cars.length≤lim) (hR:cars.length≤R) (hobj: ∀(i:Nat) r,L[i]? =some r→ ∃cs cs',H1 r=some (.cells cs)∧cars[i]? =some cs'∧wI (wA (Zp n L) wi) cs=some cs'):
  ∃ρ2,Ext base n0 ρ H0 n w0 ρ2 (Kf ro n cars).get (n+cars.length) L0 w∧ ∀b b' x,Zp n L b=some b'→ρ1 b=some x→ρ2 b'=some x:=by
 let ρ2:Emb:=fun b=>if n≤b then(match L[b - n]? with|some r=>ρ1 r|none=>ρ b)else ρ b
 have fJ: ∀b,b<n→ρ2 b=ρ b:=fun b hb=>Aq (by omega)
 have iP: ∀i r,L[i]? =some r→ρ2 (n+i)=ρ1 r:=fun i r h=>by
  show (if n≤n+i then(match L[n+i - n]? with|some r=>ρ1 r|none=>ρ (n+i))else ρ (n+i))=_
  rw[Ax (by omega),Nat.add_sub_cancel_left,h]
 have si: ∀b,n+cars.length≤b→ρ2 b=ρ b:=fun b hb=>by
  show (if n≤b then(match L[b - n]? with|some r=>ρ1 r|none=>ρ b)else ρ b)=_
  rw[Ax (by omega),List.getElem?_eq_none (by omega)]
 have inL: ∀b,n≤b→b<n+cars.length→ ∃r,L[b - n]? =some r:=fun b h1 h2=>⟨L[b - n]'(by omega),Au _⟩
 have cut: ∀b k d,ρ2 b=some (k,d)→(∃r,n≤b∧b<n+cars.length∧L[b - n]? =some r∧ρ1 r=some (k,d))∨(ρ b=some (k,d)∧(b<n∨n+cars.length≤b)):=fun b k d h=>by
  by_cases h1:n≤b
  ·by_cases h2 : b < n + cars.length
   ·obtain ⟨r, hr⟩ := inL b h1 h2
    have:=iP (b - n) r hr
    rw[show n+(b - n)=b by omega,h]at this
    exact .inl ⟨r,h1,h2,hr,this.symm⟩
   ·rw [si b (by omega)] at h
    exact .inr ⟨h,.inr (by omega)⟩
  ·rw [fJ b (by omega)] at h
   exact .inr ⟨h,.inl (by omega)⟩
 have oV: ∀b x,b<n→ρ1 b=some x→ρ b=some x:=fun b x hb h=>(hx.dom b x h).elim id (fun h=>by omega)
 have ir: ∀i r,L[i]? =some r→(n≤r∧r<n1)∨r∈L0:=fun i r h=>hL r (AR h)
 have hren: ∀b b' x,Zp n L b=some b'→ρ1 b=some x→ρ2 b'=some x:=fun b b' x h1 h2=>by
  unfold Zp at h1
  split at h1
  ·rename_i i hi
   cases h1
   rw[iP i b (JV hi)];exact h2
  ·cases e : Nat.blt b n with
   |false=>rw[e]at h1;cases h1
   |true=>
    rw[e]at h1
    cases h1
    have hb:=kQ e
    rw[fJ b hb]
    exact oV b x hb h2
 have nQ: ∀b,(Kf ro n cars).get b=if n≤b∧b<n+cars.length then(cars[b - n]?).map .cells else ro.get b:=fun b=>Zi cars ro n b hlim
 have roH1: ∀b o,ro.get b=some o→H1 b=some o:=fun b o h=>by
  obtain⟨h1,h2,h3,_⟩:=hro b o h
  rcases hx.old b (.inl h1)with g|⟨g,_⟩
  ·rw[g];exact h3
  ·rcases hW1 b g with g | g
   ·omega
   ·exact absurd g h2
 have objs: ∀b,(Kf ro n cars).get b≠none→(∃r,n≤b∧b<n+cars.length∧L[b - n]? =some r∧H1 r≠none∧ρ2 b=ρ1 r)∨(b<n∧b ∉ L0∧H1 b≠none∧ρ2 b=ρ b∧ ∃o,ro.get b=some o):=fun b h=>by
  rw[nQ]at h
  by_cases e:n≤b∧b<n+cars.length
  ·obtain ⟨r, hr⟩ := inL b e.1 e.2
   obtain⟨cs,cs',g1,g2,g3⟩:=hobj (b - n) r hr
   have:=iP (b - n) r hr
   rw[show n+(b - n)=b by omega]at this
   exact .inl ⟨r,e.1,e.2,hr,by rw[g1];simp,this⟩
  ·rw [Aq e] at h
   cases ho:ro.get b with
   |none=>exact absurd ho h
   |some o=>
    obtain⟨h1,h2,h3,h4⟩:=hro b o ho
    exact .inr ⟨h1,h2,by rw[roH1 b o ho];simp,fJ b h1,o,rfl⟩
 refine⟨ρ2,⟨fun b x hb=> ?_,fun b x hb=> ?_,by omega,⟨fun b o hb=> ?_,fun b b' k d d' z hb hb' h1 h2=> ?_,fun b k d h1 h2=> ?_,fun b k d h=> ?_,hx.rel.sz⟩,hx.grow,fun k hk hf=> ?_,fun b k d h1 h2 h3 h4=> ?_,fun b hb=> ?_,fun b hb=>(hL0 b hb).1⟩,hren⟩
 ·by_cases h : n ≤ b
  ·by_cases h2 : b < n + cars.length
   ·rw[hfree b h (by omega)]at hb;cases hb
   ·rw[si b (by omega)];exact hb
  ·rw[fJ b (by omega)];exact hb
 ·obtain ⟨k, d⟩ := x
  rcases cut b k d hb with⟨r,h1,h2,_⟩|⟨h,_⟩
  ·exact .inr ⟨h1,h2⟩
  ·exact .inl h
 ·rw [nQ] at hb
  by_cases e:n≤b∧b<n+cars.length
  ·rw [Ax e] at hb
   obtain⟨r,hr⟩:=inL b e.1 e.2
   obtain⟨cs,cs',g1,g2,g3⟩:=hobj (b - n) r hr
   rw[g2]at hb
   cases hb
   obtain⟨k,d,e1,e2⟩:=hx.rel.at_ r _ g1
   have:=iP (b - n) r hr
   rw[show n+(b - n)=b by omega]at this
   exact⟨k,d,by rw[this];exact e1,OR.ren hren e2 (by simp only[fa,g3,Ba])⟩
  ·rw [Aq e] at hb
   obtain⟨h1,h2,h3,cs,rfl,h4⟩:=hro b o hb
   obtain⟨k,d,e1,e2⟩:=hx.rel.at_ b _ (roH1 b _ hb)
   exact⟨k,d,by rw[fJ b h1];exact oV b _ h1 e1,Ja h4 e2⟩
 ·rcases objs b hb with ⟨r, a1, a2, a3, a4, a5⟩ | ⟨a1, a2, a3, a5, _⟩ <;> rcases objs b' hb' with ⟨r', c1, c2, c3, c4, c5⟩ | ⟨c1, c2, c3, c5, _⟩
  ·rw [a5] at h1; rw [c5] at h2
   have:=hx.rel.inj r r' k d d' z a4 c4 h1 h2
   subst this
   have:=Vk hnd _ _ _ a3 c3
   omega
  ·rw [a5] at h1; rw [c5] at h2
   have:=hx.rel.inj r b' k d d' z a4 c3 h1 (hx.le _ _ h2)
   subst this
   rcases ir _ _ a3 with g|g
   ·omega
   ·exact absurd g c2
  ·rw [a5] at h1; rw [c5] at h2
   have:=hx.rel.inj b r' k d d' z a3 c4 (hx.le _ _ h1) h2
   subst this
   rcases ir _ _ c3 with g|g
   ·omega
   ·exact absurd g a2
  ·rw [a5] at h1; rw [c5] at h2
   exact hx.rel.inj b b' k d d' z a3 c3 (hx.le _ _ h1) (hx.le _ _ h2)
 ·rcases cut b k d h2 with ⟨r, a1, a2, a3, a4⟩ | ⟨a1, _⟩
  ·refine hx.rel.high r k d ?_ a4
   rcases ir _ _ a3 with g|g
   ·omega
   ·exact(hL0 r g).1
  ·exact hrel.high b k d h1 a1
 ·rcases cut b k d h with ⟨r, a1, a2, a3, a4⟩ | ⟨a1, _⟩
  ·exact hx.rel.low r k d a4
  ·exact hx.rel.low b k d (hx.le _ _ a1)
 ·refine hx.frame k hk fun b hb hne d => ?_
  rcases hW1 b hb with g|g
  ·exact absurd (hH0 b g) hne
  ·exact hf b g hne d
 ·rcases objs b h3 with ⟨r, a1, a2, a3, a4, a5⟩ | ⟨a1, _⟩
  ·rw [a5] at h4
   rcases ir _ _ a3 with g|g
   ·rcases hx.new r k d g.1 g.2 a4 h4 with e | ⟨b0, e1, e2, e3⟩
    ·exact .inl e
    ·rcases hW1 b0 e1 with q | q
     ·exact absurd (hH0 b0 q) e2
     ·exact .inr ⟨b0,q,e2,e3⟩
   ·exact .inr ⟨r,g,(hL0 r g).2.2,d,oV r _ (hL0 r g).2.1 h4⟩
  ·omega
 ·rw [nQ]
  rcases hb with hb|hb
  ·rw [Aq (by omega)]
   cases ho:ro.get b with
   |some o=>exact .inl ((hro b o ho).2.2.1).symm
   |none=>
    cases hh:H0 b with
    |none=>exact .inl rfl
    |some o=>
     rcases hH b o hh with g|g
     ·exact .inr ⟨g,by simp⟩
     ·rw[ho]at g;cases g
  ·rw [Aq (by omega), hH0 b (by omega)]
   cases ho:ro.get b with
   |none=>exact .inl rfl
   |some o=>have:=(hro b o ho).1;omega
end
section
open Go
def bc (t:PT Value):List (Nat×Value)→PT Value
 |[]=>t
 |p::l=>bc (t.put p.1 (some p.2)) l
theorem Wi [Eta]: ∀(l:List (Nat×Value)) (t0:PT Value) (t:Nat) (v:Value),t<lim→(bc t0 l).get t=some v→(t,v)∈l∨t0.get t=some v
 |[],t0,t,v,ht,h=> .inr h
 |p::l,t0,t,v,ht,h=>by
  rcases Wi l _ t v ht h with h1|h1
  ·exact .inl (BK _ h1)
  ·by_cases e : t = p.1
   ·subst e
    rw[PT.zx _ _ _ ht]at h1
    cases h1
    exact .inl (by obtain⟨p1,p2⟩:=p;simp)
   ·rw [PT.qL _ _ _ _ e] at h1
    exact .inr h1
structure KX where
 vs:List (Nat×Value)
 cars:List (List Value)
abbrev Rows:=List (Nat×List Value)
def stK (m n:Nat) (ro:Rows) (x:KX):St:=⟨⟨bc .leaf x.vs,m⟩,⟨Kf (roT ro) n x.cars,n+x.cars.length⟩,[],[]⟩
structure ml (n R m:Nat) (s:St) (x:KX) (L:List Nat):Prop where
 em:s.T.m=m
 ed:s.d=[]
 ew: ∀b∈s.w,n≤b
 en:s.h.n≤n+R
 nd:nodupB L=true
 mem: ∀b∈L,n≤b∧b<s.h.n
 len:x.cars.length=L.length
 obj: ∀(i:Nat) r,L[i]? =some r→ ∃cs cs',s.h.t.get r=some (.cells cs)∧x.cars[i]? =some cs'∧wI (wA (Zp n L) wi) cs=some cs'
 slots: ∀p∈x.vs,∃v0,s.T.get p.1=some v0∧wA (Zp n L) wi v0=some p.2
inductive zI (Step:KX→Ex→KX→Prop):KX→Ex→KX→Prop where
 |stop {x ex y} (h:ex≠ .normal) (k:Step x ex y):zI Step x ex y
 |next {x y ex z} (k:Step x .normal y) (h:zI Step y ex z):zI Step x ex z
section
variable [E:Eta] {c:Cfg} {base:Nat} {I:World→Prop}
def zy (c:Cfg) (base:Nat) (I:World→Prop) (b:Code) (m n R:Nat) (ro:Rows) (x:KX) (ex:Ex) (y:KX):Prop:=
 ∃(c1:Cfg) (s:St) (L:List Nat),c1.P=c.P∧c1.n0=c.n0∧c1.G=c.G∧Y3 E c1 base I b (stK m n ro x) [(ex,s)]∧ml n R m s y L∧y.cars.length≤R
theorem ax {n m:Nat} {ro:Rows} {ρ ρ2:Emb} {s:St} {a:Act} {w:World} {L:List Nat} {x:KX} {H0:Nat→Option Ob} {ρ0:Emb} {w0:World} {n1:Nat} {W:List Nat} (hG:c.G=0) (hs:SR c base I ρ s a w) (hm:s.T.m=m) (hd:s.d=[])
  (hsl: ∀p∈x.vs,∃v0,s.T.get p.1=some v0∧wA (Zp n L) wi v0=some p.2) (hren: ∀b b' x,Zp n L b=some b'→ρ b=some x→ρ2 b'=some x)
  (hx:Ext base c.n0 ρ0 H0 n w0 ρ2 (Kf (roT ro) n x.cars).get n1 W w):SR c base I ρ2 (stK m n ro x) a w:=by
 refine⟨⟨hm▸hs.tr.size,fun t ht v hv=> ?_⟩,?_,hx.rel,fun g hg=>by omega,hm▸hs.lim,fun b hb=>(by cases hb),hs.inv⟩
 ·have ht' : t < m := ht
  have hl:m≤_root_.Go.Proofs.YtaiokpmmjbiajaaGreatDoorDx.lim:=hm▸hs.lim
  rcases Wi x.vs _ t v (Co ht' hl) hv with g|g
  ·obtain ⟨v0, g1, g2⟩ := hsl _ g
   exact VR.ren hren wi (hs.tr.at_ t (by rw[hm];exact ht') v0 g1) g2
  ·rw[PT.yN]at g;cases g
 ·show DR ρ2 w [] a.defers
  have:=hs.dr
  rw[hd]at this
  cases hdd:a.defers with
  |nil=>trivial
  |cons z l=>rw[hdd]at this;exact this.elim
theorem fG {b:Code} {m n R:Nat} {ro:Rows} {ρ:Emb} {H0:Nat→Option Ob} {w0:World} {L0:List Nat} (hG:c.G=0)
  (hrel:Rel base c.n0 ρ H0 w0) (hfree:kX ρ n (n+R)) (hn0:c.n0≤n) (hnl:n+R≤lim) (hL0: ∀b∈L0,c.n0≤b∧b<n∧H0 b≠none) (hH0: ∀b,n≤b→H0 b=none) (hro: ∀b o,(roT ro).get b=some o→b<n∧b ∉ L0∧H0 b=some o∧ ∃cs,o= .cells cs∧cs.all qp=true)
  (hH: ∀b o,H0 b=some o→b∈L0∨(roT ro).get b=some o) {x:KX} {ex:Ex} {y:KX} (hch:zI (zy c base I b m n R ro) x ex y):
  ∀(ρx:Emb) (a:Act) (w:World),SR c base I ρx (stK m n ro x) a w→Ext base c.n0 ρ H0 n w0 ρx (stK m n ro x).h.t.get (stK m n ro x).h.n L0 w→
   ∃j,Code.roundsIn (FW none) 0 c.P b (fun e a' w'=>EX ex e∧ ∃ρ',SR c base I ρ' (stK m n ro y) a' w'∧Ext base c.n0 ρ H0 n w0 ρ' (stK m n ro y).h.t.get (stK m n ro y).h.n L0 w'∧ex≠ .normal∧y.cars.length≤R) j a w:=by
 have round: ∀{x:KX} {ex:Ex} {y:KX},zy c base I b m n R ro x ex y→ ∀(ρx:Emb) (a:Act) (w:World),SR c base I ρx (stK m n ro x) a w→Ext base c.n0 ρ H0 n w0 ρx (stK m n ro x).h.t.get (stK m n ro x).h.n L0 w→
   b.wpIn (FW none) 0 c.P (fun e a' w'=>EX ex e∧ ∃ρ',SR c base I ρ' (stK m n ro y) a' w'∧Ext base c.n0 ρ H0 n w0 ρ' (stK m n ro y).h.t.get (stK m n ro y).h.n L0 w'∧y.cars.length≤R) a w:=by
  rintro x ex y ⟨c1,s,L,eP,en,eG,hrun,hend,hcl⟩ ρx a w hs hx
  have hs1:SR c1 base I ρx (stK m n ro x) a w:=eL (W:=[]) hs en eG (fun b hb=>by cases hb)
  have hfr:kX ρx (stK m n ro x).h.n s.h.n:=(hfree.after hx).mono hend.en
  have hr:=hrun ρx a w hs1 (fun o ho=>by obtain rfl:=AL.1 ho;exact hfr)
  rw[eP]at hr
  refine wpIn_mono hr ?_
  rintro e a' w' ⟨o,ho,hex,ρ',hs',hx'⟩
  obtain rfl:=AL.1 ho
  rw[en]at hx'
  have hx2:=Ext.trans (hfree.mono hend.en) hrel hx hx'
  obtain⟨ρ2,k1,k2⟩:=aj (cars:=y.cars) (L:=L) hrel hfree hn0 hL0 hH0 hro hH hx2 (fun b hb=>(AT.1 hb).elim (fun h=> .inl (hend.ew b h)) .inr) hend.nd (fun b hb=> .inl (hend.mem b hb)) hend.len (by omega) hcl hend.obj
  have tT:SR c base I ρ' ⟨s.T,s.h,[],s.d⟩ a' w':=eL (W:=[]) hs' en.symm eG.symm (fun b hb=>by cases hb)
  exact⟨hex,ρ2,ax hG tT hend.em hend.ed hend.slots k2 k1,k1,hcl⟩
 have key: ∀{x:KX} {ex:Ex} {y:KX},zI (zy c base I b m n R ro) x ex y→ ∃j,∀(ρx:Emb) (a:Act) (w:World),SR c base I ρx (stK m n ro x) a w→Ext base c.n0 ρ H0 n w0 ρx (stK m n ro x).h.t.get (stK m n ro x).h.n L0 w→
   Code.roundsIn (FW none) 0 c.P b (fun e a' w'=>EX ex e∧ ∃ρ',SR c base I ρ' (stK m n ro y) a' w'∧Ext base c.n0 ρ H0 n w0 ρ' (stK m n ro y).h.t.get (stK m n ro y).h.n L0 w'∧ex≠ .normal∧y.cars.length≤R) j a w:=by
  intro x ex y hch
  induction hch with
  |stop hne k=>
   rename_i x ex y
   refine⟨1,fun ρx a w hs hx=> ?_⟩
   rw[roundsIn_succ]
   refine wpIn_mono (round k ρx a w hs hx) ?_
   rintro e a' w' ⟨h1,ρ',h2,h3,h4⟩
   cases e with
   |normal=>
    cases ex with
    |normal=>exact absurd rfl hne
    |exit i=>exact h1.elim
    |ret=>exact h1.elim
   |_=>exact⟨h1,ρ',h2,h3,hne,h4⟩
  |next k hc ih=>
   rename_i x y ex z
   obtain⟨j,hj⟩:=ih
   refine⟨j+1,fun ρx a w hs hx=> ?_⟩
   rw[roundsIn_succ]
   refine wpIn_mono (round k ρx a w hs hx) ?_
   rintro e a' w' ⟨h1,ρ',h2,h3,h4⟩
   cases e with
   |normal=>exact hj ρ' a' w' h2 h3
   |_=>exact h1.elim
 intro ρx a w hs hx
 obtain⟨j,hj⟩:=key hch
 exact⟨j,hj ρx a w hs hx⟩
end
end
section
open Go
def GT.map {α β:Type} (f:α→β):GT α→GT β
 | .out x=> .out (f x)
 | .no=> .no
 | .br b t e=> .br b (t.map f) (e.map f)
structure KD where
 m:Nat
 n:Nat
 R:Nat
 jT:List Nat
 ro:List Nat
 car:St→List (Nat×Bool)
 F:KX→Rows→GT (Ex×KX)
def wO (D:KD) (s:St):List Nat:=(D.car s).map (·.1)
def QL (f:Nat→Option Nat) (h:Hp) (p:Nat×Bool):Option (Bool×List Value):=
 (zS h p.1).bind fun cs=>bif p.2 then some (cs.all qp,cs)else(wI (wA f wi) cs).map fun l=>(true,l)
def aC (f:Nat→Option Nat) (s:St) (t:Nat):Option (Nat×Value):=(s.T.get t).bind fun v=>(wA f wi v).map fun v'=>(t,v')
def sj (h:Hp) (b:Nat):Option (Nat×List Value):=(zS h b).map fun cs=>(b,cs)
def mu (D:KD) (n0:Nat) (s:St):Bool:=
 Nat.beq s.T.m D.m&&Nat.beq s.h.n D.n&&s.d.isEmpty&&Nat.ble n0 D.n&&Nat.ble (D.n+D.R) lim&&Nat.ble (D.car s).length D.R&&nodupB (wO D s)&&(wO D s).all (fun b=>Nat.ble n0 b&&Nat.blt b D.n)&&D.ro.all (fun b=>Nat.blt b D.n&& !ch b (wO D s))
def pZ (D:KD) (n0:Nat) (s:St):Option (Bool×KX×Rows):=
 bif mu D n0 s then(wI (aC (Zp D.n (wO D s)) s) D.jT).bind fun vs=>(wI (sj s.h) D.ro).bind fun ro=>(wI (QL (Zp D.n (wO D s)) s.h) (D.car s)).map fun cs=>
  (cs.all (·.1)&&ro.all (fun p=>p.2.all qp),⟨vs,cs.map (·.2)⟩,ro)
 else none
def pH (D:KD) (s:St) (p:Ex×KX):Ex×St:=(p.1,⟨⟨bc .leaf p.2.vs,D.m⟩,⟨Kf (Vq s.h.t (wO D s)) D.n p.2.cars,D.n+D.R⟩,wO D s++s.w,[]⟩)
def ltD (D:KD) (n0:Nat) (s:St):Option (GT (Ex×St)):=(pZ D n0 s).map fun p=> .qI p.1 ((D.F p.2.1 p.2.2).map (pH D s))
theorem GT.KI {α β:Type} {f:α→β} {y:β}: ∀{t:GT α},(t.map f).eval=some y→ ∃x,t.eval=some x∧y=f x
 | .out x,h=>⟨x,rfl,by cases h;rfl⟩
 | .no,h=>by cases h
 | .br b t e,h=>by
  cases b with
  |true=>exact GT.KI (t:=t) h
  |false=>exact GT.KI (t:=e) h
variable [E:Eta]
theorem ck {f:Nat→Option Nat} {v:Value} (h:qp v=true):wA f wi v=some v:=by
 cases v<;>first|rfl|cases h
theorem Zq {f:Nat→Option Nat}: ∀{l:List Value},l.all qp=true→wI (wA f wi) l=some l
 |[],_=>rfl
 |x::l,h=>by
  simp only[A1,Ag]at h
  unfold wI
  rw[ck h.1,Zq h.2];rfl
theorem jg {h:Hp} {b:Nat} {cs:List Value} (e:zS h b=some cs):h.t.get b=some (.cells cs):=by
 unfold zS at e
 split at e
 ·rename_i cs' he;cases e;exact he
 ·cases e
theorem Ext.restore {base n0 n n' N:Nat} {ρ ρ':Emb} {H H0 H' H2:Nat→Option Ob} {w w':World} {L0:List Nat} (hrel:Rel base n0 ρ H w) (hsub: ∀b o,H0 b=some o→H b=some o) (hx:Ext base n0 ρ H0 n w ρ' H' n' L0 w')
  (hL0: ∀b∈L0,n0≤b∧b<n∧H0 b≠none) (hfree:kX ρ n N) (hN:n'≤N) (h2: ∀b,H2 b=if n≤b∧b<n' then H' b else if b∈L0 then none else H b):Ext base n0 ρ H n w ρ' H2 N L0 w':=by
 have hne: ∀b,H0 b≠none→H b≠none:=fun b hb=>by
  cases he:H0 b with
  |none=>exact absurd he hb
  |some o=>rw[hsub b o he];simp
 have old: ∀b k d,H b≠none→ρ' b=some (k,d)→ρ b=some (k,d):=fun b k d hb h=>by
  cases he:H b with
  |none=>exact absurd he hb
  |some o=>
   obtain⟨k1,d1,e1,_⟩:=hrel.at_ b o he
   rw[hx.le _ _ e1]at h
   cases h;exact e1
 have part: ∀b,H2 b≠none→(n≤b∧b<n'∧H' b≠none)∨(b ∉ L0∧H b≠none∧ ¬(n≤b∧b<n')):=fun b hb=>by
  rw[h2]at hb
  by_cases e:n≤b∧b<n'
  ·rw[Ax e]at hb;exact .inl ⟨e.1,e.2,hb⟩
  ·rw [Aq e] at hb
   by_cases e2:b∈L0
   ·rw[Ax e2]at hb;exact absurd rfl hb
   ·rw[Aq e2]at hb;exact .inr ⟨e2,hb,e⟩
 have mix: ∀b b' k d d',n≤b→b<n'→H' b≠none→b' ∉ L0→H b'≠none→ρ' b=some (k,d)→ρ' b'=some (k,d')→False:=fun b b' k d d' a1 a2 a3 c1 c2 e1 e2=>by
  have e3:=old b' k d' c2 e2
  rcases hx.new b k d a1 a2 a3 e1 with g|⟨b0,g1,g2,d0,g3⟩
  ·have:=hrel.low b' k d' e3;omega
  ·have := hrel.inj b0 b' k d0 d' (hrel.high b0 k d0 (hL0 b0 g1).1 g3) (hne b0 g2) c2 g3 e3
   subst this
   exact c1 g1
 refine⟨hx.le,fun b x hb=>(hx.dom b x hb).imp id (fun h=>⟨h.1,by omega⟩),Bd hx.nn hN,⟨fun b o hb=> ?_,fun b b' k d d' z hb hb' e1 e2=> ?_,hx.rel.high,hx.rel.low,hx.rel.sz⟩,hx.grow,fun k hk hf=>hx.frame k hk fun b hb h0=>hf b hb (hne b h0),fun b k d a1 a2 a3 a4=> ?_,fun b hb=> ?_,hx.wr⟩
 ·rcases part b (by rw [hb]; simp) with ⟨a1, a2, a3⟩ | ⟨a1, a2, a3⟩
  ·rw [h2, Ax ⟨a1, a2⟩] at hb
   exact hx.rel.at_ b o hb
  ·rw [h2, Aq a3, Aq a1] at hb
   obtain⟨k,d,e1,e2⟩:=hrel.at_ b o hb
   refine⟨k,d,hx.le _ _ e1,(e2.le hx.le).grow hx.grow (hx.frame k (hrel.low b k d e1) fun b0 g1 g2 d0 g3=> ?_)⟩
   have:=hrel.inj b0 b k d0 d (hrel.high b0 k d0 (hL0 b0 g1).1 g3) (hne b0 g2) a2 g3 e1
   subst this
   exact a1 g1
 ·rcases part b hb with ⟨a1, a2, a3⟩ | ⟨a1, a2, a3⟩ <;> rcases part b' hb' with ⟨c1, c2, c3⟩ | ⟨c1, c2, c3⟩
  ·exact hx.rel.inj b b' k d d' z a3 c3 e1 e2
  ·exact(mix b b' k d d' a1 a2 a3 c1 c2 e1 e2).elim
  ·exact(mix b' b k d' d c1 c2 c3 a1 a2 e2 e1).elim
  ·exact hrel.inj b b' k d d' z a2 c2 (old b k d a2 e1) (old b' k d' c2 e2)
 ·rcases part b a3 with ⟨c1, c2, c3⟩ | ⟨c1, c2, c3⟩
  ·exact(hx.new b k d c1 c2 c3 a4).imp id fun⟨b0,g1,g2,g3⟩=>⟨b0,g1,hne b0 g2,g3⟩
  ·have := old b k d c2 a4
   rw[hfree b a1 a2]at this;cases this
 ·rw [h2, Aq (by omega)]
  by_cases e2:b∈L0
  ·rw [Ax e2]
   exact .inr ⟨e2,hne b (hL0 b e2).2.2⟩
  ·rw[Aq e2];exact .inl rfl
section
variable {c:Cfg} {base:Nat} {I:World→Prop}
theorem tU {D:KD} {b:Code} (hG:c.G=0) (hF: ∀x ro ex y,(D.F x ro).eval=some (ex,y)→zI (zy c base I b D.m D.n D.R ro) x ex y):bR c base I (jO fun _ s=>ltD D c.n0 s) b:=by
 intro s outs e ρ a w hs hfr
 unfold jO at e
 obtain⟨t,e1,e⟩:=qi e
 obtain⟨r,e2,e3⟩:=Ak.1 e
 unfold ltD at e1
 obtain⟨⟨g,x,ro⟩,e4,rfl⟩:=Ak.1 e1
 obtain⟨e5,e6⟩:=GT.qh e2
 obtain⟨⟨ex,y⟩,e7,rfl⟩:=GT.KI e6
 subst e3
 unfold pZ at e4
 obtain⟨eC,e4⟩:=zP e4
 obtain⟨vs,k1,e4⟩:=qi e4
 obtain⟨ro',k2,e4⟩:=qi e4
 obtain⟨cs,k3,e4⟩:=Ak.1 e4
 cases e4
 unfold mu at eC
 simp only[Ag,Ap,Bm]at eC e5
 obtain⟨⟨⟨⟨⟨⟨⟨⟨f1,f2⟩,f3⟩,f4⟩,f5⟩,f6⟩,f7⟩,f8⟩,f9⟩:=eC
 obtain⟨g1,g2⟩:=e5
 have f1:=wu f1
 have f2:=wu f2
 have f3:s.d=[]:=List.isEmpty_iff.1 f3
 have f4:=kU f4
 have f5:=kU f5
 have f6:=kU f6
 have hfree:kX ρ D.n (D.n+D.R):=by
  have:=hfr _ (AL.2 rfl)
  rw[f2]at this
  exact this
 have pw: ∀b∈wO D s,b<lim:=fun b hb=>by
  have:=kQ (f8 b hb).2
  omega
 obtain⟨m1,m2⟩:=jV k3
 obtain⟨r1,r2⟩:=WR k2
 have tE: ∀b∈wO D s,∃cs0,s.h.t.get b=some (.cells cs0):=fun b hb=>by
  obtain⟨p,hp,rfl⟩:=Bk.1 hb
  obtain⟨i,hi⟩:=List.mem_iff_getElem?.1 hp
  obtain⟨q,_,h2⟩:=m2 i p hi
  unfold QL at h2
  obtain⟨cs0,h3,_⟩:=qi h2
  exact⟨cs0,jg h3⟩
 have hrows: ∀b cs0,(b,cs0)∈ro→b∈D.ro∧s.h.t.get b=some (.cells cs0):=fun b cs0 hb=>by
  obtain⟨b',h1,h2⟩:=r1 _ hb
  unfold sj at h2
  obtain⟨cs1,h3,h4⟩:=Ak.1 h2
  cases h4
  exact⟨h1,jg h3⟩
 have cQ: ∀p∈ro,p.1<lim:=fun p hp=>by
  have:=kQ (f9 p.1 (hrows p.1 p.2 hp).1).1
  omega
 let H0:Nat→Option Ob:=fun b=>if b∈wO D s then s.h.t.get b else(roT ro).get b
 have hsub: ∀b o,H0 b=some o→s.h.t.get b=some o:=fun b o h=>by
  by_cases e:b∈wO D s
  ·have : H0 b = s.h.t.get b := Ax e
   rw[←this];exact h
  ·have : H0 b = (roT ro).get b := Aq e
   rw[this]at h
   obtain⟨cs0,q1,rfl⟩:=WE cQ h
   exact(hrows b cs0 q1).2
 have Vb:Rel base c.n0 ρ H0 w:=hs.rel.forget hsub
 have hL0: ∀b∈wO D s,c.n0≤b∧b<D.n∧H0 b≠none:=fun b hb=>by
  obtain⟨cs0,q⟩:=tE b hb
  refine⟨kU (f8 b hb).1,kQ (f8 b hb).2,?_⟩
  rw[show H0 b=s.h.t.get b from Ax hb,q];simp
 have hro0: ∀b o,(roT ro).get b=some o→b<D.n∧b ∉ wO D s∧H0 b=some o∧ ∃cs,o= .cells cs∧cs.all qp=true:=fun b o h=>by
  obtain⟨cs0,q1,rfl⟩:=WE cQ h
  obtain⟨q2,q3⟩:=hrows b cs0 q1
  have q4:b ∉ wO D s:=fun hm=>by
   have:=(f9 b q2).2
   rw[Xu.2 hm]at this;cases this
  exact⟨kQ (f9 b q2).1,q4,by rw[show H0 b=(roT ro).get b from Aq q4];exact h,cs0,rfl,Ap.2 (g2 _ q1)⟩
 have hH0: ∀b,D.n≤b→H0 b=none:=fun b hb=>by
  have:b ∉ wO D s:=fun hm=>by have:=(hL0 b hm).2.1;omega
  rw[show H0 b=(roT ro).get b from Aq this]
  cases h:(roT ro).get b with
  |none=>rfl
  |some o=>have:=(hro0 b o h).1;omega
 have hH: ∀b o,H0 b=some o→b∈wO D s∨(roT ro).get b=some o:=fun b o h=>by
  by_cases e:b∈wO D s
  ·exact .inl e
  ·exact .inr (by rw[←show H0 b=(roT ro).get b from Aq e];exact h)
 have hlen:(cs.map (·.2)).length=(wO D s).length:=by unfold wO;simp only[AM];exact m1.symm
 have pP:(cs.map (·.2)).length≤D.R:=by rw[hlen];unfold wO;simpa using f6
 obtain⟨ρ2,x1,x2⟩:=aj (cars:=cs.map (·.2)) (L:=wO D s) (ro:=roT ro) (R:=D.R) Vb hfree f4 hL0 hH0 hro0 hH (Ext.refl Vb) (fun b hb=>by cases hb) f7 (fun b hb=> .inr hb) hlen (by omega) pP (fun i r hr=>by
  unfold wO at hr
  rw[BN]at hr
  obtain⟨p,hp,rfl⟩:=Ak.1 hr
  obtain⟨q,hq,h2⟩:=m2 i p hp
  unfold QL at h2
  obtain⟨cs0,h3,h4⟩:=qi h2
  have hin:p.1∈wO D s:=Bk.2 ⟨p,AR hp,rfl⟩
  refine⟨cs0,q.2,by rw[show H0 p.1=s.h.t.get p.1 from Ax hin];exact jg h3,by rw[BN,hq];rfl,?_⟩
  cases hb:p.2 with
  |true=>
   rw[hb]at h4
   cases h4
   have:=g1 _ (AR hq)
   exact Zq this
  |false=>
   rw[hb]at h4
   obtain⟨l,h5,h6⟩:=Ak.1 h4
   cases h6
   exact h5)
 have hsl: ∀p∈vs,∃v0,s.T.get p.1=some v0∧wA (Zp D.n (wO D s)) wi v0=some p.2:=fun p hp=>by
  obtain⟨z1,_⟩:=WR k1
  obtain⟨t,_,h2⟩:=z1 p hp
  unfold aC at h2
  obtain⟨v,h3,h4⟩:=qi h2
  obtain⟨v',h5,rfl⟩:=Ak.1 h4
  exact⟨v,h3,h5⟩
 have hs0:=ax (x:=⟨vs,cs.map (·.2)⟩) (ro:=ro) hG hs f1 f3 hsl x2 x1
 obtain⟨j,hj⟩:=fG hG Vb hfree f4 f5 hL0 hH0 hro0 hH (hF _ _ _ _ e7) ρ2 a w hs0 x1
 refine wpIn_loop_rounds j (Qf ?_ hj)
 rintro e' a' w' ⟨hex,ρ',hs',hx',hne,hcl⟩
 refine⟨_,AL.2 rfl,hex,?_⟩
 have hyl:D.n+y.cars.length≤lim:=by omega
 have hr2:=Ext.restore (H:=s.h.t.get) (H2:=(Kf (Vq s.h.t (wO D s)) D.n y.cars).get) (N:=D.n+D.R) hs.rel hsub hx' hL0 hfree (show D.n+y.cars.length≤D.n+D.R by omega) (fun b=>by
  show (Kf (Vq s.h.t (wO D s)) D.n y.cars).get b=if D.n≤b∧b<D.n+y.cars.length then(Kf (roT ro) D.n y.cars).get b else _
  rw[Zi _ _ _ _ hyl,Zi _ _ _ _ hyl]
  by_cases e:D.n≤b∧b<D.n+y.cars.length
  ·rw[Ax e,Ax e,Ax e]
  ·rw[Aq e,Aq e,V5 _ _ _ pw])
 have hwr: ∀b∈wO D s++s.w,c.n0≤b:=fun b hb=>(AT.1 hb).elim (fun h=>(hL0 b h).1) (hs.wr b)
 have hr3:=hr2.weaken (W':=wO D s++s.w) (fun b hb=>BL _ hb) hwr
 refine⟨ρ',⟨hs'.tr,hs'.dr,hr3.rel,fun g hg=>by omega,hs'.lim,hwr,hs'.inv⟩,?_⟩
 rw[f2]
 exact hr3
end
end
section
open Go
def zv (n R m:Nat) (jT:Ex→List Nat) (car:Ex→St→List (Nat×Bool)) (p:Ex×St):Option (Ex×KX):=
 bif Nat.beq p.2.T.m m&&p.2.d.isEmpty&&p.2.w.all (fun b=>Nat.ble n b)&&Nat.ble p.2.h.n (n+R)&&nodupB ((car p.1 p.2).map (·.1))&&((car p.1 p.2).map (·.1)).all (fun b=>Nat.ble n b&&Nat.blt b p.2.h.n)&&Nat.ble (car p.1 p.2).length R then
  (wI (aC (Zp n ((car p.1 p.2).map (·.1))) p.2) (jT p.1)).bind fun vs => (wI (QL (Zp n ((car p.1 p.2).map (·.1))) p.2.h) (car p.1 p.2)).bind fun cs =>
   bif cs.all (·.1)then some (p.1,⟨vs,cs.map (·.2)⟩)else none
 else none
theorem ld [Eta] {n R m:Nat} {jT:Ex→List Nat} {car:Ex→St→List (Nat×Bool)} {p:Ex×St} {ex:Ex} {y:KX} (h:zv n R m jT car p=some (ex,y)):p.1=ex∧ml n R m p.2 y ((car p.1 p.2).map (·.1))∧y.cars.length≤R:=by
 unfold zv at h
 obtain⟨h1,h⟩:=zP h
 obtain⟨vs,h2,h⟩:=qi h
 obtain⟨cs,h3,h⟩:=qi h
 obtain⟨h4,h⟩:=zP h
 cases h
 simp only[Ag,Ap]at h1 h4
 obtain⟨⟨⟨⟨⟨⟨f1,f2⟩,f3⟩,f4⟩,f5⟩,f6⟩,f7⟩:=h1
 obtain⟨m1,m2⟩:=jV h3
 refine⟨rfl,⟨wu f1,List.isEmpty_iff.1 f2,fun b hb=>kU (f3 b hb),kU f4,f5,fun b hb=>⟨kU (f6 b hb).1,kQ (f6 b hb).2⟩,by simp only[AM];exact m1.symm,fun i r hr=> ?_,fun q hq=> ?_⟩,by
  simp only[AM];rw[←m1];exact kU f7⟩
 ·rw [BN] at hr
  obtain⟨q,hq,rfl⟩:=Ak.1 hr
  obtain⟨z,hz,h5⟩:=m2 i q hq
  unfold QL at h5
  obtain⟨cs0,h6,h7⟩:=qi h5
  refine⟨cs0,z.2,jg h6,by rw[BN,hz];rfl,?_⟩
  cases hb:q.2 with
  |true=>
   rw[hb]at h7
   cases h7
   exact Zq (h4 _ (AR hz))
  |false=>
   rw[hb]at h7
   obtain⟨l,h8,h9⟩:=Ak.1 h7
   cases h9
   exact h8
 ·obtain ⟨z1, _⟩ := WR h2
  obtain⟨t,_,h5⟩:=z1 q hq
  unfold aC at h5
  obtain⟨v,h6,h7⟩:=qi h5
  obtain⟨v',h8,rfl⟩:=Ak.1 h7
  exact⟨v,h6,h8⟩
structure LpK where
 f:FuncId
 reg:Nat
 i:Nat
 D:KD
def ltT (n0:Nat) (l:List LpK) (f:FuncId) (a:Code) (s:St):Option (GT (Ex×St)):=
 match l.find? (fun p=>Nat.beq p.f f&&(Nat.beq p.reg (xA a)&&Nat.beq p.D.n s.h.n))with
 |some p=>ltD p.D n0 s
 |none=>none
section
variable [E:Eta] {c:Cfg} {base:Nat} {I:World→Prop}
theorem pj {P:Program} {n0:Nat} {l:List LpK} (hf:c.fns=fun f=>P.funcs[f]?) (hl:c.lops=fun f=>jO (ltT n0 l f)) (hn:c.n0=n0) (hG:c.G=0)
  (h: ∀p∈l,KT 0 (WK P p.f) p.reg p.i=true∧ ∀x ro ex y,(p.D.F x ro).eval=some (ex,y)→zI (zy c base I (qV P p.f p.i) p.D.m p.D.n p.D.R ro) x ex y):jY c base I:=by
 intro f fn q hfn hq b hb s outs e ρ a w hs hfr
 rw[hl]at e
 unfold jO at e
 obtain⟨t,e1,e2⟩:=qi e
 unfold ltT at e1
 split at e1
 ·rename_i p hp
  have hpm:=CF hp
  have hpp:=List.find?_some hp
  simp only[Ag]at hpp
  obtain⟨g1,g2⟩:=h p hpm
  have ef:=Am hpp.1
  have er:=Am hpp.2.1
  have aB:Qv P p.f=q:=by
   rw[hf]at hfn
   have tx:P.funcs[p.f]? =some fn:=by rw[ef];exact hfn
   unfold Qv
   rw[tx]
   simp only[hq]
  obtain⟨j,hj⟩:=List.mem_iff_getElem?.1 hb
  have hr:(WK P p.f)[j]? =some p.reg:=by
   unfold WK
   rw[aB,BN,hj,er];rfl
  have:=VN g1 j hr
  have hji:j=p.i:=by omega
  have hbi:qV P p.f p.i=b:=by
   unfold qV
   rw[aB,←hji,AN,hj];rfl
  rw[hbi]at g2
  refine tU (D:=p.D) hG g2 s outs ?_ ρ a w hs hfr
  unfold jO
  rw[hn]
  show (ltD p.D n0 s).bind _=_
  rw[e1]
  exact e2
 ·cases e1
theorem fL {P:Program} {n0:Nat} {gp:jL} {lt:FuncId→Code→St→Option (GT (Ex×St))} (hP:c.P=P) (hn:c.n0=n0) (hG:c.G=0) (hI:Inv base I) (hmix:P.follows .mixedOrders=true) (hnames:(P.funcs.toList.all fun fn=> !(fn.name== "runtime.NumGoroutine"))=true)
  (hc:zu (zw P n0 gp lt)) (hprim:wj (zw P n0 gp lt) base I) (hlops:jY (zw P n0 gp lt) base I) {lp:Code→St→Option (GT (Ex×St))} {b:Code} (hlp: ∀x∈zl b,bR (zw P n0 gp lt) base I (jO lp) x)
  {k K m n R:Nat} {ro:Rows} {x y:KX} {ex:Ex} {jT:Ex→List Nat} {car:Ex→St→List (Nat×Bool)}
  (run:wy (zw P n0 gp lt) gp (vL (zw P n0 gp lt) gp lt K) lp false k b (stK m n ro x) (zv n R m jT car)=some (ex,y)):zy c base I b m n R ro x ex y:=by
 obtain⟨p,h1,h2⟩:=jh (c:=zw P n0 gp lt) (gp:=gp) rfl (KL (c:=zw P n0 gp lt) (gp:=gp) rfl rfl rfl lt rfl K) rfl rfl lp false k b _ _ _ run
 obtain⟨rfl,h3,h4⟩:=ld h2
 refine⟨zw P n0 gp lt,p.2,_,Qn.trans hP.symm,jx.1.trans hn.symm,jx.2.trans hG.symm,?_,h3,h4⟩
 exact eH E hc hI (by show (Je _ _ _ _ _ _ _ _ _).P.follows _=true;rw[Qn];exact hmix) (Xa hnames Q1) hprim hlops hlp h1
theorem bI {base n0:Nat} {ρ:Emb} {t:PT Ob} {W:World} (hr:Rel base n0 ρ t.get W) {b:Nat} (hb:b<n0) (hlim:b<lim) (hfree:ρ b=none) {k d:Nat} {cs':Array Value} (hcl:Cells W k cs') (hk:k<base) {cs:List Value}
  (hs:cs.all qp=true) (hlen:cs.length+d≤cs'.size) (hat: ∀i x,cs[i]? =some x→cs'[i+d]? =some x):Rel base n0 (ρ.put b (k,d)) (t.put b (some (.cells cs))).get W:=by
 have hle:ρ.le (ρ.put b (k,d)):=Emb.Zr hfree
 have old: ∀x k' d',x≠b→ρ.put b (k,d) x=some (k',d')→ρ x=some (k',d'):=fun x k' d' e h=>by
  unfold Emb.put at h
  rwa [Aq e]at h
 refine⟨fun x o hx=> ?_,fun x y k' d1 d2 z hx hy h1 h2=> ?_,fun x k' d' h1 h2=> ?_,fun x k' d' h2=> ?_,hr.sz⟩
 ·by_cases e : x = b
  ·subst e
   rw[PT.zx _ _ _ hlim]at hx
   cases hx
   refine⟨k,d,Emb.ky _ _ _,cs',hcl,hlen,fun i u y hu hy=> ?_⟩
   rw[hat i u hu]at hy
   cases hy
   exact al (Ap.1 hs u (AR hu))
  ·rw [PT.qL _ _ _ _ e] at hx
   obtain⟨k',d',e1,e2⟩:=hr.at_ x o hx
   exact⟨k',d',hle _ _ e1,e2.le hle⟩
 ·have ne: ∀u du,ρ.put b (k,d) u=some (k',du)→u≠b:=fun u du h e=>by
   subst e
   rw[Emb.ky]at h
   cases h
   omega
  have n1:=ne x d1 h1
  have n2:=ne y d2 h2
  rw[PT.qL _ _ _ _ n1]at hx
  rw[PT.qL _ _ _ _ n2]at hy
  exact hr.inj x y k' d1 d2 z hx hy (old _ _ _ n1 h1) (old _ _ _ n2 h2)
 ·exact hr.high x k' d' h1 (old x k' d' (by omega) h2)
 ·by_cases e : x = b
  ·subst e
   rw[Emb.ky]at h2
   cases h2
   exact Vh hcl
  ·exact hr.low x k' d' (old x k' d' e h2)
theorem Z7 {W:World} (hE:Eta.b=W.heap.size) {n0:Nat} {ρ:Emb} {t:PT Ob} (hr:Rel W.heap.size n0 ρ t.get W) {b n sz:Nat} {cs:List Value} {v:Value} (hb:b<n0) (hlim:b<lim) (hfree:ρ b=none) (hs:cs.all qp=true) (hv:QV W v n sz cs):
  ∃k d,Rel W.heap.size n0 (ρ.put b (k,d)) (t.put b (some (.cells cs))).get W∧VR (ρ.put b (k,d)) W (.slice (some ⟨b,0,none⟩) n sz) v:=by
 obtain⟨k,d,cs',el,fr,h0,h2,h3,h4⟩:=hv
 have hk:k<W.heap.size:=(Be.1 h0).1
 have h1:Cells W k cs':=⟨el,fr,h0,fun hb=>by rw[hE]at hb;omega⟩
 refine⟨k,d,bI hr hb hlim hfree h1 (Vh h1) hs h2 h3,?_⟩
 rcases h4 with⟨c,g1,g2,rfl⟩|⟨rfl,a,rfl⟩
 ·have := VR.sl (ρ := ρ.put b (k, d)) (w := W) b 0 n sz c k d (Emb.ky _ _ _) g1 (by rw [AQ]; exact ⟨cs', h1, g2⟩)
  rw[AQ]at this
  exact this
 ·exact .sl0 b 0 sz a
theorem Jv {base n0:Nat} {ρ:Emb} {h:Hp} {w:World} {b o n sz:Nat} {v':Value} {cs:List Value} (hr:Rel base n0 ρ h.t.get w) (hv:VR ρ w (.slice (some ⟨b,o,none⟩) n sz) v') (h1:zS h b=some cs) (hlen:o+n*sz≤cs.length) (hs:((cs.drop o).take (n*sz)).all qp=true):
  QV w v' n sz ((cs.drop o).take (n*sz)):=by
 obtain⟨k,d,e1,cs',g1,g2,g3⟩:=hr.at_ b _ (jg h1)
 obtain⟨el,fr,g0,_⟩:=g1
 have hcell: ∀i x,((cs.drop o).take (n*sz))[i]? =some x→cs'[i+(o+d)]? =some x:=fun i x hx=>by
  have hm:=Ap.1 hs x (AR hx)
  rw[BB]at hx
  split at hx
  ·rw [Br] at hx
   have hl:=(AH.1 hx).1
   have hlt:o+i+d<cs'.size:=by omega
   have hy:=g3 (o+i) x cs'[o+i+d] hx (CG hlt)
   rw[show i+(o+d)=o+i+d by omega,CG hlt,J6 hm hy]
  ·cases hx
 have hl2:((cs.drop o).take (n*sz)).length=n*sz:=by simp;omega
 cases hv with
 |sl _ _ _ _ c k' d' hb hc hroom=>
  rw[e1]at hb
  cases hb
  obtain⟨cs2,⟨el2,fr2,r1,_⟩,r2⟩:=hroom
  rw[g0]at r1
  cases r1
  exact⟨k,o+d,cs',el,fr,g0,by omega,hcell,.inl ⟨c,hc,r2,rfl⟩⟩
 |sl0 _ _ _ a=>exact⟨k,o+d,cs',el,fr,g0,by omega,hcell,.inr ⟨rfl,a,rfl⟩⟩
end
end
section
open Go
inductive AA where
 |v (x:Value)
 |sl (n sz:Nat) (cs:List Value)
 |nil
 |st (n sz:Nat) (cs:List Value)
def pG (W:World):AA→Value→Prop
 | .v x,y=>pfd 3 x=true∧y=x
 | .sl n sz cs,y=>QV W y n sz cs∧cs.all qp=true
 | .nil,y=>y= .slice none 0 0
 | .st n z cs,y=>Told W (.func (.yield z) ⟨[.int .i64 (Int.ofNat n)]⟩ ⟨cs⟩) y
def ZN (W:World):List AA→List Value→Prop
 |[],[]=>True
 |a::l,y::r=>pG W a y∧ZN W l r
 |_,_=>False
def Jd (P:Program) (La:World→Prop) (f:FuncId) (aa:List AA) (v:Value):Prop:=
 ∀(W:World) (args':List Value),La W→ZN W aa args'→Calls P f args'.toArray W fun e W'=>e= .returned v∧RowKit.Below W.heap.size W W'
def ub (i:Nat):AA→Value
 | .v x=>x
 | .sl n sz cs=> .slice (some ⟨i,0,none⟩) n sz
 | .nil=> .slice none 0 0
 | .st n z cs=> .func (.yield z) ⟨[.int .i64 (Int.ofNat n)]⟩ ⟨cs⟩
def KR:Nat→List AA→List Value
 |_,[]=>[]
 |i,a::l=>ub i a::KR (i+1) l
def WO:Nat→List AA→PT Ob
 |_,[]=> .leaf
 |i,.sl n sz cs::l=>(WO (i+1) l).put i (some (.cells cs))
 |i,_::l=>WO (i+1) l
def aY (h:Hp):Value→Option (Bool×AA)
 | .slice (some ⟨b,o,none⟩) n sz=>(zS h b).map fun cs=>(Nat.ble (o+n*sz) cs.length&&((cs.drop o).take (n*sz)).all qp,.sl n sz ((cs.drop o).take (n*sz)))
 | .slice none 0 0=>some (true,.nil)
 | .func (.yield z) ⟨[.int .i64 (.ofNat n)]⟩ ⟨cs⟩=>some (true,.st n z cs)
 |v=>some (pfd 3 v,.v v)
abbrev Spec:=List AA→Option (GT Value)
def mj (sp:Spec) (args:List Value) (h:Hp):Option (GT Value):=
 (wI (aY h) args).bind fun l=>(sp (l.map (·.2))).map fun t=> .qI (l.all (·.1)) t
def gpT (l:List (FuncId×Spec)):jL:=fun f args h=>match l.find? fun p=>Nat.beq p.1 f with
 |some p=>mj p.2 args h
 |none=>none
def qu (P:Program) (La:World→Prop) (f:FuncId) (sp:Spec):Prop:=(∃fn,P.funcs[f]? =some fn∧fn.body.isNone=false∧(fn.name== "runtime.NumGoroutine")=false)∧ ∀aa t v,sp aa=some t→t.eval=some v→pfd 3 v=true∧Jd P La f aa v
section
variable [E:Eta]
theorem ie {base n0:Nat} {ρ:Emb} {h:Hp} {w:World} (hr:Rel base n0 ρ h.t.get w) {v v':Value} {p:Bool×AA} (hO: ∀W,Eta.w=some W→Old W w) (hv:VR ρ w v v') (e:aY h v=some p) (hp:p.1=true):pG w p.2 v':=by
 unfold aY at e
 split at e
 ·rename_i b o n sz
  obtain⟨cs,h1,h2⟩:=Ak.1 e
  cases h2
  simp only[Ag]at hp
  exact⟨Jv hr hv h1 (kU hp.1) hp.2,hp.2⟩
 ·cases e
  cases hv;rfl
 ·cases e
  obtain⟨W,hW,h⟩:=hv.yM
  exact h.mono (hO W hW)
 ·cases e
  exact⟨hp,Wr 3 hp hv⟩
theorem YS {base n0:Nat} {ρ:Emb} {h:Hp} {w:World} (hO: ∀W,Eta.w=some W→Old W w) (hr:Rel base n0 ρ h.t.get w): ∀{args args':List Value} {l:List (Bool×AA)},VRL ρ w args args'→wI (aY h) args=some l→l.all (·.1)=true→ZN w (l.map (·.2)) args'
 |[],args',l,hv,e,hp=>by
  cases e
  rw[hv.kg];trivial
 |v::args,args',l,hv,e,hp=>by
  obtain⟨y,ys,rfl,h1,h2⟩:=hv.zp
  unfold wI at e
  obtain⟨p,e1,e⟩:=qi e
  obtain⟨r,e2,e3⟩:=Ak.1 e
  cases e3
  simp only[A1,Ag]at hp
  exact⟨ie hr hO h1 e1 hp.1,YS hO hr h2 e2 hp.2⟩
theorem YH {P:Program} {La:World→Prop} {n0:Nat} {l:List (FuncId×Spec)} {lt:FuncId→Code→St→Option (GT (Ex×St))} {base:Nat} {I:World→Prop} (hI:Inv base I) (hL: ∀w,I w→La w) (h: ∀p∈l,qu P La p.1 p.2):wj (zw P n0 (gpT l) lt) base I:=by
 intro f args v hh hpr ρ w args' ez
 have hpr:wh (gpT l) f args hh=some v:=hpr
 unfold wh gpT at hpr
 obtain⟨t,e1,e2⟩:=qi hpr
 split at e1
 ·rename_i p hp
  have hpm:=CF hp
  have hpp:p.1=f:=Am (show Nat.beq p.1 f=true from List.find?_some (p:=fun p:FuncId×Spec=>Nat.beq p.1 f) hp)
  unfold mj at e1
  obtain⟨aa,e3,e1⟩:=qi e1
  obtain⟨t',e4,rfl⟩:=Ak.1 e1
  obtain⟨g1,g2⟩:=GT.qh e2
  obtain⟨⟨fn,a1,a2,a3⟩,a4⟩:=h p hpm
  obtain⟨hv,hc⟩:=a4 _ _ _ e4 g2
  have hrel:Rel base n0 ρ hh.t.get w:=by have:=ez.rel;rwa [show (zw P n0 (gpT l) lt).n0=n0 from jx.1]at this
  refine⟨fn,by rw[show (zw P n0 (gpT l) lt).P=P from Qn,←hpp];exact a1,a2,a3,?_⟩
  rw[show (zw P n0 (gpT l) lt).P=P from Qn,←hpp]
  refine(hc w args' (hL w ez.inv) (YS (fun W hW=>hI.old W hW w ez.inv) hrel ez.args e3 g1)).mono ?_
  rintro e w' ⟨rfl,hb⟩
  exact⟨_,AL.2 rfl,v,ρ,rfl,X7 3 hv,Ext.below ez.rel hb⟩
 ·cases e1
theorem Y7 {W:World} (hE:Eta.b=W.heap.size) (hEw:Eta.w=some W) {n0:Nat} (hn:n0≤lim): ∀(aa:List AA) (i:Nat) (args':List Value),i+aa.length≤n0→ZN W aa args'→ ∃ρ:Emb,Rel W.heap.size n0 ρ (WO i aa).get W∧(∀b,b<i∨n0≤b→ρ b=none)∧VRL ρ W (KR i aa) args'
 |[],i,args',h,ha=>by
  cases args' with
  |nil=>exact⟨fun _=>none,⟨fun b o hb=>(by rw[WO,PT.yN]at hb;cases hb),fun b b' k d d' z h1 h2 h3=>(by cases h3),fun b k d h1 h2=>(by cases h2),fun b k d h2=>(by cases h2),⟨Nat.le_of_eq hE,Aw _⟩⟩,fun b _=>rfl,VRL.nil⟩
  |cons y r=>exact ha.elim
 |a::aa,i,args',h,ha=>by
  cases args' with
  |nil=>exact ha.elim
  |cons y r=>
   obtain⟨h1,h2⟩:=ha
   have h:i+(aa.length+1)≤n0:=h
   obtain⟨ρ,g1,g2,g3⟩:=Y7 hE hEw hn aa (i+1) r (by omega) h2
   cases a with
   |v x=>exact⟨ρ,g1,fun b hb=>g2 b (by omega),VRL.cons (by obtain⟨k1,rfl⟩:=h1;exact X7 3 k1) g3⟩
   |nil=>exact⟨ρ,g1,fun b hb=>g2 b (by omega),VRL.cons (by rw[show y= .slice none 0 0 from h1];exact .nils) g3⟩
   |st n sz cs=>exact⟨ρ,g1,fun b hb=>g2 b (by omega),VRL.cons (.told _ _ _ _ ⟨W,hEw,h1⟩) g3⟩
   |sl n sz cs=>
    obtain⟨k1,k2⟩:=h1
    have hfree:ρ i=none:=g2 i (.inl (by omega))
    obtain⟨k,d,m1,m2⟩:=Z7 hE g1 (b:=i) (by omega) (by omega) hfree k2 k1
    refine⟨ρ.put i (k,d),m1,fun b hb=> ?_,VRL.cons m2 ⟨g3.len,fun j x y hx hy=>(g3.at_ j x y hx hy).le (Emb.Zr hfree)⟩⟩
    have hbi:b≠i:=by omega
    unfold Emb.put
    rw[Aq hbi]
    exact g2 b (by omega)
end
theorem ph {P:Program} {La:World→Prop} {n0:Nat} {l:List (FuncId×Spec)} {lt:FuncId→Code→St→Option (GT (Ex×St))} (hLa: ∀w w',La w→RowKit.Below w.heap.size w w'→La w') (hmix:P.follows .mixedOrders=true) (hnames:(P.funcs.toList.all fun fn=> !(fn.name== "runtime.NumGoroutine"))=true)
  (hsp: ∀p∈l,qu P La p.1 p.2) (hlops: ∀(base:Bs) I,@Inv (zL base) base I→(∀w,I w→La w)→ @jY (zL base) (zw P n0 (gpT l) lt) base I) {k:Nat} {f:FuncId} {aa:List AA} {v:Value} (hn:n0≤lim) (has:aa.length≤n0) (hv:pfd 3 v=true)
  (e:vL (zw P n0 (gpT l) lt) (gpT l) lt k (.fn f) (KR 0 aa) ⟨WO 0 aa,n0⟩ (fun o=>some o.1)=some v):Jd P La f aa v:=by
 intro W args' hW ha
 obtain⟨ρ,g1,g2,g3⟩:= @Y7 (zL ⟨W⟩) W rfl rfl n0 hn aa 0 args' (by omega) ha
 have hI: @Inv (zL ⟨W⟩) W.heap.size (fun w=>RowKit.Below W.heap.size W w):= @Inv.mk (zL ⟨W⟩) _ _ (fun w w' h1 h2=>h1.trans (h2.mono (Aw _))) (fun W' hW' w hb k cs el fr hk=>by cases hW';rw[hb.block k (Be.1 hk).1];exact hk) (fun W' k hW' hk=>by cases hW';exact hk)
 have hIL: ∀w,RowKit.Below W.heap.size W w→La w:=fun w hw=>hLa W w hW hw
 exact rH hI (RowKit.Below.refl _ _) hmix hnames (@YH (zL ⟨W⟩) P La n0 l lt W.heap.size _ hI hIL hsp) (hlops ⟨W⟩ _ hI hIL) hv e g1 (fun x hx=>g2 x (.inr hx)) g3
end
section
open Go
def ints (k:IntKind) (l:List Int):List Value:=l.map (.int k)
theorem aV (f:Int→Value) (l:List Int) {j:Nat} (h:j<l.length):nth (l.map f) j=some (f l[j]):=by
 rw[vM,BN,Au h];rfl
theorem vF (k:IntKind) (l:List Int) {j:Nat} (h:j<l.length):isV (ints k l) j (.i k)=true:=by
 simp only[isV,ints,aV _ l h,As]
theorem wN (k:IntKind) (l:List Int) {j:Nat} (h:j<l.length):rdI (ints k l) j=l[j]:=by
 simp only[rdI,ints,aV _ l h]
theorem qZ (k:IntKind) (l:List Int):(ints k l).all qp=true:=by
 rw[Ap]
 intro x hx
 obtain⟨y,_,rfl⟩:=Bk.1 hx
 rfl
def vH:Value→Int
 | .int _ x=>x
 |_=>0
def isInt (k:IntKind):Value→Bool
 | .int k' _=>decide (k'=k)
 |_=>false
theorem bA {k:IntKind}: ∀{cs:List Value},cs.all (isInt k)=true→ ∃l,cs=ints k l∧cs.map vH=l
 |[],_=>⟨[],rfl,rfl⟩
 |v::cs,h=>by
  simp only[A1,Ag]at h
  obtain⟨l,h1,h2⟩:=bA h.2
  cases v with
  |int k' x=>obtain rfl:k'=k:=AY h.1;exact⟨x::l,by rw[h1];rfl,by rw[BR,h2];rfl⟩
  |_=>cases h.1
theorem jG (k:IntKind) (l:List Int):(ints k l).map vH=l:=by
 induction l with
 |nil=>rfl
 |cons x l ih=>show vH (.int k x)::(ints k l).map vH=_;rw[ih];rfl
theorem eY (k:IntKind) (l:List Int):(ints k l).all (isInt k)=true:=by
 rw[Ap]
 intro x hx
 obtain⟨y,_,rfl⟩:=Bk.1 hx
 simp[isInt]
theorem zH (k:IntKind) (l:List Int):(ints k l).length=l.length:=AM _
theorem kc {x:Int} (h: -9223372036854775808≤x) (h2:x≤9223372036854775807):IntKind.wrap .i64 x=x:=by
 have:=IntWalk.i64_in x ⟨h,h2⟩
 exact this
def wm (n:Nat) (m:Int) (cs:List Value):Bool:=decide (m=Int.ofNat n)&&(cs.all (isInt .i64)&&(Nat.beq cs.length n&&Nat.blt n 4611686018427387904))
theorem vV {n:Nat} {m:Int} {cs:List Value} (h:wm n m cs=true):m=Int.ofNat n∧n<4611686018427387904∧ ∃l,cs=ints .i64 l∧cs.map vH=l∧l.length=n:=by
 unfold wm at h
 simp only[Ag]at h
 obtain⟨l,h1,h2⟩:=bA h.2.1
 refine⟨AY h.1,by have:=h.2.2.2;rwa [AB]at this,l,h1,h2,?_⟩
 have:=Am h.2.2.1
 rw[←this,h1,zH]
theorem xP {l:List Int} (h:l.length<4611686018427387904):wm l.length (Int.ofNat l.length) (ints .i64 l)=true:=by
 unfold wm
 simp only[eY,zH,A5,decide_true,AF,AE]
 rw[AB];exact h
end
section
open Go
def zq (P:Program) (La:World→Prop) (n0:Nat) (p:LpK):Prop:=
 KT 0 (WK P p.f) p.reg p.i=true∧ ∀(c:Cfg) (base:Bs) (I:World→Prop),c.P=P→c.n0=n0→c.G=0→ @Inv (zL base) base I→(∀w,I w→La w)→
  ∀x ro ex y,(p.D.F x ro).eval=some (ex,y)→zI (@zy (zL base) c base I (qV P p.f p.i) p.D.m p.D.n p.D.R ro) x ex y
section
variable {P:Program} {La:World→Prop} {n0:Nat} {l:List (FuncId×Spec)} {L:List LpK}
theorem yP (h: ∀p∈L,zq P La n0 p): ∀(base:Bs) I,@Inv (zL base) base I→(∀w,I w→La w)→ @jY (zL base) (zw P n0 (gpT l) (ltT n0 L)) base I:=fun base I hI hL=>
 @pj (zL base) (zw P n0 (gpT l) (ltT n0 L)) base I P n0 L Q1 Wn jx.1 jx.2 fun p hp=>⟨(h p hp).1,fun x ro ex y e=>(h p hp).2 _ base I Qn jx.1 jx.2 hI hL x ro ex y e⟩
theorem stepT (hmix:P.follows .mixedOrders=true) (hnames:(P.funcs.toList.all fun fn=> !(fn.name== "runtime.NumGoroutine"))=true) (hsp: ∀p∈l,qu P La p.1 p.2) (hL: ∀p∈L,zq P La n0 p) {c:Cfg} {base:Bs} {I:World→Prop} (hP:c.P=P) (hn:c.n0=n0) (hG:c.G=0) (hI: @Inv (zL base) base I) (hIL: ∀w,I w→La w)
  {b:Code} {k K m n R:Nat} {ro:Rows} {x y:KX} {ex:Ex} {jT:Ex→List Nat} {car:Ex→St→List (Nat×Bool)}
  (run:wy (zw P n0 (gpT l) (ltT n0 L)) (gpT l) (vL (zw P n0 (gpT l) (ltT n0 L)) (gpT l) (ltT n0 L) K) (fun _ _=>none) false k b (stK m n ro x) (zv n R m jT car)=some (ex,y)): @zy (zL base) c base I b m n R ro x ex y:=
 @fL (zL base) c base I P n0 (gpT l) (ltT n0 L) hP hn hG hI hmix hnames (Jq _ _ _ _) (@YH (zL base) P La n0 l _ base I hI hIL hsp) (yP hL base I hI hIL) (fun _ _=>none) b (fun x _ s outs e=>by cases e) k K m n R ro x y ex jT car run
theorem qS (hLa: ∀w w',La w→RowKit.Below w.heap.size w w'→La w') (hmix:P.follows .mixedOrders=true) (hnames:(P.funcs.toList.all fun fn=> !(fn.name== "runtime.NumGoroutine"))=true) (hsp: ∀p∈l,qu P La p.1 p.2) (hL: ∀p∈L,zq P La n0 p)
  {k:Nat} {f:FuncId} {aa:List AA} {v:Value} (hn:n0≤lim) (haa:aa.length≤n0) (hv:pfd 3 v=true)
  (e:vL (zw P n0 (gpT l) (ltT n0 L)) (gpT l) (ltT n0 L) k (.fn f) (KR 0 aa) ⟨WO 0 aa,n0⟩ (fun o=>some o.1)=some v):Jd P La f aa v:=
 ph hLa hmix hnames hsp (yP hL) hn haa hv e
end
def wE {σ α:Type} (step:σ→α→σ ⊕ (Ex×KX)) (fin:σ→Ex×KX):σ→List α→Ex×KX
 |s,[]=>fin s
 |s,a::l=>match step s a with
  | .inl s'=>wE step fin s' l
  | .inr r=>r
theorem zA {Step:KX→Ex→KX→Prop} {σ α:Type} {step:σ→α→σ ⊕ (Ex×KX)} {fin:σ→Ex×KX} {st:σ→Nat→KX} {l:List α} (hne: ∀s,(fin s).1≠ .normal) (hne2: ∀s a r,step s a= .inr r→r.1≠ .normal)
  (hnext: ∀s j (hj:j<l.length),match step s l[j]with| .inl s'=>Step (st s j) .normal (st s' (j+1))| .inr r=>Step (st s j) r.1 r.2) (hlast: ∀s,Step (st s l.length) (fin s).1 (fin s).2):
  ∀(k j:Nat) (s:σ),j+k=l.length→zI Step (st s j) (wE step fin s (l.drop j)).1 (wE step fin s (l.drop j)).2
 |0,j,s,h=>by
  obtain rfl:j=l.length:=by omega
  rw[B6]
  exact .stop (hne s) (hlast s)
 |k+1,j,s,h=>by
  have hj:j<l.length:=by omega
  rw[A8 hj]
  have hn:=hnext s j hj
  unfold wE
  cases e:step s l[j]with
  |inl s'=>
   rw[e]at hn
   exact .next hn (zA hne hne2 hnext hlast k (j+1) s' (by omega))
  |inr r=>
   rw[e]at hn
   exact .stop (hne2 _ _ _ e) hn
theorem kJ {σ α:Type} {f:σ→α→σ} {fin:σ→Ex×KX}: ∀(l:List α) (s:σ),wE (fun s a=> .inl (f s a)) fin s l=fin (l.foldl f s)
 |[],s=>rfl
 |a::l,s=>kJ l (f s a)
theorem xK {σ α:Type} {p:α→Bool} {r:Ex×KX} {fin:σ→Ex×KX} (s:σ): ∀(l:List α),wE (fun s a=>bif p a then .inr r else .inl s) fin s l=bif l.any p then r else fin s
 |[]=>rfl
 |a::l=>by
  unfold wE
  cases e:p a with
  |true=>simp[e]
  |false=>simp only[Ah,BX,e,Bb];exact xK s l
def iA (P:Program) (f:FuncId):Bool:=match P.funcs[f]? with
 |some fn=> !fn.body.isNone&& !(fn.name== "runtime.NumGoroutine")
 |none=>false
theorem qD {P:Program} {f:FuncId} (h:iA P f=true): ∃fn,P.funcs[f]? =some fn∧fn.body.isNone=false∧(fn.name== "runtime.NumGoroutine")=false:=by
 unfold iA at h
 split at h
 ·rename_i fn e
  simp only[Ag,Bm]at h
  exact⟨fn,e,h.1,h.2⟩
 ·cases h
end
section
open Go Go.Proofs Go.RowKit
theorem qd:(Tryz.prog.funcs.toList.all fun fn=> !(fn.name== "runtime.NumGoroutine"))=true:=by kernel_rfl
noncomputable abbrev runK (N:Nat) (l:List (FuncId×Spec)) (L:List LpK) (f:FuncId) (aa:List AA):Option Value:=vL (zw Tryz.prog N (gpT l) (ltT N L)) (gpT l) (ltT N L) 12 (.fn f) (KR 0 aa) ⟨WO 0 aa,N⟩ (fun o=>some o.1)
noncomputable abbrev zN (c:Cfg) (l:List (FuncId×Spec)) (L:List LpK) (f i:Nat) (s:St) (e:Ex×St→Option (Ex×KX)):Option (Ex×KX):=wy c (gpT l) (vL c (gpT l) (ltT 4 L) 12) (fun _ _=>none) false 1000 (qV Tryz.prog f i) s e
theorem ltI {j n:Nat} (h:j<n):decide ((j:Int)<Int.ofNat n)=true:=Al (by show (j:Int)<(n:Int);omega)
theorem j6 (n:Nat):decide ((n:Int)<Int.ofNat n)=false:=An (by show¬(n:Int)<(n:Int);omega)
theorem geI (j:Nat):decide ((0:Int)≤j)=true:=Al (by omega)
theorem j7 {j n:Nat} (h:j<n):Nat.blt ((j:Int)).toNat n=true:=by rw[AB];simpa using h
theorem wrI (j:Nat) (h:j<4611686018427387904):IntKind.wrap .i64 ((j:Int)+1)=((j+1:Nat):Int):=by rw[kc (by omega) (by omega)];omega
theorem qf:Tryz.prog.follows .mixedOrders=true:=by kernel_rfl
def La (w:World):Prop:=Lib.Utf8Tabs (Tryz.vO.g 3) (Tryz.vO.g 4) w∧Lib.TabIs Tryz.prog w "internal/strconv.uint64pow10" .u64 Lib.pow10Tab∧ ∃m,w.cell? ⟨2,0,none⟩=some (.int .i64 m)
theorem La.below {w w':World} (h:La w) (hb:Below w.heap.size w w'):La w':=by
 obtain⟨h1,h2,m,h3⟩:=h
 refine⟨Utf8Tabs_below h1 hb,?_,m,?_⟩
 ·have hg : Tryz.prog.globalNamed "internal/strconv.uint64pow10" = some 5 := by kernel_rfl
  refine var?_below hb hg ?_ h2
  rcases Nat.lt_or_ge 5 w.heap.size with h'|h'
  ·exact h'
  ·unfold Lib.TabIs World.var? at h2
   simp[hg,Array.getElem?_eq_none h']at h2
 ·exact(hb.cell (World.block_lt_of_cell? w _ h3)).trans h3
theorem qx: ∀w w',La w→RowKit.Below w.heap.size w w'→La w':=fun w w' h hb=>La.below h hb
theorem vG {f:FuncId} {sp:Spec} (hf:iA Tryz.prog f=true) (h: ∀aa t v,sp aa=some t→t.eval=some v→ ∃xs:List Value,aa=xs.map .v∧pfd 3 v=true∧ ∀W,La W→Calls Tryz.prog f xs.toArray W fun e W'=>e= .returned v∧RowKit.Below W.heap.size W W'):qu Tryz.prog La f sp:=
 ⟨qD hf, fun aa t v h1 h2 => by
  obtain⟨xs,rfl,h3,h4⟩:=h aa t v h1 h2
  refine⟨h3,fun W args' hW ha=> ?_⟩
  have:args'=xs:=by
   clear h1 h2 h3 h4
   induction xs generalizing args' with
   |nil=>cases args' with
    |nil=>rfl
    |cons y r=>exact ha.elim
   |cons x xs ih=>cases args' with
    |nil=>exact ha.elim
    |cons y r=>
     obtain⟨⟨_,k1⟩,k2⟩:=ha
     rw[k1,ih r k2]
  rw[this]
  exact h4 W hW⟩
abbrev V3:=Int×Int×ByteArray
def vv (p:V3):Value:= .agg #[.int .i64 p.1,.int .i64 p.2.1,.string p.2.2]
def v0:V3:=(0,0,⟨#[]⟩)
def ve (p:V3×Int):Value:= .tuple #[vv p.1,.int .i64 p.2]
def inR (n:Int):Bool:=decide (-9223372036854775808≤n)&&decide (n<9223372036854775808)
def vOf:AA→Option (Int×Int×ByteArray)
 | .v (.agg cs)=>match cs.toList with
  |[.int .i64 k,.int .i64 n,.string s]=>some (k,n,s)
  |_=>none
 |_=>none
theorem qM {a:AA} {p:Int×Int×ByteArray} (h:vOf a=some p):a= .v (.agg #[.int .i64 p.1,.int .i64 p.2.1,.string p.2.2]):=by
 unfold vOf at h
 split at h
 ·rename_i cs
  split at h
  ·rename_i k n s e
   cases h
   exact Bg AA.v (Bg Value.agg (BW e))
  ·cases h
 ·cases h
def W5:Spec:=fun aa=>match aa with
 |[.v (.string a),.v (.string b)]=>some (.out (.int .i64 (Lib.compareBytes a.data.toList b.data.toList)))
 |_=>none
theorem X6:qu Tryz.prog La 132 W5:=vG (by kernel_rfl) fun aa t v h e=>by
 unfold W5 at h
 split at h
 ·rename_i a b
  cases h;cases e
  exact⟨[.string a,.string b],rfl,rfl,fun W _=>(Tryz.strings_Compare a b W).mono fun e w' h=>⟨h.1,by rw[h.2];exact Below.refl _ _⟩⟩
 ·cases h
def Ji:Spec:=fun aa=>match aa with
 |[.v (.string a)]=>some (.qI (Nat.ble a.size 9223372036854775807) (.out (.bool (Lib.validD a.data.toList))))
 |_=>none
theorem cy:qu Tryz.prog La 74 Ji:=vG (by kernel_rfl) fun aa t v h e=>by
 unfold Ji at h
 split at h
 ·rename_i a
  cases h
  obtain⟨g1,g2⟩:=GT.qh e
  cases g2
  exact⟨[.string a],rfl,rfl,fun W hW=>Tryz.utf8_ValidString a W (AW g1) hW.1⟩
 ·cases h
def gg:Spec:=fun aa=>match aa with
 |[.v (.string a)]=>some (.qI (Nat.blt a.size 9223372036854775807) (.out (.int .i64 (Lib.runeCount a))))
 |_=>none
theorem bM:qu Tryz.prog La 83 gg:=vG (by kernel_rfl) fun aa t v h e=>by
 unfold gg at h
 split at h
 ·rename_i a
  cases h
  obtain⟨g1,g2⟩:=GT.qh e
  cases g2
  exact⟨[.string a],rfl,rfl,fun W hW=>(Tryz.utf8_RuneCountInString a W (by rwa [AB]at g1)).mono fun e w' h=>⟨h.1,by obtain⟨p,rfl⟩:=h.2;exact(Below.refl _ _).alloc (Aw _) _⟩⟩
 ·cases h
def Yt:Spec:=fun aa=>match aa with
 |[.v (.string a),.v (.string b)]=>some (.qI (eqU b.data.toList [32]) (.qI (Nat.ble a.size 9223372036854775807) (.out (.string ⟨(Lib.trimB a.data.toList 32).toArray⟩))))
 |_=>none
theorem cE:qu Tryz.prog La 86 Yt:=vG (by kernel_rfl) fun aa t v h e=>by
 unfold Yt at h
 split at h
 ·rename_i a b
  cases h
  obtain⟨g0,g⟩:=GT.qh e
  obtain⟨g1,g2⟩:=GT.qh g
  cases g2
  obtain rfl:b=⟨#[32]⟩:= @cx pa b ⟨#[32]⟩ g0
  exact⟨[.string a,.string ⟨#[32]⟩],rfl,rfl,fun W hW=>(Tryz.strings_Trim_one a 32 (by decide) W (AW g1)).mono fun e w' h=>⟨h.1,by rcases h.2 with rfl|rfl;exact Below.refl _ _;exact(Below.refl _ _).drew⟩⟩
 ·cases h
def u64 (a:Int):Bool:=decide (0≤a)&&decide (a<18446744073709551616)
def yU:Spec:=fun aa=>match aa with
 |[.v (.int .u64 a),.v (.int .u64 b)]=>some (.qI (u64 a&&u64 b) (.out (.tuple #[.int .u64 (a*b / 18446744073709551616),.int .u64 (a*b % 18446744073709551616)])))
 |_=>none
theorem KB:qu Tryz.prog La 204 yU:=vG (by kernel_rfl) fun aa t v h e=>by
 unfold yU at h
 split at h
 ·rename_i a b
  cases h
  obtain⟨g1,g2⟩:=GT.qh e
  cases g2
  unfold u64 at g1
  simp only[Ag,As]at g1
  obtain⟨x,rfl⟩: ∃x:Nat,a=x:=⟨a.toNat,by omega⟩
  obtain⟨y,rfl⟩: ∃y:Nat,b=y:=⟨b.toNat,by omega⟩
  refine⟨[.int .u64 x,.int .u64 y],rfl,rfl,fun W _=>(Tryz.bits_Mul64 x y (by omega) (by omega) W).mono fun e w' h=>⟨?_,by rw[h.2];exact Below.refl _ _⟩⟩
  rw[h.1]
  simp only[Int.natCast_ediv,Int.natCast_emod,Int.natCast_mul]
  rfl
 ·cases h
end
section
open Go Go.Proofs Go.RowKit
def nzs:List Nat→List AA→List AA
 |z::zs,.nil::l=> .sl 0 z []::nzs zs l
 |z::zs,a::l=>a::nzs zs l
 |_,l=>l
theorem Q8 {W:World} (h:La W): ∃cs el fr,W.heap[2]? =some (.cells cs el fr):=by
 obtain⟨_,_,mx,hc⟩:=h
 unfold World.cell? at hc
 split at hc
 ·rename_i cs el fr hh;exact⟨cs,el,fr,hh⟩
 ·cases hc
theorem mg {W:World} (h:La W): ∀(zs:List Nat) (aa:List AA) (args:List Value),ZN W aa args→ZN W (nzs zs aa) args
 |[],aa,args,g=>by cases aa<;>exact g
 |z::zs,[],args,g=>g
 |z::zs,a::l,[],g=>g.elim
 |z::zs,a::l,y::r,g=>by
  obtain⟨g1,g2⟩:=g
  have ih:=mg h zs l r g2
  cases a with
  |nil=>
   obtain⟨cs,el,fr,hh⟩:=Q8 h
   have g1:y= .slice none 0 0:=g1
   subst g1
   exact⟨⟨⟨2,0,cs,el,fr,hh,by simp,(fun i x hx=>by simp at hx),.inr ⟨rfl,none,rfl⟩⟩,rfl⟩,ih⟩
  |v x=>exact⟨g1,ih⟩
  |sl n sz cs=>exact⟨g1,ih⟩
  |st n sz cs=>exact⟨g1,ih⟩
theorem qu.nil {f:FuncId} {sp:Spec} (zs:List Nat) (h:qu Tryz.prog La f sp):qu Tryz.prog La f (fun aa=>sp (nzs zs aa)):=
 ⟨h.1, fun aa t v e1 e2 => by
  obtain⟨a,b⟩:=h.2 _ t v e1 e2
  exact⟨a,fun W args' hW ha=>b W args' hW (mg hW zs aa args' ha)⟩⟩
end
section
open Go
abbrev W3:=Int×Int×ByteArray
def vC (p:W3):List Value:=[.int .i64 p.1,.int .i64 p.2.1,.string p.2.2]
def qm (l:List W3):List Value:=l.flatMap vC
theorem zh: ∀l:List W3,(qm l).length=l.length*3
 |[]=>rfl
 |p::l=>by
  show (vC p++qm l).length=_
  rw[AO,zh l,AK]
  show 3+l.length*3=_
  omega
theorem k6 (d:Nat) (hd:d<3): ∀(l:List W3) {j:Nat} (h:j<l.length),nth (qm l) (j*3+d)=(vC l[j])[d]?
 |[],j,h=>absurd h (Cz _)
 |p::l,0,h=>by
  rw[vM]
  show (vC p++qm l)[0*3+d]? =_
  rw[BC (by show 0*3+d<3;omega)]
  simp
 |p::l,j+1,h=>by
  have:=k6 d hd l (j:=j) (by simpa using h)
  rw[vM]at this ⊢
  show (vC p++qm l)[(j+1)*3+d]? =_
  rw[By (by show 3≤(j+1)*3+d;omega)]
  have e:(j+1)*3+d - (vC p).length=j*3+d:=by show (j+1)*3+d - 3=_;omega
  rw[e,this]
  simp
theorem ke (l:List W3) {j:Nat} (h:j<l.length):isL (qm l) (j*3) [.i .i64,.i .i64,.s]=true:=by
 have h0:=k6 0 (by omega) l h
 have h1:=k6 1 (by omega) l h
 have h2:=k6 2 (by omega) l h
 simp only[isL,isV,Bw,Cj]at h0 ⊢
 rw[h0,h1,h2]
 rfl
theorem zU (l:List W3) {j:Nat} (h:j<l.length):rdI (qm l) (j*3)=l[j].1:=by
 have h0:=k6 0 (by omega) l h
 rw[Cj]at h0
 unfold rdI;rw[h0];rfl
theorem zT (l:List W3) {j:Nat} (h:j<l.length):rdI (qm l) (j*3+1)=l[j].2.1:=by
 unfold rdI;rw[k6 1 (by omega) l h];rfl
theorem kE (l:List W3) {j:Nat} (h:j<l.length):rdS (qm l) (j*3+2)=l[j].2.2:=by
 unfold rdS;rw[k6 2 (by omega) l h];rfl
theorem qO (l:List W3):(qm l).all qp=true:=by
 rw[Ap]
 intro x hx
 obtain⟨p,_,h⟩:=List.mem_flatMap.1 hx
 simp only[vC,AX,AZ,or_false]at h
 rcases h with rfl|rfl|rfl<;>rfl
def qj:List Value→List W3
 | .int _ k:: .int _ n:: .string s::r=>(k,n,s)::qj r
 |_=>[]
def vA:List Value→Bool
 |[]=>true
 | .int .i64 _:: .int .i64 _:: .string _::r=>vA r
 |_=>false
theorem zn: ∀(l:List W3),qj (qm l)=l
 |[]=>rfl
 |p::l=>by show (p.1,p.2.1,p.2.2)::qj (qm l)=_;rw[zn l]
theorem vy: ∀(l:List W3),vA (qm l)=true
 |[]=>rfl
 |p::l=>vy l
theorem b9 (cs:List Value) (h:vA cs=true):qm (qj cs)=cs:=by
 induction cs using vA.induct with
 |case1=>rfl
 |case2 k n s r ih=>show .int .i64 k:: .int .i64 n:: .string s::qm (qj r)=_;rw[ih h]
 |case3 cs h1 h2=>unfold vA at h;split at h<;>first|rfl|(cases h;done)|exact(h2 _ _ _ _ rfl).elim
def kV (n:Nat) (m:Int) (cs:List Value):Bool:=decide (m=Int.ofNat n)&&(vA cs&&(Nat.beq cs.length (n*3)&&Nat.blt n 6000000000000))
theorem zM {n:Nat} {m:Int} {cs:List Value} (h:kV n m cs=true):m=Int.ofNat n∧n<6000000000000∧cs=qm (qj cs)∧(qj cs).length=n:=by
 unfold kV at h
 simp only[Ag]at h
 have h2:=b9 cs h.2.1
 refine⟨AY h.1,by have:=h.2.2.2;rwa [AB]at this,h2.symm,?_⟩
 have h3:=Am h.2.2.1
 have h4:=zh (qj cs)
 rw[h2]at h4
 omega
end
section
open Go
theorem yO {α:Type} {f:α→List Value} {z:Nat} (hf: ∀x,(f x).length=z): ∀l:List α,(l.flatMap f).length=l.length*z
 |[]=>by simp
 |p::l=>by
  rw[Cf,AO,hf,yO hf l,AK,Nat.add_mul,Nat.one_mul]
  omega
theorem Km {α:Type} {f:α→List Value} {z:Nat} (hf: ∀x,(f x).length=z) (d:Nat) (hd:d<z): ∀(l:List α) {j:Nat} (h:j<l.length),nth (l.flatMap f) (j*z+d)=(f l[j])[d]?
 |[],j,h=>absurd h (Cz _)
 |p::l,0,h=>by
  rw[vM,Cf,Nat.zero_mul,AQ,BC (by rw[hf];exact hd)]
  simp
 |p::l,j+1,h=>by
  have:=Km hf d hd l (j:=j) (by simpa using h)
  rw[vM]at this ⊢
  rw[Cf,By (by rw[hf,Nat.add_mul];omega)]
  have e:(j+1)*z+d - (f p).length=j*z+d:=by rw[hf,Nat.add_mul];omega
  rw[e,this]
  simp
abbrev O6:=Int×Int×ByteArray×W3
def Qr (p:O6):List Value:=[.int .i64 p.1,.int .i64 p.2.1,.string p.2.2.1,.int .i64 p.2.2.2.1,.int .i64 p.2.2.2.2.1,.string p.2.2.2.2.2]
def zK (l:List O6):List Value:=l.flatMap Qr
theorem je (l:List O6):(zK l).length=l.length*6:=yO (f:=Qr) (fun _=>rfl) l
theorem vl (l:List O6) {j:Nat} (h:j<l.length) (d:Nat) (hd:d<6):nth (zK l) (j*6+d)=(Qr l[j])[d]? :=Km (f:=Qr) (fun _=>rfl) d hd l h
theorem xV (l:List O6) {j:Nat} (h:j<l.length):isL (zK l) (j*6) [.i .i64,.i .i64,.s,.i .i64,.i .i64,.s]=true:=by
 have h0:=vl l h 0 (by omega)
 have h1:=vl l h 1 (by omega)
 have h2:=vl l h 2 (by omega)
 have h3:=vl l h 3 (by omega)
 have h4:=vl l h 4 (by omega)
 have h5:=vl l h 5 (by omega)
 simp only[isL,isV,Bw,Cj]at h0 ⊢
 rw[h0,h1,h2,h3,h4,h5]
 rfl
theorem XU (l:List O6) {j:Nat} (h:j<l.length):rdI (zK l) (j*6)=l[j].1:=by
 have h0:=vl l h 0 (by omega)
 rw[Cj]at h0
 unfold rdI;rw[h0];rfl
theorem YC (l:List O6) {j:Nat} (h:j<l.length):rdI (zK l) (j*6+1)=l[j].2.1:=by
 unfold rdI;rw[vl l h 1 (by omega)];rfl
theorem bV (l:List O6) {j:Nat} (h:j<l.length):rdS (zK l) (j*6+1+1)=l[j].2.2.1:=by
 unfold rdS;rw[Bw,vl l h 2 (by omega)];rfl
theorem YR (l:List O6) {j:Nat} (h:j<l.length):rdI (zK l) (j*6+1+1+1)=l[j].2.2.2.1:=by
 unfold rdI;rw[Bw,Bw,vl l h 3 (by omega)];rfl
theorem aJ (l:List O6) {j:Nat} (h:j<l.length):rdI (zK l) (j*6+1+1+1+1)=l[j].2.2.2.2.1:=by
 unfold rdI;rw[Bw,Bw,Bw,vl l h 4 (by omega)];rfl
theorem bp (l:List O6) {j:Nat} (h:j<l.length):rdS (zK l) (j*6+1+1+1+1+1)=l[j].2.2.2.2.2:=by
 unfold rdS;rw[Bw,Bw,Bw,Bw,vl l h 5 (by omega)];rfl
theorem vo (l:List O6):(zK l).all qp=true:=by
 rw[Ap]
 intro x hx
 obtain⟨p,_,h⟩:=List.mem_flatMap.1 hx
 simp only[Qr,AX,AZ,or_false]at h
 rcases h with rfl|rfl|rfl|rfl|rfl|rfl<;>rfl
def opsOf:List Value→List O6
 | .int _ k:: .int _ n:: .string t:: .int _ vk:: .int _ vn:: .string vs::r=>(k,n,t,vk,vn,vs)::opsOf r
 |_=>[]
def Wj:List Value→Bool
 |[]=>true
 | .int .i64 _:: .int .i64 _:: .string _:: .int .i64 _:: .int .i64 _:: .string _::r=>Wj r
 |_=>false
theorem zo: ∀l:List O6,opsOf (zK l)=l
 |[]=>rfl
 |p::l=>by show (p.1,p.2.1,p.2.2.1,p.2.2.2.1,p.2.2.2.2.1,p.2.2.2.2.2)::opsOf (zK l)=_;rw[zo l]
theorem V1: ∀l:List O6,Wj (zK l)=true
 |[]=>rfl
 |p::l=>V1 l
theorem fD (cs:List Value) (h:Wj cs=true):zK (opsOf cs)=cs:=by
 induction cs using Wj.induct with
 |case1=>rfl
 |case2 k n t vk vn vs r ih=>
  show .int .i64 k:: .int .i64 n:: .string t:: .int .i64 vk:: .int .i64 vn:: .string vs::zK (opsOf r)=_
  rw[ih h]
 |case3 cs h1 h2=>unfold Wj at h;split at h<;>first|rfl|(cases h;done)|exact(h2 _ _ _ _ _ _ _ rfl).elim
def wP (n:Nat) (m:Int) (cs:List Value):Bool:=decide (m=Int.ofNat n)&&(Wj cs&&(Nat.beq cs.length (n*6)&&Nat.blt n 2199023255552))
theorem jd {n:Nat} {m:Int} {cs:List Value} (h:wP n m cs=true):m=Int.ofNat n∧n<2199023255552∧cs=zK (opsOf cs)∧(opsOf cs).length=n:=by
 unfold wP at h
 simp only[Ag]at h
 have h2:=fD cs h.2.1
 refine⟨AY h.1,by have:=h.2.2.2;rwa [AB]at this,h2.symm,?_⟩
 have h3:=Am h.2.2.1
 have h4:=je (opsOf cs)
 rw[h2]at h4
 omega
theorem jj (l:List O6) (h:l.length<2199023255552):wP l.length (Int.ofNat l.length) (zK l)=true:=by
 unfold wP
 simp only[Ag,decide_true,V1,je,A5,AB,true_and]
 exact h
end
section
open Go Go.Proofs Go.ChangeShapes Go.WideShapes Go.Deep
theorem nY {a:Int} (w:(Lit.int .i64 a).wf=true):inR a=true:=by
 have:=(Lit.wf_int_iff .i64 a).1 w
 unfold inR
 simp only[Ag,As]
 have e1:IntKind.i64.min= -9223372036854775808:=rfl
 have e2:IntKind.i64.max=9223372036854775807:=rfl
 omega
set_option maxRecDepth 100000 in
theorem mm {H:Type} {enc:TypeId×Value→H} {W:World} {m:Nat} {cs:List Value} {x:DataW H×List MemPlace} (h:DataW.trod enc Tryz.prog W 0 (fun _=>true) true m 24 cs=some x): ∃v:W3,cs=vC v∧inR v.2.1=true:=by
 obtain⟨y0,y1,y2,n,_,hl,z0,z1,z2⟩:=Go.Deep.trod_struct3 Tryz.underlying24 h
 have k3:Tryz.prog.cellsOf 3=1:=by kernel_rfl
 have k9:Tryz.prog.cellsOf 9=1:=by kernel_rfl
 have k24:Tryz.prog.cellsOf 24=3:=by kernel_rfl
 rw[k24]at hl
 match cs,hl with
 |[c0,c1,c2],_=>
  simp only[k3,k9,AD,BE,Ci,CE]at z0 z1 z2
  obtain⟨a0,e0,_,w0⟩:=DataW.trod_int Tryz.underlying3 z0
  obtain⟨a1,e1,_,w1⟩:=DataW.trod_int Tryz.underlying3 z1
  obtain⟨a2,e2,_,w2⟩:=DataW.trod_string Tryz.underlying9 z2
  refine⟨(a0,a1,a2),?_,nY w1⟩
  rw[(BD e0).1,(BD e1).1,(BD e2).1];rfl
set_option maxRecDepth 100000 in
theorem rE {H:Type} {enc:TypeId×Value→H} {W:World} {m:Nat} {cs:List Value} {x:DataW H×List MemPlace} (h:DataW.trod enc Tryz.prog W 0 (fun _=>true) true m 39 cs=some x): ∃o:O6,cs=Qr o∧inR o.2.2.2.2.1=true:=by
 obtain⟨y0,y1,y2,y3,n,_,hl,z0,z1,z2,z3⟩:=Go.Joins.trod_struct4 Tryz.underlying39 h
 have k3:Tryz.prog.cellsOf 3=1:=by kernel_rfl
 have k9:Tryz.prog.cellsOf 9=1:=by kernel_rfl
 have k24:Tryz.prog.cellsOf 24=3:=by kernel_rfl
 have k39:Tryz.prog.cellsOf 39=6:=by kernel_rfl
 rw[k39]at hl
 match cs,hl with
 |[c0,c1,c2,c3,c4,c5],_=>
  simp only[k3,k9,k24,AD,BE,Ci,CE]at z0 z1 z2 z3
  obtain⟨a0,e0,_,w0⟩:=DataW.trod_int Tryz.underlying3 z0
  obtain⟨a1,e1,_,w1⟩:=DataW.trod_int Tryz.underlying3 z1
  obtain⟨a2,e2,_,w2⟩:=DataW.trod_string Tryz.underlying9 z2
  obtain⟨v,e3,w3⟩:=mm z3
  refine⟨(a0,a1,a2,v),?_,w3⟩
  obtain⟨e4,e5⟩:=BD e3
  obtain⟨e6,e7⟩:=BD e5
  rw[(BD e0).1,(BD e1).1,(BD e2).1,e4,e6,(BD e7).1];rfl
theorem VP (z k d0 i j:Nat):((⟨k,d0,none⟩:Addr).add (i*z)).add j=⟨k,d0+i*z+j,none⟩:=by
 unfold Addr.add
 split<;>split<;>simp_all
set_option maxRecDepth 100000 in
theorem cA {α:Type} [Inhabited α] {f:α→List Value} {z:Nat} (hz:0<z) (hf: ∀x,(f x).length=z) {good:α→Prop} {t te:TypeId} (ht:Tryz.prog.underlying t=some (.slice te)) (hc:Tryz.prog.cellsOf te=z)
  {H:Type} {enc:TypeId×Value→H} {W:World} (one: ∀{m:Nat} {cs:List Value} {x:DataW H×List MemPlace},DataW.trod enc Tryz.prog W 0 (fun _=>true) true m te cs=some x→ ∃v:α,cs=f v∧good v)
  {r:Reach} {b0:Nat} {v:Value} {d:DataW H} {p:List MemPlace} (hLa:La W) (hv:Value.okWide Tryz.prog W r b0 t v) (h:DataW.Trod enc Tryz.prog W 0 (fun _=>true) true t v d p):
  ∃l:List α,QV W v l.length z (l.flatMap f)∧(∀x∈l,good x)∧(l.length=0∨ ∃elems spare,d= .slice elems spare∧elems.length=l.length):=by
 obtain⟨A,len,cap,rfl⟩:=okWide_slice ht hv
 obtain⟨fuel,hf0⟩:=h
 obtain⟨cs2,el2,fr2,hh2⟩:=Q8 hLa
 rcases open_slice ht hf0 with⟨hcs,_⟩|⟨a,Ab,cap',m,n,D,Pl,hcs,_,hl,_,hmm,hx,hel⟩
 ·rw [(BD hcs).1]
  exact⟨[],⟨2,0,cs2,el2,fr2,hh2,by simp,(fun i x hx=>by simp at hx),.inr ⟨rfl,none,rfl⟩⟩,fun x hx=>(by cases hx),.inl rfl⟩
 have hcs:=(BD hcs).1
 cases hcs
 have hm:m=cap:=by rw[hmm,Ax rfl]
 subst hm
 rw[hc]at hel
 have each: ∀i,i<m→ ∃v:α,(∀j,j<z→W.cell? ((a.add (i*z)).add j)=(f v)[j]?)∧good v:=fun i hi=>by
  obtain⟨cs',h1,h2⟩:=hel i hi
  obtain⟨v,rfl,h3⟩:=one h2
  exact⟨v,fun j hj=>(World.cells?_some h1).2.2 j hj,h3⟩
 obtain⟨g,hg⟩:=choose_lt each
 have hll:((List.range len).map g).length=len:=by simp
 refine⟨(List.range len).map g,?_,?_,.inr ⟨_,_,(Prod.mk.inj hx).1,by simp⟩⟩
 rotate_left
 ·intro x hx'
  obtain⟨i,hi,rfl⟩:=Bk.1 hx'
  rw[List.mem_range]at hi
  exact(hg i (by omega)).2
 rcases Nat.eq_zero_or_pos m with h0|h0
 ·subst h0
  obtain rfl:len=0:=by omega
  exact⟨2,0,cs2,el2,fr2,hh2,by simp,(fun i x hx=>by simp at hx),.inr ⟨rfl,some a,rfl⟩⟩
 ·have cell0: ∃x,(f (g 0))[0]? =some x:=by
   have:=hf (g 0)
   exact⟨(f (g 0))[0]'(by omega),Au (by omega)⟩
  obtain⟨x0,hx0⟩:=cell0
  have Xb:a.spot=none:=by
   have:=(hg 0 h0).1 0 hz
   rw[hx0]at this
   simp only[Nat.zero_mul,Addr.add,if_true]at this
   exact World.cell?_spot this
  obtain⟨k,d0,sp⟩:=a
  simp only at Xb
  subst Xb
  have hcell: ∀i j,i<m→j<z→W.cell? ⟨k,d0+i*z+j,none⟩=(f (g i))[j]? :=fun i j hi hj=>by rw[←VP];exact(hg i hi).1 j hj
  have oQ: ∃cs el fr,W.heap[k]? =some (.cells cs el fr):=by
   have hc:=hcell 0 0 h0 hz
   rw[hx0]at hc
   unfold World.cell? at hc
   split at hc
   ·rename_i cs el fr hh;exact⟨cs,el,fr,hh⟩
   ·cases hc
  obtain⟨cs,el,fr,hh⟩:=oQ
  have hat: ∀i j,i<m→j<z→cs[d0+i*z+j]? =(f (g i))[j]? :=fun i j hi hj=>by
   rw[←hcell i j hi hj]
   simp[World.cell?,hh]
  have hsz:d0+m*z≤cs.size:=by
   have h1:=hat (m - 1) (z - 1) (by omega) (by omega)
   rw[Au (by rw[hf];omega)]at h1
   have h2:=(Be.1 h1).1
   have h3:m*z=(m - 1)*z+z:=by
    rw[←Nat.succ_mul];congr 1;omega
   omega
  refine⟨k,d0,cs,el,fr,hh,?_,fun i x hx=> ?_,.inl ⟨m,by rw[hll];exact hl,hsz,by rw[hll]⟩⟩
  ·rw [yO hf, hll]
   have:=BA z hl
   omega
  ·have hlt := (AH.1 hx).1
   rw[yO hf,hll]at hlt
   have hj:i / z<len:=by
    rw[Nat.div_lt_iff_lt_mul hz];exact hlt
   have hr:=Nat.mod_lt i hz
   have hi:i / z*z+i % z=i:=by rw[Nat.mul_comm];exact Nat.div_add_mod i z
   have hx2:=Km hf (i % z) hr ((List.range len).map g) (j:=i / z) (by simpa using hj)
   rw[vM,hi,hx]at hx2
   have hfj:((List.range len).map g)[i / z]'(by simpa using hj)=g (i / z):=by simp
   rw[hfj]at hx2
   rw[show i+d0=d0+i / z*z+i % z by omega,hat (i / z) (i % z) (by omega) hr,←hx2]
end
section
open Go Go.Proofs Go.RowKit
def nzt:List Nat→List AA→List AA
 |z::zs,.nil::l=> .sl 0 z []::nzt zs l
 |z::zs,.st n _ cs::l=> .sl n z cs::nzt zs l
 |z::zs,a::l=>a::nzt zs l
 |_,l=>l
def nzg:List Nat→List AA→Bool
 |z::zs,.st n z' cs::l=>(Nat.beq z' z&&cs.all qp)&&nzg zs l
 |z::zs,a::l=>nzg zs l
 |_,l=>true
theorem cq {W:World} {x y:Value} (hs:qp x=true) (h:Told W x y):y=x:=by
 cases h<;>first|rfl|cases hs
theorem gX {W:World} {n z:Nat} {cs:List Value} {y:Value} (hs:cs.all qp=true) (h:Told W (.func (.yield z) ⟨[.int .i64 (Int.ofNat n)]⟩ ⟨cs⟩) y):QV W y n z cs:=by
 generalize hn:Int.ofNat n=m at h
 cases h with
 |sl z n' cs k d c cs' el fr hk hc hr hl hat=>
  have hnn:n=n':=Cl hn
  subst hnn
  refine⟨k,d,cs',el,fr,hk,by omega,fun i x hx=> ?_,.inl ⟨c,hc,hr,rfl⟩⟩
  have hi:=(AH.1 hx).1
  have hy:cs'[i+d]? =some cs'[i+d]:=CG (by omega)
  have:=cq (Ap.1 hs x (AR hx)) (hat i x _ hx hy)
  rw[hy,this]
 |nil z a k cs' el fr hk=>
  have hnn:n=0:=Cl hn
  subst hnn
  exact⟨k,0,cs',el,fr,hk,by simp,(fun i x hx=>by simp at hx),.inr ⟨rfl,a,rfl⟩⟩
theorem JY {W:World} (h:La W): ∀(zs:List Nat) (aa:List AA) (args:List Value),nzg zs aa=true→ZN W aa args→ZN W (nzt zs aa) args
 |[],aa,args,_,g=>by cases aa<;>exact g
 |z::zs,[],args,_,g=>g
 |z::zs,a::l,[],_,g=>g.elim
 |z::zs,a::l,y::r,q,g=>by
  obtain⟨g1,g2⟩:=g
  cases a with
  |nil=>
   have ih:=JY h zs l r q g2
   obtain⟨cs,el,fr,hh⟩:=Q8 h
   have g1:y= .slice none 0 0:=g1
   subst g1
   exact⟨⟨⟨2,0,cs,el,fr,hh,by simp,(fun i x hx=>by simp at hx),.inr ⟨rfl,none,rfl⟩⟩,rfl⟩,ih⟩
  |v x=>exact⟨g1,JY h zs l r q g2⟩
  |sl n sz cs=>exact⟨g1,JY h zs l r q g2⟩
  |st n sz cs=>
   have q:((Nat.beq sz z&&cs.all qp)&&nzg zs l)=true:=q
   simp only[Ag]at q
   obtain rfl:=Am q.1.1
   exact⟨⟨gX q.1.2 g1,q.1.2⟩,JY h zs l r q.2 g2⟩
def tol (zs:List Nat) (sp:Spec):Spec:=fun aa=>(sp (nzt zs aa)).map fun t=> .qI (nzg zs aa) t
theorem qu.tol {f:FuncId} {sp:Spec} (zs:List Nat) (h:qu Tryz.prog La f sp):qu Tryz.prog La f (tol zs sp):=
 ⟨h.1, fun aa t v e1 e2 => by
  obtain⟨t',e3,rfl⟩:=Ak.1 e1
  obtain⟨q,e4⟩:=GT.qh e2
  obtain⟨a,b⟩:=h.2 _ t' v e3 e4
  exact⟨a,fun W args' hW ha=>b W args' hW (JY hW zs aa args' q ha)⟩⟩
def kZ (ops:List O6):Value:= .func (.yield 6) ⟨[.int .i64 (Int.ofNat ops.length)]⟩ ⟨zK ops⟩
def xn:List Value→List (List O6)
 |[]=>[]
 | .func _ _ ⟨r⟩::l=>opsOf r::xn l
 |_::l=>[]::xn l
def okT:Value→Bool
 | .func (.yield z) ⟨[.int .i64 (.ofNat m)]⟩ ⟨r⟩=>Nat.beq z 6&&(wP m (Int.ofNat m) r&&(opsOf r).all fun o=>inR o.2.2.2.2.1)
 |_=>false
def Z9 (n:Nat) (cs:List Value):Bool:=cs.all okT&&(Nat.beq cs.length n&&Nat.blt n 6000000000000)
theorem pn {c:Value} (h:okT c=true): ∃ops:List O6,c=kZ ops∧ops.length<2199023255552∧ ∀o∈ops,inR o.2.2.2.2.1=true:=by
 unfold okT at h
 split at h
 ·rename_i z m r
  simp only[Ag,Ap]at h
  obtain⟨h1,h2,h3⟩:=h
  obtain rfl:=Am h1
  obtain⟨_,g1,g2,g3⟩:=jd h2
  refine⟨opsOf r,?_,by omega,h3⟩
  unfold kZ
  rw[←g2,g3]
 ·cases h
theorem KW: ∀l:List (List O6),xn (l.map kZ)=l
 |[]=>rfl
 |a::l=>by
  show opsOf (zK a)::xn (l.map kZ)=_
  rw[zo,KW l]
theorem Jf {n:Nat} {cs:List Value} (h:Z9 n cs=true):n<6000000000000∧cs=(xn cs).map kZ∧(xn cs).length=n∧ ∀ops∈xn cs,ops.length<2199023255552∧ ∀o∈ops,inR o.2.2.2.2.1=true:=by
 unfold Z9 at h
 simp only[Ag,AB]at h
 obtain⟨h1,h2,h3⟩:=h
 have key: ∀cs:List Value,cs.all okT=true→cs=(xn cs).map kZ∧ ∀ops∈xn cs,ops.length<2199023255552∧ ∀o∈ops,inR o.2.2.2.2.1=true:=by
  intro cs
  induction cs with
  |nil=>exact fun _=>⟨rfl,fun ops ho=>absurd ho (AZ)⟩
  |cons c cs ih=>
   intro h
   rw[A1,Ag]at h
   obtain⟨a,b⟩:=ih h.2
   obtain⟨ops,rfl,c1,c2⟩:=pn h.1
   have e:xn (kZ ops::cs)=ops::xn cs:=by
    show opsOf (zK ops)::xn cs=_
    rw[zo]
   rw[e]
   refine⟨by rw[BR,←a],fun q hq=> ?_⟩
   rcases AX.1 hq with rfl|hq
   ·exact⟨c1,c2⟩
   ·exact b q hq
 obtain⟨k1,k2⟩:=key cs h1
 refine⟨h3,k1,?_,k2⟩
 have:=Am h2
 rw[k1,AM]at this
 exact this
theorem ah {l:List (List O6)} (h:l.length<6000000000000) (h2: ∀ops∈l,ops.length<2199023255552∧ ∀o∈ops,inR o.2.2.2.2.1=true):Z9 l.length (l.map kZ)=true:=by
 unfold Z9
 simp only[Ag,AB,AM,A5,true_and,and_true,Ap]
 refine⟨fun c hc=> ?_,h⟩
 obtain⟨ops,ho,rfl⟩:=Bk.1 hc
 obtain⟨a,b⟩:=h2 ops ho
 show (Nat.beq 6 6&&(wP ops.length (Int.ofNat ops.length) (zK ops)&&(opsOf (zK ops)).all fun o=>inR o.2.2.2.2.1))=true
 rw[jj ops a,zo]
 exact Ap.2 b
end
section
open Go Go.Proofs
namespace A206
def T (a1:Int) (a2:Int):GT Value:=let y1:=!decide (a2=0);(.br (a2==0) .no (.br (decide (a2≤0)) .no (.br y1 (.br y1 (.out (.tuple #[.int .u64 (IntKind.wrap .u64 (Int.tdiv a1 a2)),.int .u64 (Int.tmod a1 a2)])) .no) .no)))
theorem run (a1:Int) (a2:Int):runK 4 [] [] 206 [.v (.int .u64 0),.v (.int .u64 a1),.v (.int .u64 a2)]=(T a1 a2).eval:=by kernel_rfl
theorem qN (a b:Int) (ha:u64 a=true) (hb:u64 b=true) (h0:b≠0):(T a b).eval=some (.tuple #[.int .u64 (a / b),.int .u64 (a % b)]):=by
 unfold u64 at ha hb
 simp only[Ag,As]at ha hb
 have h1:(b==0)=false:=Ao.mpr h0
 have h2: ¬b≤0:=by omega
 have hd:Int.tdiv a b=a / b:=Bn ha.1
 have hm:Int.tmod a b=a % b:=BM ha.1
 have h3:0≤a / b:=BI ha.1 hb.1
 have h4:a / b≤a:=Int.ediv_le_self _ ha.1
 have hw:IntKind.wrap .u64 (a / b)=a / b:=by
  show (a / b) % 18446744073709551616=a / b
  exact CJ h3 (by omega)
 simp[T,GT.eval,GT.qI,h1,h2,h0,hd,hm,hw]
def spec:Spec:=fun aa=>match aa with
 |[.v (.int .u64 h),.v (.int .u64 a),.v (.int .u64 b)]=>some (.qI ((h==0)&&u64 a&&u64 b&& !(b==0)) (.out (.tuple #[.int .u64 (a / b),.int .u64 (a % b)])))
 |_=>none
theorem qg:qu Tryz.prog La 206 spec:=⟨qD (by kernel_rfl),fun aa t v h e=>by
 unfold spec at h
 split at h
 ·rename_i h0 a b
  cases h
  obtain⟨g1,g2⟩:=GT.qh e
  cases g2
  simp only[Ag,Ay,Bm,Ao]at g1
  obtain⟨⟨⟨rfl,g3⟩,g4⟩,g5⟩:=g1
  exact⟨rfl,qS qx qf qd (by simp) (by simp) (by decide) (by simp) rfl ((run _ _).trans (qN _ _ g3 g4 g5))⟩
 ·cases h⟩
end A206
namespace A127i
def T (n0:Int) (s0:ByteArray):GT Value:=let x2:=IntKind.wrap .u64 n0;let x1:=IntKind.wrap .u64 (0 - x2);let y1:=(x2*10000) % 18446744073709551616;let x3:=IntKind.wrap .i64 (y1 / 1);let y2:=(x1*10000) % 18446744073709551616;let x4:=IntKind.wrap .i64 (y2 / 1);let o1:GT Value:=(.out (.tuple #[.int .i64 0,.bool false]));let o2:GT Value:=(.out (.tuple #[.int .i64 x4,.bool (decide ((y2 / 1)<9223372036854775808))]));let o3:GT Value:=(.out (.tuple #[.int .i64 x3,.bool (decide ((y1 / 1)<9223372036854775808))]));let y3:=!((!(decide (n0<0)==false))==false);let y4:=(x1*10000) / 18446744073709551616;let y5:=(x2*10000) / 18446744073709551616;(.br (decide (n0<0)) (.br ((decide (0≤x1)&&decide (x1<18446744073709551616))&&true) (.br (decide (y4≥1)) o1 (.br ((((y4==0)&&(decide (0≤y2)&&decide (y2<18446744073709551616)))&&true)&&true) (.br ((y2 / 1) != 0) (.br y3 (.out (.tuple #[.int .i64 (IntKind.wrap .i64 (IntKind.wrap .u64 (0 - (y2 / 1)))),.bool (decide ((y2 / 1)≤9223372036854775808))])) o2) o2) .no)) .no) (.br ((decide (0≤x2)&&decide (x2<18446744073709551616))&&true) (.br (decide (y5≥1)) o1 (.br ((((y5==0)&&(decide (0≤y1)&&decide (y1<18446744073709551616)))&&true)&&true) (.br ((y1 / 1) != 0) (.br y3 (.out (.tuple #[.int .i64 (IntKind.wrap .i64 (IntKind.wrap .u64 (0 - (y1 / 1)))),.bool (decide ((y1 / 1)≤9223372036854775808))])) o3) o3) .no)) .no))
theorem run (n0:Int) (s0:ByteArray):runK 4 [(204,yU),(206,A206.spec)] [] 127 [.v (.agg #[.int .i64 2,.int .i64 n0,.string s0])]=(T n0 s0).eval:=by kernel_rfl
def dec (n:Int):Int×Bool:=(if 18446744073709551616≤n*10000∨n*10000≤ -18446744073709551616 then 0 else IntKind.wrap .i64 (n*10000),decide (-9223372036854775808≤n*10000)&&decide (n*10000<9223372036854775808))
theorem qN (n:Int) (s:ByteArray) (h1: -9223372036854775808≤n) (h2:n<9223372036854775808):(T n s).eval=some (.tuple #[.int .i64 (dec n).1,.bool (dec n).2]):=by
 unfold dec
 by_cases hn:n<0
 ·have e0 : IntKind.wrap .u64 (0 - IntKind.wrap .u64 n) = -n := by rw [IntKind.wrap_u64, IntKind.wrap_u64]; omega
  unfold T
  simp only[e0]
  have c1:decide (n<0)=true:=Al hn
  have c2:decide (0≤ -n)=true:=Al (by omega)
  have c3:decide (-n<18446744073709551616)=true:=Al (by omega)
  by_cases hb:18446744073709551616≤ -n*10000
  ·have c4 : decide (-n * 10000 / 18446744073709551616 ≥ 1) = true := Al (by omega)
   rw[Ax (by omega),An (p:= -9223372036854775808≤n*10000) (by omega)]
   simp only[GT.eval,c1,c2,c3,c4,AI,Ai,BU]
  ·have c4 : decide (-n * 10000 / 18446744073709551616 ≥ 1) = false := An (by omega)
   have c5:(-n*10000 / 18446744073709551616==0)=true:=Ay.mpr (by omega)
   have c6: -n*10000 % 18446744073709551616 / 1= -n*10000:=by omega
   have c7:decide (0≤ -n*10000 % 18446744073709551616)=true:=Al (by omega)
   have c8:decide (-n*10000 % 18446744073709551616<18446744073709551616)=true:=Al (by omega)
   have c9:(-n*10000 != 0)=true:=B8.mpr (by omega)
   have c10:IntKind.wrap .i64 (IntKind.wrap .u64 (0 - -n*10000))=IntKind.wrap .i64 (n*10000):=by
    rw[IntKind.wrap_u64,IntKind.wrap_i64,IntKind.wrap_i64];omega
   rw[Aq (by omega),Al (p:=n*10000<9223372036854775808) (by omega)]
   have c11:decide (-n*10000≤9223372036854775808)=decide (-9223372036854775808≤n*10000):=by
    by_cases h: -9223372036854775808≤n*10000
    ·rw[Al h,Al (by omega)]
    ·rw[An h,An (by omega)]
   simp only[GT.eval,c1,c2,c3,c4,c5,c6,c7,c8,c9,c10,c11,AI,AE,Ai,Ah]
   rfl
 ·have e0 : IntKind.wrap .u64 n = n := by rw [IntKind.wrap_u64]; omega
  unfold T
  simp only[e0]
  have c1:decide (n<0)=false:=An hn
  have c2:decide (0≤n)=true:=Al (by omega)
  have c3:decide (n<18446744073709551616)=true:=Al (by omega)
  by_cases hb:18446744073709551616≤n*10000
  ·have c4 : decide (n * 10000 / 18446744073709551616 ≥ 1) = true := Al (by omega)
   rw[Ax (by omega),An (p:=n*10000<9223372036854775808) (by omega)]
   simp only[GT.eval,c1,c2,c3,c4,AI,Ai,Ah,Ch]
  ·have c4 : decide (n * 10000 / 18446744073709551616 ≥ 1) = false := An (by omega)
   have c5:(n*10000 / 18446744073709551616==0)=true:=Ay.mpr (by omega)
   have c6:n*10000 % 18446744073709551616 / 1=n*10000:=by omega
   have c7:decide (0≤n*10000 % 18446744073709551616)=true:=Al (by omega)
   have c8:decide (n*10000 % 18446744073709551616<18446744073709551616)=true:=Al (by omega)
   rw[Aq (by omega),Al (p:= -9223372036854775808≤n*10000) (by omega)]
   cases c9:(n*10000 != 0)<;>simp[GT.eval,c1,c2,c3,c4,c5,c6,c7,c8,c9]
end A127i
namespace A127d
def T (n0:Int) (s0:ByteArray):GT Value:=(.out (.tuple #[.int .i64 n0,.bool true]))
theorem run (n0:Int) (s0:ByteArray):runK 4 [(204,yU),(206,A206.spec)] [] 127 [.v (.agg #[.int .i64 3,.int .i64 n0,.string s0])]=(T n0 s0).eval:=by kernel_rfl
end A127d
namespace A127
def dec (k n:Int):Int×Bool:=if k=3 then(n,true)else A127i.dec n
def spec:Spec:=fun aa=>match aa with
 |[a]=>(vOf a).bind fun x=>some (.qI ((x.1==2||x.1==3)&&inR x.2.1) (.out (.tuple #[.int .i64 (dec x.1 x.2.1).1,.bool (dec x.1 x.2.1).2])))
 |_=>none
theorem qg:qu Tryz.prog La 127 spec:=⟨qD (by kernel_rfl),fun aa t v h e=>by
 unfold spec at h
 split at h
 ·rename_i a
  obtain⟨⟨k0,n0,s0⟩,h1,h⟩:=qi h
  cases h
  rw[qM h1]
  obtain⟨g1,g2⟩:=GT.qh e
  cases g2
  unfold inR at g1
  simp only[Ag,AS,Ay,As]at g1
  refine⟨rfl,qS (l:=[(204,yU),(206,A206.spec)]) (L:=[]) (n0:=4) (k:=12) qx qf qd ?_ (by simp) (by decide) (by simp) rfl ?_⟩
  ·intro p hp
   simp only[AX,AZ,or_false]at hp
   rcases hp with rfl|rfl
   ·exact KB
   ·exact A206.qg
  ·unfold dec
   obtain⟨rfl|rfl,g3,g4⟩:=g1
   ·rw [Aq (show ¬ (2 : Int) = 3 by decide)]
    exact(A127i.run n0 s0).trans (A127i.qN n0 s0 g3 g4)
   ·exact A127d.run n0 s0
 ·cases h⟩
end A127
namespace A52x1
def T (a0:Int):GT Value:=(.br (a0==0) (.out (.bool true)) (.br (a0==4) (.out (.bool true)) (.out (.bool false))))
theorem run (a0:Int):runK 4 [] [] 52 [.v (.int .i64 a0),.sl 1 1 [.int .i64 4]]=(T a0).eval:=by kernel_rfl
end A52x1
namespace A52x2
def T (a0:Int):GT Value:=(.br (a0==0) (.out (.bool true)) (.br (a0==2) (.out (.bool true)) (.br (a0==3) (.out (.bool true)) (.out (.bool false)))))
theorem run (a0:Int):runK 4 [] [] 52 [.v (.int .i64 a0),.sl 2 1 [.int .i64 2,.int .i64 3]]=(T a0).eval:=by kernel_rfl
end A52x2
namespace A52x3
def T (a0:Int):GT Value:=(.br (a0==0) (.out (.bool true)) (.br (a0==2) (.out (.bool true)) (.out (.bool false))))
theorem run (a0:Int):runK 4 [] [] 52 [.v (.int .i64 a0),.sl 1 1 [.int .i64 2]]=(T a0).eval:=by kernel_rfl
end A52x3
namespace A52
def spec:Spec:=fun aa=>match aa with
 |[.v (.int .i64 k),.sl n 1 [.int .i64 a]]=>bif Nat.beq n 1 then(bif a==4 then some (.out (.bool (k==0||k==4)))else bif a==2 then some (.out (.bool (k==0||k==2)))else none)else none
 |[.v (.int .i64 k),.sl n 1 [.int .i64 a,.int .i64 b]]=>bif Nat.beq n 2 then(bif a==2 then(bif b==3 then some (.out (.bool (k==0||(k==2||k==3))))else none)else none)else none
 |_=>none
theorem t1 (k:Int):(A52x1.T k).eval=some (.bool (k==0||k==4)):=by
 cases h:k==0<;>cases h2:k==4<;>simp[A52x1.T,GT.eval,h,h2]
theorem t3 (k:Int):(A52x3.T k).eval=some (.bool (k==0||k==2)):=by
 cases h:k==0<;>cases h2:k==2<;>simp[A52x3.T,GT.eval,h,h2]
theorem t2 (k:Int):(A52x2.T k).eval=some (.bool (k==0||(k==2||k==3))):=by
 cases h:k==0<;>cases h2:k==2<;>cases h3:k==3<;>simp[A52x2.T,GT.eval,h,h2,h3]
theorem qg:qu Tryz.prog La 52 spec:=⟨qD (by kernel_rfl),fun aa t v h e=>by
 unfold spec at h
 split at h
 ·rename_i k n a
  cases hn:Nat.beq n 1
  ·rw[hn]at h;cases h
  rw[hn,Ai]at h
  obtain rfl:=Am hn
  cases ha:a==4
  ·rw [ha, Ah] at h
   cases ha2:a==2
   ·rw[ha2]at h;cases h
   rw[ha2,Ai]at h
   obtain rfl:=eq_of_beq ha2
   cases h;cases e
   exact⟨rfl,qS qx qf qd (by simp) (by simp) (by decide) (by simp) rfl ((A52x3.run _).trans (t3 _))⟩
  ·rw [ha, Ai] at h
   obtain rfl:=eq_of_beq ha
   cases h;cases e
   exact⟨rfl,qS qx qf qd (by simp) (by simp) (by decide) (by simp) rfl ((A52x1.run _).trans (t1 _))⟩
 ·rename_i k n a b
  cases hn:Nat.beq n 2
  ·rw[hn]at h;cases h
  rw[hn,Ai]at h
  obtain rfl:=Am hn
  cases ha:a==2
  ·rw[ha]at h;cases h
  cases hb:b==3
  ·rw[ha,hb]at h;cases h
  rw[ha,hb,Ai,Ai]at h
  obtain rfl:=eq_of_beq ha
  obtain rfl:=eq_of_beq hb
  cases h;cases e
  exact⟨rfl,qS qx qf qd (by simp) (by simp) (by decide) (by simp) rfl ((A52x2.run _).trans (t2 _))⟩
 ·cases h⟩
end A52
namespace A53
noncomputable def cM:Cfg:=zw Tryz.prog 4 (gpT []) (ltT 4 [])
def stA (kind:Int) (same num:Bool) (n:Nat) (i:Int):KX:=⟨[(4,.int .i64 kind),(5,.bool same),(6,.bool num),(9,.slice (some ⟨0,0,none⟩) n 1),(10,.int .i64 (Int.ofNat n)),(11,.int .i64 i)],[]⟩
def stE (kind:Int) (same num:Bool):KX:=⟨[(4,.int .i64 kind),(5,.bool same),(6,.bool num)],[]⟩
def kp:Ex→List Nat| .normal=>[4,5,6,9,10,11]|_=>[4,5,6]
theorem round (kind i:Int) (n:Nat) (same num:Bool) (cs:List Value):wy cM (gpT []) (vL cM (gpT []) (ltT 4 []) 10) (fun _ _=>none) false 1000 (qV Tryz.prog 53 0) (stK 42 4 [(0,cs)] (stA kind same num n i)) (zv 4 100 42 kp (fun _ _=>[]))=
 (let x2:=rdI cs (0+((i).toNat*1));let x1:=if x2>kind then x2 else kind;let x3:=IntKind.wrap .i64 (i+1);(bif decide (i<(Int.ofNat n))then(bif decide (0≤i)then(bif Nat.blt (i).toNat n then(bif isV cs (0+((i).toNat*1)) (.i .i64)then(bif(x2==0)then(some (.normal,stA kind (same) (num) n x3))else(bif same then(bif(kind==0)then(bif num then(bif(x2==0)then(some (.normal,stA x1 (true) (true) n x3))else(bif(x2==2)then(some (.normal,stA x1 (true) (true) n x3))else(bif(x2==3)then(some (.normal,stA x1 (true) (true) n x3))else(some (.normal,stA x1 (true) (false) n x3)))))else(some (.normal,stA x1 (true) (false) n x3)))else(bif num then(bif(x2==0)then(some (.normal,stA x1 ((kind==x2)) (true) n x3))else(bif(x2==2)then(some (.normal,stA x1 ((kind==x2)) (true) n x3))else(bif(x2==3)then(some (.normal,stA x1 ((kind==x2)) (true) n x3))else(some (.normal,stA x1 ((kind==x2)) (false) n x3)))))else(some (.normal,stA x1 ((kind==x2)) (false) n x3))))else(bif num then(bif(x2==0)then(some (.normal,stA x1 (false) (true) n x3))else(bif(x2==2)then(some (.normal,stA x1 (false) (true) n x3))else(bif(x2==3)then(some (.normal,stA x1 (false) (true) n x3))else(some (.normal,stA x1 (false) (false) n x3)))))else(some (.normal,stA x1 (false) (false) n x3)))))else none)else none)else none)else(some (.exit 0,stE kind (same) (num))))):=by kernel_rfl
def step (s:Int×Bool×Bool) (k:Int):Int×Bool×Bool:=bif k==0 then s else(if k>s.1 then k else s.1,s.2.1&&(s.1==0||s.1==k),s.2.2&&(k==2||k==3))
def alike (l:List Int):Int×Bool×Bool:=l.foldl step (0,true,true)
theorem next (l:List Int) (hl:l.length<4611686018427387904) (s:Int×Bool×Bool) {j:Nat} (hj:j<l.length):
  wy cM (gpT []) (vL cM (gpT []) (ltT 4 []) 10) (fun _ _=>none) false 1000 (qV Tryz.prog 53 0) (stK 42 4 [(0,ints .i64 l)] (stA s.1 s.2.1 s.2.2 l.length j)) (zv 4 100 42 kp (fun _ _=>[]))=
  some (.normal,stA (step s l[j]).1 (step s l[j]).2.1 (step s l[j]).2.2 l.length (j+1:Nat)):=by
 rw[round]
 have h1:=ltI hj
 have h2:=geI j
 have h3:=j7 hj
 have h4:(0+((j:Int)).toNat*1)=j:=by simp
 have h5:=wrI j (by omega)
 obtain⟨kind,same,num⟩:=s
 simp only[h1,h2,h3,h4,h5,vF _ l hj,wN _ l hj,Ai]
 unfold step
 cases e0:(l[j]==0)<;>cases same<;>cases num<;>cases e1:(kind==0)<;>cases e2:(l[j]==2)<;>cases e3:(l[j]==3)<;>simp[e0,e1,e2,e3]
theorem last (l:List Int) (s:Int×Bool×Bool):
  wy cM (gpT []) (vL cM (gpT []) (ltT 4 []) 10) (fun _ _=>none) false 1000 (qV Tryz.prog 53 0) (stK 42 4 [(0,ints .i64 l)] (stA s.1 s.2.1 s.2.2 l.length l.length)) (zv 4 100 42 kp (fun _ _=>[]))=
  some (.exit 0,stE s.1 s.2.1 s.2.2):=by
 rw[round]
 have h1:=j6 l.length
 simp only[h1,Ah]
def D:KD:=⟨42,4,100,[4,5,6,9,10,11],[0],fun _=>[],fun x ro=>match x.vs,x.cars,ro with
 |[(4,.int .i64 kind),(5,.bool same),(6,.bool num),(9,.slice (some ⟨0,0,none⟩) n 1),(10,.int .i64 m),(11,.int .i64 0)],[],[(0,cs)]=>
  .qI (wm n m cs) (.out (.exit 0,stE ((cs.map vH).foldl step (kind,same,num)).1 ((cs.map vH).foldl step (kind,same,num)).2.1 ((cs.map vH).foldl step (kind,same,num)).2.2))
 |_,_,_=> .no⟩
section
variable {La:World→Prop} {c:Cfg} {base:Bs} {I:World→Prop}
theorem chain (hP:c.P=Tryz.prog) (hn:c.n0=4) (hG:c.G=0) (hI: @Inv (zL base) base I) (hIL: ∀w,I w→La w) (l:List Int) (hl:l.length<4611686018427387904): ∀(k j:Nat) (s:Int×Bool×Bool),j+k=l.length→
  zI (@zy (zL base) c base I (qV Tryz.prog 53 0) 42 4 100 [(0,ints .i64 l)]) (stA s.1 s.2.1 s.2.2 l.length j) (.exit 0) (stE ((l.drop j).foldl step s).1 ((l.drop j).foldl step s).2.1 ((l.drop j).foldl step s).2.2)
 |0,j,s,h=>by
  obtain rfl:j=l.length:=by omega
  rw[B6]
  exact .stop (by simp) (stepT qf qd (by simp) (by simp) hP hn hG hI hIL (last l s))
 |k+1,j,s,h=>by
  have hj:j<l.length:=by omega
  rw[A8 hj,Bi]
  exact .next (stepT qf qd (by simp) (by simp) hP hn hG hI hIL (next l hl s hj)) (chain hP hn hG hI hIL l hl k (j+1) (step s l[j]) (by omega))
end
def lp:LpK:=⟨53,3,0,D⟩
theorem qE {La:World→Prop}:zq Tryz.prog La 4 lp:=by
 refine⟨by kernel_rfl,fun c base I hP hn hG hI hIL x ro ex y e=> ?_⟩
 obtain⟨vs,cars⟩:=x
 simp only[lp,D]at e ⊢
 split at e
 ·rename_i kind same num n m cs
  obtain⟨g1,g2⟩:=GT.qh e
  obtain⟨rfl,hn2,l,rfl,h4,rfl⟩:=vV g1
  cases g2
  rw[h4]
  exact chain hP hn hG hI hIL l hn2 l.length 0 (kind,same,num) (by omega)
 ·cases e
theorem run (n:Nat) (cs:List Value):vL (zw Tryz.prog 4 (gpT []) (ltT 4 [lp])) (gpT []) (ltT 4 [lp]) 10 (.fn 53) (KR 0 [.sl n 1 cs]) ⟨WO 0 [.sl n 1 cs],4⟩ (fun o=>some o.1)=
 (let s:=(cs.map vH).foldl step (0,true,true);bif cs.all qp&&true then bif wm n (Int.ofNat n) cs then bif s.2.1 then some (.tuple #[.int .i64 s.1,.bool true])else some (.tuple #[.int .i64 s.1,.bool s.2.2])else none else none):=by kernel_rfl
theorem runN:vL (zw Tryz.prog 4 (gpT []) (ltT 4 [lp])) (gpT []) (ltT 4 [lp]) 10 (.fn 53) (KR 0 [.nil]) ⟨WO 0 [.nil],4⟩ (fun o=>some o.1)=some (.tuple #[.int .i64 0,.bool true]):=by kernel_rfl
def res (l:List Int):Int×Bool:=((alike l).1,(alike l).2.1||(alike l).2.2)
def spec:Spec:=fun aa=>match aa with
 |[.sl n 1 cs]=>some (.qI (wm n (Int.ofNat n) cs) (.out (.tuple #[.int .i64 (res (cs.map vH)).1,.bool (res (cs.map vH)).2])))
 |[.nil]=>some (.out (.tuple #[.int .i64 0,.bool true]))
 |_=>none
theorem qg {La:World→Prop} (hLa: ∀w w',La w→RowKit.Below w.heap.size w w'→La w'):qu Tryz.prog La 53 spec:=by
 refine⟨qD (by kernel_rfl),fun aa t v h e=> ?_⟩
 unfold spec at h
 split at h
 ·rename_i n cs
  cases h
  obtain⟨g1,g2⟩:=GT.qh e
  cases g2
  obtain⟨_,hn,l,rfl,h4,rfl⟩:=vV g1
  refine⟨rfl,qS hLa qf qd (by simp) (by simpa using qE) (by decide) (by simp) rfl ((run _ _).trans ?_)⟩
  simp only[qZ,AI,Ai,g1,h4]
  unfold res alike
  cases (l.foldl step (0,true,true)).2.1<;>simp
 ·cases h
  cases e
  exact⟨rfl,qS hLa qf qd (by simp) (by simpa using qE) (by decide) (by simp) rfl runN⟩
 ·cases h
end A53
namespace A14L0
noncomputable def cfg:Cfg:=zw Tryz.prog 4 (gpT []) (ltT 4 [])
def stA (nm:ByteArray) (n:Nat) (r:Int) (e:Int) (i:Int):KX:=⟨[(0,.string nm),(1,.slice (some ⟨1,0,none⟩) n 1),(4,.int .i64 r),(5,.int .i64 e),(15,.slice (some ⟨1,0,none⟩) n 1),(16,.int .i64 (Int.ofNat n)),(17,.int .i64 i)],[]⟩
def qT (nm:ByteArray) (n:Nat) (r:Int) (e:Int):KX:=⟨[(0,.string nm),(1,.slice (some ⟨1,0,none⟩) n 1),(4,.int .i64 r),(5,.int .i64 e)],[]⟩
def qP (r:Int) (e:Int):KX:=⟨[(4,.int .i64 r),(5,.int .i64 e)],[]⟩
def kp:Ex→List Nat
 | .normal=>[0,1,4,5,15,16,17]
 | .exit _=>[0,1,4,5]
 | .ret=>[4,5]
theorem round (nm:ByteArray) (n:Nat) (r:Int) (e:Int) (i:Int) (cs:List Value):zN cfg [] [] 14 0 (stK 148 4 [(1,cs)] (stA nm n r e i)) (zv 4 100 148 kp (fun _ _=>[]))=(let x1:=0+(i.toNat*1);(bif decide (i<(Int.ofNat n))then(bif decide (0≤i)then(bif Nat.blt i.toNat n then(bif isV cs x1 (.i .i64)then(bif decide ((rdI cs x1)<0)then(some (.ret,qP 0 100))else(bif decide ((rdI cs x1)>4)then(some (.ret,qP 0 100))else(some (.normal,stA nm n r e (IntKind.wrap .i64 (i+1))))))else none)else none)else none)else(some (.exit 0,qT nm n r e)))):=by kernel_rfl
def bad (k:Int):Bool:=decide (k<0)||decide (k>4)
def km (p:ByteArray×Int×Int) (k:Int):(ByteArray×Int×Int) ⊕ (Ex×KX):=bif bad k then .inr (.ret,qP 0 100)else .inl p
def D:KD:=⟨148,4,100,[0,1,4,5,15,16,17],[1],fun _=>[],fun x ro=>match x.vs,x.cars,ro with
 |[(0,.string nm),(1,.slice (some ⟨1,0,none⟩) n 1),(4,.int .i64 r),(5,.int .i64 e),(15,.slice (some ⟨1,0,none⟩) n' 1),(16,.int .i64 m),(17,.int .i64 0)],[],[(1,cs)]=>
  .qI (Nat.beq n' n&&wm n m cs) (.br ((cs.map vH).any bad) (.out (.ret,qP 0 100)) (.out (.exit 0,qT nm n r e)))
 |_,_,_=> .no⟩
def lp:LpK:=⟨14,2,0,D⟩
theorem qE:zq Tryz.prog La 4 lp:=by
 refine⟨by kernel_rfl,fun c base I hP hn hG hI hIL x ro ex y e=> ?_⟩
 obtain⟨vs,cars⟩:=x
 simp only[lp,D]at e ⊢
 split at e
 ·rename_i nm n r e0 n' m cs
  obtain⟨g1,g2⟩:=GT.qh e
  simp only[Ag]at g1
  obtain rfl:=Am g1.1
  obtain⟨rfl,hn2,l,rfl,h4,rfl⟩:=vV g1.2
  have key:=zA (Step:= @zy (zL base) c base I (qV Tryz.prog 14 0) 148 4 100 [(1,ints .i64 l)]) (step:=km) (fin:=fun p=>(.exit 0,qT p.1 l.length p.2.1 p.2.2)) (st:=fun p j=>stA p.1 l.length p.2.1 p.2.2 j) (l:=l) (fun s=>by simp) (fun s a r h=>by
    unfold km at h
    cases hb:bad a<;>rw[hb]at h<;>cases h;simp) (fun p j hj=>by
    have h1:=ltI hj
    have h2:=geI j
    have h3:=j7 hj
    have h4:(0+((j:Int)).toNat*1)=j:=by simp
    have h5:=wrI j (by omega)
    have hr:=round p.1 l.length p.2.1 p.2.2 j (ints .i64 l)
    simp only[h1,h2,h3,h4,h5,vF _ l hj,wN _ l hj,Ai]at hr
    unfold km bad
    cases e1:decide (l[j]<0)<;>cases e2:decide (l[j]>4)<;>rw[e1,e2]at hr<;>exact stepT qf qd (by simp) (by simp) hP hn hG hI hIL hr) (fun p=>by
    have h1:=j6 l.length
    have hr:=round p.1 l.length p.2.1 p.2.2 l.length (ints .i64 l)
    simp only[h1,Ah]at hr
    exact stepT qf qd (by simp) (by simp) hP hn hG hI hIL hr) l.length 0 (nm,r,e0) (by omega)
  rw[AD]at key
  unfold km at key
  rw[xK]at key
  rw[h4]at g2
  cases hb:l.any bad with
  |true=>rw[hb]at key g2;cases g2;exact key
  |false=>rw[hb]at key g2;cases g2;exact key
 ·cases e
end A14L0
namespace A14L1
noncomputable def cfg:Cfg:=zw Tryz.prog 4 (gpT []) (ltT 4 [])
def stA (r:Int) (ok:Bool) (n:Nat) (i:Int):KX:=⟨[(11,.int .i64 r),(12,.bool ok),(95,.slice (some ⟨1,0,none⟩) n 1),(96,.int .i64 (Int.ofNat n)),(97,.int .i64 i)],[]⟩
def qT (r:Int) (ok:Bool):KX:=⟨[(11,.int .i64 r),(12,.bool ok)],[]⟩
def kp:Ex→List Nat
 | .normal=>[11,12,95,96,97]
 | .exit _=>[11,12]
 |_=>[]
theorem round (r:Int) (ok:Bool) (n:Nat) (i:Int) (cs:List Value):zN cfg [] [] 14 1 (stK 148 104 [(1,cs)] (stA r ok n i)) (zv 104 100 148 kp (fun _ _=>[]))=(let x1:=IntKind.wrap .i64 (i+1);let x2:=0+(i.toNat*1);(bif decide (i<(Int.ofNat n))then(bif decide (0≤i)then(bif Nat.blt i.toNat n then(bif isV cs x2 (.i .i64)then(bif ok then(bif((rdI cs x2)==0)then(some (.normal,stA r true n x1))else(bif((rdI cs x2)==4)then(some (.normal,stA r true n x1))else(some (.normal,stA r false n x1))))else(some (.normal,stA r false n x1)))else none)else none)else none)else(some (.exit 3,qT r ok)))):=by kernel_rfl
def ok1 (k:Int):Bool:=k==0||k==4
def D:KD:=⟨148,104,100,[11,12,95,96,97],[1],fun _=>[],fun x ro=>match x.vs,x.cars,ro with
 |[(11,.int .i64 r),(12,.bool ok),(95,.slice (some ⟨1,0,none⟩) n 1),(96,.int .i64 m),(97,.int .i64 0)],[],[(1,cs)]=>
  .qI (wm n m cs) (.out (.exit 3,qT r ((cs.map vH).foldl (fun b k=>b&&ok1 k) ok)))
 |_,_,_=> .no⟩
def lp:LpK:=⟨14,35,1,D⟩
theorem qE:zq Tryz.prog La 4 lp:=by
 refine⟨by kernel_rfl,fun c base I hP hn hG hI hIL x ro ex y e=> ?_⟩
 obtain⟨vs,cars⟩:=x
 simp only[lp,D]at e ⊢
 split at e
 ·rename_i r ok n m cs
  obtain⟨g1,g2⟩:=GT.qh e
  obtain⟨rfl,hn2,l,rfl,h4,rfl⟩:=vV g1
  have key:=zA (Step:= @zy (zL base) c base I (qV Tryz.prog 14 1) 148 104 100 [(1,ints .i64 l)]) (step:=fun b k=> .inl (b&&ok1 k)) (fin:=fun b=>(.exit 3,qT r b)) (st:=fun b j=>stA r b l.length j) (l:=l) (fun s=>by simp) (fun s a r h=>by cases h) (fun b j hj=>by
    have h1:=ltI hj
    have h2:=geI j
    have h3:=j7 hj
    have h4:(0+((j:Int)).toNat*1)=j:=by simp
    have h5:=wrI j (by omega)
    have hr:=round r b l.length j (ints .i64 l)
    simp only[h1,h2,h3,h4,h5,vF _ l hj,wN _ l hj,Ai]at hr
    refine stepT qf qd (by simp) (by simp) hP hn hG hI hIL (hr.trans ?_)
    unfold ok1
    cases b<;>cases e1:(l[j]==0)<;>cases e2:(l[j]==4)<;>simp[e1,e2]) (fun b=>by
    have h1:=j6 l.length
    have hr:=round r b l.length l.length (ints .i64 l)
    simp only[h1,Ah]at hr
    exact stepT qf qd (by simp) (by simp) hP hn hG hI hIL hr) l.length 0 ok (by omega)
  rw[AD,kJ]at key
  cases g2
  rw[h4]
  exact key
 ·cases e
end A14L1
namespace A14L1b
noncomputable def cfg:Cfg:=zw Tryz.prog 4 (gpT []) (ltT 4 [])
def stA (r:Int) (ok:Bool) (n:Nat) (i:Int):KX:=⟨[(11,.int .i64 r),(12,.bool ok),(95,.slice (some ⟨1,0,none⟩) n 1),(96,.int .i64 (Int.ofNat n)),(97,.int .i64 i)],[]⟩
def qT (r:Int) (ok:Bool):KX:=⟨[(11,.int .i64 r),(12,.bool ok)],[]⟩
def kp:Ex→List Nat
 | .normal=>[11,12,95,96,97]
 | .exit _=>[11,12]
 |_=>[]
theorem round (r:Int) (ok:Bool) (n:Nat) (i:Int) (cs:List Value):zN cfg [] [] 14 1 (stK 148 106 [(1,cs)] (stA r ok n i)) (zv 106 100 148 kp (fun _ _=>[]))=(let x1:=IntKind.wrap .i64 (i+1);let x2:=0+(i.toNat*1);(bif decide (i<(Int.ofNat n))then(bif decide (0≤i)then(bif Nat.blt i.toNat n then(bif isV cs x2 (.i .i64)then(bif ok then(bif((rdI cs x2)==0)then(some (.normal,stA r true n x1))else(bif((rdI cs x2)==4)then(some (.normal,stA r true n x1))else(some (.normal,stA r false n x1))))else(some (.normal,stA r false n x1)))else none)else none)else none)else(some (.exit 3,qT r ok)))):=by kernel_rfl
def ok1 (k:Int):Bool:=k==0||k==4
def D:KD:=⟨148,106,100,[11,12,95,96,97],[1],fun _=>[],fun x ro=>match x.vs,x.cars,ro with
 |[(11,.int .i64 r),(12,.bool ok),(95,.slice (some ⟨1,0,none⟩) n 1),(96,.int .i64 m),(97,.int .i64 0)],[],[(1,cs)]=>
  .qI (wm n m cs) (.out (.exit 3,qT r ((cs.map vH).foldl (fun b k=>b&&ok1 k) ok)))
 |_,_,_=> .no⟩
def lp:LpK:=⟨14,35,1,D⟩
theorem qE:zq Tryz.prog La 4 lp:=by
 refine⟨by kernel_rfl,fun c base I hP hn hG hI hIL x ro ex y e=> ?_⟩
 obtain⟨vs,cars⟩:=x
 simp only[lp,D]at e ⊢
 split at e
 ·rename_i r ok n m cs
  obtain⟨g1,g2⟩:=GT.qh e
  obtain⟨rfl,hn2,l,rfl,h4,rfl⟩:=vV g1
  have key:=zA (Step:= @zy (zL base) c base I (qV Tryz.prog 14 1) 148 106 100 [(1,ints .i64 l)]) (step:=fun b k=> .inl (b&&ok1 k)) (fin:=fun b=>(.exit 3,qT r b)) (st:=fun b j=>stA r b l.length j) (l:=l) (fun s=>by simp) (fun s a r h=>by cases h) (fun b j hj=>by
    have h1:=ltI hj
    have h2:=geI j
    have h3:=j7 hj
    have h4:(0+((j:Int)).toNat*1)=j:=by simp
    have h5:=wrI j (by omega)
    have hr:=round r b l.length j (ints .i64 l)
    simp only[h1,h2,h3,h4,h5,vF _ l hj,wN _ l hj,Ai]at hr
    refine stepT qf qd (by simp) (by simp) hP hn hG hI hIL (hr.trans ?_)
    unfold ok1
    cases b<;>cases e1:(l[j]==0)<;>cases e2:(l[j]==4)<;>simp[e1,e2]) (fun b=>by
    have h1:=j6 l.length
    have hr:=round r b l.length l.length (ints .i64 l)
    simp only[h1,Ah]at hr
    exact stepT qf qd (by simp) (by simp) hP hn hG hI hIL hr) l.length 0 ok (by omega)
  rw[AD,kJ]at key
  cases g2
  rw[h4]
  exact key
 ·cases e
end A14L1b
namespace A14L1c
noncomputable def cfg:Cfg:=zw Tryz.prog 4 (gpT []) (ltT 4 [])
def stA (r:Int) (ok:Bool) (n:Nat) (i:Int):KX:=⟨[(11,.int .i64 r),(12,.bool ok),(95,.slice (some ⟨1,0,none⟩) n 1),(96,.int .i64 (Int.ofNat n)),(97,.int .i64 i)],[]⟩
def qT (r:Int) (ok:Bool):KX:=⟨[(11,.int .i64 r),(12,.bool ok)],[]⟩
def kp:Ex→List Nat
 | .normal=>[11,12,95,96,97]
 | .exit _=>[11,12]
 |_=>[]
theorem round (r:Int) (ok:Bool) (n:Nat) (i:Int) (cs:List Value):zN cfg [] [] 14 1 (stK 148 105 [(1,cs)] (stA r ok n i)) (zv 105 100 148 kp (fun _ _=>[]))=(let x1:=IntKind.wrap .i64 (i+1);let x2:=0+(i.toNat*1);(bif decide (i<(Int.ofNat n))then(bif decide (0≤i)then(bif Nat.blt i.toNat n then(bif isV cs x2 (.i .i64)then(bif ok then(bif((rdI cs x2)==0)then(some (.normal,stA r true n x1))else(bif((rdI cs x2)==4)then(some (.normal,stA r true n x1))else(some (.normal,stA r false n x1))))else(some (.normal,stA r false n x1)))else none)else none)else none)else(some (.exit 3,qT r ok)))):=by kernel_rfl
def ok1 (k:Int):Bool:=k==0||k==4
def D:KD:=⟨148,105,100,[11,12,95,96,97],[1],fun _=>[],fun x ro=>match x.vs,x.cars,ro with
 |[(11,.int .i64 r),(12,.bool ok),(95,.slice (some ⟨1,0,none⟩) n 1),(96,.int .i64 m),(97,.int .i64 0)],[],[(1,cs)]=>
  .qI (wm n m cs) (.out (.exit 3,qT r ((cs.map vH).foldl (fun b k=>b&&ok1 k) ok)))
 |_,_,_=> .no⟩
def lp:LpK:=⟨14,35,1,D⟩
theorem qE:zq Tryz.prog La 4 lp:=by
 refine⟨by kernel_rfl,fun c base I hP hn hG hI hIL x ro ex y e=> ?_⟩
 obtain⟨vs,cars⟩:=x
 simp only[lp,D]at e ⊢
 split at e
 ·rename_i r ok n m cs
  obtain⟨g1,g2⟩:=GT.qh e
  obtain⟨rfl,hn2,l,rfl,h4,rfl⟩:=vV g1
  have key:=zA (Step:= @zy (zL base) c base I (qV Tryz.prog 14 1) 148 105 100 [(1,ints .i64 l)]) (step:=fun b k=> .inl (b&&ok1 k)) (fin:=fun b=>(.exit 3,qT r b)) (st:=fun b j=>stA r b l.length j) (l:=l) (fun s=>by simp) (fun s a r h=>by cases h) (fun b j hj=>by
    have h1:=ltI hj
    have h2:=geI j
    have h3:=j7 hj
    have h4:(0+((j:Int)).toNat*1)=j:=by simp
    have h5:=wrI j (by omega)
    have hr:=round r b l.length j (ints .i64 l)
    simp only[h1,h2,h3,h4,h5,vF _ l hj,wN _ l hj,Ai]at hr
    refine stepT qf qd (by simp) (by simp) hP hn hG hI hIL (hr.trans ?_)
    unfold ok1
    cases b<;>cases e1:(l[j]==0)<;>cases e2:(l[j]==4)<;>simp[e1,e2]) (fun b=>by
    have h1:=j6 l.length
    have hr:=round r b l.length l.length (ints .i64 l)
    simp only[h1,Ah]at hr
    exact stepT qf qd (by simp) (by simp) hP hn hG hI hIL hr) l.length 0 ok (by omega)
  rw[AD,kJ]at key
  cases g2
  rw[h4]
  exact key
 ·cases e
end A14L1c
namespace A14n
def T (s0:ByteArray):GT Value:=let o1:GT Value:=(.out (.tuple #[.int .i64 0,.int .i64 100]));(.br (eqU s0.data.toList [97,98,115]) o1 (.br (eqU s0.data.toList [99,101,105,108]) o1 (.br (eqU s0.data.toList [102,108,111,111,114]) o1 (.br (eqU s0.data.toList [114,111,117,110,100]) o1 (.br (eqU s0.data.toList [115,105,103,110]) o1 (.br (eqU s0.data.toList [116,111,105,110,116]) o1 (.br (eqU s0.data.toList [116,111,100,101,99]) o1 (.br (eqU s0.data.toList [99,111,97,108,101,115,99,101]) o1 (.br (eqU s0.data.toList [103,114,101,97,116,101,115,116]) o1 (.br (eqU s0.data.toList [108,101,97,115,116]) o1 (.br (eqU s0.data.toList [110,117,108,108,105,102]) o1 (.br (eqU s0.data.toList [99,111,110,99,97,116]) o1 (.br (eqU s0.data.toList [108,101,110,103,116,104]) o1 (.br (eqU s0.data.toList [108,111,119,101,114]) o1 (.br (eqU s0.data.toList [117,112,112,101,114]) o1 (.br (eqU s0.data.toList [116,114,105,109]) o1 (.br (eqU s0.data.toList [116,111,116,101,120,116]) o1 (.br (eqU s0.data.toList [115,117,98,115,116,114]) o1 o1))))))))))))))))))
theorem run (s0:ByteArray):runK 4 [(52,A52.spec),(53,A53.spec)] [A14L0.lp,A14L1.lp,A14L1b.lp,A14L1c.lp] 14 [.v (.string s0),.nil]=(T s0).eval:=by kernel_rfl
end A14n
namespace A14
def T (s0:ByteArray) (m1:Nat) (c1:List Value):GT Value:=let y18:=(c1.drop 0).take (m1*1);let x1:=A53.res (y18.map vH);let o1:GT Value:=(.out (.tuple #[.int .i64 0,.int .i64 100]));let o2:GT Value:=(.out (.tuple #[.int .i64 (rdI c1 0),.int .i64 0]));let y25:=(rdI c1 0)==0;let y11:=y25||(((rdI c1 0)==2)||((rdI c1 0)==3));let y15:=isV c1 0 (.i .i64);let y17:=Nat.blt 0 m1;let o3:GT Value:=(.br y11 (.br y17 (.br y15 o2 .no) .no) o1);let o4:GT Value:=(.out (.tuple #[.int .i64 2,.int .i64 0]));let o5:GT Value:=(.br (!y11) o1 o4);let o6:GT Value:=(.br (!y11) o1 (.out (.tuple #[.int .i64 3,.int .i64 0])));let y2:=Int.ofNat m1;let y26:=wm m1 y2 y18;let o7:GT Value:=(.br (([((fun(cs:List Value)=>((0+m1*1).ble cs.length&&(List.take (m1*1) (List.drop 0 cs)).all qp,AA.sl m1 1 (List.take (m1*1) (List.drop 0 cs)))) c1)]).all fun x=>x.fst) (.br y26 (.br (x1.2) (.br (!decide (y2≥1)) o1 (.out (.tuple #[.int .i64 x1.1,.int .i64 0]))) o1) .no) .no);let o8:GT Value:=(.br (y2==2) (.br (([((fun(cs:List Value)=>((0+m1*1).ble cs.length&&(List.take (m1*1) (List.drop 0 cs)).all qp,AA.sl m1 1 (List.take (m1*1) (List.drop 0 cs)))) c1)]).all fun x=>x.fst) (.br y26 (.br y17 (.br y15 (.br (!x1.2) o1 o2) .no) .no) .no) .no) o1);let o9:GT Value:=(.out (.tuple #[.int .i64 4,.int .i64 0]));let y16:=y25||((rdI c1 0)==4);let o10:GT Value:=(.br (!y16) o1 o9);let o11:GT Value:=(.br (eqU s0.data.toList [116,111,116,101,120,116]) (.br (!(y2==1)) o1 o9) (.br (eqU s0.data.toList [115,117,98,115,116,114]) (.br (y2==3) (.br y17 (.br y15 (.br y16 (.br (Nat.blt 1 m1) (.br (isV c1 1 (.i .i64)) (.br (((rdI c1 1)==0)||((rdI c1 1)==2)) (.br (Nat.blt 2 m1) (.br (isV c1 2 (.i .i64)) (.br (!(((rdI c1 2)==0)||((rdI c1 2)==2))) o1 o9) .no) .no) o1) .no) .no) o1) .no) .no) o1) o1));let y19:=eqU s0.data.toList [108,101,110,103,116,104];let y20:=eqU s0.data.toList [108,111,119,101,114];let y21:=eqU s0.data.toList [117,112,112,101,114];let y22:=eqU s0.data.toList [116,114,105,109];let o12:GT Value:=(.br y19 (.br (!y16) o1 o4) (.br y20 o10 (.br y21 o10 (.br y22 o10 o11))));let y23:=wm m1 y2 c1;let y24:=decide (y2≥1);let o13:GT Value:=(.br (true&&([((1:Nat),c1)]).all fun p=>p.snd.all qp) (.br y23 (.br (!(List.foldl (fun b k=>b&&A14L1c.ok1 k) y24 (List.map vH c1))) o1 o9) .no) .no);let o14:GT Value:=(.br y19 o1 (.br y20 o1 (.br y21 o1 (.br y22 o1 o11))));let y1:=eqU s0.data.toList [103,114,101,97,116,101,115,116];let y3:=eqU s0.data.toList [99,111,97,108,101,115,99,101];let y4:=eqU s0.data.toList [110,117,108,108,105,102];let y5:=eqU s0.data.toList [99,111,110,99,97,116];let y6:=eqU s0.data.toList [102,108,111,111,114];let y7:=eqU s0.data.toList [114,111,117,110,100];let y8:=eqU s0.data.toList [116,111,105,110,116];let y9:=eqU s0.data.toList [116,111,100,101,99];let y10:=eqU s0.data.toList [108,101,97,115,116];let y12:=eqU s0.data.toList [115,105,103,110];let y13:=eqU s0.data.toList [99,101,105,108];let y14:=eqU s0.data.toList [97,98,115];(.br (true&&([((1:Nat),c1)]).all fun p=>p.snd.all qp) (.br (Nat.beq m1 m1&&y23) (.br ((List.map vH c1).any A14L0.bad) o1 (.br (y2==1) (.br y17 (.br y15 (.br (y2==1) (.br y17 (.br y15 (.br y14 o3 (.br y13 o5 (.br y6 o5 (.br y7 o5 (.br y12 o5 (.br y8 o5 (.br y9 o6 (.br y3 o7 (.br y1 o7 (.br y10 o7 (.br y4 o8 (.br y5 (.br (true&&([((1:Nat),c1)]).all fun p=>p.snd.all qp) (.br y23 (.br (!(List.foldl (fun b k=>b&&A14L1b.ok1 k) y24 (List.map vH c1))) o1 o9) .no) .no) o12)))))))))))) .no) .no) (.br y14 o3 (.br y13 o5 (.br y6 o5 (.br y7 o5 (.br y12 o5 (.br y8 o5 (.br y9 o6 (.br y3 o7 (.br y1 o7 (.br y10 o7 (.br y4 o8 (.br y5 o13 o14))))))))))))) .no) .no) (.br (y2==1) (.br y17 (.br y15 (.br y14 o1 (.br y13 o1 (.br y6 o1 (.br y7 o1 (.br y12 o1 (.br y8 o1 (.br y9 o1 (.br y3 o7 (.br y1 o7 (.br y10 o7 (.br y4 o8 (.br y5 o13 o12)))))))))))) .no) .no) (.br y14 o1 (.br y13 o1 (.br y6 o1 (.br y7 o1 (.br y12 o1 (.br y8 o1 (.br y9 o1 (.br y3 o7 (.br y1 o7 (.br y10 o7 (.br y4 o8 (.br y5 (.br (true&&([((1:Nat),c1)]).all fun p=>p.snd.all qp) (.br y23 (.br (!(List.foldl (fun b k=>b&&A14L1.ok1 k) y24 (List.map vH c1))) o1 o9) .no) .no) o14))))))))))))))) .no) .no)
theorem run (s0:ByteArray) (m1:Nat) (c1:List Value):runK 4 [(52,A52.spec),(53,A53.spec)] [A14L0.lp,A14L1.lp,A14L1b.lp,A14L1c.lp] 14 [.v (.string s0),.sl m1 1 c1]=(T s0 m1 c1).eval:=by kernel_rfl
def r (b:Bool) (k:Int):Value:=bif b then .tuple #[.int .i64 k,.int .i64 0]else .tuple #[.int .i64 0,.int .i64 100]
def num:List Int→Bool|[a]=>a==0||(a==2||a==3)|_=>false
def txt:List Int→Bool|[a]=>a==0||a==4|_=>false
def sub:List Int→Bool|[a,b,c]=>(a==0||a==4)&&((b==0||b==2)&&(c==0||c==2))|_=>false
def KM (s:ByteArray) (l:List Int):Value:=
 bif l.any A14L0.bad then r false 0 else
 bif eqU s.data.toList [97,98,115]then r (num l) (l.headD 0)else
 bif eqU s.data.toList [99,101,105,108]then r (num l) 2 else
 bif eqU s.data.toList [102,108,111,111,114]then r (num l) 2 else
 bif eqU s.data.toList [114,111,117,110,100]then r (num l) 2 else
 bif eqU s.data.toList [115,105,103,110]then r (num l) 2 else
 bif eqU s.data.toList [116,111,105,110,116]then r (num l) 2 else
 bif eqU s.data.toList [116,111,100,101,99]then r (num l) 3 else
 bif eqU s.data.toList [99,111,97,108,101,115,99,101]then r ((A53.res l).2&&decide (Int.ofNat l.length≥1)) (A53.res l).1 else
 bif eqU s.data.toList [103,114,101,97,116,101,115,116]then r ((A53.res l).2&&decide (Int.ofNat l.length≥1)) (A53.res l).1 else
 bif eqU s.data.toList [108,101,97,115,116]then r ((A53.res l).2&&decide (Int.ofNat l.length≥1)) (A53.res l).1 else
 bif eqU s.data.toList [110,117,108,108,105,102]then r (Int.ofNat l.length==2&&(A53.res l).2) (l.headD 0)else
 bif eqU s.data.toList [99,111,110,99,97,116]then r (l.foldl (fun b k=>b&&A14L1.ok1 k) (decide (Int.ofNat l.length≥1))) 4 else
 bif eqU s.data.toList [108,101,110,103,116,104]then r (txt l) 2 else
 bif eqU s.data.toList [108,111,119,101,114]then r (txt l) 4 else
 bif eqU s.data.toList [117,112,112,101,114]then r (txt l) 4 else
 bif eqU s.data.toList [116,114,105,109]then r (txt l) 4 else
 bif eqU s.data.toList [116,111,116,101,120,116]then r (Int.ofNat l.length==1) 4 else
 bif eqU s.data.toList [115,117,98,115,116,114]then r (sub l) 4 else
 r false 0
theorem tX (l:List Int):(true&&[((1:Nat),ints .i64 l)].all fun p=>p.2.all qp)=true:=by simp[qZ]
theorem we (l:List Int):((ints .i64 l).drop 0).take (l.length*1)=ints .i64 l:=by rw[AD,BY];exact AJ (by rw[zH];exact Aw _)
theorem rQ (l:List Int):([(fun(cs:List Value)=>((0+l.length*1).ble cs.length&&(List.take (l.length*1) (List.drop 0 cs)).all qp,AA.sl l.length 1 (List.take (l.length*1) (List.drop 0 cs)))) (ints .i64 l)].all fun x=>x.fst)=true:=by
 simp only[A1,BS,we,qZ,AE,zH];rw[Az];omega
set_option maxHeartbeats 0 in
theorem qN (s:ByteArray) (l:List Int) (hl:l.length<4611686018427387904):(T s l.length (ints .i64 l)).eval=some (KM s l):=by
 have g:=xP hl
 have a1:=tX l
 have a2:=rQ l
 have a3:=we l
 have a4:Nat.beq l.length l.length=true:=A5 _
 unfold T KM
 dsimp only[]at a1 a2 ⊢
 simp only[a3]at a2
 simp only[a1,a2,a3,a4,g,jG,GT.eval,AF,Ai]
 cases hb:l.any A14L0.bad
 case true=>rfl
 clear a1 a2 a3 a4 g hb
 have b1:A14L1b.ok1=A14L1.ok1:=rfl
 have b2:A14L1c.ok1=A14L1.ok1:=rfl
 simp only[b1,b2]
 generalize A53.res l=x
 obtain⟨x1,x2⟩:=x
 generalize List.foldl (fun b k=>b&&A14L1.ok1 k) (decide (Int.ofNat l.length≥1)) l=y
 generalize eqU s.data.toList [97,98,115]=n0
 generalize eqU s.data.toList [99,101,105,108]=n1
 generalize eqU s.data.toList [102,108,111,111,114]=n2
 generalize eqU s.data.toList [114,111,117,110,100]=n3
 generalize eqU s.data.toList [115,105,103,110]=n4
 generalize eqU s.data.toList [116,111,105,110,116]=n5
 generalize eqU s.data.toList [116,111,100,101,99]=n6
 generalize eqU s.data.toList [99,111,97,108,101,115,99,101]=n7
 generalize eqU s.data.toList [103,114,101,97,116,101,115,116]=n8
 generalize eqU s.data.toList [108,101,97,115,116]=n9
 generalize eqU s.data.toList [110,117,108,108,105,102]=n10
 generalize eqU s.data.toList [99,111,110,99,97,116]=n11
 generalize eqU s.data.toList [108,101,110,103,116,104]=n12
 generalize eqU s.data.toList [108,111,119,101,114]=n13
 generalize eqU s.data.toList [117,112,112,101,114]=n14
 generalize eqU s.data.toList [116,114,105,109]=n15
 generalize eqU s.data.toList [116,111,116,101,120,116]=n16
 generalize eqU s.data.toList [115,117,98,115,116,114]=n17
 match l,hl with
 |[],_=>
  cases n0
  case true=>cases x2<;>cases y<;>rfl
  cases n1
  case true=>cases x2<;>cases y<;>rfl
  cases n2
  case true=>cases x2<;>cases y<;>rfl
  cases n3
  case true=>cases x2<;>cases y<;>rfl
  cases n4
  case true=>cases x2<;>cases y<;>rfl
  cases n5
  case true=>cases x2<;>cases y<;>rfl
  cases n6
  case true=>cases x2<;>cases y<;>rfl
  cases n7
  case true=>cases x2<;>cases y<;>rfl
  cases n8
  case true=>cases x2<;>cases y<;>rfl
  cases n9
  case true=>cases x2<;>cases y<;>rfl
  cases n10
  case true=>cases x2<;>cases y<;>rfl
  cases n11
  case true=>cases x2<;>cases y<;>rfl
  cases n12
  case true=>cases x2<;>cases y<;>rfl
  cases n13
  case true=>cases x2<;>cases y<;>rfl
  cases n14
  case true=>cases x2<;>cases y<;>rfl
  cases n15
  case true=>cases x2<;>cases y<;>rfl
  cases n16
  case true=>cases x2<;>cases y<;>rfl
  cases n17
  case true=>cases x2<;>cases y<;>rfl
  rfl
 |[a],_=>
  have q0:rdI (ints .i64 [a]) 0=a:=rfl
  simp only[q0]
  dsimp only[num,txt,sub]
  generalize (a==0)=e0
  generalize (a==2)=e2
  generalize (a==3)=e3
  generalize (a==4)=e4
  cases n0
  case true=>cases x2<;>cases y<;>cases e0<;>cases e2<;>cases e3<;>cases e4<;>rfl
  cases n1
  case true=>cases x2<;>cases y<;>cases e0<;>cases e2<;>cases e3<;>cases e4<;>rfl
  cases n2
  case true=>cases x2<;>cases y<;>cases e0<;>cases e2<;>cases e3<;>cases e4<;>rfl
  cases n3
  case true=>cases x2<;>cases y<;>cases e0<;>cases e2<;>cases e3<;>cases e4<;>rfl
  cases n4
  case true=>cases x2<;>cases y<;>cases e0<;>cases e2<;>cases e3<;>cases e4<;>rfl
  cases n5
  case true=>cases x2<;>cases y<;>cases e0<;>cases e2<;>cases e3<;>cases e4<;>rfl
  cases n6
  case true=>cases x2<;>cases y<;>cases e0<;>cases e2<;>cases e3<;>cases e4<;>rfl
  cases n7
  case true=>cases x2<;>cases y<;>cases e0<;>cases e2<;>cases e3<;>cases e4<;>rfl
  cases n8
  case true=>cases x2<;>cases y<;>cases e0<;>cases e2<;>cases e3<;>cases e4<;>rfl
  cases n9
  case true=>cases x2<;>cases y<;>cases e0<;>cases e2<;>cases e3<;>cases e4<;>rfl
  cases n10
  case true=>cases x2<;>cases y<;>cases e0<;>cases e2<;>cases e3<;>cases e4<;>rfl
  cases n11
  case true=>cases x2<;>cases y<;>cases e0<;>cases e2<;>cases e3<;>cases e4<;>rfl
  cases n12
  case true=>cases x2<;>cases y<;>cases e0<;>cases e2<;>cases e3<;>cases e4<;>rfl
  cases n13
  case true=>cases x2<;>cases y<;>cases e0<;>cases e2<;>cases e3<;>cases e4<;>rfl
  cases n14
  case true=>cases x2<;>cases y<;>cases e0<;>cases e2<;>cases e3<;>cases e4<;>rfl
  cases n15
  case true=>cases x2<;>cases y<;>cases e0<;>cases e2<;>cases e3<;>cases e4<;>rfl
  cases n16
  case true=>cases x2<;>cases y<;>cases e0<;>cases e2<;>cases e3<;>cases e4<;>rfl
  cases n17
  case true=>cases x2<;>cases y<;>cases e0<;>cases e2<;>cases e3<;>cases e4<;>rfl
  rfl
 |[a,b],_=>
  cases n0
  case true=>cases x2<;>cases y<;>rfl
  cases n1
  case true=>cases x2<;>cases y<;>rfl
  cases n2
  case true=>cases x2<;>cases y<;>rfl
  cases n3
  case true=>cases x2<;>cases y<;>rfl
  cases n4
  case true=>cases x2<;>cases y<;>rfl
  cases n5
  case true=>cases x2<;>cases y<;>rfl
  cases n6
  case true=>cases x2<;>cases y<;>rfl
  cases n7
  case true=>cases x2<;>cases y<;>rfl
  cases n8
  case true=>cases x2<;>cases y<;>rfl
  cases n9
  case true=>cases x2<;>cases y<;>rfl
  cases n10
  case true=>cases x2<;>cases y<;>rfl
  cases n11
  case true=>cases x2<;>cases y<;>rfl
  cases n12
  case true=>cases x2<;>cases y<;>rfl
  cases n13
  case true=>cases x2<;>cases y<;>rfl
  cases n14
  case true=>cases x2<;>cases y<;>rfl
  cases n15
  case true=>cases x2<;>cases y<;>rfl
  cases n16
  case true=>cases x2<;>cases y<;>rfl
  cases n17
  case true=>cases x2<;>cases y<;>rfl
  rfl
 |[a,b,c],_=>
  have q0:rdI (ints .i64 [a,b,c]) 0=a:=rfl
  have q1:rdI (ints .i64 [a,b,c]) 1=b:=rfl
  have q2:rdI (ints .i64 [a,b,c]) 2=c:=rfl
  simp only[q0,q1,q2]
  dsimp only[num,txt,sub]
  generalize (a==0)=e0
  generalize (a==4)=e1
  generalize (b==0)=e2
  generalize (b==2)=e3
  generalize (c==0)=e4
  generalize (c==2)=e5
  cases n0
  case true=>cases x2<;>cases y<;>cases e0<;>cases e1<;>cases e2<;>cases e3<;>cases e4<;>cases e5<;>rfl
  cases n1
  case true=>cases x2<;>cases y<;>cases e0<;>cases e1<;>cases e2<;>cases e3<;>cases e4<;>cases e5<;>rfl
  cases n2
  case true=>cases x2<;>cases y<;>cases e0<;>cases e1<;>cases e2<;>cases e3<;>cases e4<;>cases e5<;>rfl
  cases n3
  case true=>cases x2<;>cases y<;>cases e0<;>cases e1<;>cases e2<;>cases e3<;>cases e4<;>cases e5<;>rfl
  cases n4
  case true=>cases x2<;>cases y<;>cases e0<;>cases e1<;>cases e2<;>cases e3<;>cases e4<;>cases e5<;>rfl
  cases n5
  case true=>cases x2<;>cases y<;>cases e0<;>cases e1<;>cases e2<;>cases e3<;>cases e4<;>cases e5<;>rfl
  cases n6
  case true=>cases x2<;>cases y<;>cases e0<;>cases e1<;>cases e2<;>cases e3<;>cases e4<;>cases e5<;>rfl
  cases n7
  case true=>cases x2<;>cases y<;>cases e0<;>cases e1<;>cases e2<;>cases e3<;>cases e4<;>cases e5<;>rfl
  cases n8
  case true=>cases x2<;>cases y<;>cases e0<;>cases e1<;>cases e2<;>cases e3<;>cases e4<;>cases e5<;>rfl
  cases n9
  case true=>cases x2<;>cases y<;>cases e0<;>cases e1<;>cases e2<;>cases e3<;>cases e4<;>cases e5<;>rfl
  cases n10
  case true=>cases x2<;>cases y<;>cases e0<;>cases e1<;>cases e2<;>cases e3<;>cases e4<;>cases e5<;>rfl
  cases n11
  case true=>cases x2<;>cases y<;>cases e0<;>cases e1<;>cases e2<;>cases e3<;>cases e4<;>cases e5<;>rfl
  cases n12
  case true=>cases x2<;>cases y<;>cases e0<;>cases e1<;>cases e2<;>cases e3<;>cases e4<;>cases e5<;>rfl
  cases n13
  case true=>cases x2<;>cases y<;>cases e0<;>cases e1<;>cases e2<;>cases e3<;>cases e4<;>cases e5<;>rfl
  cases n14
  case true=>cases x2<;>cases y<;>cases e0<;>cases e1<;>cases e2<;>cases e3<;>cases e4<;>cases e5<;>rfl
  cases n15
  case true=>cases x2<;>cases y<;>cases e0<;>cases e1<;>cases e2<;>cases e3<;>cases e4<;>cases e5<;>rfl
  cases n16
  case true=>cases x2<;>cases y<;>cases e0<;>cases e1<;>cases e2<;>cases e3<;>cases e4<;>cases e5<;>rfl
  cases n17
  case true=>cases x2<;>cases y<;>cases e0<;>cases e1<;>cases e2<;>cases e3<;>cases e4<;>cases e5<;>rfl
  rfl
 |a::b::c::d::l',_=>
  have h1:(Int.ofNat (a::b::c::d::l').length==1)=false:=Ao.mpr (by simp only[AK];intro h;have:=Cl (h.trans (show (1:Int)=Int.ofNat 1 from rfl));omega)
  have h2:(Int.ofNat (a::b::c::d::l').length==2)=false:=Ao.mpr (by simp only[AK];intro h;have:=Cl (h.trans (show (2:Int)=Int.ofNat 2 from rfl));omega)
  have h3:(Int.ofNat (a::b::c::d::l').length==3)=false:=Ao.mpr (by simp only[AK];intro h;have:=Cl (h.trans (show (3:Int)=Int.ofNat 3 from rfl));omega)
  have h4:decide (Int.ofNat (a::b::c::d::l').length≥1)=true:=Al (by show (1:Int)≤((a::b::c::d::l').length:Int);simp only[AK];omega)
  simp only[h1,h2,h3,h4,Ah,num,txt,sub,BU,AE]
  cases n0
  case true=>cases x2<;>cases y<;>rfl
  cases n1
  case true=>cases x2<;>cases y<;>rfl
  cases n2
  case true=>cases x2<;>cases y<;>rfl
  cases n3
  case true=>cases x2<;>cases y<;>rfl
  cases n4
  case true=>cases x2<;>cases y<;>rfl
  cases n5
  case true=>cases x2<;>cases y<;>rfl
  cases n6
  case true=>cases x2<;>cases y<;>rfl
  cases n7
  case true=>cases x2<;>cases y<;>rfl
  cases n8
  case true=>cases x2<;>cases y<;>rfl
  cases n9
  case true=>cases x2<;>cases y<;>rfl
  cases n10
  case true=>cases x2<;>cases y<;>rfl
  cases n11
  case true=>cases x2<;>cases y<;>rfl
  cases n12
  case true=>cases x2<;>cases y<;>rfl
  cases n13
  case true=>cases x2<;>cases y<;>rfl
  cases n14
  case true=>cases x2<;>cases y<;>rfl
  cases n15
  case true=>cases x2<;>cases y<;>rfl
  cases n16
  case true=>cases x2<;>cases y<;>rfl
  cases n17
  case true=>cases x2<;>cases y<;>rfl
  rfl
theorem mR (b:Bool) (k:Int):pfd 3 (r b k)=true:=by cases b<;>rfl
theorem K8 (s:ByteArray) (l:List Int):pfd 3 (KM s l)=true:=by
 unfold KM
 repeat' (first|exact mR _ _|(refine Bool.rec (motive:=fun b=>pfd 3 (bif b then _ else _)=true) ?_ ?_ _<;>simp only[Ai,Ah]))
def spec:Spec:=fun aa=>match aa with
 |[.v (.string s),.sl n 1 cs]=>some (.qI (wm n (Int.ofNat n) cs) (.out (KM s (cs.map vH))))
 |[.v (.string s),.nil]=>some (.out (r false 0))
 |_=>none
theorem same {α:Type} (b:Bool) (x:α):(bif b then x else x)=x:=by cases b<;>rfl
theorem eO (s:ByteArray):(A14n.T s).eval=some (r false 0):=by
 unfold A14n.T
 simp only[GT.eval,same]
 rfl
theorem qg:qu Tryz.prog La 14 spec:=⟨qD (by kernel_rfl),fun aa t v h e=>by
 unfold spec at h
 split at h
 ·rename_i s n cs
  cases h
  obtain⟨g1,g2⟩:=GT.qh e
  cases g2
  obtain⟨_,hn,l,rfl,h4,rfl⟩:=vV g1
  rw[h4]
  exact⟨K8 _ _,qS qx qf qd (by simpa using⟨A52.qg,A53.qg qx⟩) (by simpa using⟨A14L0.qE,A14L1.qE,A14L1b.qE,A14L1c.qE⟩) (by decide) (by simp) (K8 _ _) ((run _ _ _).trans (qN _ _ hn))⟩
 ·cases h
  cases e
  exact⟨rfl,qS qx qf qd (by simpa using⟨A52.qg,A53.qg qx⟩) (by simpa using⟨A14L0.qE,A14L1.qE,A14L1b.qE,A14L1c.qE⟩) (by decide) (by simp) rfl ((A14n.run _).trans (eO _))⟩
 ·cases h⟩
end A14
namespace A75
def T (k0 n0:Int) (s0:ByteArray):GT Value:=let y1:=A127.dec k0 n0;let o1:GT Value:=(.br (k0==0) (.out (.tuple #[.agg #[.int .i64 0,.int .i64 0,.string ⟨#[]⟩],.int .i64 0])) (.br (((k0==2)||(k0==3))&&(inR n0)) (.br (!y1.2) (.out (.tuple #[.agg #[.int .i64 0,.int .i64 0,.string ⟨#[]⟩],.int .i64 20])) (.out (.tuple #[.agg #[.int .i64 3,.int .i64 y1.1,.string ⟨#[]⟩],.int .i64 0]))) .no));(.br (k0==2) o1 (.br (!(k0==3)) (.br (k0 != 0) (.out (.tuple #[.agg #[.int .i64 0,.int .i64 0,.string ⟨#[]⟩],.int .i64 22])) o1) o1))
theorem run (k0 n0:Int) (s0:ByteArray):runK 4 [(127,A127.spec)] [] 75 [.v (.agg #[.int .i64 k0,.int .i64 n0,.string s0])]=(T k0 n0 s0).eval:=by kernel_rfl
def kn (k n:Int):V3×Int:=if k=0 then(v0,0)else if k=2∨k=3 then(if(A127.dec k n).2=true then((3,(A127.dec k n).1,⟨#[]⟩),0)else(v0,20))else(v0,22)
theorem qN (k n:Int) (s:ByteArray) (h:inR n=true):(T k n s).eval=some (ve (kn k n)):=by
 unfold kn
 by_cases h0:k=0
 ·subst h0;simp[T,GT.eval,ve,vv,v0]
 ·by_cases h2 : k = 2
  ·subst h2;cases e:(A127.dec 2 n).2<;>simp[T,GT.eval,ve,vv,v0,h,e]
  ·by_cases h3 : k = 3
   ·subst h3;cases e:(A127.dec 3 n).2<;>simp[T,GT.eval,ve,vv,v0,h,e]
   ·simp[T,GT.eval,ve,vv,v0,h0,h2,h3,Ao.mpr h2,Ao.mpr h3,B8.mpr h0]
def spec:Spec:=fun aa=>match aa with
 |[a]=>(vOf a).bind fun x=>some (.qI (inR x.2.1) (.out (ve (kn x.1 x.2.1))))
 |_=>none
theorem qg:qu Tryz.prog La 75 spec:=⟨qD (by kernel_rfl),fun aa t v h e=>by
 unfold spec at h
 split at h
 ·rename_i a
  obtain⟨⟨k0,n0,s0⟩,h1,h⟩:=qi h
  cases h
  rw[qM h1]
  obtain⟨g1,g2⟩:=GT.qh e
  cases g2
  refine⟨rfl,qS qx qf qd ?_ (by simp) (by decide) (by simp) rfl ((run k0 n0 s0).trans (qN k0 n0 s0 g1))⟩
  intro p hp
  simp only[AX,AZ,or_false]at hp
  rcases hp with rfl
  exact A127.qg
 ·cases h⟩
end A75
namespace A129
def T (a0:Int):GT Value:=let x1:=0+(a0.toNat*1);(.br (decide (a0<0)) (.out (.int .i64 4)) (.br (decide (a0≥5)) (.out (.int .i64 4)) (.br (decide (0≤a0)) (.br (Nat.blt a0.toNat 5) (.br (isV [.int .i64 0,.int .i64 1,.int .i64 2,.int .i64 2,.int .i64 3] x1 (.i .i64)) (.out (.int .i64 (rdI [.int .i64 0,.int .i64 1,.int .i64 2,.int .i64 2,.int .i64 3] x1))) .no) .no) .no)))
theorem run (a0:Int):runK 4 [] [] 129 [.v (.int .i64 a0)]=(T a0).eval:=by kernel_rfl
def wR (a:Int):Int:=if a<0 then 4 else if 5≤a then 4 else if a=0 then 0 else if a=1 then 1 else if a=4 then 3 else 2
theorem qN (a:Int):(T a).eval=some (.int .i64 (wR a)):=by
 unfold wR
 by_cases h1:a<0
 ·simp[T,GT.eval,h1]
 ·by_cases h2 : 5 ≤ a
  ·simp[T,GT.eval,h1,h2]
  ·have : a = 0 ∨ a = 1 ∨ a = 2 ∨ a = 3 ∨ a = 4 := by omega
   rcases this with rfl|rfl|rfl|rfl|rfl<;>rfl
def spec:Spec:=fun aa=>match aa with
 |[.v (.int .i64 a)]=>some (.out (.int .i64 (wR a)))
 |_=>none
theorem qg:qu Tryz.prog La 129 spec:=⟨qD (by kernel_rfl),fun aa t v h e=>by
 unfold spec at h
 split at h
 ·cases h; cases e
  exact⟨rfl,qS qx qf qd (by simp) (by simp) (by decide) (by simp) rfl ((run _).trans (qN _))⟩
 ·cases h⟩
end A129
namespace A131ii
def T (n0:Int) (s0:ByteArray) (n1:Int) (s1:ByteArray):GT Value:=(.br (n0 != n0) (.br (n1 != n1) (.out (.int .i64 0)) (.out (.int .i64 (-1)))) (.br (n1 != n1) (.out (.int .i64 1)) (.br (decide (n0<n1)) (.out (.int .i64 (-1))) (.br (decide (n0>n1)) (.out (.int .i64 1)) (.out (.int .i64 0))))))
theorem run (n0:Int) (s0:ByteArray) (n1:Int) (s1:ByteArray):runK 4 [] [] 131 [.v (.agg #[.int .i64 2,.int .i64 n0,.string s0]),.v (.agg #[.int .i64 2,.int .i64 n1,.string s1])]=(T n0 s0 n1 s1).eval:=by kernel_rfl
end A131ii
namespace A131id
def T (n0:Int) (s0:ByteArray) (n1:Int) (s1:ByteArray):GT Value:=let x1:=Int.tmod n1 10000;let x2:=IntKind.wrap .i64 (Int.tdiv n1 10000);let y1:=decide (0<x1);let y2:=decide (0>x1);let o1:GT Value:=(.br (x1 != x1) (.out (.int .i64 1)) (.br y1 (.out (.int .i64 (-1))) (.br y2 (.out (.int .i64 1)) (.out (.int .i64 0)))));let o2:GT Value:=(.br (x1 != x1) (.out (.int .i64 (-1))) (.br y1 (.out (.int .i64 (-1))) (.br y2 (.out (.int .i64 (-1))) (.out (.int .i64 (-1))))));let o3:GT Value:=(.br (x1 != x1) (.out (.int .i64 1)) (.br y1 (.out (.int .i64 1)) (.br y2 (.out (.int .i64 1)) (.out (.int .i64 1)))));(.br (n0 != n0) (.br (x2 != x2) o1 o2) (.br (x2 != x2) o3 (.br (decide (n0<x2)) o2 (.br (decide (n0>x2)) o3 o1))))
theorem run (n0:Int) (s0:ByteArray) (n1:Int) (s1:ByteArray):runK 4 [] [] 131 [.v (.agg #[.int .i64 2,.int .i64 n0,.string s0]),.v (.agg #[.int .i64 3,.int .i64 n1,.string s1])]=(T n0 s0 n1 s1).eval:=by kernel_rfl
end A131id
namespace A131di
def T (n0:Int) (s0:ByteArray) (n1:Int) (s1:ByteArray):GT Value:=let x1:=Int.tmod n0 10000;let x2:=IntKind.wrap .i64 (0 - 1);let x3:=IntKind.wrap .i64 (0 - (-1));let x4:=IntKind.wrap .i64 (Int.tdiv n0 10000);let y1:=decide (0<x1);let y2:=decide (0>x1);let o1:GT Value:=(.br (x1 != x1) (.out (.int .i64 x2)) (.br y1 (.out (.int .i64 x3)) (.br y2 (.out (.int .i64 x2)) (.out (.int .i64 0)))));let o2:GT Value:=(.br (x1 != x1) (.out (.int .i64 x3)) (.br y1 (.out (.int .i64 x3)) (.br y2 (.out (.int .i64 x3)) (.out (.int .i64 x3)))));let o3:GT Value:=(.br (x1 != x1) (.out (.int .i64 x2)) (.br y1 (.out (.int .i64 x2)) (.br y2 (.out (.int .i64 x2)) (.out (.int .i64 x2)))));(.br (n1 != n1) (.br (x4 != x4) o1 o2) (.br (x4 != x4) o3 (.br (decide (n1<x4)) o2 (.br (decide (n1>x4)) o3 o1))))
theorem run (n0:Int) (s0:ByteArray) (n1:Int) (s1:ByteArray):runK 4 [] [] 131 [.v (.agg #[.int .i64 3,.int .i64 n0,.string s0]),.v (.agg #[.int .i64 2,.int .i64 n1,.string s1])]=(T n0 s0 n1 s1).eval:=by kernel_rfl
end A131di
namespace A131dd
def T (n0:Int) (s0:ByteArray) (n1:Int) (s1:ByteArray):GT Value:=(.br (n0 != n0) (.br (n1 != n1) (.out (.int .i64 0)) (.out (.int .i64 (-1)))) (.br (n1 != n1) (.out (.int .i64 1)) (.br (decide (n0<n1)) (.out (.int .i64 (-1))) (.br (decide (n0>n1)) (.out (.int .i64 1)) (.out (.int .i64 0))))))
theorem run (n0:Int) (s0:ByteArray) (n1:Int) (s1:ByteArray):runK 4 [] [] 131 [.v (.agg #[.int .i64 3,.int .i64 n0,.string s0]),.v (.agg #[.int .i64 3,.int .i64 n1,.string s1])]=(T n0 s0 n1 s1).eval:=by kernel_rfl
end A131dd
namespace A131
def wZ (a b:Int):Int:=if a<b then -1 else if b<a then 1 else 0
def Qg (n d:Int):Int:=if n<IntKind.wrap .i64 (Int.tdiv d 10000)then -1 else if IntKind.wrap .i64 (Int.tdiv d 10000)<n then 1 else wZ 0 (Int.tmod d 10000)
def num (k0 n0 k1 n1:Int):Int:=if k0=k1 then wZ n0 n1 else if k0=3 then -(Qg n1 n0)else Qg n0 n1
theorem w1:IntKind.wrap .i64 (0 - 1)= -1:=by decide
theorem w3:IntKind.wrap .i64 1=1:=by decide
theorem w4:IntKind.wrap .i64 (-1)= -1:=by decide
theorem w2:IntKind.wrap .i64 (0 - (-1))=1:=by decide
theorem ii (n0:Int) (s0:ByteArray) (n1:Int) (s1:ByteArray):(A131ii.T n0 s0 n1 s1).eval=some (.int .i64 (num 2 n0 2 n1)):=by
 unfold num wZ
 by_cases h:n0<n1<;>by_cases h2:n1<n0<;>simp[A131ii.T,GT.eval,h,h2]
theorem dd (n0:Int) (s0:ByteArray) (n1:Int) (s1:ByteArray):(A131dd.T n0 s0 n1 s1).eval=some (.int .i64 (num 3 n0 3 n1)):=by
 unfold num wZ
 by_cases h:n0<n1<;>by_cases h2:n1<n0<;>simp[A131dd.T,GT.eval,h,h2]
theorem id (n0:Int) (s0:ByteArray) (n1:Int) (s1:ByteArray):(A131id.T n0 s0 n1 s1).eval=some (.int .i64 (num 2 n0 3 n1)):=by
 unfold num Qg wZ
 rw[Aq (by decide),Aq (by decide)]
 by_cases h:n0<IntKind.wrap .i64 (Int.tdiv n1 10000)<;>by_cases h2:IntKind.wrap .i64 (Int.tdiv n1 10000)<n0<;>by_cases h3:0<Int.tmod n1 10000<;>by_cases h4:Int.tmod n1 10000<0<;>simp[A131id.T,GT.eval,h,h2,h3,h4]
theorem di (n0:Int) (s0:ByteArray) (n1:Int) (s1:ByteArray):(A131di.T n0 s0 n1 s1).eval=some (.int .i64 (num 3 n0 2 n1)):=by
 unfold num Qg wZ
 rw[Aq (by decide),Ax rfl]
 by_cases h:n1<IntKind.wrap .i64 (Int.tdiv n0 10000)<;>by_cases h2:IntKind.wrap .i64 (Int.tdiv n0 10000)<n1<;>by_cases h3:0<Int.tmod n0 10000<;>by_cases h4:Int.tmod n0 10000<0<;>simp[A131di.T,GT.eval,h,h2,h3,h4,w3,w4]
def spec:Spec:=fun aa=>match aa with
 |[a,b]=>(vOf a).bind fun x=>(vOf b).bind fun y=>some (.qI ((x.1==2||x.1==3)&&(y.1==2||y.1==3)) (.out (.int .i64 (num x.1 x.2.1 y.1 y.2.1))))
 |_=>none
theorem qg:qu Tryz.prog La 131 spec:=⟨qD (by kernel_rfl),fun aa t v h e=>by
 unfold spec at h
 split at h
 ·rename_i a b
  obtain⟨⟨k0,n0,s0⟩,h1,h⟩:=qi h
  obtain⟨⟨k1,n1,s1⟩,h2,h⟩:=qi h
  cases h
  rw[qM h1,qM h2]
  obtain⟨g1,g2⟩:=GT.qh e
  cases g2
  simp only[Ag,AS,Ay]at g1
  refine⟨rfl,qS (l:=[]) (L:=[]) (n0:=4) (k:=12) qx qf qd (by simp) (by simp) (by decide) (by simp) rfl ?_⟩
  obtain⟨rfl|rfl,rfl|rfl⟩:=g1
  ·exact(A131ii.run n0 s0 n1 s1).trans (ii n0 s0 n1 s1)
  ·exact(A131id.run n0 s0 n1 s1).trans (id n0 s0 n1 s1)
  ·exact(A131di.run n0 s0 n1 s1).trans (di n0 s0 n1 s1)
  ·exact(A131dd.run n0 s0 n1 s1).trans (dd n0 s0 n1 s1)
 ·cases h⟩
end A131
namespace A76
def T (k0 n0:Int) (s0:ByteArray) (k1 n1:Int) (s1:ByteArray):GT Value:=let o1:GT Value:=(.out (.tuple #[.int .i64 0,.bool false]));let o2:GT Value:=(.out (.tuple #[.int .i64 0,.bool true]));let o3:GT Value:=(.out (.tuple #[.int .i64 (-1),.bool true]));let o4:GT Value:=(.out (.tuple #[.int .i64 1,.bool true]));let y1:=A129.wR k0;(.br (y1 != (A129.wR k1)) o1 (.br (y1==1) (.br (n0 != n0) (.br (n1 != n1) o2 o3) (.br (n1 != n1) o4 (.br (decide (n0<n1)) o3 (.br (decide (n0>n1)) o4 o2)))) (.br (y1==2) (.br (((k0==2)||(k0==3))&&((k1==2)||(k1==3))) (.out (.tuple #[.int .i64 (A131.num k0 n0 k1 n1),.bool true])) .no) (.br (y1==3) (.out (.tuple #[.int .i64 (Go.Lib.compareBytes s0.data.toList s1.data.toList),.bool true])) o1))))
theorem run (k0 n0:Int) (s0:ByteArray) (k1 n1:Int) (s1:ByteArray):runK 4 [(129,A129.spec),(131,A131.spec),(132,W5)] [] 76 [.v (.agg #[.int .i64 k0,.int .i64 n0,.string s0]),.v (.agg #[.int .i64 k1,.int .i64 n1,.string s1])]=(T k0 n0 s0 k1 n1 s1).eval:=by kernel_rfl
def compare (k0 n0:Int) (s0:ByteArray) (k1 n1:Int) (s1:ByteArray):Int×Bool:=
 if A129.wR k0≠A129.wR k1 then(0,false)else if A129.wR k0=1 then(A131.wZ n0 n1,true)else if A129.wR k0=2 then(A131.num k0 n0 k1 n1,true)else if A129.wR k0=3 then(Lib.compareBytes s0.data.toList s1.data.toList,true)else(0,false)
theorem mw {k:Int} (h:A129.wR k=2):k=2∨k=3:=by
 unfold A129.wR at h
 repeat' split at h
 all_goals omega
theorem qN (k0 n0:Int) (s0:ByteArray) (k1 n1:Int) (s1:ByteArray):(T k0 n0 s0 k1 n1 s1).eval=some (.tuple #[.int .i64 (compare k0 n0 s0 k1 n1 s1).1,.bool (compare k0 n0 s0 k1 n1 s1).2]):=by
 unfold compare
 by_cases h1:A129.wR k0=A129.wR k1
 ·rw [Aq (by simpa using h1)]
  by_cases h2:A129.wR k0=1
  ·rw [Ax h2]
   unfold A131.wZ
   by_cases h3:n0<n1<;>by_cases h4:n1<n0<;>simp[T,GT.eval,←h1,h2,h3,h4]
  ·rw [Aq h2]
   by_cases h3:A129.wR k0=2
   ·rw [Ax h3]
    obtain h5:=mw h3
    obtain h6:=mw (h1▸h3)
    have h7:(k0==2||k0==3)=true:=by rcases h5 with rfl|rfl<;>rfl
    have h8:(k1==2||k1==3)=true:=by rcases h6 with rfl|rfl<;>rfl
    simp[T,GT.eval,←h1,h3,h7,h8]
   ·rw [Aq h3]
    by_cases h4:A129.wR k0=3
    ·rw[Ax h4];simp[T,GT.eval,←h1,h4]
    ·rw[Aq h4];simp[T,GT.eval,←h1,Ao.mpr h2,Ao.mpr h3,Ao.mpr h4]
 ·rw[Ax h1];simp[T,GT.eval,B8.mpr h1]
def spec:Spec:=fun aa=>match aa with
 |[a,b]=>(vOf a).bind fun x=>(vOf b).bind fun y=>some (.out (.tuple #[.int .i64 (compare x.1 x.2.1 x.2.2 y.1 y.2.1 y.2.2).1,.bool (compare x.1 x.2.1 x.2.2 y.1 y.2.1 y.2.2).2]))
 |_=>none
theorem qg:qu Tryz.prog La 76 spec:=⟨qD (by kernel_rfl),fun aa t v h e=>by
 unfold spec at h
 split at h
 ·rename_i a b
  obtain⟨⟨k0,n0,s0⟩,h1,h⟩:=qi h
  obtain⟨⟨k1,n1,s1⟩,h2,h⟩:=qi h
  cases h
  rw[qM h1,qM h2]
  cases e
  refine⟨rfl,qS qx qf qd ?_ (by simp) (by decide) (by simp) rfl ((run k0 n0 s0 k1 n1 s1).trans (qN _ _ _ _ _ _))⟩
  intro p hp
  simp only[AX,AZ,or_false]at hp
  rcases hp with rfl|rfl|rfl
  ·exact A129.qg
  ·exact A131.qg
  ·exact X6
 ·cases h⟩
end A76
namespace A34L0
noncomputable def cfg:Cfg:=zw Tryz.prog 4 (gpT []) (ltT 4 [])
def stN (nm:ByteArray) (n:Nat) (e i:Int):KX:=⟨[(0,.string nm),(1,.slice (some ⟨1,0,none⟩) n 3),(4,.pointer (some ⟨4,0,none⟩)),(5,.int .i64 e),(6,.slice none 0 0),(19,.slice (some ⟨1,0,none⟩) n 3),(20,.int .i64 (Int.ofNat n)),(21,.int .i64 i)],[]⟩
def stR (nm:ByteArray) (n:Nat) (e i:Int) (k:Nat) (row:List Value):KX:=⟨[(0,.string nm),(1,.slice (some ⟨1,0,none⟩) n 3),(4,.pointer (some ⟨4,0,none⟩)),(5,.int .i64 e),(6,.slice (some ⟨5,0,none⟩) k 1),(19,.slice (some ⟨1,0,none⟩) n 3),(20,.int .i64 (Int.ofNat n)),(21,.int .i64 i)],[row]⟩
def exN (nm:ByteArray) (n:Nat) (e:Int):KX:=⟨[(0,.string nm),(1,.slice (some ⟨1,0,none⟩) n 3),(4,.pointer (some ⟨4,0,none⟩)),(5,.int .i64 e),(6,.slice none 0 0)],[]⟩
def exR (nm:ByteArray) (n:Nat) (e:Int) (k:Nat) (row:List Value):KX:=⟨[(0,.string nm),(1,.slice (some ⟨1,0,none⟩) n 3),(4,.pointer (some ⟨4,0,none⟩)),(5,.int .i64 e),(6,.slice (some ⟨5,0,none⟩) k 1)],[row]⟩
def kp:Ex→List Nat
 | .normal=>[0,1,4,5,6,19,20,21]
 |_=>[0,1,4,5,6]
def cr:Ex→St→List (Nat×Bool):=fun _ s=>match s.T.get 6 with
 |some (.slice (some p) _ _)=>[(p.block,true)]
 |_=>[]
theorem vw (nm:ByteArray) (n:Nat) (e i:Int) (cs:List Value):zN cfg [] [] 34 0 (stK 84 5 [(1,cs)] (stN nm n e i)) (zv 5 100 84 kp cr)=
 (bif decide (i<(Int.ofNat n))then(bif decide (0≤i)then(bif Nat.blt (i).toNat n then(bif isL cs (0+((i).toNat*3)) [(.i .i64),(.i .i64),.s]then(some (.normal,stR nm n e (IntKind.wrap .i64 (i+1)) 1 [.int .i64 (rdI cs (0+((i).toNat*3)))]))else none)else none)else none)else(some (.exit 0,exN nm n e))):=by kernel_rfl
theorem kl (nm:ByteArray) (n:Nat) (e i:Int) (k:Nat) (row:List Value) (cs:List Value):zN cfg [] [] 34 0 (stK 84 5 [(1,cs)] (stR nm n e i k row)) (zv 5 100 84 kp cr)=
 (let r2:=(((row).drop 0).take (k*1))++[.int .i64 (rdI cs (0+((i).toNat*3)))];bif decide (i<(Int.ofNat n))then(bif decide (0≤i)then(bif Nat.blt (i).toNat n then(bif isL cs (0+((i).toNat*3)) [(.i .i64),(.i .i64),.s]then(bif Nat.ble (k+1) 200000000000000 then(bif Nat.ble ((k+1)*8) 200000000000000 then(bif Nat.ble (0+(k*1)) (row).length then(bif r2.all qp&&true then(some (.normal,stR nm n e (IntKind.wrap .i64 (i+1)) (k+1) r2))else none)else none)else none)else none)else none)else none)else none)else(bif row.all qp&&true then(some (.exit 0,exR nm n e k row))else none)):=by kernel_rfl
def row (l:List W3) (j:Nat):List Int:=(l.take j).map (·.1)
theorem vJ (l:List W3) {j:Nat} (h:j<l.length):row l (j+1)=row l j++[l[j].1]:=by
 unfold row
 rw[←List.take_append_getElem h,BH];rfl
theorem xf (l:List W3) {j:Nat} (h:j≤l.length):(row l j).length=j:=by
 unfold row
 rw[AM,BQ];omega
def st (nm:ByteArray) (n:Nat) (e:Int) (l:List W3) (j:Nat):KX:=bif Nat.beq j 0 then stN nm n e j else stR nm n e j j (ints .i64 (row l j))
def fin (nm:ByteArray) (n:Nat) (e:Int) (l:List W3):KX:=bif Nat.beq n 0 then exN nm n e else exR nm n e n (ints .i64 (l.map (·.1)))
def D:KD:=⟨84,5,100,[0,1,4,5,6,19,20,21],[1],fun _=>[],fun x ro=>match x.vs,x.cars,ro with
 |[(0,.string nm),(1,.slice (some ⟨1,0,none⟩) n 3),(4,.pointer (some ⟨4,0,none⟩)),(5,.int .i64 e),(6,.slice none 0 0),(19,.slice (some ⟨1,0,none⟩) n' 3),(20,.int .i64 m),(21,.int .i64 0)],[],[(1,cs)]=>
  .qI (Nat.beq n' n&&kV n m cs) (.br (Nat.beq n 0) (.out (.exit 0,exN nm n e)) (.out (.exit 0,exR nm n e n (ints .i64 ((qj cs).map (·.1))))))
 |_,_,_=> .no⟩
def lp:LpK:=⟨34,3,0,D⟩
theorem qE:zq Tryz.prog La 4 lp:=by
 refine⟨by kernel_rfl,fun c base I hP hn hG hI hIL x ro ex y e=> ?_⟩
 obtain⟨vs,cars⟩:=x
 simp only[lp,D]at e ⊢
 split at e
 ·rename_i nm n e0 n' m cs
  obtain⟨g1,g2⟩:=GT.qh e
  simp only[Ag]at g1
  obtain rfl:=Am g1.1
  obtain⟨rfl,hn2,h4,h5⟩:=zM g1.2
  generalize qj cs=l at h4 h5 g2
  subst h4 h5
  have key:=zA (Step:= @zy (zL base) c base I (qV Tryz.prog 34 0) 84 5 100 [(1,qm l)]) (step:=fun(_:Unit) (_:W3)=> .inl ()) (fin:=fun _=>(.exit 0,fin nm l.length e0 l)) (st:=fun _ j=>st nm l.length e0 l j) (l:=l) (fun s=>by simp) (fun s a r h=>by cases h) (fun _ j hj=>by
    have h1:=ltI hj
    have h2:=geI j
    have h3:=j7 hj
    have h4:(0+((j:Int)).toNat*3)=j*3:=by simp
    have h5:=wrI j (by omega)
    show @zy (zL base) c base I (qV Tryz.prog 34 0) 84 5 100 [(1,qm l)] (st nm l.length e0 l j) .normal (st nm l.length e0 l (j+1))
    cases j with
    |zero=>
     have hr:=vw nm l.length e0 ((0:Nat):Int) (qm l)
     simp only[h1,h2,h3,h4,h5,ke l hj,zU l hj,Ai]at hr
     have e1:st nm l.length e0 l 0=stN nm l.length e0 ((0:Nat):Int):=rfl
     have e2:st nm l.length e0 l (0+1)=stR nm l.length e0 ((0+1:Nat):Int) 1 [.int .i64 l[0].1]:=by
      show stR nm l.length e0 ((0+1:Nat):Int) (0+1) (ints .i64 (row l (0+1)))=_
      rw[vJ l hj];rfl
     rw[e1,e2]
     exact stepT qf qd (by simp) (by simp) hP hn hG hI hIL hr
    |succ j=>
     have hk:=xf l (AV hj)
     have hr:=kl nm l.length e0 ((j+1:Nat):Int) (j+1) (ints .i64 (row l (j+1))) (qm l)
     have q1:((ints .i64 (row l (j+1))).drop 0).take ((j+1)*1)++[.int .i64 (l[j+1]).1]=ints .i64 (row l (j+1+1)):=by
      rw[AD,BY,AJ (by rw[zH,hk];exact Aw _),vJ l hj]
      unfold ints
      rw[BH];rfl
     have q2:Nat.ble (j+1+1) 200000000000000=true:=by rw[Az];omega
     have q3:Nat.ble ((j+1+1)*8) 200000000000000=true:=by rw[Az];omega
     have q4:Nat.ble (0+(j+1)*1) (ints .i64 (row l (j+1))).length=true:=by rw[Az,zH,hk];omega
     simp only[h1,h2,h3,h4,h5,ke l hj,zU l hj,q1,q2,q3,q4,qZ,AE,Ai]at hr
     have e1:st nm l.length e0 l (j+1)=stR nm l.length e0 ((j+1:Nat):Int) (j+1) (ints .i64 (row l (j+1))):=rfl
     have e2:st nm l.length e0 l (j+1+1)=stR nm l.length e0 ((j+1+1:Nat):Int) (j+1+1) (ints .i64 (row l (j+1+1))):=rfl
     rw[e1,e2]
     exact stepT qf qd (by simp) (by simp) hP hn hG hI hIL hr) (fun _=>by
    have h1:=j6 l.length
    show @zy (zL base) c base I (qV Tryz.prog 34 0) 84 5 100 [(1,qm l)] (st nm l.length e0 l l.length) (.exit 0) (fin nm l.length e0 l)
    cases hl:l.length with
    |zero=>
     have hr:=vw nm l.length e0 (l.length:Int) (qm l)
     simp only[h1,Ah]at hr
     rw[hl]at hr
     exact stepT qf qd (by simp) (by simp) hP hn hG hI hIL hr
    |succ j=>
     have hr:=kl nm l.length e0 (l.length:Int) l.length (ints .i64 (row l l.length)) (qm l)
     simp only[h1,Ah,qZ,AE,Ai]at hr
     have e3:row l l.length=l.map (·.1):=by unfold row;rw[Bo]
     rw[hl]at hr e3
     have e1:st nm (j+1) e0 l (j+1)=stR nm (j+1) e0 ((j+1:Nat):Int) (j+1) (ints .i64 (row l (j+1))):=rfl
     have e2:fin nm (j+1) e0 l=exR nm (j+1) e0 (j+1) (ints .i64 (l.map (·.1))):=rfl
     rw[e1,e2,←e3]
     exact stepT qf qd (by simp) (by simp) hP hn hG hI hIL hr) l.length 0 () (by omega)
  rw[AD,kJ]at key
  cases hb:Nat.beq l.length 0 with
  |true=>rw[GT.eval,hb]at g2;cases g2;unfold fin at key;rw[hb]at key;exact key
  |false=>rw[GT.eval,hb]at g2;cases g2;unfold fin at key;rw[hb]at key;exact key
 ·cases e
end A34L0
namespace A34L1
def sp:List (Nat×Spec):=[(75,A75.spec),(76,A76.spec)]
noncomputable def cfg:Cfg:=zw Tryz.prog 4 (gpT [(75,A75.spec),(76,A76.spec)]) (ltT 4 [])
def stA (nm:ByteArray) (n:Nat) (e kind:Int) (ok found:Bool) (i kb nb:Int) (sb:ByteArray):KX:=⟨[(0,.string nm),(1,.slice (some ⟨1,0,none⟩) n 3),(4,.pointer (some ⟨106,0,none⟩)),(5,.int .i64 e),(9,.int .i64 kind),(10,.bool ok),(11,.pointer (some ⟨107,0,none⟩)),(12,.bool found),(36,.slice (some ⟨1,0,none⟩) n 3),(37,.int .i64 (Int.ofNat n)),(38,.int .i64 i)],[[.int .i64 0,.int .i64 0,.string ⟨#[]⟩],[.int .i64 kb,.int .i64 nb,.string sb]]⟩
def qP (e kb nb:Int) (sb:ByteArray):KX:=⟨[(4,.pointer (some ⟨106,0,none⟩)),(5,.int .i64 e)],[[.int .i64 0,.int .i64 0,.string ⟨#[]⟩],[.int .i64 kb,.int .i64 nb,.string sb]]⟩
def qT (e kb nb:Int) (sb:ByteArray):KX:=⟨[(4,.pointer (some ⟨106,0,none⟩)),(5,.int .i64 e),(11,.pointer (some ⟨107,0,none⟩))],[[.int .i64 0,.int .i64 0,.string ⟨#[]⟩],[.int .i64 kb,.int .i64 nb,.string sb]]⟩
def kp:Ex→List Nat
 | .normal=>[0,1,4,5,9,10,11,12,36,37,38]
 | .ret=>[4,5]
 |_=>[4,5,11]
def cr:Ex→St→List (Nat×Bool):=fun _ s=>[(106,true),(107,true)]
theorem round (nm:ByteArray) (n:Nat) (e kind:Int) (ok found:Bool) (i kb nb:Int) (sb:ByteArray) (cs:List Value):zN cfg [(75,A75.spec),(76,A76.spec)] [] 34 1 (stK 84 106 [(1,cs)] (stA nm n e kind ok found i kb nb sb)) (zv 106 100 84 kp cr)=(let x2:=0+(i.toNat*3);let x1:=A75.kn (rdI cs x2) (rdI cs (x2+1));let x3:=IntKind.wrap .i64 (i+1);let x5:=A76.compare x1.1.1 x1.1.2.1 x1.1.2.2 kb nb sb;let x6:=rdS cs ((x2+1)+1);let x4:=A76.compare (rdI cs x2) (rdI cs (x2+1)) x6 kb nb sb;let o1:Option (Ex×KX):=(some (.normal,stA nm n e kind ok found x3 kb nb sb));let o2:Option (Ex×KX):=(some (.normal,stA nm n e kind ok true x3 (rdI cs x2) (rdI cs (x2+1)) x6));let o3:Option (Ex×KX):=(some (.normal,stA nm n e kind ok true x3 (x1.1.1) (x1.1.2.1) (x1.1.2.2)));let o4:Option (Ex×KX):=(bif eqU nm.data.toList [108,101,97,115,116]then(bif decide (x5.1<0)then o3 else o1)else o1);let o5:Option (Ex×KX):=(bif eqU nm.data.toList [108,101,97,115,116]then(bif decide (x4.1<0)then o2 else o1)else o1);(bif decide (i<(Int.ofNat n))then(bif decide (0≤i)then(bif Nat.blt i.toNat n then(bif isL cs x2 [(.i .i64),(.i .i64),.s]then(bif((rdI cs x2)==0)then o1 else(bif(kind==3)then(bif(inR (rdI cs (x2+1)))then(bif(x1.2 != 0)then(some (.ret,qP (x1.2) kb nb sb))else(bif(!found)then o3 else(bif eqU nm.data.toList [103,114,101,97,116,101,115,116]then(bif decide (x5.1>0)then o3 else o4)else o4)))else none)else(bif(!found)then o2 else(bif eqU nm.data.toList [103,114,101,97,116,101,115,116]then(bif decide (x4.1>0)then o2 else o5)else o5))))else none)else none)else none)else(some (.exit 2,qT e kb nb sb)))):=by kernel_rfl
def better (nm:ByteArray) (found:Bool) (c:Int):Bool:= !found||(eqU nm.data.toList [103,114,101,97,116,101,115,116]&&decide (c>0))||(eqU nm.data.toList [108,101,97,115,116]&&decide (c<0))
def pick (nm:ByteArray) (p:Bool×W3) (v:W3):Bool×W3:=bif better nm p.1 (A76.compare v.1 v.2.1 v.2.2 p.2.1 p.2.2.1 p.2.2.2).1 then(true,v)else p
def km (nm:ByteArray) (kind:Int) (p:Bool×W3) (v:W3):(Bool×W3) ⊕ (Ex×KX):=
 bif v.1==0 then .inl p else bif kind==3 then(bif(A75.kn v.1 v.2.1).2 != 0 then .inr (.ret,qP (A75.kn v.1 v.2.1).2 p.2.1 p.2.2.1 p.2.2.2)else .inl (pick nm p (A75.kn v.1 v.2.1).1))else .inl (pick nm p v)
theorem next (nm:ByteArray) (l:List W3) (hn:l.length<6000000000000) (hin: ∀v∈l,inR v.2.1=true) (e kind:Int) (ok:Bool) (p:Bool×W3) {j:Nat} (hj:j<l.length):
  zN cfg [(75,A75.spec),(76,A76.spec)] [] 34 1 (stK 84 106 [(1,qm l)] (stA nm l.length e kind ok p.1 j p.2.1 p.2.2.1 p.2.2.2)) (zv 106 100 84 kp cr)=
  some (match km nm kind p l[j]with| .inl q=>(.normal,stA nm l.length e kind ok q.1 ((j+1:Nat):Int) q.2.1 q.2.2.1 q.2.2.2)| .inr r=>r):=by
 have h1:=ltI hj
 have h2:=geI j
 have h3:=j7 hj
 have h4:(0+((j:Int)).toNat*3)=j*3:=by simp
 have h5:=wrI j (by omega)
 have h6:inR l[j].2.1=true:=hin _ (Bf hj)
 have hs:rdS (qm l) (j*3+1+1)=l[j].2.2:=kE l hj
 rw[round]
 dsimp only[]
 simp only[h1,h2,h3,h4,h5,ke l hj,zU l hj,zT l hj,hs,Ai,h6]
 generalize l[j]=v
 obtain⟨found,k,n,s⟩:=p
 unfold km pick better
 dsimp only[]
 generalize A75.kn v.1 v.2.1=d
 generalize eqU nm.data.toList [103,114,101,97,116,101,115,116]=g
 generalize eqU nm.data.toList [108,101,97,115,116]=m
 generalize (A76.compare v.1 v.2.1 v.2.2 k n s).1=c1
 generalize (A76.compare d.1.1 d.1.2.1 d.1.2.2 k n s).1=c2
 cases (v.1==0)<;>cases (kind==3)<;>cases (d.2 != 0)<;>cases found<;>cases g<;>cases m<;>cases decide (c1>0)<;>cases decide (c1<0)<;>cases decide (c2>0)<;>cases decide (c2<0)<;>rfl
def go (nm:ByteArray) (kind:Int):(Bool×W3)→List W3→Int×W3
 |p,[]=>(0,p.2)
 |p,v::l=>bif v.1==0 then go nm kind p l else bif kind==3 then(bif(A75.kn v.1 v.2.1).2 != 0 then((A75.kn v.1 v.2.1).2,p.2)else go nm kind (pick nm p (A75.kn v.1 v.2.1).1) l)else go nm kind (pick nm p v) l
theorem Kg (nm:ByteArray) (kind e:Int): ∀(l:List W3) (p:Bool×W3),wE (km nm kind) (fun p=>(.exit 2,qT e p.2.1 p.2.2.1 p.2.2.2)) p l=
  (bif(go nm kind p l).1 != 0 then(.ret,qP (go nm kind p l).1 (go nm kind p l).2.1 (go nm kind p l).2.2.1 (go nm kind p l).2.2.2)else(.exit 2,qT e (go nm kind p l).2.1 (go nm kind p l).2.2.1 (go nm kind p l).2.2.2))
 |[],p=>rfl
 |v::l,p=>by
  have hs:km nm kind p v=bif v.1==0 then .inl p else bif kind==3 then(bif(A75.kn v.1 v.2.1).2 != 0 then .inr (.ret,qP (A75.kn v.1 v.2.1).2 p.2.1 p.2.2.1 p.2.2.2)else .inl (pick nm p (A75.kn v.1 v.2.1).1))else .inl (pick nm p v):=rfl
  rw[wE,hs,go]
  cases h1:(v.1==0)with
  |true=>exact Kg nm kind e l p
  |false=>
   cases h2:(kind==3)with
   |false=>exact Kg nm kind e l (pick nm p v)
   |true=>
    cases h:((A75.kn v.1 v.2.1).2 != 0)with
    |false=>exact Kg nm kind e l (pick nm p (A75.kn v.1 v.2.1).1)
    |true=>simp only[Ai,Ah,h]
def D:KD:=⟨84,106,100,[0,1,4,5,9,10,11,12,36,37,38],[1],fun _=>[(4,true),(105,true)],fun x ro=>match x.vs,x.cars,ro with
 |[(0,.string nm),(1,.slice (some ⟨1,0,none⟩) n 3),(4,.pointer (some ⟨106,0,none⟩)),(5,.int .i64 e),(9,.int .i64 kind),(10,.bool ok),(11,.pointer (some ⟨107,0,none⟩)),(12,.bool found),(36,.slice (some ⟨1,0,none⟩) n' 3),(37,.int .i64 m),(38,.int .i64 0)],[[.int .i64 0,.int .i64 0,.string ⟨⟨[]⟩⟩],[.int .i64 kb,.int .i64 nb,.string sb]],[(1,cs)]=>
  .qI (Nat.beq n' n&&kV n m cs&&(qj cs).all (fun v=>inR v.2.1)) (.br ((go nm kind (found,kb,nb,sb) (qj cs)).1 != 0) (.out (.ret,qP (go nm kind (found,kb,nb,sb) (qj cs)).1 (go nm kind (found,kb,nb,sb) (qj cs)).2.1 (go nm kind (found,kb,nb,sb) (qj cs)).2.2.1 (go nm kind (found,kb,nb,sb) (qj cs)).2.2.2))
   (.out (.exit 2,qT e (go nm kind (found,kb,nb,sb) (qj cs)).2.1 (go nm kind (found,kb,nb,sb) (qj cs)).2.2.1 (go nm kind (found,kb,nb,sb) (qj cs)).2.2.2)))
 |_,_,_=> .no⟩
def lp:LpK:=⟨34,11,1,D⟩
theorem zZ: ∀p∈[((75:FuncId),A75.spec),(76,A76.spec)],qu Tryz.prog La p.1 p.2:=by simpa using⟨A75.qg,A76.qg⟩
theorem qE:zq Tryz.prog La 4 lp:=by
 refine⟨by kernel_rfl,fun c base I hP hn hG hI hIL x ro ex y e=> ?_⟩
 obtain⟨vs,cars⟩:=x
 simp only[lp,D]at e ⊢
 split at e
 ·rename_i nm n e0 kind ok found n' m kb nb sb cs
  obtain⟨g1,g2⟩:=GT.qh e
  simp only[Ag]at g1
  obtain rfl:=Am g1.1.1
  obtain⟨rfl,hn2,h4,h5⟩:=zM g1.1.2
  have hin:=Ap.1 g1.2
  generalize qj cs=l at h4 h5 g2 hin
  subst h4 h5
  have key:=zA (Step:= @zy (zL base) c base I (qV Tryz.prog 34 1) 84 106 100 [(1,qm l)]) (step:=km nm kind) (fin:=fun p=>(.exit 2,qT e0 p.2.1 p.2.2.1 p.2.2.2)) (st:=fun p j=>stA nm l.length e0 kind ok p.1 j p.2.1 p.2.2.1 p.2.2.2) (l:=l) (fun s=>by simp) (fun s a r h=>by
    unfold km at h
    cases h1:(a.1==0)<;>cases h2:(kind==3)<;>cases h3:((A75.kn a.1 a.2.1).2 != 0)<;>rw[h1,h2,h3]at h<;>cases h<;>simp) (fun p j hj=>by
    have hr:=next nm l hn2 hin e0 kind ok p hj
    cases hs:km nm kind p l[j]with
    |inl q=>rw[hs]at hr;exact stepT qf qd zZ (by simp) hP hn hG hI hIL hr
    |inr r=>rw[hs]at hr;obtain⟨r1,r2⟩:=r;exact stepT qf qd zZ (by simp) hP hn hG hI hIL hr) (fun p=>by
    have h1:=j6 l.length
    have hr:=round nm l.length e0 kind ok p.1 l.length p.2.1 p.2.2.1 p.2.2.2 (qm l)
    simp only[h1,Ah]at hr
    exact stepT qf qd zZ (by simp) hP hn hG hI hIL hr) l.length 0 (found,kb,nb,sb) (by omega)
  rw[AD,Kg]at key
  cases hb:((go nm kind (found,kb,nb,sb) l).1 != 0)with
  |true=>rw[GT.eval,hb]at g2;cases g2;rw[hb]at key;exact key
  |false=>rw[GT.eval,hb]at g2;cases g2;rw[hb]at key;exact key
 ·cases e
end A34L1
namespace A34
def T (s0:ByteArray) (m1:Nat) (c1:List Value):GT Value:=let x1:=A34L1.go s0 (A53.res ((((((qj c1).map fun(x:W3)=>x.fst).map (Value.int IntKind.i64)).drop 0).take (m1*1)).map vH)).1 ((false,0,0,⟨#[]⟩):Bool×W3) (qj c1);let x2:=A34L1.go s0 0 ((false,0,0,⟨#[]⟩):Bool×W3) (qj c1);let y2:=Int.ofNat m1;let y1:=Nat.beq m1 m1&&(decide (y2=y2)&&((vA c1)&&(Nat.beq c1.length (m1*3)&&Nat.blt m1 6000000000000)));(.br (true&&([((1:Nat),c1)]).all fun p=>p.snd.all qp) (.br y1 (.br (Nat.beq m1 0) (.br (true&&([((1:Nat),c1)]).all fun p=>p.snd.all qp) (.br (y1&&(qj c1).all fun(v:W3)=>inR v.snd.fst) (.br (x2.1 != 0) (.out (.tuple #[.agg #[.int .i64 0,.int .i64 0,.string ⟨#[]⟩],.int .i64 x2.1])) (.out (.tuple #[.agg #[.int .i64 x2.2.1,.int .i64 x2.2.2.1,.string x2.2.2.2],.int .i64 0]))) .no) .no) (.br (([((fun(cs:List Value)=>((0+m1*1).ble cs.length&&(List.take (m1*1) (List.drop 0 cs)).all qp,AA.sl m1 1 (List.take (m1*1) (List.drop 0 cs)))) (ints IntKind.i64 (List.map (fun(x:W3)=>x.fst) (qj c1))))]).all fun x=>x.fst) (.br (wm m1 y2 (((((qj c1).map fun(x:W3)=>x.fst).map (Value.int IntKind.i64)).drop 0).take (m1*1))) (.br (true&&([((1:Nat),c1)]).all fun p=>p.snd.all qp) (.br (y1&&(qj c1).all fun(v:W3)=>inR v.snd.fst) (.br (x1.1 != 0) (.out (.tuple #[.agg #[.int .i64 0,.int .i64 0,.string ⟨#[]⟩],.int .i64 x1.1])) (.out (.tuple #[.agg #[.int .i64 x1.2.1,.int .i64 x1.2.2.1,.string x1.2.2.2],.int .i64 0]))) .no) .no) .no) .no)) .no) .no)
theorem run (s0:ByteArray) (m1:Nat) (c1:List Value):runK 4 [(53,A53.spec),(75,A75.spec),(76,A76.spec)] [A34L0.lp,A34L1.lp] 34 [.v (.string s0),.sl m1 3 c1]=(T s0 m1 c1).eval:=by kernel_rfl
def jk (s:ByteArray) (l:List W3):Int×W3:=A34L1.go s (A53.res (l.map (·.1))).1 (false,0,0,⟨#[]⟩) l
def xL (s:ByteArray) (l:List W3):Value:=bif(jk s l).1 != 0 then .tuple #[.agg #[.int .i64 0,.int .i64 0,.string ⟨#[]⟩],.int .i64 (jk s l).1]else .tuple #[.agg #[.int .i64 (jk s l).2.1,.int .i64 (jk s l).2.2.1,.string (jk s l).2.2.2],.int .i64 0]
theorem Q2 (s:ByteArray) (l:List W3):pfd 3 (xL s l)=true:=by
 unfold xL
 cases (jk s l).1 != 0<;>rfl
theorem qN (s:ByteArray) (l:List W3) (hl:l.length<6000000000000) (hin:l.all (fun v=>inR v.2.1)=true):(T s l.length (qm l)).eval=some (xL s l):=by
 have g:Nat.blt l.length 6000000000000=true:=by rw[AB];exact hl
 have gs:=qO l
 have g2:=xP (l:=l.map (·.1)) (by rw[AM];omega)
 rw[AM]at g2
 have a1:(true&&[((1:Nat),qm l)].all fun p=>p.2.all qp)=true:=by simp[qO]
 have a3:((ints .i64 (l.map (·.1))).drop 0).take (l.length*1)=ints .i64 (l.map (·.1)):=by rw[AD,BY];exact AJ (by rw[zH,AM];exact Aw _)
 have a4:Nat.beq l.length l.length=true:=A5 _
 have a5:(0+l.length*1).ble (ints .i64 (l.map (·.1))).length=true:=by rw[Az,zH,AM];omega
 have e0: ∀f:List Int,f.map (Value.int .i64)=ints .i64 f:=fun _=>rfl
 unfold T xL jk
 dsimp only[]at a1 ⊢
 simp only[e0,a1,a3,a4,a5,g,gs,g2,vy,zh,A5,decide_true,AI,zn,jG,qZ,hin,GT.eval,AF,AE,Ai,A1,BS]
 cases hb:Nat.beq l.length 0 with
 |true=>
  have:l=[]:=AP.1 (Am hb)
  subst this
  rfl
 |false=>
  simp only[Ah]
  cases (A34L1.go s (A53.res (l.map (·.1))).1 (false,0,0,⟨#[]⟩) l).1 != 0<;>rfl
def spec:Spec:=fun aa=>match aa with
 |[.v (.string s),.sl n 3 cs]=>some (.qI (kV n (Int.ofNat n) cs&&(qj cs).all (fun v=>inR v.2.1)) (.out (xL s (qj cs))))
 |_=>none
theorem qg:qu Tryz.prog La 34 spec:=⟨qD (by kernel_rfl),fun aa t v h e=>by
 unfold spec at h
 split at h
 ·rename_i s n cs
  cases h
  obtain⟨g1,g2⟩:=GT.qh e
  cases g2
  simp only[Ag]at g1
  obtain⟨_,hn,h4,h5⟩:=zM g1.1
  have hin:=g1.2
  generalize qj cs=l at h4 h5 hin
  subst h4 h5
  exact⟨Q2 _ _,qS qx qf qd (by simpa using⟨A53.qg qx,A75.qg,A76.qg⟩) (by simpa using⟨A34L0.qE,A34L1.qE⟩) (by decide) (by simp) (Q2 _ _) ((run _ _ _).trans (qN _ _ hn hin))⟩
 ·cases h⟩
end A34
namespace A33
def T (k0 n0:Int) (s0:ByteArray):GT Value:=let o1:GT Value:=(.br (!eqU s0.data.toList []) (.out (.int .i64 1)) (.out (.int .i64 0)));let y1:=s0.data.toList;(.br (k0==0) (.br (!((k0==0)&&((n0==0)&&(eqU s0.data.toList []&&true)))) (.out (.int .i64 1)) (.out (.int .i64 0))) (.br (k0==1) (.br (eqU s0.data.toList []) (.br (n0==0) (.out (.int .i64 0)) (.br (!(n0==1)) (.out (.int .i64 1)) (.out (.int .i64 0)))) (.out (.int .i64 1))) (.br (k0==2) o1 (.br (k0==3) o1 (.br (k0==4) (.br (n0==0) (.br (decide ((Int.ofNat y1.length)≤1024)) (.br (Nat.ble y1.length 9223372036854775807) (.br (!(Go.Lib.validD s0.data.toList)) (.out (.int .i64 1)) (.out (.int .i64 0))) .no) (.out (.int .i64 1))) (.out (.int .i64 1))) (.out (.int .i64 1)))))))
theorem run (k0 n0:Int) (s0:ByteArray):runK 4 [(74,Ji)] [] 33 [.v (.agg #[.int .i64 k0,.int .i64 n0,.string s0])]=(T k0 n0 s0).eval:=by kernel_rfl
def okv (k n:Int) (s:ByteArray):Bool:=
 bif k==0 then n==0&&eqU s.data.toList []else bif k==1 then eqU s.data.toList []&&(n==0||n==1)else bif k==2||k==3 then eqU s.data.toList []else
 k==4&&(n==0&&(decide (s.data.toList.length≤1024)&&Go.Lib.validD s.data.toList))
theorem qN (k n:Int) (s:ByteArray):(T k n s).eval=some (.int .i64 (bif okv k n s then 0 else 1)):=by
 unfold okv
 by_cases h0:k=0
 ·subst h0;cases h2:n==0<;>cases h3:eqU s.data.toList []<;>simp[T,GT.eval,h2,h3]
 by_cases h1:k=1
 ·subst h1;cases h2:n==0<;>cases h4:n==1<;>cases h3:eqU s.data.toList []<;>simp[T,GT.eval,h2,h3,h4]
 by_cases h2:k=2
 ·subst h2;cases h3:eqU s.data.toList []<;>simp[T,GT.eval,h3]
 by_cases h3:k=3
 ·subst h3;cases h3:eqU s.data.toList []<;>simp[T,GT.eval,h3]
 by_cases h4:k=4
 ·subst h4
  by_cases h5:s.data.toList.length≤1024
  ·have h6 : Nat.ble s.data.toList.length 9223372036854775807 = true := by rw [Az]; omega
   have h7:decide (Int.ofNat s.data.toList.length≤1024)=true:=Al (by show (s.data.toList.length:Int)≤1024;omega)
   cases h2:n==0<;>cases h3:Go.Lib.validD s.data.toList<;>simp only[T,GT.eval,h2,h3,h6,h7,Al h5]<;>rfl
  ·have h7 : decide (Int.ofNat s.data.toList.length ≤ 1024) = false := An (by show ¬ (s.data.toList.length : Int) ≤ 1024; omega)
   cases h2:n==0<;>simp only[T,GT.eval,h2,h7,An h5]<;>rfl
 have e0:=Ao.mpr h0
 have e1:=Ao.mpr h1
 have e2:=Ao.mpr h2
 have e3:=Ao.mpr h3
 have e4:=Ao.mpr h4
 simp only[T,GT.eval,e0,e1,e2,e3,e4];rfl
def spec:Spec:=fun aa=>match aa with
 |[a]=>(vOf a).bind fun x=>some (.out (.int .i64 (bif okv x.1 x.2.1 x.2.2 then 0 else 1)))
 |_=>none
theorem qg:qu Tryz.prog La 33 spec:=⟨qD (by kernel_rfl),fun aa t v h e=>by
 unfold spec at h
 split at h
 ·rename_i a
  obtain⟨⟨k0,n0,s0⟩,h1,h⟩:=qi h
  cases h;cases e
  rw[qM h1]
  exact⟨rfl,qS (l:=[(74,Ji)]) (L:=[]) (n0:=4) (k:=12) qx qf qd (by simpa using cy) (by simp) (by decide) (by simp) rfl ((run k0 n0 s0).trans (qN _ _ _))⟩
 ·cases h⟩
end A33
namespace A35
def T (k0 n0:Int) (s0:ByteArray):GT Value:=(.br (k0 != 1) (.out (.bool false)) (.br (n0 != 0) (.out (.bool true)) (.out (.bool false))))
theorem run (k0 n0:Int) (s0:ByteArray):runK 4 [] [] 35 [.v (.agg #[.int .i64 k0,.int .i64 n0,.string s0])]=(T k0 n0 s0).eval:=by kernel_rfl
def tru (k n:Int):Bool:=k==1&&n != 0
theorem qN (k n:Int) (s:ByteArray):(T k n s).eval=some (.bool (tru k n)):=by
 unfold tru
 cases h:k==1<;>cases h2:n==0<;>simp[T,GT.eval,bne,h,h2]
def spec:Spec:=fun aa=>match aa with
 |[a]=>(vOf a).bind fun x=>some (.out (.bool (tru x.1 x.2.1)))
 |_=>none
theorem qg:qu Tryz.prog La 35 spec:=⟨qD (by kernel_rfl),fun aa t v h e=>by
 unfold spec at h
 split at h
 ·rename_i a
  obtain⟨⟨k0,n0,s0⟩,h1,h⟩:=qi h
  cases h;cases e
  rw[qM h1]
  exact⟨rfl,qS (l:=[]) (L:=[]) (n0:=4) (k:=12) qx qf qd (by simp) (by simp) (by decide) (by simp) rfl ((run k0 n0 s0).trans (qN _ _ _))⟩
 ·cases h⟩
end A35
end
end Go.Proofs.YtaiokpmmjbiajaaGreatDoorDx
