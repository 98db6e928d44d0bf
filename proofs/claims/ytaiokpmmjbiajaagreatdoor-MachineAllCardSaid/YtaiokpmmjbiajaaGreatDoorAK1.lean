/- A part of the proof of this claim. No condition beyond those that each theorem names. -/
import Derived.Test.YtaiokpmmjbiajaaGreatDoorAK0
import Derived.Test.YtaiokpmmjbiajaaGreatDoorProg
import Derived.KernelRfl
import Derived.Lib.ValidLaws
import Derived.Lib.TrimUEq
import Derived.Lib.MapLaws
import Derived.Lib.RuneCount
import Derived.Laws.Cover4
import Derived.WideShapes
import Derived.Lib.ItoaNum
import Derived.Lib.Repeat
import Derived.Lib.TrimByte
import Derived.Lib.Replace
import Derived.Lib.BitFns
set_option maxRecDepth 1000000
set_option linter.unusedVariables false
set_option linter.unusedSimpArgs false
namespace Go.Proofs.YtaiokpmmjbiajaaGreatDoorDx
section
open Go Go.Proofs
namespace A36
def T (k0 n0:Int) (s0:ByteArray) (k1 n1:Int) (s1:ByteArray):GT Value:=let x1:=A76.compare k0 n0 s0 k1 n1 s1;let o1:GT Value:=(.out (.agg #[.int .i64 0,.int .i64 0,.string ⟨#[]⟩]));let o2:GT Value:=(.out (.agg #[.int .i64 1,.int .i64 0,.string ⟨#[]⟩]));(.br (k0==0) o1 (.br (k1==0) o1 (.br (x1.2) (.br (x1.1==0) (.out (.agg #[.int .i64 1,.int .i64 1,.string ⟨#[]⟩])) o2) o2)))
theorem run (k0 n0:Int) (s0:ByteArray) (k1 n1:Int) (s1:ByteArray):runK 4 [(76,A76.spec)] [] 36 [.v (.agg #[.int .i64 k0,.int .i64 n0,.string s0]),.v (.agg #[.int .i64 k1,.int .i64 n1,.string s1])]=(T k0 n0 s0 k1 n1 s1).eval:=by kernel_rfl
def V3' (k n:Int):Value:= .agg #[.int .i64 k,.int .i64 n,.string ⟨#[]⟩]
def eqv (k0 n0:Int) (s0:ByteArray) (k1 n1:Int) (s1:ByteArray):Value:=
 bif k0==0||k1==0 then V3' 0 0 else bif(A76.compare k0 n0 s0 k1 n1 s1).2&&(A76.compare k0 n0 s0 k1 n1 s1).1==0 then V3' 1 1 else V3' 1 0
theorem qN (k0 n0:Int) (s0:ByteArray) (k1 n1:Int) (s1:ByteArray):(T k0 n0 s0 k1 n1 s1).eval=some (eqv k0 n0 s0 k1 n1 s1):=by
 unfold eqv
 cases h:k0==0<;>cases h2:k1==0<;>cases h3:(A76.compare k0 n0 s0 k1 n1 s1).2<;>cases h4:(A76.compare k0 n0 s0 k1 n1 s1).1==0<;>simp[T,GT.eval,V3',h,h2,h3,h4]
def spec:Spec:=fun aa=>match aa with
 |[a,b]=>(vOf a).bind fun x=>(vOf b).bind fun y=>some (.out (eqv x.1 x.2.1 x.2.2 y.1 y.2.1 y.2.2))
 |_=>none
theorem qg:qu Tryz.prog La 36 spec:=⟨qD (by kernel_rfl),fun aa t v h e=>by
 unfold spec at h
 split at h
 ·rename_i a b
  obtain⟨⟨k0,n0,s0⟩,h1,h⟩:=qi h
  obtain⟨⟨k1,n1,s1⟩,h2,h⟩:=qi h
  cases h;cases e
  rw[qM h1,qM h2]
  have hf:pfd 3 (eqv k0 n0 s0 k1 n1 s1)=true:=by
   unfold eqv
   cases k0==0||k1==0<;>cases (A76.compare k0 n0 s0 k1 n1 s1).2&&(A76.compare k0 n0 s0 k1 n1 s1).1==0<;>rfl
  exact⟨hf,qS (l:=[(76,A76.spec)]) (L:=[]) (n0:=4) (k:=12) qx qf qd (by simpa using A76.qg) (by simp) (by decide) (by simp) hf ((run k0 n0 s0 k1 n1 s1).trans (qN _ _ _ _ _ _))⟩
 ·cases h⟩
end A36
namespace A79
def T (k0 n0:Int) (s0:ByteArray):GT Value:=let x1:=IntKind.wrap .i64 (0 - n0);let o1:GT Value:=(.out (.tuple #[.agg #[.int .i64 k0,.int .i64 x1,.string ⟨#[]⟩],.int .i64 0]));let o2:GT Value:=(.br (k0==0) (.out (.tuple #[.agg #[.int .i64 0,.int .i64 0,.string ⟨#[]⟩],.int .i64 0])) (.br (n0 != x1) o1 (.br (!(n0==0)) (.out (.tuple #[.agg #[.int .i64 0,.int .i64 0,.string ⟨#[]⟩],.int .i64 20])) o1)));(.br (k0==2) o2 (.br (!(k0==3)) (.br (k0 != 0) (.out (.tuple #[.agg #[.int .i64 0,.int .i64 0,.string ⟨#[]⟩],.int .i64 22])) o2) o2))
theorem run (k0 n0:Int) (s0:ByteArray):runK 4 [] [] 79 [.v (.agg #[.int .i64 k0,.int .i64 n0,.string s0])]=(T k0 n0 s0).eval:=by kernel_rfl
def xk (k n:Int):V3×Int:=if k=0 then(v0,0)else if k=2∨k=3 then(if n=IntKind.wrap .i64 (0 - n)∧n≠0 then(v0,20)else((k,IntKind.wrap .i64 (0 - n),⟨#[]⟩),0))else(v0,22)
theorem qN (k n:Int) (s:ByteArray):(T k n s).eval=some (ve (xk k n)):=by
 unfold xk
 by_cases h0:k=0
 ·subst h0;simp[T,GT.eval,ve,vv,v0]
 ·by_cases h1 : n = IntKind.wrap .i64 (0 - n)
  ·have e1 : (n != IntKind.wrap .i64 (0 - n)) = false := bne_eq_false_iff_eq.mpr h1
   by_cases hn:n=0
   ·have e2 : (n == 0) = true := Ay.mpr hn
    rw[Aq h0,Aq (show¬(n=IntKind.wrap .i64 (0 - n)∧n≠0)from fun h=>h.2 hn)]
    by_cases h2:k=2
    ·subst h2;simp only[T,GT.eval,e1,e2];rfl
    ·by_cases h3 : k = 3
     ·subst h3;simp only[T,GT.eval,e1,e2];rfl
     ·simp[T,GT.eval,ve,vv,v0,h0,h2,h3,Ao.mpr h2,Ao.mpr h3,B8.mpr h0]
   ·have e2 : (n == 0) = false := Ao.mpr hn
    rw[Aq h0,Ax (show n=IntKind.wrap .i64 (0 - n)∧n≠0 from⟨h1,hn⟩)]
    by_cases h2:k=2
    ·subst h2;simp only[T,GT.eval,e1,e2];rfl
    ·by_cases h3 : k = 3
     ·subst h3;simp only[T,GT.eval,e1,e2];rfl
     ·simp[T,GT.eval,ve,vv,v0,h0,h2,h3,Ao.mpr h2,Ao.mpr h3,B8.mpr h0]
  ·have e1 : (n != IntKind.wrap .i64 (0 - n)) = true := B8.mpr h1
   rw[Aq h0,Aq (show¬(n=IntKind.wrap .i64 (0 - n)∧n≠0)from fun h=>h1 h.1)]
   by_cases h2:k=2
   ·subst h2;simp only[T,GT.eval,e1];rfl
   ·by_cases h3 : k = 3
    ·subst h3;simp only[T,GT.eval,e1];rfl
    ·simp[T,GT.eval,ve,vv,v0,h0,h2,h3,Ao.mpr h2,Ao.mpr h3,B8.mpr h0]
def spec:Spec:=fun aa=>match aa with
 |[a]=>(vOf a).bind fun x=>some (.out (ve (xk x.1 x.2.1)))
 |_=>none
theorem qg:qu Tryz.prog La 79 spec:=⟨qD (by kernel_rfl),fun aa t v h e=>by
 unfold spec at h
 split at h
 ·rename_i a
  obtain⟨⟨k0,n0,s0⟩,h1,h⟩:=qi h
  cases h
  rw[qM h1]
  cases e
  refine⟨rfl,qS qx qf qd ?_ (by simp) (by decide) (by simp) rfl ((run k0 n0 s0).trans (qN k0 n0 s0))⟩
  intro p hp
  simp only[AX,AZ,or_false]at hp
 ·cases h⟩
end A79
namespace A80
def T (s0:ByteArray) (k1 n1:Int) (s1:ByteArray):GT Value:=let x1:=IntKind.wrap .i64 (Int.tdiv n1 10000);let x3:=IntKind.wrap .i64 (x1 - 1);let x4:=Int.tmod n1 10000;let x2:=IntKind.wrap .i64 (0 - x4);let x5:=IntKind.wrap .i64 (x1+1);let o1:GT Value:=(.out (.tuple #[.agg #[.int .i64 2,.int .i64 x5,.string ⟨#[]⟩],.int .i64 0]));let o2:GT Value:=(.out (.tuple #[.agg #[.int .i64 2,.int .i64 x3,.string ⟨#[]⟩],.int .i64 0]));let o3:GT Value:=(.out (.tuple #[.agg #[.int .i64 2,.int .i64 x1,.string ⟨#[]⟩],.int .i64 0]));let y1:=eqU s0.data.toList [114,111,117,110,100];let o4:GT Value:=(.br y1 (.br (decide (x2≥5000)) o2 o3) o3);let o5:GT Value:=(.br (eqU s0.data.toList [102,108,111,111,114]) (.br (decide (x4<0)) o2 o4) o4);let o6:GT Value:=(.br y1 (.br (decide (x4≥5000)) o1 o5) o5);(.br (k1==2) (.out (.tuple #[.agg #[.int .i64 k1,.int .i64 n1,.string s1],.int .i64 0])) (.br (eqU s0.data.toList [99,101,105,108]) (.br (decide (x4>0)) o1 o6) o6))
theorem run (s0:ByteArray) (k1 n1:Int) (s1:ByteArray):runK 4 [] [] 80 [.v (.string s0),.v (.agg #[.int .i64 k1,.int .i64 n1,.string s1])]=(T s0 k1 n1 s1).eval:=by kernel_rfl
def rnd (s:ByteArray) (n:Int):Int:=
 bif(eqU s.data.toList [99,101,105,108]&&decide (Int.tmod n 10000>0))||(eqU s.data.toList [114,111,117,110,100]&&decide (Int.tmod n 10000≥5000))then IntKind.wrap .i64 (IntKind.wrap .i64 (Int.tdiv n 10000)+1)else
 bif(eqU s.data.toList [102,108,111,111,114]&&decide (Int.tmod n 10000<0))||(eqU s.data.toList [114,111,117,110,100]&&decide (IntKind.wrap .i64 (0 - Int.tmod n 10000)≥5000))then IntKind.wrap .i64 (IntKind.wrap .i64 (Int.tdiv n 10000) - 1)else
 IntKind.wrap .i64 (Int.tdiv n 10000)
def jB (s:ByteArray) (k1 n1:Int) (s1:ByteArray):Value:=
 bif k1==2 then .tuple #[.agg #[.int .i64 k1,.int .i64 n1,.string s1],.int .i64 0]else .tuple #[.agg #[.int .i64 2,.int .i64 (rnd s n1),.string ⟨#[]⟩],.int .i64 0]
theorem QF (s:ByteArray) (k1 n1:Int) (s1:ByteArray):pfd 3 (jB s k1 n1 s1)=true:=by
 unfold jB
 cases k1==2<;>rfl
theorem qN (s0:ByteArray) (k1 n1:Int) (s1:ByteArray):(T s0 k1 n1 s1).eval=some (jB s0 k1 n1 s1):=by
 unfold jB rnd T
 dsimp only
 generalize eqU s0.data.toList [99,101,105,108]=a
 generalize eqU s0.data.toList [114,111,117,110,100]=b
 generalize eqU s0.data.toList [102,108,111,111,114]=c
 generalize decide (Int.tmod n1 10000>0)=d
 generalize decide (Int.tmod n1 10000≥5000)=e
 generalize decide (Int.tmod n1 10000<0)=f
 generalize decide (IntKind.wrap .i64 (0 - Int.tmod n1 10000)≥5000)=g
 generalize (k1==2)=h
 cases h<;>cases a<;>cases b<;>cases c<;>cases d<;>cases e<;>cases f<;>cases g<;>rfl
def spec:Spec:=fun aa=>match aa with
 |[.v (.string s),a]=>(vOf a).bind fun x=>some (.out (jB s x.1 x.2.1 x.2.2))
 |_=>none
theorem qg:qu Tryz.prog La 80 spec:=⟨qD (by kernel_rfl),fun aa t v h e=>by
 unfold spec at h
 split at h
 ·rename_i s a
  obtain⟨⟨k0,n0,s0⟩,h1,h⟩:=qi h
  cases h;cases e
  rw[qM h1]
  exact⟨QF _ _ _ _,qS (l:=[]) (L:=[]) (n0:=4) (k:=12) qx qf qd (by simp) (by simp) (by decide) (by simp) (QF _ _ _ _) ((run s k0 n0 s0).trans (qN _ _ _ _))⟩
 ·cases h⟩
end A80
namespace A82
def T (k0 n0:Int) (s0:ByteArray):GT Value:=let x1:=IntKind.wrap .i64 (Int.tdiv n0 10000);let o1:GT Value:=(.br (k0==0) (.out (.tuple #[.agg #[.int .i64 0,.int .i64 0,.string ⟨#[]⟩],.int .i64 0])) (.br (k0==3) (.out (.tuple #[.agg #[.int .i64 2,.int .i64 x1,.string ⟨#[]⟩],.int .i64 0])) (.out (.tuple #[.agg #[.int .i64 2,.int .i64 n0,.string ⟨#[]⟩],.int .i64 0]))));(.br (k0==2) o1 (.br (!(k0==3)) (.br (k0 != 0) (.out (.tuple #[.agg #[.int .i64 0,.int .i64 0,.string ⟨#[]⟩],.int .i64 22])) o1) o1))
theorem run (k0 n0:Int) (s0:ByteArray):runK 4 [] [] 82 [.v (.agg #[.int .i64 k0,.int .i64 n0,.string s0])]=(T k0 n0 s0).eval:=by kernel_rfl
def Jb (k n:Int):V3×Int:=if k=0 then(v0,0)else if k=3 then((2,IntKind.wrap .i64 (Int.tdiv n 10000),⟨#[]⟩),0)else if k=2 then((2,n,⟨#[]⟩),0)else(v0,22)
theorem qN (k n:Int) (s:ByteArray):(T k n s).eval=some (ve (Jb k n)):=by
 unfold Jb
 by_cases h0:k=0
 ·subst h0;simp[T,GT.eval,ve,vv,v0]
 ·by_cases h2 : k = 2
  ·subst h2;simp[T,GT.eval,ve,vv,v0]
  ·by_cases h3 : k = 3
   ·subst h3;simp[T,GT.eval,ve,vv,v0]
   ·simp[T,GT.eval,ve,vv,v0,h0,h2,h3,Ao.mpr h2,Ao.mpr h3,B8.mpr h0]
def spec:Spec:=fun aa=>match aa with
 |[a]=>(vOf a).bind fun x=>some (.out (ve (Jb x.1 x.2.1)))
 |_=>none
theorem qg:qu Tryz.prog La 82 spec:=⟨qD (by kernel_rfl),fun aa t v h e=>by
 unfold spec at h
 split at h
 ·rename_i a
  obtain⟨⟨k0,n0,s0⟩,h1,h⟩:=qi h
  cases h
  rw[qM h1]
  cases e
  refine⟨rfl,qS qx qf qd ?_ (by simp) (by decide) (by simp) rfl ((run k0 n0 s0).trans (qN k0 n0 s0))⟩
  intro p hp
  simp only[AX,AZ,or_false]at hp
 ·cases h⟩
end A82
namespace A37L0
noncomputable def cfg:Cfg:=zw Tryz.prog 4 (gpT []) (ltT 4 [])
def stA (n:Nat) (e:Int) (s:ByteArray) (i:Int):KX:=⟨[(4,.pointer (some ⟨4,0,none⟩)),(5,.int .i64 e),(8,.string s),(125,.slice (some ⟨1,0,none⟩) n 3),(126,.int .i64 (Int.ofNat n)),(127,.int .i64 i)],[]⟩
def qT (e:Int) (s:ByteArray):KX:=⟨[(4,.pointer (some ⟨4,0,none⟩)),(5,.int .i64 e),(8,.string s)],[]⟩
def kp:Ex→List Nat
 | .normal=>[4,5,8,125,126,127]
 |_=>[4,5,8]
def cO (s t:ByteArray):ByteArray:=⟨(s.data.toList++t.data.toList).toArray⟩
theorem round (n:Nat) (e:Int) (s:ByteArray) (i:Int) (cs:List Value):zN cfg [] [] 37 0 (stK 140 6 [(1,cs)] (stA n e s i)) (zv 6 100 140 kp (fun _ _=>[]))=
 (let x:=0+((i).toNat*3);bif decide (i<(Int.ofNat n))then(bif decide (0≤i)then(bif Nat.blt (i).toNat n then(bif isL cs x [(.i .i64),(.i .i64),.s]then(bif Nat.ble (((s).data.toList).length+((rdS cs (x+1+1)).data.toList).length) 9223372036854775807 then(some (.normal,stA n e (cO s (rdS cs (x+1+1))) (IntKind.wrap .i64 (i+1))))else none)else none)else none)else none)else(some (.exit 1,qT e s))):=by kernel_rfl
def cat (l:List W3):ByteArray:=l.foldl (fun s v=>cO s v.2.2) ⟨#[]⟩
theorem XE (l:List W3) {j:Nat} (h:j<l.length):cat (l.take (j+1))=cO (cat (l.take j)) l[j].2.2:=by
 unfold cat
 rw[←List.take_append_getElem h,List.foldl_append];rfl
theorem ao (l:List W3) (hs: ∀v∈l,v.2.2.data.toList.length≤1024): ∀j,j≤l.length→(cat (l.take j)).data.toList.length≤1024*j
 |0,_=>by rw[CE];exact Aw _
 |j+1,h=>by
  have h1:=ao l hs j (by omega)
  have h2:=hs _ (Bf (show j<l.length by omega))
  rw[XE l (show j<l.length by omega)]
  show ((cat (l.take j)).data.toList++(l[j].2.2).data.toList).toArray.toList.length≤_
  rw[Bt,AO]
  omega
def jn (v:W3):Bool:=Nat.ble v.2.2.data.toList.length 1024
def D:KD:=⟨140,6,100,[4,5,8,125,126,127],[1],fun _=>[],fun x ro=>match x.vs,x.cars,ro with
 |[(4,.pointer (some ⟨4,0,none⟩)),(5,.int .i64 e),(8,.string ⟨⟨[]⟩⟩),(125,.slice (some ⟨1,0,none⟩) n 3),(126,.int .i64 m),(127,.int .i64 0)],[],[(1,cs)]=>
  .qI (kV n m cs&&(qj cs).all jn) (.out (.exit 1,qT e (cat (qj cs))))
 |_,_,_=> .no⟩
def lp:LpK:=⟨37,41,0,D⟩
theorem qE:zq Tryz.prog La 4 lp:=by
 refine⟨by kernel_rfl,fun c base I hP hn hG hI hIL x ro ex y e=> ?_⟩
 obtain⟨vs,cars⟩:=x
 simp only[lp,D]at e ⊢
 split at e
 ·rename_i e0 n m cs
  obtain⟨g1,g2⟩:=GT.qh e
  simp only[Ag]at g1
  obtain⟨rfl,hn2,h4,h5⟩:=zM g1.1
  have hsh:=g1.2
  generalize qj cs=l at h4 h5 g2 hsh
  subst h4 h5
  have hs: ∀v∈l,v.2.2.data.toList.length≤1024:=fun v hv=>AW (Ap.1 hsh v hv)
  have key:=zA (Step:= @zy (zL base) c base I (qV Tryz.prog 37 0) 140 6 100 [(1,qm l)]) (step:=fun(_:Unit) (v:W3)=> .inl ()) (fin:=fun _=>(.exit 1,qT e0 (cat l))) (st:=fun _ j=>stA l.length e0 (cat (l.take j)) j) (l:=l) (fun s=>by simp) (fun s a r h=>by cases h) (fun _ j hj=>by
    have h1:=ltI hj
    have h2:=geI j
    have h3:=j7 hj
    have h4:(0+((j:Int)).toNat*3)=j*3:=by simp
    have h5:=wrI j (by omega)
    have hr1:rdS (qm l) (j*3+1+1)=l[j].2.2:=kE l hj
    have h6:=ao l hs j (by omega)
    have h7:=hs _ (Bf hj)
    have h8:Nat.ble ((cat (l.take j)).data.toList.length+l[j].2.2.data.toList.length) 9223372036854775807=true:=by rw[Az];omega
    have hr:=round l.length e0 (cat (l.take j)) j (qm l)
    simp only[h1,h2,h3,h4,h5,ke l hj,hr1,h8,Ai]at hr
    rw[←XE l hj]at hr
    exact stepT qf qd (by simp) (by simp) hP hn hG hI hIL hr) (fun _=>by
    have h1:=j6 l.length
    have hr:=round l.length e0 (cat (l.take l.length)) l.length (qm l)
    simp only[h1,Ah]at hr
    have e1:cat l=cat (l.take l.length):=by rw[Bo]
    show @zy (zL base) c base I (qV Tryz.prog 37 0) 140 6 100 [(1,qm l)] (stA l.length e0 (cat (l.take l.length)) l.length) (.exit 1) (qT e0 (cat l))
    rw[e1]
    exact stepT qf qd (by simp) (by simp) hP hn hG hI hIL hr) l.length 0 () (by omega)
  rw[AD,kJ]at key
  cases g2
  exact key
 ·cases e
end A37L0
namespace A10L0
noncomputable def cfg:Cfg:=zw Tryz.prog 4 (gpT []) (ltT 4 [])
def stN (nm:ByteArray) (n:Nat) (e i:Int) (nl:Bool):KX:=⟨[(0,.string nm),(1,.slice (some ⟨1,0,none⟩) n 3),(4,.pointer (some ⟨4,0,none⟩)),(5,.int .i64 e),(6,.slice none 0 0),(7,.bool nl),(14,.slice (some ⟨1,0,none⟩) n 3),(15,.int .i64 (Int.ofNat n)),(16,.int .i64 i)],[]⟩
def stR (nm:ByteArray) (n:Nat) (e i:Int) (nl:Bool) (k:Nat) (row:List Value):KX:=⟨[(0,.string nm),(1,.slice (some ⟨1,0,none⟩) n 3),(4,.pointer (some ⟨4,0,none⟩)),(5,.int .i64 e),(6,.slice (some ⟨5,0,none⟩) k 1),(7,.bool nl),(14,.slice (some ⟨1,0,none⟩) n 3),(15,.int .i64 (Int.ofNat n)),(16,.int .i64 i)],[row]⟩
def exN (nm:ByteArray) (n:Nat) (e:Int) (nl:Bool):KX:=⟨[(0,.string nm),(1,.slice (some ⟨1,0,none⟩) n 3),(4,.pointer (some ⟨4,0,none⟩)),(5,.int .i64 e),(6,.slice none 0 0),(7,.bool nl)],[]⟩
def exR (nm:ByteArray) (n:Nat) (e:Int) (nl:Bool) (k:Nat) (row:List Value):KX:=⟨[(0,.string nm),(1,.slice (some ⟨1,0,none⟩) n 3),(4,.pointer (some ⟨4,0,none⟩)),(5,.int .i64 e),(6,.slice (some ⟨5,0,none⟩) k 1),(7,.bool nl)],[row]⟩
def kp:Ex→List Nat
 | .normal=>[0,1,4,5,6,7,14,15,16]
 |_=>[0,1,4,5,6,7]
def cr:Ex→St→List (Nat×Bool):=fun _ s=>match s.T.get 6 with
 |some (.slice (some p) _ _)=>[(p.block,true)]
 |_=>[]
theorem vw (nm:ByteArray) (n:Nat) (e i:Int) (nl:Bool) (cs:List Value):zN cfg [] [] 10 0 (stK 84 5 [(1,cs)] (stN nm n e i nl)) (zv 5 100 84 kp cr)=
 (let x:=rdI cs (0+((i).toNat*3));bif decide (i<(Int.ofNat n))then(bif decide (0≤i)then(bif Nat.blt (i).toNat n then(bif isL cs (0+((i).toNat*3)) [(.i .i64),(.i .i64),.s]then(bif nl then(some (.normal,stR nm n e (IntKind.wrap .i64 (i+1)) true 1 [.int .i64 x]))else(some (.normal,stR nm n e (IntKind.wrap .i64 (i+1)) (x==0) 1 [.int .i64 x])))else none)else none)else none)else(some (.exit 0,exN nm n e nl))):=by kernel_rfl
theorem kl (nm:ByteArray) (n:Nat) (e i:Int) (nl:Bool) (k:Nat) (row:List Value) (cs:List Value):zN cfg [] [] 10 0 (stK 84 5 [(1,cs)] (stR nm n e i nl k row)) (zv 5 100 84 kp cr)=
 (let x:=rdI cs (0+((i).toNat*3));let r2:=(((row).drop 0).take (k*1))++[.int .i64 x];bif decide (i<(Int.ofNat n))then(bif decide (0≤i)then(bif Nat.blt (i).toNat n then(bif isL cs (0+((i).toNat*3)) [(.i .i64),(.i .i64),.s]then(bif Nat.ble (k+1) 200000000000000 then(bif Nat.ble ((k+1)*8) 200000000000000 then(bif Nat.ble (0+(k*1)) (row).length then(bif nl then(bif r2.all qp&&true then(some (.normal,stR nm n e (IntKind.wrap .i64 (i+1)) true (k+1) r2))else none)else(bif r2.all qp&&true then(some (.normal,stR nm n e (IntKind.wrap .i64 (i+1)) (x==0) (k+1) r2))else none))else none)else none)else none)else none)else none)else none)else(bif row.all qp&&true then(some (.exit 0,exR nm n e nl k row))else none)):=by kernel_rfl
def row (l:List W3) (j:Nat):List Int:=(l.take j).map (·.1)
theorem vJ (l:List W3) {j:Nat} (h:j<l.length):row l (j+1)=row l j++[l[j].1]:=by
 unfold row
 rw[←List.take_append_getElem h,BH];rfl
theorem xf (l:List W3) {j:Nat} (h:j≤l.length):(row l j).length=j:=by
 unfold row
 rw[AM,BQ];omega
def nl (l:List W3) (j:Nat):Bool:=(row l j).any (· ==0)
theorem aQ (l:List W3) {j:Nat} (h:j<l.length):nl l (j+1)=(nl l j||l[j].1==0):=by
 unfold nl
 rw[vJ l h,List.any_append];simp
def st (nm:ByteArray) (n:Nat) (e:Int) (l:List W3) (j:Nat):KX:=bif Nat.beq j 0 then stN nm n e j false else stR nm n e j (nl l j) j (ints .i64 (row l j))
def fin (nm:ByteArray) (n:Nat) (e:Int) (l:List W3):KX:=bif Nat.beq n 0 then exN nm n e false else exR nm n e ((l.map (·.1)).any (· ==0)) n (ints .i64 (l.map (·.1)))
def D:KD:=⟨84,5,100,[0,1,4,5,6,7,14,15,16],[1],fun _=>[],fun x ro=>match x.vs,x.cars,ro with
 |[(0,.string nm),(1,.slice (some ⟨1,0,none⟩) n 3),(4,.pointer (some ⟨4,0,none⟩)),(5,.int .i64 e),(6,.slice none 0 0),(7,.bool false),(14,.slice (some ⟨1,0,none⟩) n' 3),(15,.int .i64 m),(16,.int .i64 0)],[],[(1,cs)]=>
  .qI (Nat.beq n' n&&kV n m cs) (.br (Nat.beq n 0) (.out (.exit 0,exN nm n e false)) (.out (.exit 0,exR nm n e (((qj cs).map (·.1)).any (· ==0)) n (ints .i64 ((qj cs).map (·.1))))))
 |_,_,_=> .no⟩
def lp:LpK:=⟨10,4,0,D⟩
theorem qE:zq Tryz.prog La 4 lp:=by
 refine⟨by kernel_rfl,fun c base I hP hn hG hI hIL x ro ex y e=> ?_⟩
 obtain⟨vs,cars⟩:=x
 simp only[lp,D]at e ⊢
 split at e
 ·rename_i nm n e0 n' m cs
  obtain⟨g1,g2⟩:=GT.qh e
  simp only[Ag]at g1
  obtain rfl:=Am g1.1
  obtain⟨rfl,hn2,h4,h5⟩:=zM g1.2
  generalize qj cs=l at h4 h5 g2
  subst h4 h5
  have key:=zA (Step:= @zy (zL base) c base I (qV Tryz.prog 10 0) 84 5 100 [(1,qm l)]) (step:=fun(_:Unit) (_:W3)=> .inl ()) (fin:=fun _=>(.exit 0,fin nm l.length e0 l)) (st:=fun _ j=>st nm l.length e0 l j) (l:=l) (fun s=>by simp) (fun s a r h=>by cases h) (fun _ j hj=>by
    have h1:=ltI hj
    have h2:=geI j
    have h3:=j7 hj
    have h4:(0+((j:Int)).toNat*3)=j*3:=by simp
    have h5:=wrI j (by omega)
    show @zy (zL base) c base I (qV Tryz.prog 10 0) 84 5 100 [(1,qm l)] (st nm l.length e0 l j) .normal (st nm l.length e0 l (j+1))
    cases j with
    |zero=>
     have hr:=vw nm l.length e0 ((0:Nat):Int) false (qm l)
     simp only[h1,h2,h3,h4,h5,ke l hj,zU l hj,Ai]at hr
     have e1:st nm l.length e0 l 0=stN nm l.length e0 ((0:Nat):Int) false:=rfl
     have e2:st nm l.length e0 l (0+1)=stR nm l.length e0 ((0+1:Nat):Int) (l[0].1==0) 1 [.int .i64 l[0].1]:=by
      show stR nm l.length e0 ((0+1:Nat):Int) (nl l (0+1)) (0+1) (ints .i64 (row l (0+1)))=_
      rw[aQ l hj,vJ l hj];rfl
     rw[e1,e2]
     exact stepT qf qd (by simp) (by simp) hP hn hG hI hIL hr
    |succ j=>
     have hk:=xf l (AV hj)
     have hr:=kl nm l.length e0 ((j+1:Nat):Int) (nl l (j+1)) (j+1) (ints .i64 (row l (j+1))) (qm l)
     have q1:((ints .i64 (row l (j+1))).drop 0).take ((j+1)*1)++[.int .i64 (l[j+1]).1]=ints .i64 (row l (j+1+1)):=by
      rw[AD,BY,AJ (by rw[zH,hk];exact Aw _),vJ l hj]
      unfold ints
      rw[BH];rfl
     have q2:Nat.ble (j+1+1) 200000000000000=true:=by rw[Az];omega
     have q3:Nat.ble ((j+1+1)*8) 200000000000000=true:=by rw[Az];omega
     have q4:Nat.ble (0+(j+1)*1) (ints .i64 (row l (j+1))).length=true:=by rw[Az,zH,hk];omega
     simp only[h1,h2,h3,h4,h5,ke l hj,zU l hj,q1,q2,q3,q4,qZ,AE,Ai]at hr
     have e1:st nm l.length e0 l (j+1)=stR nm l.length e0 ((j+1:Nat):Int) (nl l (j+1)) (j+1) (ints .i64 (row l (j+1))):=rfl
     have e2:st nm l.length e0 l (j+1+1)=stR nm l.length e0 ((j+1+1:Nat):Int) (nl l (j+1)||l[j+1].1==0) (j+1+1) (ints .i64 (row l (j+1+1))):=by rw[←aQ l hj];rfl
     rw[e1,e2]
     cases hz:nl l (j+1)<;>rw[hz]at hr<;>exact stepT qf qd (by simp) (by simp) hP hn hG hI hIL hr) (fun _=>by
    have h1:=j6 l.length
    show @zy (zL base) c base I (qV Tryz.prog 10 0) 84 5 100 [(1,qm l)] (st nm l.length e0 l l.length) (.exit 0) (fin nm l.length e0 l)
    cases hl:l.length with
    |zero=>
     have hr:=vw nm l.length e0 (l.length:Int) false (qm l)
     simp only[h1,Ah]at hr
     rw[hl]at hr
     exact stepT qf qd (by simp) (by simp) hP hn hG hI hIL hr
    |succ j=>
     have hr:=kl nm l.length e0 (l.length:Int) (nl l l.length) l.length (ints .i64 (row l l.length)) (qm l)
     simp only[h1,Ah,qZ,AE,Ai]at hr
     have e3:row l l.length=l.map (·.1):=by unfold row;rw[Bo]
     have e4:nl l l.length=(l.map (·.1)).any (· ==0):=by unfold nl;rw[e3]
     rw[hl]at hr e3 e4
     have e1:st nm (j+1) e0 l (j+1)=stR nm (j+1) e0 ((j+1:Nat):Int) (nl l (j+1)) (j+1) (ints .i64 (row l (j+1))):=rfl
     have e2:fin nm (j+1) e0 l=exR nm (j+1) e0 ((l.map (·.1)).any (· ==0)) (j+1) (ints .i64 (l.map (·.1))):=rfl
     rw[e1,e2,←e4,←e3]
     exact stepT qf qd (by simp) (by simp) hP hn hG hI hIL hr) l.length 0 () (by omega)
  rw[AD,kJ]at key
  cases hb:Nat.beq l.length 0 with
  |true=>rw[GT.eval,hb]at g2;cases g2;unfold fin at key;rw[hb]at key;exact key
  |false=>rw[GT.eval,hb]at g2;cases g2;unfold fin at key;rw[hb]at key;exact key
 ·cases e
end A10L0
namespace A10L1
noncomputable def cfg:Cfg:=zw Tryz.prog 4 (gpT [(33,A33.spec)]) (ltT 4 [])
def stA (nm:ByteArray) (n:Nat) (e:Int) (nl:Bool) (i:Int):KX:=⟨[(0,.string nm),(1,.slice (some ⟨1,0,none⟩) n 3),(4,.pointer (some ⟨105,0,none⟩)),(5,.int .i64 e),(7,.bool nl),(42,.slice (some ⟨1,0,none⟩) n 3),(43,.int .i64 (Int.ofNat n)),(44,.int .i64 i)],[[.int .i64 0,.int .i64 0,.string ⟨#[]⟩]]⟩
def qT (nm:ByteArray) (n:Nat) (e:Int) (nl:Bool):KX:=⟨[(0,.string nm),(1,.slice (some ⟨1,0,none⟩) n 3),(4,.pointer (some ⟨105,0,none⟩)),(5,.int .i64 e),(7,.bool nl)],[[.int .i64 0,.int .i64 0,.string ⟨#[]⟩]]⟩
def qP (e:Int):KX:=⟨[(4,.pointer (some ⟨105,0,none⟩)),(5,.int .i64 e)],[[.int .i64 0,.int .i64 0,.string ⟨#[]⟩]]⟩
def kp:Ex→List Nat
 | .normal=>[0,1,4,5,7,42,43,44]
 | .ret=>[4,5]
 |_=>[0,1,4,5,7]
def cr:Ex→St→List (Nat×Bool):=fun _ s=>[(105,true)]
theorem round (nm:ByteArray) (n:Nat) (e:Int) (nl:Bool) (i:Int) (cs:List Value):zN cfg [(33,A33.spec)] [] 10 1 (stK 84 105 [(1,cs)] (stA nm n e nl i)) (zv 105 100 84 kp cr)=
 (let x:=0+((i).toNat*3);bif decide (i<(Int.ofNat n))then(bif decide (0≤i)then(bif Nat.blt (i).toNat n then(bif isL cs x [(.i .i64),(.i .i64),.s]then(bif((bif A33.okv (rdI cs x) (rdI cs (x+1)) (rdS cs (x+1+1))then(0:Int)else 1) != 0)then(some (.ret,qP 22))else(some (.normal,stA nm n e nl (IntKind.wrap .i64 (i+1)))))else none)else none)else none)else(some (.exit 2,qT nm n e nl))):=by kernel_rfl
def bad (v:W3):Bool:= !A33.okv v.1 v.2.1 v.2.2
theorem bad_eq (b:Bool):((bif b then(0:Int)else 1) != 0)= !b:=by cases b<;>rfl
def D:KD:=⟨84,105,100,[0,1,4,5,7,42,43,44],[1],fun _=>[(4,true)],fun x ro=>match x.vs,x.cars,ro with
 |[(0,.string nm),(1,.slice (some ⟨1,0,none⟩) n 3),(4,.pointer (some ⟨105,0,none⟩)),(5,.int .i64 e),(7,.bool nl),(42,.slice (some ⟨1,0,none⟩) n' 3),(43,.int .i64 m),(44,.int .i64 0)],[[.int .i64 0,.int .i64 0,.string ⟨⟨[]⟩⟩]],[(1,cs)]=>
  .qI (Nat.beq n' n&&kV n m cs) (.br ((qj cs).any bad) (.out (.ret,qP 22)) (.out (.exit 2,qT nm n e nl)))
 |_,_,_=> .no⟩
def lp:LpK:=⟨10,13,1,D⟩
theorem zZ: ∀p∈[((33:FuncId),A33.spec)],qu Tryz.prog La p.1 p.2:=by simpa using A33.qg
theorem qE:zq Tryz.prog La 4 lp:=by
 refine⟨by kernel_rfl,fun c base I hP hn hG hI hIL x ro ex y e=> ?_⟩
 obtain⟨vs,cars⟩:=x
 simp only[lp,D]at e ⊢
 split at e
 ·rename_i nm n e0 nl n' m cs
  obtain⟨g1,g2⟩:=GT.qh e
  simp only[Ag]at g1
  obtain rfl:=Am g1.1
  obtain⟨rfl,hn2,h4,h5⟩:=zM g1.2
  generalize qj cs=l at h4 h5 g2
  subst h4 h5
  have key:=zA (Step:= @zy (zL base) c base I (qV Tryz.prog 10 1) 84 105 100 [(1,qm l)]) (step:=fun(_:Unit) (v:W3)=>bif bad v then .inr (.ret,qP 22)else .inl ()) (fin:=fun _=>(.exit 2,qT nm l.length e0 nl)) (st:=fun _ j=>stA nm l.length e0 nl j) (l:=l) (fun s=>by simp) (fun s a r h=>by
    cases hb:bad a<;>rw[hb]at h<;>cases h;simp) (fun _ j hj=>by
    have h1:=ltI hj
    have h2:=geI j
    have h3:=j7 hj
    have h4:(0+((j:Int)).toNat*3)=j*3:=by simp
    have h5:=wrI j (by omega)
    have hs:rdS (qm l) (j*3+1+1)=l[j].2.2:=kE l hj
    have hr:=round nm l.length e0 nl j (qm l)
    simp only[h1,h2,h3,h4,h5,ke l hj,zU l hj,zT l hj,hs,Ai,bad_eq]at hr
    unfold bad
    cases hb:A33.okv l[j].1 l[j].2.1 l[j].2.2<;>rw[hb]at hr<;>exact stepT qf qd zZ (by simp) hP hn hG hI hIL hr) (fun _=>by
    have h1:=j6 l.length
    have hr:=round nm l.length e0 nl l.length (qm l)
    simp only[h1,Ah]at hr
    exact stepT qf qd zZ (by simp) hP hn hG hI hIL hr) l.length 0 () (by omega)
  rw[AD,xK]at key
  cases hb:l.any bad with
  |true=>rw[hb]at key;rw[GT.eval,hb]at g2;cases g2;exact key
  |false=>rw[hb]at key;rw[GT.eval,hb]at g2;cases g2;exact key
 ·cases e
end A10L1
end
end Go.Proofs.YtaiokpmmjbiajaaGreatDoorDx
namespace Go.Proofs.YtaiokpmmjbiajaaGreatDoorU8
section
open Go Go.Lib
def wL (n:Int):Prop:=(0≤n∧n<55296)∨(57344≤n∧n≤1114111)
def enc (n:Int):List UInt8:=(Utf8.encode n).data.toList
def u8s (l:List Int):List UInt8:=l.flatMap enc
theorem az:u8s []=[]:=rfl
theorem vt (n:Int) (l:List Int):u8s (n::l)=enc n++u8s l:=rfl
theorem vz (a b:List Int):u8s (a++b)=u8s a++u8s b:=by simp[u8s]
theorem Qz {n:Int} (h:wL n):enc n=
  if n<128 then[UInt8.ofNat n.toNat]
  else if n<2048 then[UInt8.ofNat (192+n.toNat / 64),UInt8.ofNat (128+n.toNat % 64)]
  else if n<65536 then[UInt8.ofNat (224+n.toNat / 4096),UInt8.ofNat (128+n.toNat / 64 % 64),UInt8.ofNat (128+n.toNat % 64)]
  else[UInt8.ofNat (240+n.toNat / 262144),UInt8.ofNat (128+n.toNat / 4096 % 64),UInt8.ofNat (128+n.toNat / 64 % 64),UInt8.ofNat (128+n.toNat % 64)]:=by
 unfold enc Utf8.encode
 have hv:Utf8.valid n=true:=by
  unfold Utf8.valid
  unfold wL at h
  simp only[AS,Ag,As]
  omega
 simp only[hv,if_true]
 unfold wL at h
 by_cases h1:n<128
 ·rw[Ax h1,Ax (by omega)]
 by_cases h2:n<2048
 ·rw[Aq h1,Ax h2,Aq (by omega),Ax (by omega)]
 by_cases h3:n<65536
 ·rw[Aq h1,Aq h2,Ax h3,Aq (by omega),Aq (by omega),Ax (by omega)]
 ·rw[Aq h1,Aq h2,Aq h3,Aq (by omega),Aq (by omega),Aq (by omega)]
theorem tn {n:Nat} (h:n<256):(UInt8.ofNat n).toNat=n:=by simp;omega
theorem iQ {n:Int} (h:wL n) (t:List UInt8):decodeL (enc n++t)=(n.toNat,(enc n).length):=by
 rw[decodeL_N,Qz h]
 unfold wL at h
 obtain⟨m,rfl⟩: ∃m:Nat,n=m:=⟨n.toNat,by omega⟩
 simp only[Av]
 by_cases h1:m<128
 ·rw [Ax (by omega)]
  simp only[Bp,Bl,BO,tn (show m<256 by omega),AK,CB]
  unfold decodeN
  rw[Ax h1]
 by_cases h2:m<2048
 ·rw [Aq (by omega), Ax (by omega)]
  simp only[Bp,Bl,BO,BV,tn (show 192+m / 64<256 by omega),tn (show 128+m % 64<256 by omega),AK,CB]
  unfold decodeN
  rw[Aq (by omega),Ax ⟨by omega,by omega,by omega⟩,Ax (by omega)]
  congr 1;omega
 by_cases h3:m<65536
 ·rw [Aq (by omega), Aq (by omega), Ax (by omega)]
  simp only[Bp,Bl,BO,BV,tn (show 224+m / 4096<256 by omega),tn (show 128+m / 64 % 64<256 by omega),tn (show 128+m % 64<256 by omega),AK,CB]
  have e:(224+m / 4096) % 16*4096+(128+m / 64 % 64) % 64*64+(128+m % 64) % 64=m:=by omega
  unfold decodeN
  rw[Aq (by omega),Aq (by omega),Ax ⟨by omega,⟨by omega,by omega⟩,by omega,by omega⟩,e,Ax (by omega)]
 ·rw [Aq (by omega), Aq (by omega), Aq (by omega)]
  simp only[Bp,Bl,BO,BV,tn (show 240+m / 262144<256 by omega),tn (show 128+m / 4096 % 64<256 by omega),tn (show 128+m / 64 % 64<256 by omega),tn (show 128+m % 64<256 by omega),AK,CB]
  have e:(240+m / 262144) % 8*262144+(128+m / 4096 % 64) % 64*4096+(128+m / 64 % 64) % 64*64+(128+m % 64) % 64=m:=by omega
  unfold decodeN
  rw[Aq (by omega),Aq (by omega),Aq (by omega),Ax ⟨by omega,⟨by omega,by omega⟩,⟨by omega,by omega⟩,by omega,by omega⟩,e,Ax (by omega)]
theorem Ze {n:Int} (h:wL n):1≤(enc n).length∧(enc n).length≤4∧((enc n).length=1→n<128):=by
 rw[Qz h]
 by_cases h1:n<128
 ·simp[h1]
 by_cases h2:n<2048
 ·simp[h1,h2]
 by_cases h3:n<65536
 ·simp[h1,h2,h3]
 ·simp[h1,h2,h3]
theorem Zd {b:UInt8} {n:Nat} (h:n=b.toNat):UInt8.ofNat n=b:=by subst h;simp
theorem gM (l:List UInt8) (hne:l≠[]) (h: ¬((decodeL l).1=65533∧(decodeL l).2=1)):wL ((decodeL l).1:Int)∧enc ((decodeL l).1:Int)++l.drop (decodeL l).2=l:=by
 rw[decodeL_N]at h ⊢
 have hb: ∀b:UInt8,b.toNat<256:=fun b=>b.toNat_lt
 match l,hne with
 |b0::t,_=>
 have q0:=hb b0
 unfold decodeN at h ⊢
 simp only[BO,BV]at h ⊢
 by_cases h0:b0.toNat<128
 ·rw [Ax h0] at h ⊢
  simp only
  have hs:wL (b0.toNat:Int):=by unfold wL;omega
  refine⟨hs,?_⟩
  rw[Qz hs,Ax (by omega)]
  simp
 rw[Aq h0]at h ⊢
 cases t with
 |nil=>
  rw[Aq (by simp),Aq (by simp),Aq (by simp)]at h
  simp at h
 |cons b1 t=>
 have q1:=hb b1
 simp only[BO,BV,AK]at h ⊢
 by_cases c1:b0.toNat / 32=6∧(1<t.length+1+1∧b1.toNat / 64=2)
 ·rw [Ax c1] at h ⊢
  by_cases d:b0.toNat % 32*64+b1.toNat % 64≥128
  ·rw [Ax d] at h ⊢
   simp only
   have hs:wL ((b0.toNat % 32*64+b1.toNat % 64:Nat):Int):=by unfold wL;omega
   refine⟨hs,?_⟩
   rw[Qz hs,Aq (by omega),Ax (by omega),Av]
   simp only[Bp,Bl,BE,AD]
   rw[Zd (b:=b0) (by omega),Zd (b:=b1) (by omega)]
  ·rw[Aq d]at h;simp at h
 rw[Aq c1]at h ⊢
 cases t with
 |nil=>
  rw[Aq (by simp),Aq (by simp)]at h
  simp at h
 |cons b2 t=>
 have q2:=hb b2
 simp only[BO,BV,AK]at h ⊢
 by_cases c2:b0.toNat / 16=14∧(1<t.length+1+1+1∧b1.toNat / 64=2)∧(2<t.length+1+1+1∧b2.toNat / 64=2)
 ·rw [Ax c2] at h ⊢
  generalize hm:b0.toNat % 16*4096+b1.toNat % 64*64+b2.toNat % 64=m at h ⊢
  by_cases d:m≥2048∧(m<55296∨(57344≤m∧m≤1114111))
  ·rw [Ax d] at h ⊢
   simp only
   have hs:wL (m:Int):=by unfold wL;omega
   refine⟨hs,?_⟩
   rw[Qz hs,Aq (by omega),Aq (by omega),Ax (by omega),Av]
   simp only[Bp,Bl,BE,AD]
   rw[Zd (b:=b0) (by omega),Zd (b:=b1) (by omega),Zd (b:=b2) (by omega)]
  ·rw[Aq d]at h;simp at h
 rw[Aq c2]at h ⊢
 cases t with
 |nil=>
  rw[Aq (by simp)]at h
  simp at h
 |cons b3 t=>
 have q3:=hb b3
 simp only[BO,BV,AK]at h ⊢
 by_cases c3:b0.toNat / 8=30∧(1<t.length+1+1+1+1∧b1.toNat / 64=2)∧(2<t.length+1+1+1+1∧b2.toNat / 64=2)∧(3<t.length+1+1+1+1∧b3.toNat / 64=2)
 ·rw [Ax c3] at h ⊢
  generalize hm:b0.toNat % 8*262144+b1.toNat % 64*4096+b2.toNat % 64*64+b3.toNat % 64=m at h ⊢
  by_cases d:m≥65536∧(m<55296∨(57344≤m∧m≤1114111))
  ·rw [Ax d] at h ⊢
   simp only
   have hs:wL (m:Int):=by unfold wL;omega
   refine⟨hs,?_⟩
   rw[Qz hs,Aq (by omega),Aq (by omega),Aq (by omega),Av]
   simp only[Bp,Bl,BE,AD]
   rw[Zd (b:=b0) (by omega),Zd (b:=b1) (by omega),Zd (b:=b2) (by omega),Zd (b:=b3) (by omega)]
  ·rw[Aq d]at h;simp at h
 rw[Aq c3]at h
 simp at h
theorem ZU: ∀(n:Nat) (l:List UInt8),l.length≤n→validD l=true→ ∃p:List Int,(∀x∈p,wL x)∧l=u8s p
 |0,l,hl,_=>⟨[],fun x h=>by(cases h),by cases l with|nil=>rfl|cons=>simp at hl⟩
 |n+1,l,hl,hv=>by
  by_cases hne:l=[]
  ·exact⟨[],fun x h=>by(cases h),hne⟩
  rw[validD_step l hne]at hv
  by_cases hd:(decodeL l).1=65533∧(decodeL l).2=1
  ·rw[Ax hd]at hv;cases hv
  rw[Aq hd]at hv
  obtain⟨h1,h2⟩:=gM l hne hd
  have h3:=Ze h1
  have h4:=Bg List.length h2
  have h5:=decodeL_le l hne
  have h6:=decodeL_width l
  simp only[AO,B5]at h4
  obtain⟨p,h7,h8⟩:=ZU n (l.drop (decodeL l).2) (by simp;omega) hv
  exact⟨(decodeL l).1::p,fun x hx=>by
   rcases AX.1 hx with rfl|hx
   ·exact h1
   ·exact h7 x hx,by rw[vt,←h8,h2]⟩
theorem cw (l:List Int):runesBytes l=⟨(u8s l).toArray⟩:=by
 have: ∀(l:List Int) (b:ByteArray),l.foldl (fun r n=>r++Utf8.encode n) b=⟨(b.data.toList++u8s l).toArray⟩:=by
  intro l
  induction l with
  |nil=>intro b;obtain⟨a⟩:=b;simp[u8s]
  |cons n l ih=>intro b;rw[Bi,ih,vt];simp[enc]
 rw[runesBytes,this]
 rfl
end
end Go.Proofs.YtaiokpmmjbiajaaGreatDoorU8
namespace Go.Proofs.YtaiokpmmjbiajaaGreatDoorTxt
section
set_option maxRecDepth 4000
open Go.Proofs.YtaiokpmmjbiajaaGreatDoorU8 Go.Lib
open Go.WideShapes (bytes_inj)
def pts (s:ByteArray):Nat→Nat→List Int
 |0,_=>[]
 |n+1,i=>if i<s.size then Int.ofNat (Utf8.decode s i).1::pts s n (i+(Utf8.decode s i).2)else[]
def from_ (l:List Int) (a1:Int):Nat:=(min (max a1 0) (l.length:Int)).toNat
def cnt (l:List Int) (a1 a2:Int):Nat:=(min (max a2 0) ((l.length:Int) - min (max a1 0) (l.length:Int))).toNat
def xm (s:ByteArray) (a1 a2:Int):ByteArray:=
 runesBytes (((pts s s.size 0).drop (from_ (pts s s.size 0) a1)).take (cnt (pts s s.size 0) a1 a2))
def one (lo hi d:Int) (c:UInt8):UInt8:=if lo≤(c.toNat:Int)∧(c.toNat:Int)≤hi then UInt8.ofNat (((c.toNat:Int)+d) % 256).toNat else c
def jl (lo hi d:Int) (s:ByteArray):ByteArray:=⟨(s.data.toList.map (one lo hi d)).toArray⟩
def cN (r:Nat):List UInt8:=if Lib.trimRightB (Lib.repeatL [48] (4 - (Lib.decDigits r).length)++Lib.decDigits r) 48=[]then[48]else Lib.trimRightB (Lib.repeatL [48] (4 - (Lib.decDigits r).length)++Lib.decDigits r) 48
def ij (n:Int):List UInt8:=(if n<0 then[45]else[])++Lib.decDigits (n.natAbs / 10000)++[46]++cN (n.natAbs % 10000)
def T (p:List Int):ByteArray:=⟨(u8s p).toArray⟩
theorem Zz (p:List Int):(T p).size=(u8s p).length:=by simp[T,ByteArray.size]
theorem Ye (p:List Int):(T p).data.toList=u8s p:=by simp[T]
theorem fh (p q:List Int) (n:Int) (hn:wL n):Utf8.decode (T (p++n::q)) (u8s p).length=(n.toNat,(enc n).length):=by
 rw[←decodeL_drop,Ye,vz,List.drop_left,vt]
 exact iQ hn _
theorem eB: ∀(q p:List Int) (k:Nat),(∀x∈p++q,wL x)→(u8s q).length≤k→pts (T (p++q)) k (u8s p).length=q
 |[],p,0,h,hk=>rfl
 |[],p,k+1,h,hk=>by
  rw[pts,Aq (by rw[Zz];simp)]
 |n::q,p,0,h,hk=>by
  have:=Ze (h n (by simp))
  rw[vt,AO]at hk
  omega
 |n::q,p,k+1,h,hk=>by
  have hn:=h n (by simp)
  have hl:=Ze hn
  rw[vt,AO]at hk
  rw[pts,Ax (by rw[Zz,vz,vt];simp;omega),fh p q n hn]
  have e:p++n::q=(p++[n])++q:=by simp
  have e2:(u8s p).length+(enc n).length=(u8s (p++[n])).length:=by rw[vz,vt];simp[az]
  simp only
  rw[e,e2,eB q (p++[n]) k (by rw[←e];exact h) (by omega)]
  congr 1
  have:0≤n:=by unfold wL at hn;omega
  show ((n.toNat:Nat):Int)=n
  omega
theorem oq (p:List Int) (h: ∀x∈p,wL x):pts (T p) (T p).size 0=p:=eB p [] _ h (by rw[Zz];exact Aw _)
theorem XN: ∀(q p:List Int) (k:Nat),(∀x∈p++q,wL x)→(u8s q).length≤k→runeCountFrom (T (p++q)) k (u8s p).length=q.length
 |[],p,0,h,hk=>rfl
 |[],p,k+1,h,hk=>by
  rw[runeCountFrom,Aq (by rw[Zz];simp)];rfl
 |n::q,p,0,h,hk=>by
  have:=Ze (h n (by simp))
  rw[vt,AO]at hk
  omega
 |n::q,p,k+1,h,hk=>by
  have hn:=h n (by simp)
  have hl:=Ze hn
  rw[vt,AO]at hk
  rw[runeCountFrom,Ax (by rw[Zz,vz,vt];simp;omega),fh p q n hn]
  have e:p++n::q=(p++[n])++q:=by simp
  have e2:(u8s p).length+(enc n).length=(u8s (p++[n])).length:=by rw[vz,vt];simp[az]
  simp only
  rw[e,e2,XN q (p++[n]) k (by rw[←e];exact h) (by omega)]
  simp;omega
theorem count_eq (p:List Int) (h: ∀x∈p,wL x):runeCount (T p)=p.length:=XN p [] _ h (by rw[Zz];exact Aw _)
theorem fx (p:List Int) (h: ∀x∈p,wL x) (a n:Int):xm (T p) a n=T ((p.drop (from_ p a)).take (cnt p a n)):=by
 unfold xm
 rw[oq p h,cw];rfl
def Ok (p:List Int):Prop:=(∀x∈p,wL x)∧(u8s p).length≤1024
theorem dI (p:List Int) (n:Nat):(u8s (p.take n)).length≤(u8s p).length:=by
 have e:u8s p=u8s (p.take n)++u8s (p.drop n):=by rw[←vz,Cs]
 rw[e];simp
theorem ff (p:List Int) (n:Nat):(u8s (p.drop n)).length≤(u8s p).length:=by
 have e:u8s p=u8s (p.take n)++u8s (p.drop n):=by rw[←vz,Cs]
 rw[e];simp
theorem Ok.part {p:List Int} (h:Ok p) (i n:Nat):Ok ((p.drop i).take n):=
 ⟨fun x hx=>h.1 x (Cy (List.mem_of_mem_take hx)),Bd (dI _ _) (Bd (ff _ _) h.2)⟩
theorem Ok.left {p q:List Int} (h:Ok (p++q)):Ok p:=⟨fun x hx=>h.1 x (by simp[hx]),by have:=h.2;rw[vz]at this;simp at this;omega⟩
theorem Ok.right {p q:List Int} (h:Ok (p++q)):Ok q:=⟨fun x hx=>h.1 x (by simp[hx]),by have:=h.2;rw[vz]at this;simp at this;omega⟩
theorem VI {l:List UInt8} (h:validD l=true): ∃p:List Int,(∀x∈p,wL x)∧l=u8s p:=ZU l.length l (Aw _) h
theorem fg {s:ByteArray} {p:List Int} (h:s.data.toList=u8s p):s=T p:=by
 apply bytes_inj
 rw[Ye];exact h
end
end Go.Proofs.YtaiokpmmjbiajaaGreatDoorTxt
namespace Go.Proofs.YtaiokpmmjbiajaaGreatDoorDx.Fit
section
open Go
abbrev is (s:ByteArray) (l:List UInt8):Bool:=eqU s.data.toList l
def kL (t:ByteArray):W3×Int:=bif decide (Int.ofNat t.data.toList.length>1024)then(v0,20)else((4,0,t),0)
def Zs (s:ByteArray) (v:W3):W3×Int:=bif v.1==2 then(v,0)else((2,A80.rnd s v.2.1,⟨#[]⟩),0)
def kr (s:ByteArray) (l:List W3):W3×Int:=bif(A34.jk s l).1 != 0 then(v0,(A34.jk s l).1)else((A34.jk s l).2,0)
def Kv (n:Int):Int:=bif decide (n<0)then -1 else bif decide (n>0)then 1 else 0
def aO (k n:Int) (s:ByteArray):List UInt8:=
 bif !A33.okv k n s then[]else bif k==0 then[110,117,108,108]else bif k==1 then(bif n==1 then[116,114,117,101]else[102,97,108,115,101])
 else bif k==2 then Lib.itoa n else bif k==3 then _root_.Go.Proofs.YtaiokpmmjbiajaaGreatDoorTxt.ij n else[39]++Lib.replaceAll s.data.toList [39] [39,39]++[39]
def yf (k n:Int) (s:ByteArray):ByteArray:=⟨(aO k n s).toArray⟩
def Qj (s:ByteArray) (l:List W3):W3×Int:=
 let v:=l.headD v0
 bif is s [97,98,115]then(bif decide (v.2.1<0)then A79.xk v.1 v.2.1 else(v,0))else
 bif is s [99,101,105,108]then Zs s v else
 bif is s [102,108,111,111,114]then Zs s v else
 bif is s [114,111,117,110,100]then Zs s v else
 bif is s [115,105,103,110]then((2,Kv v.2.1,⟨#[]⟩),0)else
 bif is s [116,111,105,110,116]then A82.Jb v.1 v.2.1 else
 bif is s [116,111,100,101,99]then A75.kn v.1 v.2.1 else
 bif is s [103,114,101,97,116,101,115,116]then kr s l else
 bif is s [108,101,97,115,116]then kr s l else
 bif is s [108,101,110,103,116,104]then((2,Int.ofNat (Lib.runeCount v.2.2),⟨#[]⟩),0)else
 bif is s [108,111,119,101,114]then kL (_root_.Go.Proofs.YtaiokpmmjbiajaaGreatDoorTxt.jl 65 90 32 v.2.2)else
 bif is s [117,112,112,101,114]then kL (_root_.Go.Proofs.YtaiokpmmjbiajaaGreatDoorTxt.jl 97 122 (-32) v.2.2)else
 bif is s [116,114,105,109]then kL ⟨(Lib.trimB v.2.2.data.toList 32).toArray⟩else
 bif is s [115,117,98,115,116,114]then kL (_root_.Go.Proofs.YtaiokpmmjbiajaaGreatDoorTxt.xm v.2.2 (l.getD 1 v0).2.1 (l.getD 2 v0).2.1)else
 bif is s [116,111,116,101,120,116]then(bif v.1==4 then(v,0)else kL (yf v.1 v.2.1 v.2.2))else
 kL (A37L0.cat l)
def rP (b:Bool) (k:Int):Int×Int:=bif b then(k,0)else(0,100)
def kA (s:ByteArray) (l:List Int):Int×Int:=
 bif l.any A14L0.bad then rP false 0 else
 bif eqU s.data.toList [97,98,115]then rP (A14.num l) (l.headD 0)else
 bif eqU s.data.toList [99,101,105,108]then rP (A14.num l) 2 else
 bif eqU s.data.toList [102,108,111,111,114]then rP (A14.num l) 2 else
 bif eqU s.data.toList [114,111,117,110,100]then rP (A14.num l) 2 else
 bif eqU s.data.toList [115,105,103,110]then rP (A14.num l) 2 else
 bif eqU s.data.toList [116,111,105,110,116]then rP (A14.num l) 2 else
 bif eqU s.data.toList [116,111,100,101,99]then rP (A14.num l) 3 else
 bif eqU s.data.toList [99,111,97,108,101,115,99,101]then rP ((A53.res l).2&&decide (Int.ofNat l.length≥1)) (A53.res l).1 else
 bif eqU s.data.toList [103,114,101,97,116,101,115,116]then rP ((A53.res l).2&&decide (Int.ofNat l.length≥1)) (A53.res l).1 else
 bif eqU s.data.toList [108,101,97,115,116]then rP ((A53.res l).2&&decide (Int.ofNat l.length≥1)) (A53.res l).1 else
 bif eqU s.data.toList [110,117,108,108,105,102]then rP (Int.ofNat l.length==2&&(A53.res l).2) (l.headD 0)else
 bif eqU s.data.toList [99,111,110,99,97,116]then rP (l.foldl (fun b k=>b&&A14L1.ok1 k) (decide (Int.ofNat l.length≥1))) 4 else
 bif eqU s.data.toList [108,101,110,103,116,104]then rP (A14.txt l) 2 else
 bif eqU s.data.toList [108,111,119,101,114]then rP (A14.txt l) 4 else
 bif eqU s.data.toList [117,112,112,101,114]then rP (A14.txt l) 4 else
 bif eqU s.data.toList [116,114,105,109]then rP (A14.txt l) 4 else
 bif eqU s.data.toList [116,111,116,101,120,116]then rP (Int.ofNat l.length==1) 4 else
 bif eqU s.data.toList [115,117,98,115,116,114]then rP (A14.sub l) 4 else
 rP false 0
def two (p:Int×Int):Value:= .tuple #[.int .i64 p.1,.int .i64 p.2]
theorem rI (b:Bool) (k:Int):two (rP b k)=A14.r b k:=by cases b<;>rfl
theorem V0 (s:ByteArray) (l:List Int):A14.KM s l=two (kA s l):=by
 unfold kA A14.KM
 simp only[Bool.apply_cond two,rI]
def zW (s:ByteArray) (l:List W3):W3×Int:=
 bif(kA s (l.map (·.1))).2 != 0 then(v0,(kA s (l.map (·.1))).2)else
 bif l.any A10L1.bad then(v0,22)else
 bif is s [99,111,97,108,101,115,99,101]then kr s l else
 bif is s [110,117,108,108,105,102]then
  (bif A35.tru (bif(l.headD v0).1==0||(l.getD 1 v0).1==0 then 0 else 1) (bif(A76.compare (l.headD v0).1 (l.headD v0).2.1 (l.headD v0).2.2 (l.getD 1 v0).1 (l.getD 1 v0).2.1 (l.getD 1 v0).2.2).2&&(A76.compare (l.headD v0).1 (l.headD v0).2.1 (l.headD v0).2.2 (l.getD 1 v0).1 (l.getD 1 v0).2.1 (l.getD 1 v0).2.2).1==0 then 1 else 0)then(v0,0)else(l.headD v0,0))else
 bif(l.map (·.1)).any (· ==0)then(v0,0)else Qj s l
end
section
open Go
theorem yF: ∀{a b:List UInt8},eqU a b=true→a=b
 |[],[],_=>rfl
 |[],_::_,h=>by cases h
 |_::_,[],h=>by cases h
 |x::a,y::b,h=>by
  unfold eqU at h
  simp only[Ag]at h
  rw[Cm.1 (Am h.1),yF h.2]
theorem zR {s:ByteArray} {l:List UInt8} (h:is s l=true):s=⟨l.toArray⟩:=by
 obtain⟨a⟩:=s
 have:=yF h
 simp only at this
 rw[←this]
theorem QQ: ∀a:List UInt8,eqU a a=true
 |[]=>rfl
 |x::a=>by unfold eqU;rw[A5,QQ a];rfl
theorem eT {k n:Int} {s:ByteArray} (h:k=2∨k=3) (ho:A33.okv k n s=true):s=⟨#[]⟩:=by
 rcases h with rfl|rfl<;>exact zR (l:=[]) ho
theorem Zy {n:Int} {s:ByteArray} (ho:A33.okv 4 n s=true):n=0∧s.data.toList.length≤1024∧Lib.validD s.data.toList=true:=by
 have h:(n==0&&(decide (s.data.toList.length≤1024)&&Lib.validD s.data.toList))=true:=ho
 simp only[Ag,As,Ay]at h
 exact⟨h.1,h.2.1,h.2.2⟩
def Fits (kind:Int) (p:W3×Int):Prop:=if p.2=0 then A33.okv p.1.1 p.1.2.1 p.1.2.2=true∧(p.1.1=0∨p.1.1=kind)else p.1=v0
theorem oP {l:List Int} (h:A14.num l=true): ∃k,l=[k]∧(k=0∨k=2∨k=3):=by
 unfold A14.num at h
 split at h
 ·rename_i a
  simp only[AS,Ay]at h
  exact⟨a,rfl,h⟩
 ·cases h
theorem oD {l:List Int} (h:A14.txt l=true): ∃k,l=[k]∧(k=0∨k=4):=by
 unfold A14.txt at h
 split at h
 ·rename_i a
  simp only[AS,Ay]at h
  exact⟨a,rfl,h⟩
 ·cases h
theorem YE {l:List Int} (h:A14.sub l=true): ∃a b c,l=[a,b,c]∧(a=0∨a=4):=by
 unfold A14.sub at h
 split at h
 ·rename_i a b c
  simp only[AS,Ag,Ay]at h
  exact⟨a,b,c,rfl,h.1⟩
 ·cases h
theorem aD {l:List W3} {k:Int} (h:l.map (·.1)=[k]): ∃v,l=[v]∧v.1=k:=by
 match l,h with
 |[v],h=>exact⟨v,rfl,by simpa using h⟩
def Ok5 (k:Int):Prop:=k=0∨k=1∨k=2∨k=3∨k=4
def Inv (p:Int×Bool×Bool) (l:List Int):Prop:=Ok5 p.1∧(p.2.1=true→ ∀k∈l,k=0∨k=p.1)∧(p.2.2=true→(p.1=0∨p.1=2∨p.1=3)∧ ∀k∈l,k=0∨((k=2∨k=3)∧k≤p.1))∧(p.1=0→ ∀k∈l,k=0)
theorem gu {p:Int×Bool×Bool} {l:List Int} {k:Int} (h:Inv p l) (hk:Ok5 k):Inv (A53.step p k) (l++[k]):=by
 obtain⟨a,b,c⟩:=p
 obtain⟨h1,h2,h3,h4⟩:=h
 simp only at h1 h2 h3 h4
 unfold A53.step
 cases hz:k==0
 ·have hz : k ≠ 0 := Ao.1 hz
  simp only[Ah]
  have hm:(if k>a then k else a)≥k∧(if k>a then k else a)≥a∧((if k>a then k else a)=k∨(if k>a then k else a)=a):=by split<;>omega
  generalize (if k>a then k else a)=m at hm
  unfold Ok5 at hk h1
  refine⟨?_,fun h=> ?_,fun h=> ?_,fun h=> ?_⟩
  ·show Ok5 m;unfold Ok5;omega
  ·simp only [Ag, AS, Ay] at h
   obtain⟨hb,he⟩:=h
   intro x hx
   show x=0∨x=m
   rcases AT.1 hx with hx|hx
   ·rcases h2 hb x hx with e | e
    ·exact .inl e
    ·rcases he with e2|e2<;>omega
   ·rw [AL] at hx
    rcases he with e2|e2<;>omega
  ·simp only [Ag, AS, Ay] at h
   obtain⟨hb,he⟩:=h
   obtain⟨g1,g2⟩:=h3 hb
   refine⟨by show m=0∨m=2∨m=3;omega,fun x hx=> ?_⟩
   show x=0∨((x=2∨x=3)∧x≤m)
   rcases AT.1 hx with hx|hx
   ·rcases g2 x hx with e | e
    ·exact .inl e
    ·right;omega
   ·rw [AL] at hx
    subst hx
    exact .inr ⟨he,hm.1⟩
  ·exact absurd h (by show¬m=0;omega)
 ·have hz : k = 0 := Ay.1 hz
  subst hz
  simp only[Ai]
  refine⟨h1,fun h x hx=> ?_,fun h=>⟨(h3 h).1,fun x hx=> ?_⟩,fun h x hx=> ?_⟩
  ·rcases AT.1 hx with hx | hx
   ·exact h2 h x hx
   ·rw[AL]at hx;exact .inl hx
  ·rcases AT.1 hx with hx | hx
   ·exact(h3 h).2 x hx
   ·rw[AL]at hx;exact .inl hx
  ·rcases AT.1 hx with hx | hx
   ·exact h4 h x hx
   ·rw[AL]at hx;exact hx
theorem JX: ∀(r l:List Int) (p:Int×Bool×Bool),Inv p l→(∀k∈r,Ok5 k)→Inv (r.foldl A53.step p) (l++r)
 |[],l,p,h,_=>by rw[A0];exact h
 |k::r,l,p,h,hr=>by
  have:=JX r (l++[k]) (A53.step p k) (gu h (hr k (by simp))) fun x hx=>hr x (by simp[hx])
  rw[CI]at this
  exact this
theorem cg {l:List Int} (h5: ∀k∈l,Ok5 k) (h:(A53.res l).2=true): ∀k∈l,k=0∨k=(A53.res l).1∨((A53.res l).1=3∧(k=2∨k=3)):=by
 have hi:Inv (A53.alike l) l:=JX l [] (0,true,true) ⟨.inl rfl,(fun _ k hk=>by cases hk),(fun _=>⟨.inl rfl,fun k hk=>by cases hk⟩),(fun _ k hk=>by cases hk)⟩ h5
 obtain⟨h1,h2,h3,h4⟩:=hi
 unfold A53.res at h ⊢
 simp only[AS]at h
 intro k hk
 rcases h with h|h
 ·rcases h2 h k hk with e | e
  ·exact .inl e
  ·exact .inr (.inl e)
 ·obtain ⟨g1, g2⟩ := h3 h
  rcases g2 k hk with e|⟨e1,e2⟩
  ·exact .inl e
  ·show k = 0 ∨ k = (A53.alike l).1 ∨ ((A53.alike l).1 = 3 ∧ (k = 2 ∨ k = 3))
   omega
theorem gv {k n:Int} (h:k=2∨k=3):(A75.kn k n).2=0→(A75.kn k n).1.1=3∧(A75.kn k n).1.2.2=⟨#[]⟩:=by
 unfold A75.kn
 rw[Aq (by omega),Ax h]
 split
 ·intro _;exact⟨rfl,rfl⟩
 ·intro h;cases h
theorem cu (a b:ByteArray):(A37L0.cO a b).data.toList=a.data.toList++b.data.toList:=by unfold A37L0.cO;rw[Bt]
theorem fi {l:List Int} (h:l.any A14L0.bad=false): ∀k∈l,Ok5 k:=by
 intro k hk
 have:=(B0.1 h) k hk
 unfold A14L0.bad at this
 unfold Ok5
 simp at this
 omega
theorem YB {l:List W3} (h:l.any A10L1.bad=false): ∀v∈l,A33.okv v.1 v.2.1 v.2.2=true:=by
 intro v hv
 have:=(B0.1 h) v hv
 unfold A10L1.bad at this
 simpa using this
theorem Kl {l:List W3} (h:(l.map (fun v:W3=>v.1)).any (· ==0)=false): ∀v∈l,v.1≠0:=by
 intro v hv e
 have:=(B0.1 h) v.1 (List.mem_map_of_mem hv)
 rw[e]at this
 exact this rfl
theorem rP0 {b:Bool} {k:Int} (h:(rP b k).2=0):b=true∧(rP b k).1=k:=by
 cases b
 ·cases h
 ·exact⟨rfl,rfl⟩
abbrev ks (l:List W3):List Int:=l.map (fun v:W3=>v.1)
section
variable {l:List W3} (hok: ∀v∈l,A33.okv v.1 v.2.1 v.2.2=true)
include hok
theorem one_num (hn:A14.num (ks l)=true) (hz:(ks l).any (· ==0)=false): ∃v,l=[v]∧(v.1=2∨v.1=3)∧v.2.2=⟨#[]⟩:=by
 obtain⟨k,e,hk⟩:=oP hn
 obtain⟨v,rfl,rfl⟩:=aD e
 have h0:=Kl hz v (by simp)
 have h2:v.1=2∨v.1=3:=by omega
 exact⟨v,rfl,h2,eT h2 (hok v (by simp))⟩
theorem l5 (hn:A14.txt (ks l)=true) (hz:(ks l).any (· ==0)=false): ∃v,l=[v]∧v.1=4∧v.2.2.data.toList.length≤1024∧Lib.validD v.2.2.data.toList=true:=by
 obtain⟨k,e,hk⟩:=oD hn
 obtain⟨v,rfl,rfl⟩:=aD e
 have h0:=Kl hz v (by simp)
 have h4:v.1=4:=by omega
 have ho:=hok v (by simp)
 rw[h4]at ho
 exact⟨v,rfl,h4,(Zy ho).2⟩
end
end
end Go.Proofs.YtaiokpmmjbiajaaGreatDoorDx.Fit
namespace Go.Proofs.YtaiokpmmjbiajaaGreatDoorDx.Ref
section
open Go Go.Proofs.YtaiokpmmjbiajaaGreatDoorDx.Fit
abbrev wr (x:Int):Int:=IntKind.wrap .i64 x
theorem We {x:Int} (h: -9223372036854775808≤x) (h2:x≤9223372036854775807):wr x=x:=IntWalk.i64_in x ⟨h,h2⟩
theorem yS {n:Int}:inR n=true↔ -9223372036854775808≤n∧n<9223372036854775808:=by unfold inR;simp
theorem quot (n:Int):n=10000*n.tdiv 10000+n.tmod 10000∧ -10000<n.tmod 10000∧n.tmod 10000<10000∧(0≤n→0≤n.tmod 10000∧0≤n.tdiv 10000)∧(n≤0→n.tmod 10000≤0∧n.tdiv 10000≤0):=by
 rcases Int.lt_or_le n 0 with h|h
 ·obtain ⟨m, rfl⟩ : ∃ m : Int, n = -m := ⟨-n, by omega⟩
  rw[Int.neg_tdiv,Int.neg_tmod,Bn (by omega),BM (by omega)]
  omega
 ·rw [Bn h, BM h]
  omega
def Kb (k:Int):Bool:=k==0||(k==2||k==3)
def K5 (k:Int) (out:Int):Option Int:=bif k==0||k==out then some out else bif out==0 then some k else bif Kb out&&Kb k then some 3 else none
def ra:Int→List Int→Option Int
 |out,[]=>some out
 |out,k::l=>match K5 k out with
  |some o=>ra o l
  |none=>none
def zV (l:List Int):Int×Bool:=match ra 0 l with
 |some o=>(o,true)
 |none=>(0,false)
def J (o:Option Int) (p:Int×Bool×Bool):Prop:=
 (o=some p.1∧(p.2.1=true∨p.2.2=true)∧(p.1=0→p.2.1=true∧p.2.2=true)∧(p.2.2=true→p.1=0∨p.1=2∨p.1=3)∧(p.2.1=true→p.1=2∨p.1=3→p.2.2=true)∧(p.2.1=false→p.1=3))∨(o=none∧p.2.1=false∧p.2.2=false)
theorem dead: ∀(l:List Int) (p:Int×Bool×Bool),p.2.1=false→p.2.2=false→(l.foldl A53.step p).2.1=false∧(l.foldl A53.step p).2.2=false
 |[],p,h1,h2=>⟨h1,h2⟩
 |k::l,p,h1,h2=>by
  refine dead l _ ?_ ?_<;>
  ·unfold A53.step
   cases k==0<;>simp[h1,h2]
theorem XV: ∀(l:List Int) (out:Int) (p:Int×Bool×Bool),Ok5 out→J (some out) p→(∀k∈l,Ok5 k)→J (ra out l) (l.foldl A53.step p)
 |[],out,p,_,h,_=>h
 |k::l,out,p,ho,h,hl=>by
  rcases h with⟨e,h1,h2,h3,h4,h5⟩|⟨e,_⟩
  rotate_left
  ·cases e
  obtain⟨a,b,c⟩:=p
  cases e
  simp only at h1 h2 h3 h4 h5
  have hk:=hl k (by simp)
  have hl': ∀x∈l,Ok5 x:=fun x hx=>hl x (by simp[hx])
  show J (ra a (k::l)) (l.foldl A53.step (A53.step (a,b,c) k))
  rw[ra]
  unfold K5 A53.step
  unfold Ok5 at hk ho
  by_cases k0:k=0
  ·subst k0
   exact XV l a (a,b,c) ho (.inl ⟨rfl,h1,h2,h3,h4,h5⟩) hl'
  have e0:(k==0)=false:=Ao.2 k0
  simp only[e0,Bb,Ah]
  have pX: ∀m:Int,(if k>a then k else a)=m→m≥k∧m≥a∧(m=k∨m=a):=by intro m h;split at h<;>omega
  generalize (if k>a then k else a)=m at pX
  obtain⟨m1,m2,m3⟩:=pX m rfl
  by_cases a0:a=0
  ·subst a0
   obtain⟨rfl,rfl⟩:=h2 rfl
   have e1:(k==0)=false:=e0
   simp only[e1,Ah,BEq.rfl,Ai,AF,B2]
   refine XV l k _ hk (.inl ⟨?_,.inl rfl,fun h=> ?_,fun h=> ?_,fun _ h=> ?_,fun h=>by cases h⟩) hl'
   ·show some k=some m;congr 1;omega
   ·exact absurd h (by show¬m=0;omega)
   ·simp only [AS, Ay] at h
    show m=0∨m=2∨m=3;omega
   ·simp only [AS, Ay]
    have h:m=2∨m=3:=h
    omega
  have ea:(a==0)=false:=Ao.2 a0
  by_cases ka:k=a
  ·subst ka
   simp only[BEq.rfl,Ai,ea,Bb,AE]
   obtain rfl:m=k:=by omega
   refine XV l m _ hk (.inl ⟨rfl,?_,fun h=>absurd h a0,fun h=> ?_,fun hb h=> ?_,h5⟩) hl'
   ·cases b
    ·right
     have:=h5 rfl
     subst this
     simp only[Ag]
     exact⟨by simpa using h1,rfl⟩
    ·exact .inl rfl
   ·simp only[Ag]at h;exact h3 h.1
   ·have h : m = 2 ∨ m = 3 := h
    simp only[Ag,AS,Ay]
    exact⟨h4 hb h,h⟩
  have eka:(k==a)=false:=Ao.2 ka
  have eak:(a==k)=false:=Ao.2 (fun h=>ka h.symm)
  simp only[eka,eak,ea,Ah,Bool.or_false,Ch]
  by_cases hn:(a=2∨a=3)∧(k=2∨k=3)
  ·have e1 : Kb a = true := by unfold Kb; simp only [AS, Ay]; omega
   have e2:Kb k=true:=by unfold Kb;simp only[AS,Ay];omega
   have e3:(k==2||k==3)=true:=by simp only[AS,Ay];omega
   have hc:c=true:=by
    cases hb:b
    ·rw[hb]at h1;simpa using h1
    ·exact h4 hb hn.1
   simp only[e1,e2,e3,AI,Ai,hc]
   have hm3:m=3:=by omega
   subst hm3
   exact XV l 3 _ (by unfold Ok5;omega) (.inl ⟨rfl,.inr rfl,(fun h=>by cases h),(fun _=> .inr (.inr rfl)),(fun _ _=>rfl),(fun _=>rfl)⟩) hl'
  ·have e1:(Kb a&&Kb k)=false:=by
    cases hx:Kb a&&Kb k
    ·rfl
    ·unfold Kb at hx;simp only[Ag,AS,Ay]at hx;omega
   simp only[e1,Ah]
   have hc:(c&&(k==2||k==3))=false:=by
    cases hx:c&&(k==2||k==3)
    ·rfl
    ·simp only [Ag, AS, Ay] at hx
     have:=h3 hx.1
     omega
   rw[hc]
   obtain⟨d1,d2⟩:=dead l (m,false,false) rfl rfl
   exact .inr ⟨rfl,d1,d2⟩
theorem dL {l:List Int} (h: ∀k∈l,Ok5 k):(zV l).2=(A53.res l).2∧((A53.res l).2=true→(zV l).1=(A53.res l).1):=by
 have:=XV l 0 (0,true,true) (.inl rfl) (.inl ⟨rfl,.inl rfl,fun _=>⟨rfl,rfl⟩,(fun _=> .inl rfl),(fun _ h=>by rcases h with h|h<;>cases h),(fun h=>by cases h)⟩) h
 unfold zV A53.res
 rcases this with⟨e,h1,_⟩|⟨e,h1,h2⟩
 ·rw [e]
  have:((A53.alike l).2.1||(A53.alike l).2.2)=true:=by simp only[AS];exact h1
  rw[this]
  exact⟨rfl,fun _=>rfl⟩
 ·rw [e]
  have:((A53.alike l).2.1||(A53.alike l).2.2)=false:=by simp only[AU];exact⟨h1,h2⟩
  rw[this]
  exact⟨rfl,fun h=>by cases h⟩
def jw (s:ByteArray) (l:List Int):Int×Int:=
 bif l.any A14L0.bad then rP false 0 else
 bif eqU s.data.toList [97,98,115]then rP (A14.num l) (l.headD 0)else
 bif eqU s.data.toList [99,101,105,108]then rP (A14.num l) 2 else
 bif eqU s.data.toList [102,108,111,111,114]then rP (A14.num l) 2 else
 bif eqU s.data.toList [114,111,117,110,100]then rP (A14.num l) 2 else
 bif eqU s.data.toList [115,105,103,110]then rP (A14.num l) 2 else
 bif eqU s.data.toList [116,111,105,110,116]then rP (A14.num l) 2 else
 bif eqU s.data.toList [116,111,100,101,99]then rP (A14.num l) 3 else
 bif eqU s.data.toList [99,111,97,108,101,115,99,101]then rP ((zV l).2&&decide (Int.ofNat l.length≥1)) (zV l).1 else
 bif eqU s.data.toList [103,114,101,97,116,101,115,116]then rP ((zV l).2&&decide (Int.ofNat l.length≥1)) (zV l).1 else
 bif eqU s.data.toList [108,101,97,115,116]then rP ((zV l).2&&decide (Int.ofNat l.length≥1)) (zV l).1 else
 bif eqU s.data.toList [99,111,110,99,97,116]then rP (l.foldl (fun b k=>b&&A14L1.ok1 k) (decide (Int.ofNat l.length≥1))) 4 else
 bif eqU s.data.toList [108,101,110,103,116,104]then rP (A14.txt l) 2 else
 bif eqU s.data.toList [108,111,119,101,114]then rP (A14.txt l) 4 else
 bif eqU s.data.toList [116,114,105,109]then rP (A14.txt l) 4 else
 bif eqU s.data.toList [117,112,112,101,114]then rP (A14.txt l) 4 else
 bif eqU s.data.toList [110,117,108,108,105,102]then rP ((zV l).2&&Int.ofNat l.length==2) (l.headD 0)else
 bif eqU s.data.toList [115,117,98,115,116,114]then rP (A14.sub l) 4 else
 bif eqU s.data.toList [116,111,116,101,120,116]then rP (Int.ofNat l.length==1) 4 else
 rP false 0
theorem nX {a b c d:Int} {x y z:Bool} (h1:x=y) (h2:y=true→a=b):rP (x&&z) a=rP (y&&z) b:=by
 subst h1
 cases x
 ·rfl
 ·rw[h2 rfl]
theorem Q4 (s:ByteArray) (l:List Int):jw s l=kA s l:=by
 unfold jw kA
 cases hb:l.any A14L0.bad
 rotate_left
 ·rfl
 obtain⟨h1,h2⟩:=dL (fi hb)
 have h3:rP ((zV l).2&&decide (Int.ofNat l.length≥1)) (zV l).1=rP ((A53.res l).2&&decide (Int.ofNat l.length≥1)) (A53.res l).1:=nX (c:=0) (d:=0) h1 h2
 have h4:rP ((zV l).2&&Int.ofNat l.length==2) (l.headD 0)=rP (Int.ofNat l.length==2&&(A53.res l).2) (l.headD 0):=by rw[h1,Bool.and_comm]
 rw[h3,h4]
 simp only[Ah]
 cases Vn:eqU s.data.toList [97,98,115]
 rotate_left
 ·obtain rfl := zR Vn
  rfl
 cases Qm:eqU s.data.toList [99,101,105,108]
 rotate_left
 ·obtain rfl := zR Qm
  rfl
 cases xZ:eqU s.data.toList [102,108,111,111,114]
 rotate_left
 ·obtain rfl := zR xZ
  rfl
 cases yb:eqU s.data.toList [114,111,117,110,100]
 rotate_left
 ·obtain rfl := zR yb
  rfl
 cases Qw:eqU s.data.toList [115,105,103,110]
 rotate_left
 ·obtain rfl := zR Qw
  rfl
 cases xO:eqU s.data.toList [116,111,105,110,116]
 rotate_left
 ·obtain rfl := zR xO
  rfl
 cases xU:eqU s.data.toList [116,111,100,101,99]
 rotate_left
 ·obtain rfl := zR xU
  rfl
 cases jQ:eqU s.data.toList [99,111,97,108,101,115,99,101]
 rotate_left
 ·obtain rfl := zR jQ
  rfl
 cases jZ:eqU s.data.toList [103,114,101,97,116,101,115,116]
 rotate_left
 ·obtain rfl := zR jZ
  rfl
 cases QH:eqU s.data.toList [108,101,97,115,116]
 rotate_left
 ·obtain rfl := zR QH
  rfl
 cases yh:eqU s.data.toList [99,111,110,99,97,116]
 rotate_left
 ·obtain rfl := zR yh
  rfl
 cases yG:eqU s.data.toList [108,101,110,103,116,104]
 rotate_left
 ·obtain rfl := zR yG
  rfl
 cases QP:eqU s.data.toList [108,111,119,101,114]
 rotate_left
 ·obtain rfl := zR QP
  rfl
 cases KA:eqU s.data.toList [116,114,105,109]
 rotate_left
 ·obtain rfl := zR KA
  rfl
 cases QZ:eqU s.data.toList [117,112,112,101,114]
 rotate_left
 ·obtain rfl := zR QZ
  rfl
 cases yj:eqU s.data.toList [110,117,108,108,105,102]
 rotate_left
 ·obtain rfl := zR yj
  rfl
 cases yH:eqU s.data.toList [115,117,98,115,116,114]
 rotate_left
 ·obtain rfl := zR yH
  rfl
 cases yJ:eqU s.data.toList [116,111,116,101,120,116]
 rotate_left
 ·obtain rfl := zR yJ
  rfl
 simp only[Ah]
def ki (k n:Int):W3×Int:=if k=0 then(v0,0)else if k=2 then(if n≤922337203685477∧n≥ -922337203685477 then((3,wr (n*10000),⟨#[]⟩),0)else(v0,20))else if k=3 then((3,n,⟨#[]⟩),0)else(v0,22)
theorem jo {k n:Int} (hn:inR n=true):ki k n=A75.kn k n:=by
 obtain⟨n1,n2⟩:=yS.1 hn
 unfold ki A75.kn
 by_cases h0:k=0
 ·rw[Ax h0,Ax h0]
 rw[Aq h0,Aq h0]
 by_cases h2:k=2
 ·subst h2
  rw[Ax rfl,Ax (show (2:Int)=2∨(2:Int)=3 from .inl rfl)]
  have e:A127.dec 2 n=A127i.dec n:=rfl
  rw[e]
  unfold A127i.dec
  by_cases h:n≤922337203685477∧n≥ -922337203685477
  ·rw[Ax h,Aq (show¬(18446744073709551616≤n*10000∨n*10000≤ -18446744073709551616)by omega),Ax (by simp only[Ag,As];omega)]
  ·rw[Aq h,Aq (by simp only[Ag,As];omega)]
 ·by_cases h3 : k = 3
  ·subst h3
   rw[Aq h2,Ax rfl,Ax (show (3:Int)=2∨(3:Int)=3 from .inr rfl)]
   rfl
  ·rw[Aq h2,Aq h3,Aq (by omega)]
theorem Ym (x:Int):inR (wr x)=true:=by
 rw[yS]
 unfold wr
 rw[IntKind.wrap_i64];omega
def kD (k n:Int):Int×Int:=if k=2 then(n,0)else if n.tmod 10000<0 then(wr (wr (n.tdiv 10000) - 1),wr (n.tmod 10000+10000))else(wr (n.tdiv 10000),n.tmod 10000)
def o0 (k0 n0 k1 n1:Int):Int:=if A131.wZ (kD k0 n0).1 (kD k1 n1).1≠0 then A131.wZ (kD k0 n0).1 (kD k1 n1).1 else A131.wZ (kD k0 n0).2 (kD k1 n1).2
def bw (a b:List UInt8):Int:=if ltU a b=true then -1 else if ltU b a=true then 1 else 0
def isNum (k:Int):Bool:=k==2||k==3
def zB (k0 n0:Int) (s0:ByteArray) (k1 n1:Int) (s1:ByteArray):Int×Bool:=
 if isNum k0=true∧isNum k1=true then(o0 k0 n0 k1 n1,true)else if k0=4∧k1=4 then(bw s0.data.toList s1.data.toList,true)else if k0=1∧k1=1 then(A131.wZ n0 n1,true)else(0,false)
theorem Ks {k n:Int} (hk:k=2∨k=3) (hn:inR n=true):(k=2→kD k n=(n,0))∧(k=3→n=10000*(kD k n).1+(kD k n).2∧0≤(kD k n).2∧(kD k n).2<10000):=by
 obtain⟨n1,n2⟩:=yS.1 hn
 obtain⟨q1,q2,q3,q4,q5⟩:=quot n
 refine⟨fun h=>by unfold kD;rw[Ax h],fun h=> ?_⟩
 unfold kD
 rw[Aq (by omega),We (show -9223372036854775808≤n.tdiv 10000 by omega) (by omega)]
 split
 ·rw [We (by omega) (by omega), We (by omega) (by omega)]
  show n=10000*(n.tdiv 10000 - 1)+(n.tmod 10000+10000)∧0≤n.tmod 10000+10000∧n.tmod 10000+10000<10000
  omega
 ·show n = 10000 * n.tdiv 10000 + n.tmod 10000 ∧ 0 ≤ n.tmod 10000 ∧ n.tmod 10000 < 10000
  omega
theorem xN (a b:Int):(a<b∧A131.wZ a b= -1)∨(b<a∧A131.wZ a b=1)∨(a=b∧A131.wZ a b=0):=by
 unfold A131.wZ
 by_cases h:a<b
 ·rw[Ax h];exact .inl ⟨h,rfl⟩
 ·by_cases h2 : b < a
  ·rw[Aq h,Ax h2];exact .inr (.inl ⟨h2,rfl⟩)
  ·rw[Aq h,Aq h2];exact .inr (.inr ⟨by omega,rfl⟩)
theorem ZQ {n d:Int} (hd:inR d=true):(10000*n<d∧A131.Qg n d= -1)∨(d<10000*n∧A131.Qg n d=1)∨(10000*n=d∧A131.Qg n d=0):=by
 obtain⟨n1,n2⟩:=yS.1 hd
 obtain⟨q1,q2,q3,q4,q5⟩:=quot d
 have e:IntKind.wrap .i64 (Int.tdiv d 10000)=d.tdiv 10000:=We (by omega) (by omega)
 unfold A131.Qg
 rw[e]
 split
 ·exact .inl ⟨by omega,rfl⟩
 ·split
  ·exact .inr (.inl ⟨by omega,rfl⟩)
  ·rcases xN 0 (d.tmod 10000) with ⟨h, e⟩ | ⟨h, e⟩ | ⟨h, e⟩
   ·exact .inl ⟨by omega,e⟩
   ·exact .inr (.inl ⟨by omega,e⟩)
   ·exact .inr (.inr ⟨by omega,e⟩)
theorem oZ {k0 n0 k1 n1:Int} (h0:k0=2∨k0=3) (h1:k1=2∨k1=3) (hn0:inR n0=true) (hn1:inR n1=true):o0 k0 n0 k1 n1=A131.num k0 n0 k1 n1:=by
 obtain⟨a1,a2⟩:=Ks h0 hn0
 obtain⟨b1,b2⟩:=Ks h1 hn1
 unfold o0 A131.num
 generalize kD k0 n0=p at a1 a2
 generalize kD k1 n1=q at b1 b2
 obtain⟨w,f⟩:=p
 obtain⟨x,g⟩:=q
 simp only[Prod.mk.injEq]at a1 a2 b1 b2 ⊢
 have c1:=xN w x
 have c2:=xN f g
 have c3:=xN n0 n1
 have c4:=ZQ (n:=n0) hn1
 have c5:=ZQ (n:=n1) hn0
 generalize A131.wZ w x=r1 at c1 ⊢
 generalize A131.wZ f g=r2 at c2 ⊢
 generalize A131.wZ n0 n1=r3 at c3 ⊢
 generalize A131.Qg n0 n1=r4 at c4 ⊢
 generalize A131.Qg n1 n0=r5 at c5 ⊢
 rcases h0 with rfl|rfl<;>rcases h1 with rfl|rfl
 ·rw [Ax rfl]
  have:=a1 rfl;have:=b1 rfl
  split<;>omega
 ·rw [Aq (show ¬ ((2 : Int) = 3) by decide), Aq (show ¬ ((2 : Int) = 3) by decide)]
  have:=a1 rfl;have:=b2 rfl
  split<;>omega
 ·rw [Aq (show ¬ ((3 : Int) = 2) by decide), Ax rfl]
  have:=a2 rfl;have:=b1 rfl
  split<;>omega
 ·rw [Ax rfl]
  have:=a2 rfl;have:=b2 rfl
  split<;>omega
theorem bh: ∀(a b:List UInt8),bw a b=Lib.compareBytes a b
 |[],[]=>rfl
 |[],_::_=>rfl
 |_::_,[]=>rfl
 |x::a,y::b=>by
  have ih:=bh a b
  unfold bw at ih ⊢
  rw[Lib.compareBytes,←ih]
  have e1:ltU (x::a) (y::b)=(Nat.blt x.toNat y.toNat||(Nat.beq x.toNat y.toNat&&ltU a b)):=rfl
  have e2:ltU (y::b) (x::a)=(Nat.blt y.toNat x.toNat||(Nat.beq y.toNat x.toNat&&ltU b a)):=rfl
  rw[e1,e2]
  have bl: ∀m n:Nat,Nat.blt m n=decide (m<n):=fun m n=>by
   cases h:Nat.blt m n
   ·exact(An (fun hh=>by rw[show Nat.blt m n=true from by rw[AB];exact hh]at h;cases h)).symm
   ·rw[AB]at h;exact(Al h).symm
  have be: ∀m n:Nat,Nat.beq m n=decide (m=n):=fun m n=>by
   cases h:Nat.beq m n
   ·exact(An (fun hh=>by subst hh;rw[A5]at h;cases h)).symm
   ·exact(Al (Am h)).symm
  rw[bl,bl,be,be]
  by_cases h1:x<y
  ·have h1' : x.toNat < y.toNat := h1
   rw[Ax h1,Al h1'];rfl
  ·have h1' : ¬ x.toNat < y.toNat := h1
   rw[Aq h1,An h1']
   by_cases h2:y<x
   ·have h2' : y.toNat < x.toNat := h2
    rw[Ax h2,Al h2',An (show¬x.toNat=y.toNat by omega)];rfl
   ·have h2' : ¬ y.toNat < x.toNat := h2
    rw[Aq h2,An h2',Al (show x.toNat=y.toNat by omega),Al (show y.toNat=x.toNat by omega)]
    simp
theorem xW {k0 n0:Int} {s0:ByteArray} {k1 n1:Int} {s1:ByteArray} (hn0:inR n0=true) (hn1:inR n1=true):zB k0 n0 s0 k1 n1 s1=A76.compare k0 n0 s0 k1 n1 s1:=by
 have rk: ∀k:Int,(k<0∧A129.wR k=4)∨(5≤k∧A129.wR k=4)∨(k=0∧A129.wR k=0)∨(k=1∧A129.wR k=1)∨(k=2∧A129.wR k=2)∨(k=3∧A129.wR k=2)∨(k=4∧A129.wR k=3):=by
  intro k;unfold A129.wR;repeat' split
  all_goals omega
 have nm: ∀k:Int,isNum k=true↔k=2∨k=3:=by intro k;unfold isNum;simp
 have r0:=rk k0
 have r1:=rk k1
 unfold zB A76.compare
 simp only[nm]
 by_cases c1:(k0=2∨k0=3)∧(k1=2∨k1=3)
 ·rw[Ax c1,Aq (by omega),Aq (by omega),Ax (by omega),oZ c1.1 c1.2 hn0 hn1]
 rw[Aq c1]
 by_cases c2:k0=4∧k1=4
 ·rw[Ax c2,Aq (by omega),Aq (by omega),Aq (by omega),Ax (by omega),bh]
 rw[Aq c2]
 by_cases c3:k0=1∧k1=1
 ·rw[Ax c3,Aq (by omega),Ax (by omega)]
 rw[Aq c3]
 by_cases c4:A129.wR k0=A129.wR k1
 ·rw[Aq (by simpa using c4),Aq (by omega),Aq (by omega),Aq (by omega)]
 ·rw[Ax c4]
def kP:List W3→List W3×Int
 |[]=>([],0)
 |v::l=>if(ki v.1 v.2.1).2≠0 then([],(ki v.1 v.2.1).2)else if(kP l).2≠0 then([],(kP l).2)else((ki v.1 v.2.1).1::(kP l).1,0)
def jv (s:ByteArray) (jk v:W3):Bool:=bif eqU s.data.toList [99,111,97,108,101,115,99,101]then jk.1==0 else
 (eqU s.data.toList [103,114,101,97,116,101,115,116]&&decide ((zB v.1 v.2.1 v.2.2 jk.1 jk.2.1 jk.2.2).1>0))||(eqU s.data.toList [108,101,97,115,116]&&decide ((zB v.1 v.2.1 v.2.2 jk.1 jk.2.1 jk.2.2).1<0))
def wM (s:ByteArray) (l:List W3):W3:=l.tail.foldl (fun b v=>bif jv s b v then v else b) (l.headD v0)
def yr (s:ByteArray) (kind:Int) (l:List W3):W3×Int:=bif kind==3 then(bif(kP l).2 != 0 then(v0,(kP l).2)else(wM s (kP l).1,0))else(wM s l,0)
def conv (kind:Int) (v:W3):W3:=bif kind==3 then(A75.kn v.1 v.2.1).1 else v
def err (kind:Int) (v:W3):Bool:=kind==3&&(v.1 != 0&&(A75.kn v.1 v.2.1).2 != 0)
theorem XD {k n:Int} (h:k=0∨k=2∨k=3) (he:(A75.kn k n).2≠0):(A75.kn k n).2=20:=by
 unfold A75.kn at he ⊢
 split
 ·rename_i h0;rw[Ax h0]at he;exact absurd rfl he
 ·rename_i h0
  rw[Aq h0]at he
  rw[Ax (by omega)]at he ⊢
  split
  ·rename_i h1;rw[Ax h1]at he;exact absurd rfl he
  ·rfl
theorem go_eq (s:ByteArray) (kind:Int): ∀(l:List W3) (p:Bool×W3),(kind=3→ ∀v∈l,v.1=0∨v.1=2∨v.1=3)→
  (l.any (err kind)=true→(A34L1.go s kind p l).1=20)∧(l.any (err kind)=false→A34L1.go s kind p l=(0,(((l.filter fun v=>v.1 != 0).map (conv kind)).foldl (A34L1.pick s) p).2))
 |[],p,_=>⟨(fun h=>by cases h),fun _=>rfl⟩
 |v::l,p,hk=>by
  have hl:kind=3→ ∀v∈l,v.1=0∨v.1=2∨v.1=3:=fun h x hx=>hk h x (by simp[hx])
  rw[A34L1.go,BX,Cw]
  cases hz:v.1==0
  ·have hz' : (v.1 != 0) = true := by unfold bne; rw [hz]; rfl
   simp only[Ah,hz',if_true,BR,Bi]
   cases h3:kind==3
   ·have e1 : err kind v = false := by unfold err; rw [h3]; rfl
    have e2:conv kind v=v:=by unfold conv;rw[h3];rfl
    rw[e1,e2,Bb]
    exact go_eq s kind l _ hl
   ·have e1 : err kind v = ((A75.kn v.1 v.2.1).2 != 0) := by unfold err; rw [h3, hz']; rfl
    have e2:conv kind v=(A75.kn v.1 v.2.1).1:=by unfold conv;rw[h3];rfl
    rw[e1,e2]
    simp only[Ai]
    cases hd:(A75.kn v.1 v.2.1).2 != 0
    ·rw [Bb]
     exact go_eq s kind l _ hl
    ·refine ⟨fun _ => ?_, fun h => by cases h⟩
     show (A75.kn v.1 v.2.1).2=20
     exact XD (hk (Ay.1 h3) v (by simp)) (B8.1 hd)
  ·have hz' : (v.1 != 0) = false := by unfold bne; rw [hz]; rfl
   have e1:err kind v=false:=by unfold err;rw[hz'];simp
   rw[e1,Bb]
   simp only[Ai,hz',BJ,if_false]
   exact go_eq s kind l p hl
theorem QA: ∀(l:List W3),(∀v∈l,inR v.2.1=true∧(v.1=0∨v.1=2∨v.1=3))→
  (l.any (err 3)=true→kP l=([],20))∧(l.any (err 3)=false→kP l=(l.map (conv 3),0))
 |[],_=>⟨(fun h=>by cases h),fun _=>rfl⟩
 |v::l,h=>by
  obtain⟨h1,h2⟩:=h v (by simp)
  obtain⟨i1,i2⟩:=QA l fun x hx=>h x (by simp[hx])
  rw[kP,jo h1,BX]
  have e2:conv 3 v=(A75.kn v.1 v.2.1).1:=rfl
  by_cases hd:(A75.kn v.1 v.2.1).2=0
  ·have e1 : err 3 v = false := by unfold err; rw [hd]; simp
   rw[e1,Bb,Aq (by simpa using hd)]
   refine⟨fun ha=> ?_,fun ha=> ?_⟩
   ·rw[i1 ha];rfl
   ·rw[i2 ha,BR,e2];rfl
  ·have hz : v.1 ≠ 0 := fun h0 => by rw [h0] at hd; exact hd rfl
   have e1:err 3 v=true:=by unfold err;rw[B8.2 hz,B8.2 hd];rfl
   rw[e1,B2,Ax hd,XD h2 hd]
   exact⟨fun _=>rfl,fun h=>by cases h⟩
theorem VK (s:ByteArray) (hc:eqU s.data.toList [99,111,97,108,101,115,99,101]=false): ∀(l:List W3) (b:W3),inR b.2.1=true→(∀v∈l,inR v.2.1=true)→(l.foldl (A34L1.pick s) (true,b)).2=l.foldl (fun b v=>bif jv s b v then v else b) b
 |[],b,_,_=>rfl
 |v::l,b,hb,hl=>by
  have hv:=hl v (by simp)
  have hl': ∀v∈l,inR v.2.1=true:=fun x hx=>hl x (by simp[hx])
  have e:A34L1.pick s (true,b) v=(true,bif jv s b v then v else b):=by
   unfold A34L1.pick A34L1.better jv
   rw[hc,xW hv hb]
   simp only[Ah,Bh,Bb]
   cases (eqU s.data.toList [103,114,101,97,116,101,115,116]&&decide ((A76.compare v.1 v.2.1 v.2.2 b.1 b.2.1 b.2.2).1>0))||(eqU s.data.toList [108,101,97,115,116]&&decide ((A76.compare v.1 v.2.1 v.2.2 b.1 b.2.1 b.2.2).1<0))<;>rfl
  rw[Bi,e,Bi]
  refine VK s hc l _ ?_ hl'
  cases jv s b v
  ·exact hb
  ·exact hv
theorem Wb {s:ByteArray} (hc:eqU s.data.toList [99,111,97,108,101,115,99,101]=true): ∀(l:List W3) (b:W3),(l.foldl (A34L1.pick s) (true,b)).2=b
 |[],b=>rfl
 |v::l,b=>by
  obtain rfl:=zR hc
  have e:A34L1.pick ⟨#[99,111,97,108,101,115,99,101]⟩ (true,b) v=(true,b):=rfl
  rw[Bi,e]
  exact Wb hc l b
theorem XI {s:ByteArray} (hc:eqU s.data.toList [99,111,97,108,101,115,99,101]=true): ∀(l:List W3) (b:W3),b.1≠0→l.foldl (fun b v=>bif jv s b v then v else b) b=b
 |[],b,_=>rfl
 |v::l,b,hb=>by
  have e:jv s b v=false:=by unfold jv;rw[hc];exact Ao.2 hb
  rw[Bi,e]
  exact XI hc l b hb
theorem aX {s:ByteArray} (hc:eqU s.data.toList [99,111,97,108,101,115,99,101]=true): ∀(l:List W3),(∀v∈l,v.1=0→v=v0)→((l.filter fun v=>v.1 != 0).foldl (A34L1.pick s) (false,v0)).2=l.foldl (fun b v=>bif jv s b v then v else b) v0
 |[],_=>rfl
 |v::l,h=>by
  have hl: ∀v∈l,v.1=0→v=v0:=fun x hx=>h x (by simp[hx])
  have e:jv s v0 v=true:=by unfold jv;rw[hc];rfl
  rw[Cw,Bi,e]
  by_cases hz:v.1=0
  ·have hz' : (v.1 != 0) = false := by rw [hz]; rfl
   rw[hz']
   simp only[BJ,if_false,Ai]
   rw[h v (by simp) hz]
   exact aX hc l hl
  ·have hz' : (v.1 != 0) = true := B8.2 hz
   rw[hz']
   simp only[if_true,Ai,Bi]
   have e2:A34L1.pick s (false,v0) v=(true,v):=by obtain rfl:=zR hc;rfl
   rw[e2,Wb hc,XI hc l v hz]
theorem cI {s:ByteArray} (hc:eqU s.data.toList [99,111,97,108,101,115,99,101]=true): ∀(l:List W3),wM s l=l.foldl (fun b v=>bif jv s b v then v else b) v0
 |[]=>rfl
 |v::l=>by
  have e:jv s v0 v=true:=by unfold jv;rw[hc];rfl
  rw[Bi,e];rfl
theorem ZW {kind:Int}: ∀(l:List W3),(∀v∈l,((conv kind v).1=0↔v.1=0))→(l.filter fun v=>v.1 != 0).map (conv kind)=(l.map (conv kind)).filter fun v=>v.1 != 0
 |[],_=>rfl
 |v::l,h=>by
  have ih:=ZW l fun x hx=>h x (by simp[hx])
  have hv:=h v (by simp)
  rw[Cw,BR,Cw]
  by_cases hz:v.1=0
  ·have a : (v.1 != 0) = false := by rw [hz]; rfl
   have b:((conv kind v).1 != 0)=false:=by rw[hv.2 hz];rfl
   rw[a,b];simpa using ih
  ·have a : (v.1 != 0) = true := B8.2 hz
   have b:((conv kind v).1 != 0)=true:=B8.2 fun h=>hz (hv.1 h)
   rw[a,b]
   simp only[if_true,BR,ih]
theorem bS {kind:Int} {v:W3} (ho:A33.okv v.1 v.2.1 v.2.2=true) (hin:inR v.2.1=true) (hk:v.1=0∨v.1=kind∨(kind=3∧(v.1=2∨v.1=3))) (he:err kind v=false):((conv kind v).1=0↔v.1=0)∧((conv kind v).1=0→conv kind v=v0)∧inR (conv kind v).2.1=true:=by
 have nul:v.1=0→v=v0:=by
  obtain⟨k,n,s⟩:=v
  intro h
  simp only at h
  subst h
  have h2:(n==0&&eqU s.data.toList [])=true:=ho
  simp only[Ag,Ay]at h2
  rw[h2.1,zR (l:=[]) h2.2];rfl
 unfold conv err at*
 cases h3:kind==3
 ·exact⟨Iff.rfl,nul,hin⟩
 ·have h3' := Ay.1 h3
  rw[h3]at he
  simp only[Ai]
  by_cases hz:v.1=0
  ·rw[nul hz];exact⟨Iff.rfl,fun _=>rfl,rfl⟩
  ·have h2 : v.1 = 2 ∨ v.1 = 3 := by omega
   have hd:(A75.kn v.1 v.2.1).2=0:=by
    rw[B8.2 hz]at he
    exact bne_eq_false_iff_eq.1 he
   have d:=gv h2 hd
   refine⟨⟨(fun h=>by rw[d.1]at h;cases h),fun h=>absurd h hz⟩,(fun h=>by rw[d.1]at h;cases h),?_⟩
   unfold A75.kn at hd ⊢
   rw[Aq (by omega),Ax h2]at hd ⊢
   split
   ·rcases h2 with e | e
    ·rw [e]
     show inR (A127i.dec v.2.1).1=true
     unfold A127i.dec
     dsimp only
     split
     ·rfl
     ·exact Ym _
    ·rw[e];exact hin
   ·rfl
theorem WW (s:ByteArray) (l:List W3) (hok: ∀v∈l,A33.okv v.1 v.2.1 v.2.2=true) (hin: ∀v∈l,inR v.2.1=true) (h5: ∀k∈ks l,Ok5 k) (hr:(A53.res (ks l)).2=true) (hne:l≠[])
  (hs:eqU s.data.toList [99,111,97,108,101,115,99,101]=true∨(eqU s.data.toList [99,111,97,108,101,115,99,101]=false∧(ks l).any (· ==0)=false)):yr s (A53.res (ks l)).1 l=kr s l:=by
 have hfit: ∀v∈l,v.1=0∨v.1=(A53.res (ks l)).1∨((A53.res (ks l)).1=3∧(v.1=2∨v.1=3)):=fun v hv=>cg h5 hr v.1 (List.mem_map_of_mem hv)
 unfold kr A34.jk
 have ek:(l.map (·.1))=ks l:=rfl
 rw[ek]
 generalize (A53.res (ks l)).1=kind at hfit ⊢
 have hk3:kind=3→ ∀v∈l,v.1=0∨v.1=2∨v.1=3:=fun h v hv=>by have:=hfit v hv;omega
 obtain⟨g1,g2⟩:=go_eq s kind l (false,0,0,⟨#[]⟩) hk3
 unfold yr
 cases he:l.any (err kind)
 ·have g := g2 he
  have hcn: ∀v∈l,((conv kind v).1=0↔v.1=0)∧((conv kind v).1=0→conv kind v=v0)∧inR (conv kind v).2.1=true:=fun v hv=>bS (hok v hv) (hin v hv) (hfit v hv) (by have:=B0.1 he v hv;simpa using this)
  have key:(((l.filter fun v=>v.1 != 0).map (conv kind)).foldl (A34L1.pick s) (false,0,0,⟨#[]⟩)).2=wM s (l.map (conv kind)):=by
   rw[ZW l fun v hv=>(hcn v hv).1]
   have hall: ∀u∈l.map (conv kind),∃v∈l,conv kind v=u:=fun u hu=>by obtain⟨v,a,b⟩:=Bk.1 hu;exact⟨v,a,b⟩
   rcases hs with hc|⟨hc,hz⟩
   ·rw [cI hc]
    exact aX hc _ fun u hu h0=>by
     obtain⟨v,a,rfl⟩:=hall u hu
     exact(hcn v a).2.1 h0
   ·have hz' := Kl hz
    have ef:(l.map (conv kind)).filter (fun v=>v.1 != 0)=l.map (conv kind):=List.filter_eq_self.2 fun u hu=>by
     obtain⟨v,a,rfl⟩:=hall u hu
     exact B8.2 fun h=>hz' v a ((hcn v a).1.1 h)
    rw[ef]
    cases l with
    |nil=>exact absurd rfl hne
    |cons v l=>
     rw[BR,Bi]
     have e2:A34L1.pick s (false,0,0,⟨#[]⟩) (conv kind v)=(true,conv kind v):=by
      unfold A34L1.pick A34L1.better;rfl
     rw[e2,VK s hc _ _ (hcn v (by simp)).2.2 fun u hu=>by
      obtain⟨x,a,rfl⟩:=Bk.1 hu
      exact(hcn x (by simp[a])).2.2]
     rfl
  rw[g,key]
  cases h3:kind==3
  ·have:l.map (conv kind)=l:=by
    have:(conv kind)=id:=by funext v;unfold conv;rw[h3];rfl
    rw[this,List.map_id]
   rw[this];rfl
  ·have h3' := Ay.1 h3
   subst h3'
   rw[(QA l fun v hv=>⟨hin v hv,hk3 rfl v hv⟩).2 he];rfl
 ·have g := g1 he
  have h3:kind=3:=by
   obtain⟨v,_,h⟩:=List.any_eq_true.1 he
   unfold err at h
   simp only[Ag,Ay]at h
   exact h.1
  subst h3
  rw[(QA l fun v hv=>⟨hin v hv,hk3 rfl v hv⟩).1 he,g]
  rfl
end
section
open Go Go.Proofs.YtaiokpmmjbiajaaGreatDoorDx.Fit
def kl (s:ByteArray) (n:Int):Int:=
 bif eqU s.data.toList [102,108,111,111,114]then(bif decide (n.tmod 10000<0)then wr (wr (n.tdiv 10000) - 1)else wr (n.tdiv 10000))else
 bif eqU s.data.toList [99,101,105,108]then(bif decide (n.tmod 10000>0)then wr (wr (n.tdiv 10000)+1)else wr (n.tdiv 10000))else
 bif eqU s.data.toList [114,111,117,110,100]then(bif decide (n.tmod 10000≥5000)then(bif decide (n.tmod 10000≤ -5000)then wr (wr (wr (n.tdiv 10000)+1) - 1)else wr (wr (n.tdiv 10000)+1))else(bif decide (n.tmod 10000≤ -5000)then wr (wr (n.tdiv 10000) - 1)else wr (n.tdiv 10000)))else
 wr (n.tdiv 10000)
def kR (s:ByteArray) (v:W3):W3×Int:=
 bif eqU s.data.toList [97,98,115]then(bif v.2.1== -9223372036854775808 then(v0,20)else((v.1,(if wr (0 - v.2.1)>v.2.1 then wr (0 - v.2.1)else v.2.1),⟨#[]⟩),0))else
 bif eqU s.data.toList [115,105,103,110]then((2,Kv v.2.1,⟨#[]⟩),0)else
 bif eqU s.data.toList [116,111,100,101,99]then ki v.1 v.2.1 else
 bif v.1==2 then(v,0)else((2,kl s v.2.1,⟨#[]⟩),0)
theorem abs_eq {v:W3} (hk:v.1=2∨v.1=3) (hs:v.2.2=⟨#[]⟩) (hn:inR v.2.1=true):kR ⟨#[97,98,115]⟩ v=bif decide (v.2.1<0)then A79.xk v.1 v.2.1 else(v,0):=by
 obtain⟨k,n,s⟩:=v
 simp only at hk hs hn
 subst hs
 obtain⟨n1,n2⟩:=yS.1 hn
 show (bif n== -9223372036854775808 then(v0,(20:Int))else((k,(if wr (0 - n)>n then wr (0 - n)else n),⟨#[]⟩),0))=bif decide (n<0)then A79.xk k n else((k,n,⟨#[]⟩),0)
 have hk0: ¬k=0:=by omega
 have eN:A79.xk k n=(if n=IntKind.wrap .i64 (0 - n)∧n≠0 then(v0,20)else((k,IntKind.wrap .i64 (0 - n),⟨#[]⟩),0)):=by
  unfold A79.xk
  rw[Aq hk0,Ax hk]
 rw[eN]
 by_cases h1:n= -9223372036854775808
 ·subst h1
  rw[Ax (show (-9223372036854775808:Int)=IntKind.wrap .i64 (0 - -9223372036854775808)∧(-9223372036854775808:Int)≠0 by decide)]
  rfl
 ·have e : wr (0 - n) = 0 - n := We (by omega) (by omega)
  have e':IntKind.wrap .i64 (0 - n)=0 - n:=e
  rw[Ao.2 h1,e']
  simp only[e,Ah]
  by_cases h2:n<0
  ·rw[Al h2,Ax (show 0 - n>n by omega),Aq (show¬(n=0 - n∧n≠0)by omega)];rfl
  ·rw [An h2]
   simp only[Ah]
   have:(if 0 - n>n then 0 - n else n)=n:=by split<;>omega
   rw[this]
theorem Yg {s:ByteArray} {v:W3} (hk:v.1=2∨v.1=3) (hn:inR v.2.1=true) (hs:s=⟨#[99,101,105,108]⟩∨s=⟨#[102,108,111,111,114]⟩∨s=⟨#[114,111,117,110,100]⟩):kR s v=Zs s v:=by
 obtain⟨k,n,t⟩:=v
 simp only at hk hn
 obtain⟨n1,n2⟩:=yS.1 hn
 obtain⟨q1,q2,q3,q4,q5⟩:=quot n
 have e:IntKind.wrap .i64 (0 - n.tmod 10000)=0 - n.tmod 10000:=We (by omega) (by omega)
 have key:kl s n=A80.rnd s n:=by
  unfold kl A80.rnd
  rcases hs with rfl|rfl|rfl
  ·show (bif decide (n.tmod 10000 > 0) then wr (wr (n.tdiv 10000) + 1) else wr (n.tdiv 10000)) = (bif (true && decide (Int.tmod n 10000 > 0)) || (false && decide (Int.tmod n 10000 ≥ 5000)) then _ else bif (false && decide (Int.tmod n 10000 < 0)) || (false && decide (IntKind.wrap .i64 (0 - Int.tmod n 10000) ≥ 5000)) then _ else _)
   simp only[AF,BU,Bool.or_false,Ah]
  ·show (bif decide (n.tmod 10000 < 0) then wr (wr (n.tdiv 10000) - 1) else wr (n.tdiv 10000)) = (bif (false && decide (Int.tmod n 10000 > 0)) || (false && decide (Int.tmod n 10000 ≥ 5000)) then _ else bif (true && decide (Int.tmod n 10000 < 0)) || (false && decide (IntKind.wrap .i64 (0 - Int.tmod n 10000) ≥ 5000)) then _ else _)
   simp only[AF,BU,Bool.or_false,Ah]
  ·show (bif decide (n.tmod 10000 ≥ 5000) then (bif decide (n.tmod 10000 ≤ -5000) then wr (wr (wr (n.tdiv 10000) + 1) - 1) else wr (wr (n.tdiv 10000) + 1)) else (bif decide (n.tmod 10000 ≤ -5000) then wr (wr (n.tdiv 10000) - 1) else wr (n.tdiv 10000))) = (bif (false && decide (Int.tmod n 10000 > 0)) || (true && decide (Int.tmod n 10000 ≥ 5000)) then _ else bif (false && decide (Int.tmod n 10000 < 0)) || (true && decide (IntKind.wrap .i64 (0 - Int.tmod n 10000) ≥ 5000)) then _ else _)
   simp only[AF,BU,Bb]
   rw[e]
   by_cases h1:n.tmod 10000≥5000
   ·rw[Al h1,An (show¬n.tmod 10000≤ -5000 by omega)];rfl
   ·rw [An h1]
    by_cases h2:n.tmod 10000≤ -5000
    ·rw[Al h2,Al (show 0 - n.tmod 10000≥5000 by omega)];rfl
    ·rw[An h2,An (show¬0 - n.tmod 10000≥5000 by omega)];rfl
 have e0:kR s (k,n,t)=(bif k==2 then((k,n,t),0)else((2,kl s n,⟨#[]⟩),0)):=by rcases hs with rfl|rfl|rfl<;>rfl
 rw[e0,key];rfl
theorem fl {v:W3} (hk:v.1=2∨v.1=3) (hs:v.2.2=⟨#[]⟩):kR ⟨#[116,111,105,110,116]⟩ v=A82.Jb v.1 v.2.1:=by
 obtain⟨k,n,s⟩:=v
 simp only at hk hs
 subst hs
 rcases hk with rfl|rfl<;>rfl
end
section
open Go Go.Proofs.YtaiokpmmjbiajaaGreatDoorDx.Fit Go.Proofs.YtaiokpmmjbiajaaGreatDoorU8 Go.Proofs.YtaiokpmmjbiajaaGreatDoorTxt
def ZH:List UInt8→List W3→Option (List UInt8)
 |out,[]=>some out
 |out,v::l=>if(out++v.2.2.data.toList).length>1024 then none else ZH (out++v.2.2.data.toList) l
def Zg (l:List W3):W3×Int:=match ZH [] l with
 |none=>(v0,20)
 |some out=>kL ⟨out.toArray⟩
theorem XF: ∀(l:List W3) (a:ByteArray),(l.foldl (fun s v=>A37L0.cO s v.2.2) a).data.toList=a.data.toList++l.flatMap (fun v=>v.2.2.data.toList)
 |[],a=>by simp
 |v::l,a=>by rw[Bi,XF l,cu,Cf,CI]
theorem bo: ∀(l:List W3) (out:List UInt8),(ZH out l=none∧(out++l.flatMap (fun v=>v.2.2.data.toList)).length>1024)∨ZH out l=some (out++l.flatMap (fun v=>v.2.2.data.toList))
 |[],out=> .inr (by simp[ZH])
 |v::l,out=>by
  rw[ZH,Cf,←List.append_assoc]
  split
  ·left
   refine⟨rfl,?_⟩
   rw[AO];omega
  ·exact bo l _
theorem cj (l:List W3):Zg l=kL (A37L0.cat l):=by
 have hd:(A37L0.cat l).data.toList=l.flatMap (fun v=>v.2.2.data.toList):=by
  have:=XF l ⟨#[]⟩
  exact this.trans (Bl _)
 unfold Zg
 rcases bo l []with⟨h1,h2⟩|h1
 ·rw [h1]
  rw[Bl]at h2
  unfold kL
  rw[hd,Al (show Int.ofNat (l.flatMap fun v=>v.2.2.data.toList).length>1024 by show ((l.flatMap fun v=>v.2.2.data.toList).length:Int)>1024;omega)];rfl
 ·rw[h1,Bl,←hd]
def kj (b:UInt8):Bool:=decide (128≤b.toNat)&&decide (b.toNat<192)
def vN:Nat→List UInt8→List (List UInt8)
 |0,_=>[]
 |_+1,[]=>[]
 |n+1,b::l=>(b::l.takeWhile kj)::vN n (l.dropWhile kj)
def pieces (l:List UInt8):List (List UInt8):=vN l.length l
theorem XH {x:Int} (h:wL x): ∃b t,enc x=b::t∧kj b=false∧t.all kj=true:=by
 have hh:=Qz h
 have ct: ∀{n:Nat},128≤n→n<192→kj (UInt8.ofNat n)=true:=by intro n h1 h2;unfold kj;rw[tn (by omega)];simp[h1,h2]
 have cf: ∀{n:Nat},n<256→(n<128∨192≤n)→kj (UInt8.ofNat n)=false:=by
  intro n h1 h2;unfold kj;rw[tn h1];simp;omega
 unfold wL at h
 by_cases c1:x<128
 ·rw [Ax c1] at hh
  exact⟨_,_,hh,cf (by omega) (by omega),rfl⟩
 by_cases c2:x<2048
 ·rw [Aq c1, Ax c2] at hh
  refine⟨_,_,hh,cf (by omega) (by omega),?_⟩
  simp only[A1,BS,AE]
  exact ct (by omega) (by omega)
 by_cases c3:x<65536
 ·rw [Aq c1, Aq c2, Ax c3] at hh
  refine⟨_,_,hh,cf (by omega) (by omega),?_⟩
  simp only[A1,BS,AE,Ag]
  exact⟨ct (by omega) (by omega),ct (by omega) (by omega)⟩
 ·rw [Aq c1, Aq c2, Aq c3] at hh
  refine⟨_,_,hh,cf (by omega) (by omega),?_⟩
  simp only[A1,BS,AE,Ag]
  exact⟨ct (by omega) (by omega),ct (by omega) (by omega),ct (by omega) (by omega)⟩
theorem we {p:UInt8→Bool}: ∀{t r:List UInt8},t.all p=true→(∀b r',r=b::r'→p b=false)→(t++r).takeWhile p=t∧(t++r).dropWhile p=r
 |[],r,_,hr=>by
  cases r with
  |nil=>exact⟨rfl,rfl⟩
  |cons b r'=>
   have:=hr b r' rfl
   simp[List.takeWhile,List.dropWhile,this]
 |x::t,r,h,hr=>by
  simp only[A1,Ag]at h
  obtain⟨a,b⟩:=we h.2 hr
  simp only[Bp,List.takeWhile,List.dropWhile,h.1,a,b]
  exact⟨trivial,trivial⟩
theorem ZK: ∀(p:List Int) (n:Nat),(∀x∈p,wL x)→(u8s p).length≤n→vN n (u8s p)=p.map enc
 |[],n,_,_=>by cases n<;>rfl
 |x::p,n,h,hn=>by
  obtain⟨b,t,e,h1,h2⟩:=XH (h x (by simp))
  rw[vt,e]at hn ⊢
  have pV: ∀c r,u8s p=c::r→kj c=false:=by
   intro c r hc
   cases p with
   |nil=>cases hc
   |cons y q=>
    obtain⟨b',t',e',h1',h2'⟩:=XH (h y (by simp))
    rw[vt,e']at hc
    cases hc
    exact h1'
  obtain⟨a1,a2⟩:=we h2 pV
  cases n with
  |zero=>simp at hn
  |succ n=>
   rw[Bp,vN,a1,a2,BR,e,ZK p n (fun y hy=>h y (by simp[hy])) (by simp at hn;omega)]
theorem Vi (p:List Int) (h: ∀x∈p,wL x):pieces (u8s p)=p.map enc:=ZK p _ h (Aw _)
theorem length_eq (s:ByteArray) (h:Lib.validD s.data.toList=true):Int.ofNat (pieces s.data.toList).length=Int.ofNat (Lib.runeCount s):=by
 obtain⟨p,h1,h2⟩:=VI h
 rw[fg h2,Ye,Vi p h1,count_eq p h1,AM]
def kT (l:List (List UInt8)) (a:Int):Int:=max 0 (min a (Int.ofNat l.length))
def Ke (l:List (List UInt8)) (a b:Int):Int:=max 0 (min b (Int.ofNat l.length - kT l a))
def jz (s:ByteArray) (a b:Int):List UInt8:=(((pieces s.data.toList).drop (kT (pieces s.data.toList) a).toNat).take (Ke (pieces s.data.toList) a b).toNat).flatten
theorem b5 (s:ByteArray) (h:Lib.validD s.data.toList=true) (a b:Int):(⟨(jz s a b).toArray⟩:ByteArray)=xm s a b:=by
 obtain⟨p,h1,h2⟩:=VI h
 have hs:=fg h2
 subst hs
 rw[fx p h1]
 unfold jz T
 rw[Bt,Vi p h1]
 have e1:(kT (p.map enc) a).toNat=_root_.Go.Proofs.YtaiokpmmjbiajaaGreatDoorTxt.from_ p a:=by
  unfold kT _root_.Go.Proofs.YtaiokpmmjbiajaaGreatDoorTxt.from_
  rw[AM]
  show (max 0 (min a (p.length:Int))).toNat=_
  omega
 have e2:(Ke (p.map enc) a b).toNat=_root_.Go.Proofs.YtaiokpmmjbiajaaGreatDoorTxt.cnt p a b:=by
  unfold Ke kT _root_.Go.Proofs.YtaiokpmmjbiajaaGreatDoorTxt.cnt
  rw[AM]
  show (max 0 (min b ((p.length:Int) - max 0 (min a (p.length:Int))))).toNat=_
  omega
 rw[e1,e2,←List.map_drop,←List.map_take]
 rfl
def aR (l:List UInt8):List UInt8:=Lib.trimRightB (Lib.trimLeftB l 32) 32
theorem cS (p:UInt8→Bool) (a:List UInt8) (x:UInt8):(a++[x]).dropWhile p=if a.all p=true then(if p x=true then[]else[x])else a.dropWhile p++[x]:=by
 induction a with
 |nil=>simp[List.dropWhile];cases p x<;>simp
 |cons y a ih=>
  rw[Bp,Bu,Bu,A1,ih]
  cases hy:p y<;>simp
theorem dz {p:UInt8→Bool}: ∀{a:List UInt8},a.all p=true→a.dropWhile p=[]
 |[],_=>rfl
 |x::a,h=>by
  simp only[A1,Ag]at h
  rw[Bu,h.1]
  exact dz h.2
theorem VX (p:UInt8→Bool): ∀l:List UInt8,((l.reverse.dropWhile p).reverse).dropWhile p=((l.dropWhile p).reverse.dropWhile p).reverse
 |[]=>rfl
 |x::l=>by
  have ih:=VX p l
  rw[CH,cS,Bu]
  cases hx:p x
  ·simp only [BJ, if_false]
   rw[CH,cS]
   simp only[hx,BJ,if_false]
   split
   ·simp[List.dropWhile,hx]
   ·rw[List.reverse_append,List.reverse_singleton,List.singleton_append,Bu,hx];simp
  ·simp only [if_true]
   rw[←ih]
   split
   ·rename_i ha
    rw[dz ha]
   ·rw[List.reverse_append,List.reverse_singleton,List.singleton_append,Bu,hx];simp
theorem lZ (l:List UInt8):aR l=Lib.trimB l 32:=(VX (· ==32) l).symm
def od (fr tw:Int) (c:UInt8):UInt8:=if fr≤(c.toNat:Int)∧(c.toNat:Int)≤fr+25 then UInt8.ofNat ((c.toNat:Int) - fr+tw).toNat else c
def js (fr tw:Int) (s:ByteArray):ByteArray:=⟨(s.data.toList.map (od fr tw)).toArray⟩
theorem cZ (s:ByteArray):js 65 97 s=jl 65 90 32 s:=by
 unfold js jl
 congr 2
 refine List.map_congr_left fun c _=> ?_
 unfold od one
 have:=c.toNat_lt
 by_cases h:(65:Int)≤(c.toNat:Int)∧(c.toNat:Int)≤90
 ·rw [Ax (by omega), Ax h]
  congr 1;omega
 ·rw[Aq (by omega),Aq h]
theorem eW (s:ByteArray):js 97 65 s=jl 97 122 (-32) s:=by
 unfold js jl
 congr 2
 refine List.map_congr_left fun c _=> ?_
 unfold od one
 have:=c.toNat_lt
 by_cases h:(97:Int)≤(c.toNat:Int)∧(c.toNat:Int)≤122
 ·rw [Ax (by omega), Ax h]
  congr 1;omega
 ·rw[Aq (by omega),Aq h]
def xc (s:ByteArray) (l:List W3):W3×Int:=
 let t:=(l.headD v0).2.2
 bif eqU s.data.toList [99,111,110,99,97,116]then Zg l else
 bif eqU s.data.toList [108,101,110,103,116,104]then((2,Int.ofNat (pieces t.data.toList).length,⟨#[]⟩),0)else
 bif eqU s.data.toList [108,111,119,101,114]then kL (js 65 97 t)else
 bif eqU s.data.toList [117,112,112,101,114]then kL (js 97 65 t)else
 bif eqU s.data.toList [116,114,105,109]then kL ⟨(aR t.data.toList).toArray⟩else
 kL ⟨(jz t (l.getD 1 v0).2.1 (l.getD 2 v0).2.1).toArray⟩
def same (a b:W3):Bool:=A35.tru (bif a.1==0||b.1==0 then 0 else 1) (bif(zB a.1 a.2.1 a.2.2 b.1 b.2.1 b.2.2).2&&(zB a.1 a.2.1 a.2.2 b.1 b.2.1 b.2.2).1==0 then 1 else 0)
def yT (s:ByteArray) (l:List W3):W3×Int:=
 bif(jw s (l.map (·.1))).2 != 0 then(v0,(jw s (l.map (·.1))).2)else
 bif l.any A10L1.bad then(v0,22)else
 bif eqU s.data.toList [110,117,108,108,105,102]then(bif same (l.headD v0) (l.getD 1 v0)then(v0,0)else(l.headD v0,0))else
 bif(l.map (·.1)).any (· ==0)&& !eqU s.data.toList [99,111,97,108,101,115,99,101]then(v0,0)else
 bif eqU s.data.toList [99,111,97,108,101,115,99,101]then yr s (jw s (l.map (·.1))).1 l else
 bif eqU s.data.toList [103,114,101,97,116,101,115,116]then yr s (jw s (l.map (·.1))).1 l else
 bif eqU s.data.toList [108,101,97,115,116]then yr s (jw s (l.map (·.1))).1 l else
 bif eqU s.data.toList [97,98,115]then kR s (l.headD v0)else
 bif eqU s.data.toList [99,101,105,108]then kR s (l.headD v0)else
 bif eqU s.data.toList [102,108,111,111,114]then kR s (l.headD v0)else
 bif eqU s.data.toList [114,111,117,110,100]then kR s (l.headD v0)else
 bif eqU s.data.toList [115,105,103,110]then kR s (l.headD v0)else
 bif eqU s.data.toList [116,111,100,101,99]then kR s (l.headD v0)else
 bif eqU s.data.toList [116,111,105,110,116]then kR s (l.headD v0)else
 bif eqU s.data.toList [116,111,116,101,120,116]then(bif(l.headD v0).1==4 then(l.headD v0,0)else kL (yf (l.headD v0).1 (l.headD v0).2.1 (l.headD v0).2.2))else
 xc s l
theorem lA (s:ByteArray) (l:List W3) (hin: ∀v∈l,inR v.2.1=true):yT s l=zW s l:=by
 unfold yT zW
 rw[Q4]
 cases hk:(kA s (l.map (·.1))).2 != 0
 rotate_left
 ·rfl
 have hk:=bne_eq_false_iff_eq.1 hk
 simp only[Ah]
 cases gy:l.any A10L1.bad
 rotate_left
 ·rfl
 have hok:=YB gy
 simp only[Ah]
 have hb5:(ks l).any A14L0.bad=false:=by
  cases hb:(ks l).any A14L0.bad
  ·rfl
  ·unfold kA at hk
   rw[show (l.map (·.1)).any A14L0.bad=true from hb]at hk
   cases hk
 have h5:=fi hb5
 have bU:inR (l.headD v0).2.1=true:=by cases l with
  |nil=>rfl
  |cons v l=>exact hin v (by simp)
 have tL:inR (l.getD 1 v0).2.1=true:=by match l with
  |[]=>rfl
  |[_]=>rfl
  |v::u::l=>exact hin u (by simp)
 have qK:=hk
 have hkp:=V0 s (ks l)
 unfold kA at qK
 rw[show (l.map (·.1)).any A14L0.bad=false from hb5]at qK
 simp only[Ah]at qK
 cases Vn:eqU s.data.toList [97,98,115]
 rotate_left
 ·obtain rfl := zR Vn
  have qK:(rP (A14.num (ks l)) ((ks l).headD 0)).2=0:=qK
  obtain⟨hn,hkd⟩:=rP0 qK
  clear hkp qK hk Vn
  show (bif(ks l).any (· ==0)&&true then(v0,0)else kR ⟨#[97,98,115]⟩ (l.headD v0))=(bif(ks l).any (· ==0)then(v0,0)else(bif decide ((l.headD v0).2.1<0)then A79.xk (l.headD v0).1 (l.headD v0).2.1 else(l.headD v0,0)))
  cases hz:(ks l).any (· ==0)
  rotate_left
  ·rfl
  obtain⟨v,rfl,h2,hs⟩:=one_num hok hn hz
  exact abs_eq h2 hs bU
 simp only[Vn,Ah]at qK
 cases Qm:eqU s.data.toList [99,101,105,108]
 rotate_left
 ·obtain rfl := zR Qm
  have qK:(rP (A14.num (ks l)) 2).2=0:=qK
  obtain⟨hn,hkd⟩:=rP0 qK
  clear hkp qK hk Qm
  show (bif(ks l).any (· ==0)&&true then(v0,0)else kR ⟨#[99,101,105,108]⟩ (l.headD v0))=(bif(ks l).any (· ==0)then(v0,0)else Zs ⟨#[99,101,105,108]⟩ (l.headD v0))
  cases hz:(ks l).any (· ==0)
  rotate_left
  ·rfl
  obtain⟨v,rfl,h2,hs⟩:=one_num hok hn hz
  exact Yg h2 bU (.inl rfl)
 simp only[Qm,Ah]at qK
 cases xZ:eqU s.data.toList [102,108,111,111,114]
 rotate_left
 ·obtain rfl := zR xZ
  have qK:(rP (A14.num (ks l)) 2).2=0:=qK
  obtain⟨hn,hkd⟩:=rP0 qK
  clear hkp qK hk xZ
  show (bif(ks l).any (· ==0)&&true then(v0,0)else kR ⟨#[102,108,111,111,114]⟩ (l.headD v0))=(bif(ks l).any (· ==0)then(v0,0)else Zs ⟨#[102,108,111,111,114]⟩ (l.headD v0))
  cases hz:(ks l).any (· ==0)
  rotate_left
  ·rfl
  obtain⟨v,rfl,h2,hs⟩:=one_num hok hn hz
  exact Yg h2 bU (.inr (.inl rfl))
 simp only[xZ,Ah]at qK
 cases yb:eqU s.data.toList [114,111,117,110,100]
 rotate_left
 ·obtain rfl := zR yb
  have qK:(rP (A14.num (ks l)) 2).2=0:=qK
  obtain⟨hn,hkd⟩:=rP0 qK
  clear hkp qK hk yb
  show (bif(ks l).any (· ==0)&&true then(v0,0)else kR ⟨#[114,111,117,110,100]⟩ (l.headD v0))=(bif(ks l).any (· ==0)then(v0,0)else Zs ⟨#[114,111,117,110,100]⟩ (l.headD v0))
  cases hz:(ks l).any (· ==0)
  rotate_left
  ·rfl
  obtain⟨v,rfl,h2,hs⟩:=one_num hok hn hz
  exact Yg h2 bU (.inr (.inr rfl))
 simp only[yb,Ah]at qK
 cases Qw:eqU s.data.toList [115,105,103,110]
 rotate_left
 ·obtain rfl := zR Qw
  have qK:(rP (A14.num (ks l)) 2).2=0:=qK
  obtain⟨hn,hkd⟩:=rP0 qK
  clear hkp qK hk Qw
  show (bif(ks l).any (· ==0)&&true then(v0,0)else kR ⟨#[115,105,103,110]⟩ (l.headD v0))=(bif(ks l).any (· ==0)then(v0,0)else((2,Kv (l.headD v0).2.1,⟨#[]⟩),0))
  cases hz:(ks l).any (· ==0)
  rotate_left
  ·rfl
  rfl
 simp only[Qw,Ah]at qK
 cases xO:eqU s.data.toList [116,111,105,110,116]
 rotate_left
 ·obtain rfl := zR xO
  have qK:(rP (A14.num (ks l)) 2).2=0:=qK
  obtain⟨hn,hkd⟩:=rP0 qK
  clear hkp qK hk xO
  show (bif(ks l).any (· ==0)&&true then(v0,0)else kR ⟨#[116,111,105,110,116]⟩ (l.headD v0))=(bif(ks l).any (· ==0)then(v0,0)else A82.Jb (l.headD v0).1 (l.headD v0).2.1)
  cases hz:(ks l).any (· ==0)
  rotate_left
  ·rfl
  obtain⟨v,rfl,h2,hs⟩:=one_num hok hn hz
  exact fl h2 hs
 simp only[xO,Ah]at qK
 cases xU:eqU s.data.toList [116,111,100,101,99]
 rotate_left
 ·obtain rfl := zR xU
  have qK:(rP (A14.num (ks l)) 3).2=0:=qK
  obtain⟨hn,hkd⟩:=rP0 qK
  clear hkp qK hk xU
  show (bif(ks l).any (· ==0)&&true then(v0,0)else kR ⟨#[116,111,100,101,99]⟩ (l.headD v0))=(bif(ks l).any (· ==0)then(v0,0)else A75.kn (l.headD v0).1 (l.headD v0).2.1)
  cases hz:(ks l).any (· ==0)
  rotate_left
  ·rfl
  exact jo bU
 simp only[xU,Ah]at qK
 cases jQ:eqU s.data.toList [99,111,97,108,101,115,99,101]
 rotate_left
 ·obtain rfl := zR jQ
  have qK:(rP ((A53.res (ks l)).2&&decide (Int.ofNat (ks l).length≥1)) (A53.res (ks l)).1).2=0:=qK
  obtain⟨hn,hkd⟩:=rP0 qK
  clear hkp qK hk jQ
  simp only[Ag,As]at hn
  have hne:l≠[]:=fun e=>by subst e;exact absurd hn.2 (by decide)
  have hkd:(kA ⟨#[99,111,97,108,101,115,99,101]⟩ (l.map (·.1))).1=(A53.res (ks l)).1:=by
   unfold kA
   rw[show (l.map (·.1)).any A14L0.bad=false from hb5]
   exact hkd
  show (bif(ks l).any (· ==0)&&false then(v0,0)else yr ⟨#[99,111,97,108,101,115,99,101]⟩ (kA ⟨#[99,111,97,108,101,115,99,101]⟩ (l.map (·.1))).1 l)=kr ⟨#[99,111,97,108,101,115,99,101]⟩ l
  rw[Ch,hkd]
  exact WW _ l hok hin h5 hn.1 hne (.inl rfl)
 simp only[jQ,Ah]at qK
 cases jZ:eqU s.data.toList [103,114,101,97,116,101,115,116]
 rotate_left
 ·obtain rfl := zR jZ
  have qK:(rP ((A53.res (ks l)).2&&decide (Int.ofNat (ks l).length≥1)) (A53.res (ks l)).1).2=0:=qK
  obtain⟨hn,hkd⟩:=rP0 qK
  clear hkp qK hk jZ
  simp only[Ag,As]at hn
  have hne:l≠[]:=fun e=>by subst e;exact absurd hn.2 (by decide)
  have hkd:(kA ⟨#[103,114,101,97,116,101,115,116]⟩ (l.map (·.1))).1=(A53.res (ks l)).1:=by
   unfold kA
   rw[show (l.map (·.1)).any A14L0.bad=false from hb5]
   exact hkd
  show (bif(ks l).any (· ==0)&&true then(v0,0)else yr ⟨#[103,114,101,97,116,101,115,116]⟩ (kA ⟨#[103,114,101,97,116,101,115,116]⟩ (l.map (·.1))).1 l)=(bif(ks l).any (· ==0)then(v0,0)else kr ⟨#[103,114,101,97,116,101,115,116]⟩ l)
  cases hz:(ks l).any (· ==0)
  rotate_left
  ·rfl
  rw[hkd]
  exact WW _ l hok hin h5 hn.1 hne (.inr ⟨rfl,hz⟩)
 simp only[jZ,Ah]at qK
 cases QH:eqU s.data.toList [108,101,97,115,116]
 rotate_left
 ·obtain rfl := zR QH
  have qK:(rP ((A53.res (ks l)).2&&decide (Int.ofNat (ks l).length≥1)) (A53.res (ks l)).1).2=0:=qK
  obtain⟨hn,hkd⟩:=rP0 qK
  clear hkp qK hk QH
  simp only[Ag,As]at hn
  have hne:l≠[]:=fun e=>by subst e;exact absurd hn.2 (by decide)
  have hkd:(kA ⟨#[108,101,97,115,116]⟩ (l.map (·.1))).1=(A53.res (ks l)).1:=by
   unfold kA
   rw[show (l.map (·.1)).any A14L0.bad=false from hb5]
   exact hkd
  show (bif(ks l).any (· ==0)&&true then(v0,0)else yr ⟨#[108,101,97,115,116]⟩ (kA ⟨#[108,101,97,115,116]⟩ (l.map (·.1))).1 l)=(bif(ks l).any (· ==0)then(v0,0)else kr ⟨#[108,101,97,115,116]⟩ l)
  cases hz:(ks l).any (· ==0)
  rotate_left
  ·rfl
  rw[hkd]
  exact WW _ l hok hin h5 hn.1 hne (.inr ⟨rfl,hz⟩)
 simp only[QH,Ah]at qK
 cases yj:eqU s.data.toList [110,117,108,108,105,102]
 rotate_left
 ·obtain rfl := zR yj
  have qK:(rP (Int.ofNat (ks l).length==2&&(A53.res (ks l)).2) ((ks l).headD 0)).2=0:=qK
  obtain⟨hn,hkd⟩:=rP0 qK
  clear hkp qK hk yj
  show (bif same (l.headD v0) (l.getD 1 v0)then(v0,0)else(l.headD v0,0))=_
  unfold same
  rw[xW bU tL];rfl
 simp only[yj,Ah]at qK
 cases yh:eqU s.data.toList [99,111,110,99,97,116]
 rotate_left
 ·obtain rfl := zR yh
  have qK:(rP ((ks l).foldl (fun b k=>b&&A14L1.ok1 k) (decide (Int.ofNat (ks l).length≥1))) 4).2=0:=qK
  obtain⟨hn,hkd⟩:=rP0 qK
  clear hkp qK hk yh
  show (bif(ks l).any (· ==0)&&true then(v0,0)else Zg l)=(bif(ks l).any (· ==0)then(v0,0)else kL (A37L0.cat l))
  cases hz:(ks l).any (· ==0)
  rotate_left
  ·rfl
  exact cj l
 simp only[yh,Ah]at qK
 cases yG:eqU s.data.toList [108,101,110,103,116,104]
 rotate_left
 ·obtain rfl := zR yG
  have qK:(rP (A14.txt (ks l)) 2).2=0:=qK
  obtain⟨hn,hkd⟩:=rP0 qK
  clear hkp qK hk yG
  show (bif(ks l).any (· ==0)&&true then(v0,0)else((2,Int.ofNat (pieces (l.headD v0).2.2.data.toList).length,⟨#[]⟩),0))=(bif(ks l).any (· ==0)then(v0,0)else((2,Int.ofNat (Lib.runeCount (l.headD v0).2.2),⟨#[]⟩),0))
  cases hz:(ks l).any (· ==0)
  rotate_left
  ·rfl
  obtain⟨v,rfl,h4,h6,h7⟩:=l5 hok hn hz
  simp only[BU,Ah]
  have:=length_eq v.2.2 h7
  show ((2,Int.ofNat (pieces v.2.2.data.toList).length,(⟨#[]⟩:ByteArray)),(0:Int))=((2,Int.ofNat (Lib.runeCount v.2.2),⟨#[]⟩),0)
  rw[this]
 simp only[yG,Ah]at qK
 cases QP:eqU s.data.toList [108,111,119,101,114]
 rotate_left
 ·obtain rfl := zR QP
  have qK:(rP (A14.txt (ks l)) 4).2=0:=qK
  obtain⟨hn,hkd⟩:=rP0 qK
  clear hkp qK hk QP
  show (bif(ks l).any (· ==0)&&true then(v0,0)else kL (js 65 97 (l.headD v0).2.2))=(bif(ks l).any (· ==0)then(v0,0)else kL (_root_.Go.Proofs.YtaiokpmmjbiajaaGreatDoorTxt.jl 65 90 32 (l.headD v0).2.2))
  cases hz:(ks l).any (· ==0)
  rotate_left
  ·rfl
  rw[cZ];rfl
 simp only[QP,Ah]at qK
 cases QZ:eqU s.data.toList [117,112,112,101,114]
 rotate_left
 ·obtain rfl := zR QZ
  have qK:(rP (A14.txt (ks l)) 4).2=0:=qK
  obtain⟨hn,hkd⟩:=rP0 qK
  clear hkp qK hk QZ
  show (bif(ks l).any (· ==0)&&true then(v0,0)else kL (js 97 65 (l.headD v0).2.2))=(bif(ks l).any (· ==0)then(v0,0)else kL (_root_.Go.Proofs.YtaiokpmmjbiajaaGreatDoorTxt.jl 97 122 (-32) (l.headD v0).2.2))
  cases hz:(ks l).any (· ==0)
  rotate_left
  ·rfl
  rw[eW];rfl
 simp only[QZ,Ah]at qK
 cases KA:eqU s.data.toList [116,114,105,109]
 rotate_left
 ·obtain rfl := zR KA
  have qK:(rP (A14.txt (ks l)) 4).2=0:=qK
  obtain⟨hn,hkd⟩:=rP0 qK
  clear hkp qK hk KA
  show (bif(ks l).any (· ==0)&&true then(v0,0)else kL ⟨(aR (l.headD v0).2.2.data.toList).toArray⟩)=(bif(ks l).any (· ==0)then(v0,0)else kL ⟨(Lib.trimB (l.headD v0).2.2.data.toList 32).toArray⟩)
  cases hz:(ks l).any (· ==0)
  rotate_left
  ·rfl
  rw[lZ];rfl
 simp only[KA,Ah]at qK
 cases yJ:eqU s.data.toList [116,111,116,101,120,116]
 rotate_left
 ·obtain rfl := zR yJ
  have qK:(rP (Int.ofNat (ks l).length==1) 4).2=0:=qK
  obtain⟨hn,hkd⟩:=rP0 qK
  clear hkp qK hk yJ
  show (bif(ks l).any (· ==0)&&true then(v0,0)else(bif(l.headD v0).1==4 then(l.headD v0,0)else kL (yf (l.headD v0).1 (l.headD v0).2.1 (l.headD v0).2.2)))=(bif(ks l).any (· ==0)then(v0,0)else(bif(l.headD v0).1==4 then(l.headD v0,0)else kL (yf (l.headD v0).1 (l.headD v0).2.1 (l.headD v0).2.2)))
  rw[AE]
 simp only[yJ,Ah]at qK
 cases yH:eqU s.data.toList [115,117,98,115,116,114]
 rotate_left
 ·obtain rfl := zR yH
  have qK:(rP (A14.sub (ks l)) 4).2=0:=qK
  obtain⟨hn,hkd⟩:=rP0 qK
  clear hkp qK hk yH
  show (bif(ks l).any (· ==0)&&true then(v0,0)else kL ⟨(jz (l.headD v0).2.2 (l.getD 1 v0).2.1 (l.getD 2 v0).2.1).toArray⟩)=(bif(ks l).any (· ==0)then(v0,0)else kL (_root_.Go.Proofs.YtaiokpmmjbiajaaGreatDoorTxt.xm (l.headD v0).2.2 (l.getD 1 v0).2.1 (l.getD 2 v0).2.1))
  cases hz:(ks l).any (· ==0)
  rotate_left
  ·rfl
  obtain⟨a,b,c,e,ha⟩:=YE hn
  cases l with
  |nil=>cases e
  |cons v l=>
   have ea:v.1=a:=(BD e).1
   have:=Kl hz v (by simp)
   have e4:v.1=4:=by omega
   have ho:=hok v (by simp)
   rw[e4]at ho
   have:=b5 v.2.2 (Zy ho).2.2 ((v::l).getD 1 v0).2.1 ((v::l).getD 2 v0).2.1
   show kL ⟨(jz v.2.2 ((v::l).getD 1 v0).2.1 ((v::l).getD 2 v0).2.1).toArray⟩=kL (_root_.Go.Proofs.YtaiokpmmjbiajaaGreatDoorTxt.xm v.2.2 ((v::l).getD 1 v0).2.1 ((v::l).getD 2 v0).2.1)
   rw[this]
 simp only[yH,Ah]at qK
 cases qK
end
end Go.Proofs.YtaiokpmmjbiajaaGreatDoorDx.Ref
namespace Go.Proofs.YtaiokpmmjbiajaaGreatDoorDx.Ari
section
open Go Go.Proofs Go.Proofs.YtaiokpmmjbiajaaGreatDoorDx.Fit
def bad (k:Int):Bool:= !(k==0||(k==2||k==3))
def ofV (k:Int) (p:Int×Bool):W3×Int:=bif p.2 then((k,p.1,⟨#[]⟩),0)else(v0,20)
def VB (a b:Int):Int×Bool:=(IntKind.wrap .i64 (a+b),!(decide (a<0)==decide (b<0))||(decide (IntKind.wrap .i64 (a+b)<0)==decide (a<0)))
def VF (a b:Int):Int×Bool:=(IntKind.wrap .i64 (a - b),(decide (a<0)==decide (b<0))||(decide (IntKind.wrap .i64 (a - b)<0)==decide (a<0)))
def j8 (f:Int→Int→Int×Bool) (a b:W3):W3×Int:=
 bif bad a.1||bad b.1 then(v0,22)else bif a.1==0||b.1==0 then(v0,0)else
 bif a.1==2&&b.1==2 then ofV 2 (f a.2.1 b.2.1)else
 bif(A127.dec a.1 a.2.1).2&&(A127.dec b.1 b.2.1).2 then ofV 3 (f (A127.dec a.1 a.2.1).1 (A127.dec b.1 b.2.1).1)else(v0,20)
theorem kinds (k:Int):k=0∨k=2∨k=3∨(bad k=true∧(k==0)=false∧(k==2)=false∧(k==3)=false∧(k != 0)=true):=by
 by_cases h0:k=0
 ·exact .inl h0
 by_cases h2:k=2
 ·exact .inr (.inl h2)
 by_cases h3:k=3
 ·exact .inr (.inr (.inl h3))
 have e0:=Ao.2 h0
 have e2:=Ao.2 h2
 have e3:=Ao.2 h3
 exact .inr (.inr (.inr ⟨by unfold bad;rw[e0,e2,e3];rfl,e0,e2,e3,B8.2 h0⟩))
def _root_.Go.Proofs.YtaiokpmmjbiajaaGreatDoorDx.Ref.zD (k k' n':Int) (div:Bool):Int×Bool:=
 bif bad k||bad k' then(22,true)else bif k==0||k'==0 then(0,true)else bif div&&n'==0 then(21,true)else(0,false)
def _root_.Go.Proofs.YtaiokpmmjbiajaaGreatDoorDx.Ref.zO (k n:Int):Int×Bool:=bif k==3 then(n,true)else(IntKind.wrap .i64 (n*10000),decide (n≤922337203685477)&&decide (n≥ -922337203685477))
def _root_.Go.Proofs.YtaiokpmmjbiajaaGreatDoorDx.Ref.Zn (a b:Int):Int×Bool:=(IntKind.wrap .i64 (a+b),!(decide (a>0)&&(decide (b>0)&&decide (IntKind.wrap .i64 (a+b)<0)))&& !(decide (a<0)&&(decide (b<0)&&decide (IntKind.wrap .i64 (a+b)≥0))))
def _root_.Go.Proofs.YtaiokpmmjbiajaaGreatDoorDx.Ref.xG (a b:Int):Int×Bool:=(IntKind.wrap .i64 (a - b),!(decide (a≥0)&&(decide (b<0)&&decide (IntKind.wrap .i64 (a - b)<0)))&& !(decide (a<0)&&(decide (b>0)&&decide (IntKind.wrap .i64 (a - b)≥0))))
def _root_.Go.Proofs.YtaiokpmmjbiajaaGreatDoorDx.Ref.zeroV (k k' n':Int):Bool×Int:=bif bad k||bad k' then(false,22)else bif k==0||k'==0 then(true,0)else bif n'==0 then(false,21)else(false,0)
def xR (g:Int→Int→Int×Bool) (a b:W3):W3×Int:=
 bif(Ref.zD a.1 b.1 b.2.1 false).2 then(v0,(Ref.zD a.1 b.1 b.2.1 false).1)else
 bif a.1==2&&b.1==2 then ofV 2 (g a.2.1 b.2.1)else
 bif(Ref.zO a.1 a.2.1).2&&(Ref.zO b.1 b.2.1).2 then ofV 3 (g (Ref.zO a.1 a.2.1).1 (Ref.zO b.1 b.2.1).1)else(v0,20)
theorem vR {n:Int}:inR n=true↔ -9223372036854775808≤n∧n<9223372036854775808:=by
 unfold inR
 rw[Ag,As,As]
theorem add_eq {a b:Int} (ha:inR a=true) (hb:inR b=true):VB a b=Ref.Zn a b:=by
 have h1:=vR.1 ha
 have h2:=vR.1 hb
 unfold VB Ref.Zn
 rw[IntKind.wrap_i64]
 congr 1
 rw[Bool.eq_iff_iff]
 simp only[AS,Ag,Bm,Bool.and_eq_false_iff,As,Bx,Ay,Ao,ne_eq,decide_eq_decide]
 omega
theorem sub_eq {a b:Int} (ha:inR a=true) (hb:inR b=true):VF a b=Ref.xG a b:=by
 have h1:=vR.1 ha
 have h2:=vR.1 hb
 unfold VF Ref.xG
 rw[IntKind.wrap_i64]
 congr 1
 rw[Bool.eq_iff_iff]
 simp only[AS,Ag,Bm,Bool.and_eq_false_iff,As,Bx,Ay,Ao,ne_eq,decide_eq_decide]
 omega
theorem jo {k n:Int} (hk:k=2∨k=3) (hn:inR n=true):(A127.dec k n).2=(Ref.zO k n).2∧((Ref.zO k n).2=true→(A127.dec k n).1=(Ref.zO k n).1∧inR (Ref.zO k n).1=true):=by
 have h1:=vR.1 hn
 rcases hk with rfl|rfl
 ·have e1 : A127.dec 2 n = A127i.dec n := rfl
  have e2:Ref.zO 2 n=(IntKind.wrap .i64 (n*10000),decide (n≤922337203685477)&&decide (n≥ -922337203685477)):=rfl
  rw[e1,e2]
  unfold A127i.dec
  dsimp only
  refine⟨?_,fun h=> ?_⟩
  ·rw [Bool.eq_iff_iff]
   simp only[Ag,As]
   omega
  ·simp only [Ag, As] at h
   rw[Aq (by omega)]
   exact⟨rfl,vR.2 (by rw[IntKind.wrap_i64];omega)⟩
 ·exact⟨rfl,fun _=>⟨rfl,hn⟩⟩
theorem Yo {f g:Int→Int→Int×Bool} (hfg: ∀a b,inR a=true→inR b=true→f a b=g a b) {a b:W3} (ha:inR a.2.1=true) (hb:inR b.2.1=true):j8 f a b=xR g a b:=by
 obtain⟨k,n,s⟩:=a
 obtain⟨k',n',s'⟩:=b
 dsimp only at ha hb
 unfold j8 xR Ref.zD
 dsimp only
 cases hb1:bad k||bad k'
 rotate_left
 ·rfl
 cases h0:k==0||k'==0
 rotate_left
 ·rfl
 simp only[Ah,BU]
 rw[AU]at hb1 h0
 have hk:k=2∨k=3:=by
  rcases kinds k with rfl|h|h|⟨h,_⟩
  ·cases h0.1
  ·exact .inl h
  ·exact .inr h
  ·rw[hb1.1]at h;cases h
 have hk':k'=2∨k'=3:=by
  rcases kinds k' with rfl|h|h|⟨h,_⟩
  ·cases h0.2
  ·exact .inl h
  ·exact .inr h
  ·rw[hb1.2]at h;cases h
 cases hi:k==2&&k'==2
 rotate_left
 ·simp only [Ai]
  rw[hfg _ _ ha hb]
 simp only[Ah]
 obtain⟨d1,d2⟩:=jo hk ha
 obtain⟨d3,d4⟩:=jo hk' hb
 rw[d1,d3]
 cases hd:(Ref.zO k n).2&&(Ref.zO k' n').2
 ·rfl
 ·rw [Ag] at hd
  obtain⟨x1,x2⟩:=d2 hd.1
  obtain⟨y1,y2⟩:=d4 hd.2
  simp only[Ai]
  rw[x1,y1,hfg _ _ x2 y2]
def rem (a b:Int):Int:=bif b != -1 then Int.tmod a b else 0
def Q5 (a b:W3):W3×Int:=
 bif(Ref.zD a.1 b.1 b.2.1 true).2 then(v0,(Ref.zD a.1 b.1 b.2.1 true).1)else
 bif a.1==3||b.1==3 then(bif(Ref.zO a.1 a.2.1).2&&(Ref.zO b.1 b.2.1).2 then((3,rem (Ref.zO a.1 a.2.1).1 (Ref.zO b.1 b.2.1).1,⟨#[]⟩),0)else(v0,20))else((2,rem a.2.1 b.2.1,⟨#[]⟩),0)
theorem KE {k k' n':Int} (h:(Ref.zD k k' n' true).2=false):n'≠0:=by
 unfold Ref.zD at h
 intro e
 subst e
 cases h1:bad k||bad k'<;>rw[h1]at h
 ·cases h2 : k == 0 || k' == 0 <;> rw [h2] at h
  ·cases h
  ·cases h
 ·cases h
theorem K9 {k n:Int} (hn:n≠0) (h:(Ref.zO k n).2=true):(Ref.zO k n).1≠0:=by
 unfold Ref.zO at h ⊢
 cases hk:k==3<;>rw[hk]at h
 ·simp only [Ah, Ag, As] at h ⊢
  rw[IntKind.wrap_i64];omega
 ·exact hn
def left (a b:Int):Int×Bool:=(rem a b,true)
def Z6 (a b:W3):W3×Int:=
 bif(Ref.zeroV a.1 b.1 b.2.1).2 != 0 then(v0,(Ref.zeroV a.1 b.1 b.2.1).2)else bif(Ref.zeroV a.1 b.1 b.2.1).1 then(v0,(Ref.zeroV a.1 b.1 b.2.1).2)else j8 left a b
theorem YU {k k' n':Int} (h1:(Ref.zeroV k k' n').1=false) (h2:((Ref.zeroV k k' n').2 != 0)=false):n'≠0:=by
 unfold Ref.zeroV at h1 h2
 intro e
 subst e
 cases h3:bad k||bad k'<;>rw[h3]at h1 h2
 ·cases h4 : k == 0 || k' == 0 <;> rw [h4] at h1 h2
  ·cases h2
  ·cases h1
 ·cases h2
theorem gV {k n:Int} (hk:k=2∨k=3) (hi:inR n=true) (hn:n≠0) (h:(A127.dec k n).2=true):(A127.dec k n).1≠0:=by
 obtain⟨d1,d2⟩:=jo hk hi
 rw[d1]at h
 rw[(d2 h).1]
 exact K9 hn h
theorem ln {a b:W3} (ha:inR a.2.1=true) (hb:inR b.2.1=true):Z6 a b=Q5 a b:=by
 unfold Z6 Q5 Ref.zeroV Ref.zD
 cases h1:bad a.1||bad b.1
 rotate_left
 ·rfl
 cases h2:a.1==0||b.1==0
 rotate_left
 ·rfl
 cases h3:b.2.1==0
 rotate_left
 ·rfl
 simp only[Ah,AF,bne_self_eq_false]
 rw[Yo (g:=left) (fun _ _ _ _=>rfl) ha hb]
 unfold xR Ref.zD
 rw[h1,h2]
 simp only[Ah,BU]
 rw[AU]at h1 h2
 have hk:a.1=2∨a.1=3:=by
  rcases kinds a.1 with h|h|h|⟨h,_⟩
  ·rw[h]at h2;cases h2.1
  ·exact .inl h
  ·exact .inr h
  ·rw[h1.1]at h;cases h
 have hk':b.1=2∨b.1=3:=by
  rcases kinds b.1 with h|h|h|⟨h,_⟩
  ·rw[h]at h2;cases h2.2
  ·exact .inl h
  ·exact .inr h
  ·rw[h1.2]at h;cases h
 have e:(a.1==2&&b.1==2)= !(a.1==3||b.1==3):=by
  rcases hk with h|h<;>rcases hk' with h'|h'<;>rw[h,h']<;>rfl
 rw[e]
 cases a.1==3||b.1==3
 ·rfl
 ·cases (Ref.zO a.1 a.2.1).2&&(Ref.zO b.1 b.2.1).2<;>rfl
def _root_.Go.Proofs.YtaiokpmmjbiajaaGreatDoorDx.Ref.lgc (v:W3):Int:=bif v.1 != 1 then 0 else bif v.2.1 != 0 then 1 else -1
def _root_.Go.Proofs.YtaiokpmmjbiajaaGreatDoorDx.Ref.J9 (c:Int):W3:=bif c==0 then v0 else bif c==1 then(1,1,⟨#[]⟩)else(1,0,⟨#[]⟩)
def _root_.Go.Proofs.YtaiokpmmjbiajaaGreatDoorDx.Ref.ja (a:W3):W3:=Ref.J9 (-(Ref.lgc a))
def _root_.Go.Proofs.YtaiokpmmjbiajaaGreatDoorDx.Ref.Jc (a b:W3):W3:=Ref.J9 (min (Ref.lgc a) (Ref.lgc b))
def _root_.Go.Proofs.YtaiokpmmjbiajaaGreatDoorDx.Ref.orV (a b:W3):W3:=Ref.J9 (max (Ref.lgc a) (Ref.lgc b))
def _root_.Go.Proofs.YtaiokpmmjbiajaaGreatDoorDx.Ref.yi (b:Bool):W3:=bif b then(1,1,⟨#[]⟩)else(1,0,⟨#[]⟩)
def _root_.Go.Proofs.YtaiokpmmjbiajaaGreatDoorDx.Ref.XK (s:ByteArray) (p:Int×Bool):W3:=
 bif !p.2 then v0 else bif eqU s.data.toList [60]then Ref.yi (decide (p.1<0))else bif eqU s.data.toList [60,61]then Ref.yi (decide (p.1≤0))else bif eqU s.data.toList [62]then Ref.yi (decide (p.1>0))else Ref.yi (decide (p.1≥0))
end
end Go.Proofs.YtaiokpmmjbiajaaGreatDoorDx.Ari
namespace Go.Proofs.YtaiokpmmjbiajaaGreatDoorDx
section
open Go Go.Proofs
namespace A159
def T (k0 n0:Int) (s0:ByteArray) (k1 n1:Int) (s1:ByteArray):GT Value:=let y1:=A127.dec k0 n0;let y2:=A127.dec k1 n1;let x1:=IntKind.wrap .i64 (y1.1+y2.1);let x2:=IntKind.wrap .i64 (n0+n1);let o1:GT Value:=(.out (.tuple #[.agg #[.int .i64 0,.int .i64 0,.string ⟨#[]⟩],.int .i64 0]));let o2:GT Value:=(.out (.tuple #[.agg #[.int .i64 2,.int .i64 x2,.string ⟨#[]⟩],.int .i64 0]));let o3:GT Value:=(.out (.tuple #[.agg #[.int .i64 0,.int .i64 0,.string ⟨#[]⟩],.int .i64 20]));let o4:GT Value:=(.out (.tuple #[.agg #[.int .i64 3,.int .i64 x1,.string ⟨#[]⟩],.int .i64 0]));let o5:GT Value:=(.br (((k0==2)||(k0==3))&&(inR n0)) (.br (((k1==2)||(k1==3))&&(inR n1)) (.br (y1.2) (.br (!y2.2) o3 (.br (!(decide (y1.1<0)==decide (y2.1<0))) o4 (.br (!(decide (x1<0)==decide (y1.1<0))) o3 o4))) o3) .no) .no);let o6:GT Value:=(.br (k0==0) o1 (.br (k1==0) o1 (.br (k0==2) (.br (k1==2) (.br (!(decide (n0<0)==decide (n1<0))) o2 (.br (!(decide (x2<0)==decide (n0<0))) o3 o2)) o5) o5)));let o7:GT Value:=(.out (.tuple #[.agg #[.int .i64 0,.int .i64 0,.string ⟨#[]⟩],.int .i64 22]));let o8:GT Value:=(.br (k1==2) o6 (.br (!(k1==3)) (.br (k1 != 0) o7 o6) o6));(.br (k0==2) o8 (.br (!(k0==3)) (.br (k0 != 0) o7 o8) o8))
theorem run (k0 n0:Int) (s0:ByteArray) (k1 n1:Int) (s1:ByteArray):runK 4 [(127,A127.spec)] [] 159 [.v (.agg #[.int .i64 k0,.int .i64 n0,.string s0]),.v (.agg #[.int .i64 k1,.int .i64 n1,.string s1])]=(T k0 n0 s0 k1 n1 s1).eval:=by kernel_rfl
set_option maxHeartbeats 0 in
theorem qN (a b:W3) (ha:inR a.2.1=true) (hb:inR b.2.1=true):(T a.1 a.2.1 a.2.2 b.1 b.2.1 b.2.2).eval=some (ve (Ari.j8 Ari.VB a b)):=by
 obtain⟨k,n,s⟩:=a
 obtain⟨k',n',s'⟩:=b
 unfold T
 dsimp only[]at ha hb ⊢
 simp only[GT.eval,ha,hb]
 unfold Ari.j8 Ari.VB Ari.ofV
 dsimp only[]
 generalize A127.dec k n=p
 generalize A127.dec k' n'=q
 obtain⟨x,ox⟩:=p
 obtain⟨y,oy⟩:=q
 dsimp only[]
 rcases Ari.kinds k with rfl|rfl|rfl|⟨e1,e2,e3,e4,e5⟩<;>rcases Ari.kinds k' with rfl|rfl|rfl|⟨f1,f2,f3,f4,f5⟩<;>
  (try simp only[e1,e2,e3,e4,e5])<;>(try simp only[f1,f2,f3,f4,f5])<;>(try rfl)<;>(try (generalize (decide (n<0)==decide (n'<0))=u;generalize (decide (IntKind.wrap .i64 (n+n')<0)==decide (n<0))=v;cases u<;>cases v<;>rfl))<;>(try (generalize (decide (n<0)==decide (n'<0))=u;generalize (decide (IntKind.wrap .i64 (n - n')<0)==decide (n<0))=v;cases u<;>cases v<;>rfl))<;>(try (cases ox<;>cases oy<;>(generalize (decide (x<0)==decide (y<0))=u;generalize (decide (IntKind.wrap .i64 (x+y)<0)==decide (x<0))=v;cases u<;>cases v<;>rfl)))<;>(try (cases ox<;>cases oy<;>(generalize (decide (x<0)==decide (y<0))=u;generalize (decide (IntKind.wrap .i64 (x - y)<0)==decide (x<0))=v;cases u<;>cases v<;>rfl)))
def spec:Spec:=fun aa=>match aa with
 |[a,b]=>(vOf a).bind fun x=>(vOf b).bind fun y=>some (.qI (inR x.2.1&&inR y.2.1) (.out (ve (Ari.j8 Ari.VB x y))))
 |_=>none
theorem qg:qu Tryz.prog La 159 spec:=⟨qD (by kernel_rfl),fun aa t v h e=>by
 unfold spec at h
 split at h
 ·rename_i a b
  obtain⟨x,h1,h⟩:=qi h
  obtain⟨y,h2,h⟩:=qi h
  cases h
  obtain⟨g1,g2⟩:=GT.qh e
  cases g2
  rw[Ag]at g1
  rw[qM h1,qM h2]
  exact⟨rfl,qS (n0:=4) (k:=12) qx qf qd (by simpa using A127.qg) (by simp) (by decide) (by simp) rfl ((run _ _ _ _ _ _).trans (qN x y g1.1 g1.2))⟩
 ·cases h⟩
end A159
namespace A160
def T (k0 n0:Int) (s0:ByteArray) (k1 n1:Int) (s1:ByteArray):GT Value:=let y1:=A127.dec k0 n0;let y2:=A127.dec k1 n1;let x1:=IntKind.wrap .i64 (y1.1 - y2.1);let x2:=IntKind.wrap .i64 (n0 - n1);let o1:GT Value:=(.out (.tuple #[.agg #[.int .i64 0,.int .i64 0,.string ⟨#[]⟩],.int .i64 0]));let o2:GT Value:=(.out (.tuple #[.agg #[.int .i64 2,.int .i64 x2,.string ⟨#[]⟩],.int .i64 0]));let o3:GT Value:=(.out (.tuple #[.agg #[.int .i64 0,.int .i64 0,.string ⟨#[]⟩],.int .i64 20]));let o4:GT Value:=(.out (.tuple #[.agg #[.int .i64 3,.int .i64 x1,.string ⟨#[]⟩],.int .i64 0]));let o5:GT Value:=(.br (((k0==2)||(k0==3))&&(inR n0)) (.br (((k1==2)||(k1==3))&&(inR n1)) (.br (y1.2) (.br (!y2.2) o3 (.br (decide (y1.1<0)==decide (y2.1<0)) o4 (.br (!(decide (x1<0)==decide (y1.1<0))) o3 o4))) o3) .no) .no);let o6:GT Value:=(.br (k0==0) o1 (.br (k1==0) o1 (.br (k0==2) (.br (k1==2) (.br (decide (n0<0)==decide (n1<0)) o2 (.br (!(decide (x2<0)==decide (n0<0))) o3 o2)) o5) o5)));let o7:GT Value:=(.out (.tuple #[.agg #[.int .i64 0,.int .i64 0,.string ⟨#[]⟩],.int .i64 22]));let o8:GT Value:=(.br (k1==2) o6 (.br (!(k1==3)) (.br (k1 != 0) o7 o6) o6));(.br (k0==2) o8 (.br (!(k0==3)) (.br (k0 != 0) o7 o8) o8))
theorem run (k0 n0:Int) (s0:ByteArray) (k1 n1:Int) (s1:ByteArray):runK 4 [(127,A127.spec)] [] 160 [.v (.agg #[.int .i64 k0,.int .i64 n0,.string s0]),.v (.agg #[.int .i64 k1,.int .i64 n1,.string s1])]=(T k0 n0 s0 k1 n1 s1).eval:=by kernel_rfl
set_option maxHeartbeats 0 in
theorem qN (a b:W3) (ha:inR a.2.1=true) (hb:inR b.2.1=true):(T a.1 a.2.1 a.2.2 b.1 b.2.1 b.2.2).eval=some (ve (Ari.j8 Ari.VF a b)):=by
 obtain⟨k,n,s⟩:=a
 obtain⟨k',n',s'⟩:=b
 unfold T
 dsimp only[]at ha hb ⊢
 simp only[GT.eval,ha,hb]
 unfold Ari.j8 Ari.VF Ari.ofV
 dsimp only[]
 generalize A127.dec k n=p
 generalize A127.dec k' n'=q
 obtain⟨x,ox⟩:=p
 obtain⟨y,oy⟩:=q
 dsimp only[]
 rcases Ari.kinds k with rfl|rfl|rfl|⟨e1,e2,e3,e4,e5⟩<;>rcases Ari.kinds k' with rfl|rfl|rfl|⟨f1,f2,f3,f4,f5⟩<;>
  (try simp only[e1,e2,e3,e4,e5])<;>(try simp only[f1,f2,f3,f4,f5])<;>(try rfl)<;>(try (generalize (decide (n<0)==decide (n'<0))=u;generalize (decide (IntKind.wrap .i64 (n+n')<0)==decide (n<0))=v;cases u<;>cases v<;>rfl))<;>(try (generalize (decide (n<0)==decide (n'<0))=u;generalize (decide (IntKind.wrap .i64 (n - n')<0)==decide (n<0))=v;cases u<;>cases v<;>rfl))<;>(try (cases ox<;>cases oy<;>(generalize (decide (x<0)==decide (y<0))=u;generalize (decide (IntKind.wrap .i64 (x+y)<0)==decide (x<0))=v;cases u<;>cases v<;>rfl)))<;>(try (cases ox<;>cases oy<;>(generalize (decide (x<0)==decide (y<0))=u;generalize (decide (IntKind.wrap .i64 (x - y)<0)==decide (x<0))=v;cases u<;>cases v<;>rfl)))
def spec:Spec:=fun aa=>match aa with
 |[a,b]=>(vOf a).bind fun x=>(vOf b).bind fun y=>some (.qI (inR x.2.1&&inR y.2.1) (.out (ve (Ari.j8 Ari.VF x y))))
 |_=>none
theorem qg:qu Tryz.prog La 160 spec:=⟨qD (by kernel_rfl),fun aa t v h e=>by
 unfold spec at h
 split at h
 ·rename_i a b
  obtain⟨x,h1,h⟩:=qi h
  obtain⟨y,h2,h⟩:=qi h
  cases h
  obtain⟨g1,g2⟩:=GT.qh e
  cases g2
  rw[Ag]at g1
  rw[qM h1,qM h2]
  exact⟨rfl,qS (n0:=4) (k:=12) qx qf qd (by simpa using A127.qg) (by simp) (by decide) (by simp) rfl ((run _ _ _ _ _ _).trans (qN x y g1.1 g1.2))⟩
 ·cases h⟩
end A160
end
section
open Go Go.Proofs Go.RowKit
def W7:Spec:=fun aa=>match aa with
 |[.v (.int .u64 a)]=>some (.qI (u64 a) (.out (.int .i64 (Lib.bitLen a.toNat))))
 |_=>none
theorem YA:qu Tryz.prog La 244 W7:=vG (by kernel_rfl) fun aa t v h e=>by
 unfold W7 at h
 split at h
 ·rename_i a
  cases h
  obtain⟨g1,g2⟩:=GT.qh e
  cases g2
  unfold u64 at g1
  simp only[Ag,As]at g1
  exact⟨[.int .u64 a],rfl,rfl,fun W _=>(Tryz.bits_Len64 a W g1.1 (by omega)).mono fun e w' h=>⟨h.1,by rw[h.2];exact Below.refl _ _⟩⟩
 ·cases h
end
section
open Go Go.Proofs
namespace A228
def T (a0:Int):GT Value:=(.br (decide (0≤a0)&&decide (a0<18446744073709551616)) (.out (.int .i64 (IntKind.wrap .i64 (64 - (Int.ofNat (Go.Lib.bitLen a0.toNat)))))) .no)
theorem run (a0:Int):runK 4 [(244,W7)] [] 228 [.v (.int .u64 a0)]=(T a0).eval:=by kernel_rfl
theorem nJ (a:Int) (h1:a<18446744073709551616):Lib.bitLen a.toNat≤64:=by
 have:a.toNat<2 ^ 64:=by omega
 exact Lib.bitLen_le _ 64 (Aw _) this
def spec:Spec:=fun aa=>match aa with
 |[.v (.int .u64 a)]=>some (.qI (u64 a) (.out (.int .i64 (64 - Int.ofNat (Lib.bitLen a.toNat)))))
 |_=>none
theorem qg:qu Tryz.prog La 228 spec:=⟨qD (by kernel_rfl),fun aa t v h e=>by
 unfold spec at h
 split at h
 ·rename_i a
  cases h
  obtain⟨g1,g2⟩:=GT.qh e
  cases g2
  refine⟨rfl,qS (n0:=4) (k:=12) qx qf qd (by simpa using YA) (by simp) (by decide) (by simp) rfl ((run _).trans ?_)⟩
  unfold u64 at g1
  unfold T
  rw[GT.eval,g1]
  have:=nJ a (by simp only[Ag,As]at g1;exact g1.2)
  show some (Value.int .i64 (IntKind.wrap .i64 (64 - Int.ofNat (Lib.bitLen a.toNat))))=_
  rw[kc (by show _≤64 - ((Lib.bitLen a.toNat:Nat):Int);omega) (by show 64 - ((Lib.bitLen a.toNat:Nat):Int)≤_;omega)]
 ·cases h⟩
end A228
end
end Go.Proofs.YtaiokpmmjbiajaaGreatDoorDx
namespace Go.Proofs.YtaiokpmmjbiajaaGreatDoorDx.Knuth
section
open Go
theorem Xn {u y1 y0 d q r:Int} (hD:0<y1*4294967296+y0) (hr:r=u - q*y1):(q*y0>4294967296*r+d)↔q>(u*4294967296+d) / (y1*4294967296+y0):=by
 have e:q*(y1*4294967296+y0)=q*y1*4294967296+q*y0:=by rw[Int.mul_add,←Int.mul_assoc]
 rw[show (q>(u*4294967296+d) / (y1*4294967296+y0))↔((u*4294967296+d) / (y1*4294967296+y0)<q)from Iff.rfl,Int.ediv_lt_iff_lt_mul hD,e]
 generalize q*y0=a at*
 generalize q*y1=b at*
 subst hr
 constructor<;>intro h<;>omega
theorem oA {u y1 y0 d:Int} (h1:0≤y0) (hy:0<y1) (hd:d<4294967296) (hu:u<y1*4294967296+y0):(u*4294967296+d) / (y1*4294967296+y0)<4294967296:=by
 have hD:0<y1*4294967296+y0:=by omega
 rw[Int.ediv_lt_iff_lt_mul hD]
 have:(u+1)*4294967296≤(y1*4294967296+y0)*4294967296:=Cv (by omega) (by decide)
 omega
theorem eD {u y1 y0 d:Int} (h0:0≤u) (h1:0≤y0) (hy:0<y1) (hd0:0≤d) (hd:d<4294967296):(u*4294967296+d) / (y1*4294967296+y0)≤u / y1:=by
 have hD:0<y1*4294967296+y0:=by omega
 have hq:0≤(u*4294967296+d) / (y1*4294967296+y0):=BI (by omega) (by omega)
 rw[Int.le_ediv_iff_mul_le hy]
 have h2:=Int.ediv_mul_le (u*4294967296+d) (show y1*4294967296+y0≠0 by omega)
 generalize (u*4294967296+d) / (y1*4294967296+y0)=q at*
 have e:q*(y1*4294967296+y0)=q*y1*4294967296+q*y0:=by rw[Int.mul_add,←Int.mul_assoc]
 have h3:0≤q*y0:=BG hq h1
 rw[e]at h2
 generalize q*y0=a at*
 generalize q*y1=b at*
 omega
def dig (u y1 y0 d:Int):Int:=(u*4294967296+d) / (y1*4294967296+y0)
structure Fits (u y1 y0 d q r:Int):Prop where
 u0:0≤u
 y1l:2147483648≤y1
 y1h:y1<4294967296
 y0l:0≤y0
 y0h:y0<4294967296
 d0:0≤d
 dh:d<4294967296
 ul:u<y1*4294967296+y0
 hr:r=u - q*y1
 r0:0≤r
 rh:r<4294967296
 ge:dig u y1 y0 d≤q
noncomputable def Wg (u y1 y0 d q r:Int):Bool:= @decide (Fits u y1 y0 d q r) (Classical.propDecidable _)
theorem Zj {u y1 y0 d q r:Int}:Wg u y1 y0 d q r=true↔Fits u y1 y0 d q r:=by
 unfold Wg
 exact @decide_eq_true_iff _ (Classical.propDecidable _)
theorem Fits.pos {u y1 y0 d q r:Int} (h:Fits u y1 y0 d q r):0<y1*4294967296+y0:=by have:=h.y1l;have:=h.y0l;omega
theorem Fits.small {u y1 y0 d q r:Int} (h:Fits u y1 y0 d q r):dig u y1 y0 d<4294967296:=oA h.y0l (by have:=h.y1l;omega) h.dh h.ul
theorem Fits.Vp {u y1 y0 d q r:Int} (h:Fits u y1 y0 d q r):0≤dig u y1 y0 d:=BI (by have:=h.u0;have:=h.d0;omega) (by have:=h.pos;omega)
theorem Fits.test {u y1 y0 d q r:Int} (h:Fits u y1 y0 d q r):(q≥4294967296∨q*y0>4294967296*r+d)↔dig u y1 y0 d<q:=by
 have t:=Xn (d:=d) h.pos h.hr
 have s:=h.small
 constructor
 ·rintro (g | g)
  ·omega
  ·exact t.1 g
 ·intro g
  exact .inr (t.2 g)
theorem Fits.qlt {u y1 y0 d q r:Int} (h:Fits u y1 y0 d q r):0≤q∧q*y1≤u∧q<18446744073709551616∧u<18446744073709551616:=by
 have h0:=h.Vp
 have h1:=h.ge
 have h2:q*y1≤u:=by have:=h.hr;have:=h.r0;omega
 have h3:q*1≤q*y1:=Int.mul_le_mul_of_nonneg_left (by have:=h.y1l;omega) (by omega)
 have:=h.ul;have:=h.y1h;have:=h.y0h
 exact⟨by omega,h2,by omega,by omega⟩
theorem Fits.round {u y1 y0 d q r:Int} (h:Fits u y1 y0 d q r) {β:Type} (f:Int→Int→β) (g:Int→β):
  (bif decide (q≥4294967296)then(bif decide (IntKind.wrap .u64 (r+y1)≥4294967296)then g (IntKind.wrap .u64 (q - 1))else f (IntKind.wrap .u64 (q - 1)) (IntKind.wrap .u64 (r+y1)))else(bif decide ((IntKind.wrap .u64 (q*y0))>(IntKind.wrap .u64 ((IntKind.wrap .u64 (4294967296*r))+d)))then(bif decide (IntKind.wrap .u64 (r+y1)≥4294967296)then g (IntKind.wrap .u64 (q - 1))else f (IntKind.wrap .u64 (q - 1)) (IntKind.wrap .u64 (r+y1)))else g q))=
  if dig u y1 y0 d<q then(if 4294967296≤r+y1 then g (q - 1)else f (q - 1) (r+y1))else g q:=by
 obtain⟨q0,_,q1,_⟩:=h.qlt
 have hn:=h.Vp
 have:=h.r0;have:=h.rh;have:=h.y1l;have:=h.y1h;have:=h.d0;have:=h.dh
 have e1:IntKind.wrap .u64 (r+y1)=r+y1:=by rw[IntKind.wrap_u64];omega
 have e2:IntKind.wrap .u64 ((IntKind.wrap .u64 (4294967296*r))+d)=4294967296*r+d:=by rw[IntKind.wrap_u64,IntKind.wrap_u64];omega
 have e3:dig u y1 y0 d<q→IntKind.wrap .u64 (q - 1)=q - 1:=fun g=>by rw[IntKind.wrap_u64];omega
 rw[e1,e2]
 have ht:=h.test
 by_cases hq:q≥4294967296
 ·have hd := ht.1 (.inl hq)
  rw[Al hq,e3 hd,Ax hd]
  by_cases hr:4294967296≤r+y1
  ·rw[Al (show r+y1≥4294967296 from hr),Ax hr];rfl
  ·rw[An (show¬r+y1≥4294967296 from hr),Aq hr];rfl
 ·have e4:IntKind.wrap .u64 (q*y0)=q*y0:=by
   have a1:q*y0≤4294967296*4294967296:=B9 (by omega) (by have:=h.y0h;omega) h.y0l (by decide)
   have a2:0≤q*y0:=BG q0 h.y0l
   have a3:q*y0≤4294967295*4294967295:=B9 (by omega) (by have:=h.y0h;omega) h.y0l (by decide)
   rw[IntKind.wrap_u64];omega
  rw[An hq,e4]
  by_cases hd:dig u y1 y0 d<q
  ·have : q * y0 > 4294967296 * r + d := (ht.2 hd).resolve_left hq
   rw[Al this,e3 hd,Ax hd]
   by_cases hr:4294967296≤r+y1
   ·rw[Al (show r+y1≥4294967296 from hr),Ax hr];rfl
   ·rw[An (show¬r+y1≥4294967296 from hr),Aq hr];rfl
  ·have : ¬ q * y0 > 4294967296 * r + d := fun g => hd (ht.1 (.inr g))
   rw[An this,Aq hd];rfl
theorem Fits.done {u y1 y0 d q r:Int} (h:Fits u y1 y0 d q r) (g: ¬dig u y1 y0 d<q):q=dig u y1 y0 d:=by have:=h.ge;omega
theorem Fits.next {u y1 y0 d q r:Int} (h:Fits u y1 y0 d q r) (g:dig u y1 y0 d<q) (hr:r+y1<4294967296):Fits u y1 y0 d (q - 1) (r+y1):=by
 refine⟨h.u0,h.y1l,h.y1h,h.y0l,h.y0h,h.d0,h.dh,h.ul,?_,?_,hr,by omega⟩
 ·rw[h.hr,Int.sub_mul,Int.one_mul];omega
 ·have:=h.r0;have:=h.y1l;omega
theorem Fits.last {u y1 y0 d q r:Int} (h:Fits u y1 y0 d q r) (g:dig u y1 y0 d<q) (hr:4294967296≤r+y1):q - 1=dig u y1 y0 d:=by
 have hn:=h.Vp
 have h1:(q - 1)*y1=u - (r+y1):=by rw[h.hr,Int.sub_mul,Int.one_mul];omega
 have h2:q - 1<4294967296:=by
  rcases Int.lt_or_le (q - 1) 4294967296 with g|g
  ·exact g
  ·have : 4294967296 * y1 ≤ (q - 1) * y1 := Cv g (by have := h.y1l; omega)
   have:=h.ul;have:=h.y0h
   omega
 have h3:(q - 1)*y0≤4294967296*4294967296:=B9 (by omega) (by have:=h.y0h;omega) h.y0l (by decide)
 have t:=Xn (d:=d) (r:=r+y1) (q:=q - 1) (u:=u) h.pos (by omega)
 have: ¬((q - 1)*y0>4294967296*(r+y1)+d):=by have:=h.d0;omega
 have:=fun g=>this (t.2 g)
 unfold dig at*
 omega
theorem Fits.start {u y1 y0 d:Int} (u0:0≤u) (y1l:2147483648≤y1) (y1h:y1<4294967296) (y0l:0≤y0) (y0h:y0<4294967296) (d0:0≤d) (dh:d<4294967296) (ul:u<y1*4294967296+y0):Fits u y1 y0 d (u / y1) (u - u / y1*y1):=by
 have h:=Ce u y1
 have hm:=Cn u (show y1≠0 by omega)
 have hl:=Cb u (show 0<y1 by omega)
 rw[Cc]at h
 exact⟨u0,y1l,y1h,y0l,y0h,d0,dh,ul,rfl,by omega,by omega,eD u0 y0l (by omega) d0 dh⟩
theorem left_eq {u y1 y0 d:Int}:u*4294967296+d - dig u y1 y0 d*(y1*4294967296+y0)=(u*4294967296+d) % (y1*4294967296+y0):=by
 have:=Ce (u*4294967296+d) (y1*4294967296+y0)
 unfold dig
 rw[Cc (y1*4294967296+y0) ((u*4294967296+d) / _)]at this
 omega
theorem Yj {u D d1 d0:Int} (hD:0<D) (h0:0≤d0) (h1:d0<4294967296):(u*4294967296*4294967296+d1*4294967296+d0) / D=(u*4294967296+d1) / D*4294967296+(((u*4294967296+d1) % D)*4294967296+d0) / D∧(u*4294967296*4294967296+d1*4294967296+d0) % D=(((u*4294967296+d1) % D)*4294967296+d0) % D:=by
 have e:=Ce (u*4294967296+d1) D
 have f:u*4294967296*4294967296+d1*4294967296+d0=((u*4294967296+d1) % D)*4294967296+d0+D*((u*4294967296+d1) / D*4294967296):=by
  have:D*((u*4294967296+d1) / D*4294967296)=D*((u*4294967296+d1) / D)*4294967296:=by rw[Int.mul_assoc]
  rw[this]
  generalize D*((u*4294967296+d1) / D)=x at*
  generalize (u*4294967296+d1) % D=r at*
  omega
 rw[f]
 constructor
 ·rw[Ct _ _ (by omega)];omega
 ·rw[Cg]
end
end Go.Proofs.YtaiokpmmjbiajaaGreatDoorDx.Knuth
namespace Go.Proofs.YtaiokpmmjbiajaaGreatDoorDx.Bits
section
open Go
theorem bv {a:Int} (h0:0≤a) (h1:a<18446744073709551616):(BitVec.ofInt 64 a).toNat=a.toNat:=by
 rw[BitVec.toNat_ofInt]
 congr 1
 exact CJ h0 h1
theorem vZ {a:Int} (h0:0≤a) (h1:a<18446744073709551616):IntKind.wrap .u64 a=a:=by
 rw[IntKind.wrap_u64];omega
theorem wD (n:Nat) (hn:n≤63) {a m:Int} (hm:m=2 ^ n - 1) (h0:0≤a) (h1:a<18446744073709551616):IntKind.wrap .u64 (Int.ofNat (BitVec.ofInt 64 a &&& BitVec.ofInt 64 m).toNat)=a % 2 ^ n:=by
 have hp:(2:Int) ^ n≤2 ^ 63:=by
  have:(2:Nat) ^ n≤2 ^ 63:=Nat.pow_le_pow_right (by decide) hn
  exact_mod_cast this
 have hp0:(0:Int)<2 ^ n:=by
  have:(0:Nat)<2 ^ n:=Nat.two_pow_pos n
  exact_mod_cast this
 have h63:(2:Int) ^ 63=9223372036854775808:=by decide
 rw[BitVec.toNat_and,bv h0 h1,bv (by omega) (by omega)]
 have e:m.toNat=2 ^ n - 1:=by
  subst hm
  have:((2:Int) ^ n - 1)=((2 ^ n - 1:Nat):Int):=by
   have:1≤2 ^ n:=Nat.two_pow_pos n
   push_cast [Int.ofNat_sub this];rfl
  rw[this];rfl
 rw[e,Nat.and_two_pow_sub_one_eq_mod]
 have e2:Int.ofNat (a.toNat % 2 ^ n)=a % 2 ^ n:=by
  show ((a.toNat % 2 ^ n:Nat):Int)=_
  rw[Int.natCast_emod,Int.toNat_of_nonneg h0]
  norm_cast
 rw[e2]
 have:=Cn a (show (2:Int) ^ n≠0 by omega)
 have:=Cb a hp0
 exact vZ (by omega) (by omega)
theorem W4 (n:Nat) {x b:Int} (hx:0≤x) (hb:0≤b) (hbn:b<2 ^ n) (ha:x*2 ^ n+b<18446744073709551616):IntKind.wrap .u64 (Int.ofNat (BitVec.ofInt 64 (x*2 ^ n) ||| BitVec.ofInt 64 b).toNat)=x*2 ^ n+b:=by
 have hx0:0≤x*2 ^ n:=BG hx (by
  have:(0:Nat)<2 ^ n:=Nat.two_pow_pos n
  have:(0:Int)<2 ^ n:=by exact_mod_cast this
  omega)
 rw[BitVec.toNat_or,bv hx0 (by omega),bv hb (by omega)]
 obtain⟨u,rfl⟩:=AG hx
 obtain⟨v,rfl⟩:=AG hb
 have e1:((u:Int)*2 ^ n).toNat=2 ^ n*u:=by
  have:((u:Int)*2 ^ n)=((2 ^ n*u:Nat):Int):=by push_cast;rw[Cc]
  rw[this];rfl
 have hv:v<2 ^ n:=by exact_mod_cast hbn
 rw[e1,Av,←Nat.two_pow_add_eq_or_of_lt hv]
 have e2:Int.ofNat (2 ^ n*u+v)=(u:Int)*2 ^ n+v:=by
  show ((2 ^ n*u+v:Nat):Int)=_
  push_cast;rw[Cc]
 rw[e2]
 exact vZ (by omega) ha
end
end Go.Proofs.YtaiokpmmjbiajaaGreatDoorDx.Bits
namespace Go.Proofs.YtaiokpmmjbiajaaGreatDoorDx.Knuth
section
open Go
theorem parts {h l y p p':Int} (hp:0<p) (hp':0<p') (hpp:p'*p=18446744073709551616) (h0:0≤h) (hy:h<y) (l0:0≤l) (l1:l<18446744073709551616) (yp:y*p<18446744073709551616):
  0≤l / p'∧l / p'<p∧h*p+l / p'<y*p∧(h*p+l / p')*18446744073709551616+(l*p) % 18446744073709551616=(h*18446744073709551616+l)*p∧0≤h*p:=by
 have a0:0≤l / p':=BI l0 (by omega)
 have a1:l / p'<p:=by
  rw[Int.ediv_lt_iff_lt_mul hp',Cc p p',hpp];exact l1
 have a2:(l*p) / 18446744073709551616=l / p':=by
  rw[←hpp,Int.mul_ediv_mul_of_pos_left _ _ hp]
 have a3:=Ce (l*p) 18446744073709551616
 have a4:(h+1)*p≤y*p:=Cv (by omega) (by omega)
 rw[Int.add_mul,Int.one_mul]at a4
 have a5:0≤h*p:=BG h0 (by omega)
 refine⟨a0,a1,by omega,?_,a5⟩
 rw[a2]at a3
 rw[Int.add_mul (h*p),Int.add_mul (h*18446744073709551616),Int.mul_right_comm h]
 omega
theorem tk {k:Nat} (hk:k≤63):(0:Int)<2 ^ k∧(0:Int)<2 ^ (64 - k)∧(2:Int) ^ (64 - k)*2 ^ k=18446744073709551616:=by
 refine⟨Int.pow_pos (by decide),Int.pow_pos (by decide),?_⟩
 rw[←Int.pow_add,Nat.sub_add_cancel (by omega)]
 rfl
theorem hJ (y:Int) (h0:0<y) (h1:y<18446744073709551616):1≤Lib.bitLen y.toNat∧Lib.bitLen y.toNat≤64∧9223372036854775808≤y*2 ^ (64 - Lib.bitLen y.toNat)∧y*2 ^ (64 - Lib.bitLen y.toNat)<18446744073709551616:=by
 obtain⟨n,rfl⟩:=AG (Ck h0)
 rw[Av]
 have hn:n<2 ^ 64:=by omega
 obtain⟨a,b,c⟩:=Lib.bitLenAux_bounds 64 n hn (by omega)
 have d:Lib.bitLen n≤64:=Lib.bitLen_le _ 64 (Aw _) hn
 unfold Lib.bitLen at*
 generalize Lib.bitLenAux 64 n=m at*
 refine⟨a,d,?_,?_⟩
 ·have : 2 ^ (m - 1) * 2 ^ (64 - m) ≤ n * 2 ^ (64 - m) := BA _ b
  rw[←Nat.pow_add,show m - 1+(64 - m)=63 by omega]at this
  have:=Int.ofNat_le.2 this
  rw[Int.natCast_mul,Int.natCast_pow,Int.natCast_pow]at this
  exact this
 ·have : n * 2 ^ (64 - m) < 2 ^ m * 2 ^ (64 - m) := Nat.mul_lt_mul_of_pos_right c (Nat.two_pow_pos _)
  rw[←Nat.pow_add,show m+(64 - m)=64 by omega]at this
  have:=Int.ofNat_lt.2 this
  rw[Int.natCast_mul,Int.natCast_pow,Int.natCast_pow]at this
  exact this
theorem J1 {a b c:Int} (h0:0≤a+b - c) (h1:a+b - c<18446744073709551616):IntKind.wrap .u64 (IntKind.wrap .u64 (IntKind.wrap .u64 a+b) - IntKind.wrap .u64 c)=a+b - c:=by
 simp only[IntKind.wrap_u64];omega
end
section
open Go
theorem chain {Step:KX→Ex→KX→Prop} {st:Int→Int→KX} {en:Int→KX} {k:Nat} {u y1 y0 d q r:Int} (h:Fits u y1 y0 d q r)
  (hs: ∀q r,Fits u y1 y0 d q r→(dig u y1 y0 d<q→4294967296≤r+y1→Step (st q r) (.exit k) (en (q - 1)))∧(dig u y1 y0 d<q→ ¬4294967296≤r+y1→Step (st q r) .normal (st (q - 1) (r+y1)))∧(¬dig u y1 y0 d<q→Step (st q r) (.exit k) (en q))):zI Step (st q r) (.exit k) (en (dig u y1 y0 d)):=by
 by_cases h1:dig u y1 y0 d<q
 ·by_cases h2 : 4294967296 ≤ r + y1
  ·have := (hs q r h).1 h1 h2
   rw[h.last h1 h2]at this
   exact .stop (by simp) this
  ·have hn := h.next h1 (by omega)
   refine .next ((hs q r h).2.1 h1 h2) ?_
   by_cases h3:dig u y1 y0 d<q - 1
   ·have h4 : 4294967296 ≤ r + y1 + y1 := by have := h.r0; have := h.y1l; omega
    have:=(hs _ _ hn).1 h3 h4
    rw[hn.last h3 h4]at this
    exact .stop (by simp) this
   ·have := (hs _ _ hn).2.2 h3
    rw[Bg en (hn.done h3)]at this
    exact .stop (by simp) this
 ·have := (hs q r h).2.2 h1
  rw[Bg en (h.done h1)]at this
  exact .stop (by simp) this
end
end Go.Proofs.YtaiokpmmjbiajaaGreatDoorDx.Knuth
namespace Go.Proofs.YtaiokpmmjbiajaaGreatDoorDx
section
open Go Go.Proofs
namespace A206L0
noncomputable def cfg:Cfg:=zw Tryz.prog 4 (gpT []) (ltT 4 [])
def stA (y:Int) (s:Int) (y1:Int) (y0:Int) (u:Int) (d1:Int) (d0:Int) (q:Int) (r:Int):KX:=⟨[(2,.int .u64 y),(8,.int .u64 s),(9,.int .u64 y1),(10,.int .u64 y0),(11,.int .u64 u),(13,.int .u64 d1),(14,.int .u64 d0),(15,.int .u64 q),(16,.int .u64 r)],[]⟩
def qT (y:Int) (s:Int) (y1:Int) (y0:Int) (u:Int) (d1:Int) (d0:Int) (q:Int):KX:=⟨[(2,.int .u64 y),(8,.int .u64 s),(9,.int .u64 y1),(10,.int .u64 y0),(11,.int .u64 u),(13,.int .u64 d1),(14,.int .u64 d0),(15,.int .u64 q)],[]⟩
def kp:Ex→List Nat
 | .normal=>[2,8,9,10,11,13,14,15,16]
 | .exit _=>[2,8,9,10,11,13,14,15]
 |_=>[]
theorem round (y:Int) (s:Int) (y1:Int) (y0:Int) (u:Int) (d1:Int) (d0:Int) (q:Int) (r:Int):zN cfg [] [] 206 0 (stK 135 4 [] (stA y s y1 y0 u d1 d0 q r)) (zv 4 100 135 kp (fun _ _=>[]))=(let x1:=IntKind.wrap .u64 (r+y1);let x2:=IntKind.wrap .u64 (q - 1);(bif decide (q≥4294967296)then(bif decide (x1≥4294967296)then(some (.exit 0,qT y s y1 y0 u d1 d0 x2))else(some (.normal,stA y s y1 y0 u d1 d0 x2 x1)))else(bif decide ((IntKind.wrap .u64 (q*y0))>(IntKind.wrap .u64 ((IntKind.wrap .u64 (4294967296*r))+d1)))then(bif decide (x1≥4294967296)then(some (.exit 0,qT y s y1 y0 u d1 d0 x2))else(some (.normal,stA y s y1 y0 u d1 d0 x2 x1)))else(some (.exit 0,qT y s y1 y0 u d1 d0 q))))
):=by kernel_rfl
noncomputable def D:KD:=⟨135,4,100,[2,8,9,10,11,13,14,15,16],[],fun _=>[],fun x ro=>match x.vs,x.cars,ro with
 |[(2,.int .u64 y),(8,.int .u64 s),(9,.int .u64 y1),(10,.int .u64 y0),(11,.int .u64 u),(13,.int .u64 d1),(14,.int .u64 d0),(15,.int .u64 q),(16,.int .u64 r)],[],[]=>
  .qI (Knuth.Wg u y1 y0 d1 q r) (.out (.exit 0,qT y s y1 y0 u d1 d0 (Knuth.dig u y1 y0 d1)))
 |_,_,_=> .no⟩
noncomputable def lp:LpK:=⟨206,17,0,D⟩
theorem qE:zq Tryz.prog La 4 lp:=by
 refine⟨by kernel_rfl,fun c base I hP hn hG hI hIL x ro ex y e=> ?_⟩
 obtain⟨vs,cars⟩:=x
 simp only[lp,D]at e ⊢
 split at e
 ·rename_i y s y1 y0 u d1 d0 q r
  obtain⟨g1,g2⟩:=GT.qh e
  cases g2
  refine Knuth.chain (st:=fun q r=>stA y s y1 y0 u d1 d0 q r) (en:=fun q=>qT y s y1 y0 u d1 d0 q) (Knuth.Zj.1 g1) fun q r h=> ?_
  have hr:=round y s y1 y0 u d1 d0 q r
  dsimp only[]at hr
  rw[h.round (fun q r=>some (Ex.normal,stA y s y1 y0 u d1 d0 q r)) (fun q=>some (.exit 0,qT y s y1 y0 u d1 d0 q))]at hr
  refine⟨fun a b=> ?_,fun a b=> ?_,fun a=> ?_⟩
  ·rw [Ax a, Ax b] at hr
   exact stepT qf qd (by simp) (by simp) hP hn hG hI hIL hr
  ·rw [Ax a, Aq b] at hr
   exact stepT qf qd (by simp) (by simp) hP hn hG hI hIL hr
  ·rw [Aq a] at hr
   exact stepT qf qd (by simp) (by simp) hP hn hG hI hIL hr
 ·cases e
end A206L0
namespace A206L1
noncomputable def cfg:Cfg:=zw Tryz.prog 4 (gpT []) (ltT 4 [])
def stA (y:Int) (s:Int) (y1:Int) (y0:Int) (d0:Int) (q1:Int) (r:Int) (u:Int) (q:Int):KX:=⟨[(2,.int .u64 y),(8,.int .u64 s),(9,.int .u64 y1),(10,.int .u64 y0),(14,.int .u64 d0),(15,.int .u64 q1),(16,.int .u64 r),(17,.int .u64 u),(18,.int .u64 q)],[]⟩
def qT (y:Int) (s:Int) (y1:Int) (y0:Int) (d0:Int) (q1:Int) (u:Int) (q:Int):KX:=⟨[(2,.int .u64 y),(8,.int .u64 s),(9,.int .u64 y1),(10,.int .u64 y0),(14,.int .u64 d0),(15,.int .u64 q1),(17,.int .u64 u),(18,.int .u64 q)],[]⟩
def kp:Ex→List Nat
 | .normal=>[2,8,9,10,14,15,16,17,18]
 | .exit _=>[2,8,9,10,14,15,17,18]
 |_=>[]
theorem round (y:Int) (s:Int) (y1:Int) (y0:Int) (d0:Int) (q1:Int) (r:Int) (u:Int) (q:Int):zN cfg [] [] 206 1 (stK 135 104 [] (stA y s y1 y0 d0 q1 r u q)) (zv 104 100 135 kp (fun _ _=>[]))=(let x1:=IntKind.wrap .u64 (r+y1);let x2:=IntKind.wrap .u64 (q - 1);(bif decide (q≥4294967296)then(bif decide (x1≥4294967296)then(some (.exit 2,qT y s y1 y0 d0 q1 u x2))else(some (.normal,stA y s y1 y0 d0 q1 x1 u x2)))else(bif decide ((IntKind.wrap .u64 (q*y0))>(IntKind.wrap .u64 ((IntKind.wrap .u64 (4294967296*r))+d0)))then(bif decide (x1≥4294967296)then(some (.exit 2,qT y s y1 y0 d0 q1 u x2))else(some (.normal,stA y s y1 y0 d0 q1 x1 u x2)))else(some (.exit 2,qT y s y1 y0 d0 q1 u q))))
):=by kernel_rfl
noncomputable def D:KD:=⟨135,104,100,[2,8,9,10,14,15,16,17,18],[],fun _=>[],fun x ro=>match x.vs,x.cars,ro with
 |[(2,.int .u64 y),(8,.int .u64 s),(9,.int .u64 y1),(10,.int .u64 y0),(14,.int .u64 d0),(15,.int .u64 q1),(16,.int .u64 r),(17,.int .u64 u),(18,.int .u64 q)],[],[]=>
  .qI (Knuth.Wg u y1 y0 d0 q r) (.out (.exit 2,qT y s y1 y0 d0 q1 u (Knuth.dig u y1 y0 d0)))
 |_,_,_=> .no⟩
noncomputable def lp:LpK:=⟨206,24,1,D⟩
theorem qE:zq Tryz.prog La 4 lp:=by
 refine⟨by kernel_rfl,fun c base I hP hn hG hI hIL x ro ex y e=> ?_⟩
 obtain⟨vs,cars⟩:=x
 simp only[lp,D]at e ⊢
 split at e
 ·rename_i y s y1 y0 d0 q1 r u q
  obtain⟨g1,g2⟩:=GT.qh e
  cases g2
  refine Knuth.chain (st:=fun q r=>stA y s y1 y0 d0 q1 r u q) (en:=fun q=>qT y s y1 y0 d0 q1 u q) (Knuth.Zj.1 g1) fun q r h=> ?_
  have hr:=round y s y1 y0 d0 q1 r u q
  dsimp only[]at hr
  rw[h.round (fun q r=>some (Ex.normal,stA y s y1 y0 d0 q1 r u q)) (fun q=>some (.exit 2,qT y s y1 y0 d0 q1 u q))]at hr
  refine⟨fun a b=> ?_,fun a b=> ?_,fun a=> ?_⟩
  ·rw [Ax a, Ax b] at hr
   exact stepT qf qd (by simp) (by simp) hP hn hG hI hIL hr
  ·rw [Ax a, Aq b] at hr
   exact stepT qf qd (by simp) (by simp) hP hn hG hI hIL hr
  ·rw [Aq a] at hr
   exact stepT qf qd (by simp) (by simp) hP hn hG hI hIL hr
 ·cases e
end A206L1
namespace A206g
noncomputable def T (a0:Int) (a1:Int) (a2:Int):GT Value:=let x2:=IntKind.wrap .u64 (64 - (Int.ofNat (Go.Lib.bitLen (a2).toNat)));let x3:=IntKind.wrap .u64 (a2*(2 ^ (min (x2).toNat 64)));let x4:=IntKind.wrap .u64 (Int.ofNat (BitVec.ofInt 64 (IntKind.wrap .u64 (a0*(2 ^ (min (x2).toNat 64)))) ||| BitVec.ofInt 64 (Int.fdiv a1 (2 ^ (min ((IntKind.wrap .u64 (64 - x2))).toNat 64)))).toNat);let x5:=IntKind.wrap .u64 (Int.ofNat (BitVec.ofInt 64 (IntKind.wrap .u64 (a1*(2 ^ (min (x2).toNat 64)))) &&& BitVec.ofInt 64 4294967295).toNat);let x6:=IntKind.wrap .u64 (Int.ofNat (BitVec.ofInt 64 x3 &&& BitVec.ofInt 64 4294967295).toNat);let x7:=Int.fdiv x3 4294967296;let x8:=Int.fdiv (IntKind.wrap .u64 (a1*(2 ^ (min (x2).toNat 64)))) 4294967296;let x1:=IntKind.wrap .u64 ((IntKind.wrap .u64 ((IntKind.wrap .u64 (x4*4294967296))+x8)) - (IntKind.wrap .u64 ((Knuth.dig x4 x7 x6 x8)*x3)));let x9:=IntKind.wrap .u64 (Int.tdiv x4 x7);let x10:=IntKind.wrap .u64 (Int.tdiv x1 x7);(.br ((a2==0)) .no (.br (decide (a2≤a0)) .no (.br ((a0==0)) (.br ((!decide (a2=0))) (.br ((!decide (a2=0))) (.out (.tuple ([.int .u64 (IntKind.wrap .u64 (Int.tdiv a1 a2)),.int .u64 (Int.tmod a1 a2)]).toArray)) .no) .no) (.br ((decide (0≤a2)&&decide (a2<18446744073709551616))) (.br ((!decide (x2<0))) (.br ((!decide (x2<0))) (.br ((!decide ((IntKind.wrap .u64 (64 - x2))<0))) (.br ((!decide (x2<0))) (.br ((!decide (x7=0))) (.br ((Knuth.Wg x4 x7 x6 x8 x9 (IntKind.wrap .u64 (x4 - (IntKind.wrap .u64 (x9*x7)))))) (.br ((!decide (x7=0))) (.br ((Knuth.Wg x1 x7 x6 x5 x10 (IntKind.wrap .u64 (x1 - (IntKind.wrap .u64 (x10*x7)))))) (.br ((!decide (x2<0))) (.out (.tuple ([.int .u64 (IntKind.wrap .u64 ((IntKind.wrap .u64 ((Knuth.dig x4 x7 x6 x8)*4294967296))+(Knuth.dig x1 x7 x6 x5))),.int .u64 (Int.fdiv (IntKind.wrap .u64 ((IntKind.wrap .u64 ((IntKind.wrap .u64 (x1*4294967296))+x5)) - (IntKind.wrap .u64 ((Knuth.dig x1 x7 x6 x5)*x3)))) (2 ^ (min (x2).toNat 64)))]).toArray)) .no) .no) .no) .no) .no) .no) .no) .no) .no) .no))))
theorem run (a0:Int) (a1:Int) (a2:Int):runK 4 [(228,A228.spec)] [A206L0.lp,A206L1.lp] 206 [.v (.int .u64 a0),.v (.int .u64 a1),.v (.int .u64 a2)]=(T a0 a1 a2).eval:=by kernel_rfl
theorem qN (h l y:Int) (hy:h<y) (h0:0≤h) (l0:0≤l) (l1:l<18446744073709551616) (y1:y<18446744073709551616):(T h l y).eval=some (.tuple #[.int .u64 ((h*18446744073709551616+l) / y),.int .u64 ((h*18446744073709551616+l) % y)]):=by
 have hyp:0<y:=by omega
 have c1:(y==0)=false:=Ao.mpr (by omega)
 have c2:decide (y≤h)=false:=An (by omega)
 have c3:decide (y=0)=false:=An (by omega)
 cases c4:h==0 with
 |true=>
  obtain rfl:=Ay.1 c4
  have e1:Int.tdiv l y=l / y:=Bn l0
  have e2:Int.tmod l y=l % y:=BM l0
  have e3:IntKind.wrap .u64 (l / y)=l / y:=by
   have:=BI l0 (Ck hyp)
   have:=Int.ediv_le_self y l0
   exact Bits.vZ (by omega) (by omega)
  unfold T
  simp only[GT.eval,c1,c2,c3,c4,Ai,Ah,Bv,e1,e2,e3,Int.zero_mul,Int.zero_add]
 |false=>
  obtain⟨b1,b2,b3,b4⟩:=Knuth.hJ y hyp y1
  generalize hbl:Lib.bitLen y.toNat=m at*
  obtain⟨k,hk⟩: ∃k,64 - m=k:=⟨_,rfl⟩
  have tJ:k≤63:=by omega
  rw[hk]at b3 b4
  obtain⟨p1,p2,p3⟩:=Knuth.tk tJ
  obtain⟨q1,q2,q3,q4,q5⟩:=Knuth.parts p1 p2 p3 h0 hy l0 l1 b4
  have s1:IntKind.wrap .u64 (64 - Int.ofNat m)=(k:Int):=by
   show IntKind.wrap .u64 (64 - ((m:Nat):Int))=_
   rw[IntKind.wrap_u64];omega
  have s2:min ((k:Int)).toNat 64=k:=by rw[Av];omega
  have s3:IntKind.wrap .u64 (64 - (k:Int))=((64 - k:Nat):Int):=by rw[IntKind.wrap_u64];omega
  have s4:min (((64 - k:Nat):Int)).toNat 64=64 - k:=by rw[Av];omega
  have s5:decide ((k:Int)<0)=false:=An (by omega)
  have s6:decide ((((64 - k:Nat):Int))<0)=false:=An (by omega)
  have s7:(decide (0≤y)&&decide (y<18446744073709551616))=true:=by simp only[Ag,As];omega
  have f1:Int.fdiv l (2 ^ (64 - k))=l / 2 ^ (64 - k):=Bz _ (by omega)
  have w1:IntKind.wrap .u64 (y*2 ^ k)=y*2 ^ k:=Bits.vZ (by omega) b4
  have w2:IntKind.wrap .u64 (h*2 ^ k)=h*2 ^ k:=Bits.vZ q5 (by omega)
  have w3:IntKind.wrap .u64 (l*2 ^ k)=(l*2 ^ k) % 18446744073709551616:=by rw[IntKind.wrap_u64]
  have w4:=Bits.W4 k h0 q1 q2 (by omega)
  unfold T
  simp only[hbl,s1,s2,s3,s4,f1,w1,w2,w3,w4]
  generalize hu:h*2 ^ k+l / 2 ^ (64 - k)=u at*
  generalize ht:(l*2 ^ k) % 18446744073709551616=t at*
  have t0:0≤t∧t<18446744073709551616:=by omega
  generalize hD:y*2 ^ k=D at*
  have u0:0≤u:=by omega
  have f2:Int.fdiv D 4294967296=D / 4294967296:=Bz _ (by decide)
  have f3:Int.fdiv t 4294967296=t / 4294967296:=Bz _ (by decide)
  have m1:=Bits.wD 32 (by decide) (a:=D) (m:=4294967295) (by decide) (by omega) (by omega)
  have m2:=Bits.wD 32 (by decide) (a:=t) (m:=4294967295) (by decide) (by omega) (by omega)
  rw[show (2:Int) ^ 32=4294967296 from rfl]at m1 m2
  simp only[f2,f3,m1,m2]
  have hDs:D=D / 4294967296*4294967296+D % 4294967296:=by omega
  have bQ:=Knuth.Fits.start (u:=u) (y1:=D / 4294967296) (y0:=D % 4294967296) (d:=t / 4294967296) u0 (by omega) (by omega) (by omega) (by omega) (by omega) (by omega) (by omega)
  have z1:Int.tdiv u (D / 4294967296)=u / (D / 4294967296):=Bn u0
  obtain⟨e1,e2,e3,e4⟩:=bQ.qlt
  have e5:=bQ.r0
  have e6:=bQ.rh
  have e7:0≤u / (D / 4294967296)*(D / 4294967296):=BG e1 (by omega)
  have z2:IntKind.wrap .u64 (u / (D / 4294967296))=u / (D / 4294967296):=Bits.vZ e1 e3
  have z3:IntKind.wrap .u64 (u - IntKind.wrap .u64 (u / (D / 4294967296)*(D / 4294967296)))=u - u / (D / 4294967296)*(D / 4294967296):=by
   rw[IntKind.wrap_u64,IntKind.wrap_u64];omega
  have l1':=Knuth.left_eq (u:=u) (y1:=D / 4294967296) (y0:=D % 4294967296) (d:=t / 4294967296)
  rw[←hDs]at l1'
  have hDp:0<D:=by omega
  have g1:=Cn (u*4294967296+t / 4294967296) (show D≠0 by omega)
  have g2:=Cb (u*4294967296+t / 4294967296) hDp
  have dn1:=bQ.Vp
  have ds1:=bQ.small
  generalize hq:Knuth.dig u (D / 4294967296) (D % 4294967296) (t / 4294967296)=qa at*
  have z4:IntKind.wrap .u64 (IntKind.wrap .u64 (IntKind.wrap .u64 (u*4294967296)+t / 4294967296) - IntKind.wrap .u64 (qa*D))=(u*4294967296+t / 4294967296) % D:=by
   rw[Knuth.J1 (by omega) (by omega),l1']
  have hqa:qa=(u*4294967296+t / 4294967296) / D:=by rw[←hq];unfold Knuth.dig;rw[←hDs]
  simp only[z1,z2,z3,z4,Knuth.Zj.2 bQ]
  generalize hv:(u*4294967296+t / 4294967296) % D=v at*
  have VT:=Knuth.Fits.start (u:=v) (y1:=D / 4294967296) (y0:=D % 4294967296) (d:=t % 4294967296) g1 (by omega) (by omega) (by omega) (by omega) (by omega) (by omega) (by omega)
  have y1':Int.tdiv v (D / 4294967296)=v / (D / 4294967296):=Bn g1
  obtain⟨i1,i2,i3,i4⟩:=VT.qlt
  have i5:=VT.r0
  have i6:=VT.rh
  have i7:0≤v / (D / 4294967296)*(D / 4294967296):=BG i1 (by omega)
  have y2:IntKind.wrap .u64 (v / (D / 4294967296))=v / (D / 4294967296):=Bits.vZ i1 i3
  have y3:IntKind.wrap .u64 (v - IntKind.wrap .u64 (v / (D / 4294967296)*(D / 4294967296)))=v - v / (D / 4294967296)*(D / 4294967296):=by
   rw[IntKind.wrap_u64,IntKind.wrap_u64];omega
  have l2':=Knuth.left_eq (u:=v) (y1:=D / 4294967296) (y0:=D % 4294967296) (d:=t % 4294967296)
  rw[←hDs]at l2'
  have g3:=Cn (v*4294967296+t % 4294967296) (show D≠0 by omega)
  have g4:=Cb (v*4294967296+t % 4294967296) hDp
  have dn2:=VT.Vp
  have ds2:=VT.small
  generalize hq2:Knuth.dig v (D / 4294967296) (D % 4294967296) (t % 4294967296)=qb at*
  have y4:IntKind.wrap .u64 (IntKind.wrap .u64 (IntKind.wrap .u64 (v*4294967296)+t % 4294967296) - IntKind.wrap .u64 (qb*D))=(v*4294967296+t % 4294967296) % D:=by
   rw[Knuth.J1 (by omega) (by omega),l2']
  have hqb:qb=(v*4294967296+t % 4294967296) / D:=by rw[←hq2];unfold Knuth.dig;rw[←hDs]
  have y5:IntKind.wrap .u64 (IntKind.wrap .u64 (qa*4294967296)+qb)=qa*4294967296+qb:=by
   rw[IntKind.wrap_u64,IntKind.wrap_u64];omega
  have d7:decide (D / 4294967296=0)=false:=An (by omega)
  simp only[y1',y2,y3,y4,y5,Knuth.Zj.2 VT,GT.eval,c1,c2,c4,s5,s6,s7,d7,Ai,Ah,Bv]
  obtain⟨t1,t2⟩:=Knuth.Yj (u:=u) (D:=D) (d1:=t / 4294967296) (d0:=t % 4294967296) hDp (by omega) (by omega)
  have hN:u*4294967296*4294967296+t / 4294967296*4294967296+t % 4294967296=(h*18446744073709551616+l)*2 ^ k:=by rw[←q4];omega
  rw[hN,hv,←hqa,←hqb,←hD,Int.mul_ediv_mul_of_pos_left _ _ p1]at t1
  have hm:((h*18446744073709551616+l)*2 ^ k) % (y*2 ^ k)=(h*18446744073709551616+l) % y*2 ^ k:=by
   rw[Cc _ (2 ^ k),Cc y,Int.mul_emod_mul_of_pos _ _ p1,Cc]
  rw[hN,hv,←hD,hm]at t2
  rw[←hD,←t2,←t1]
  have f4:Int.fdiv ((h*18446744073709551616+l) % y*2 ^ k) (2 ^ k)=(h*18446744073709551616+l) % y:=by
   rw[Bz _ (by omega),Int.mul_ediv_cancel _ (by omega)]
  rw[f4]
def spec:Spec:=fun aa=>match aa with
 |[.v (.int .u64 h),.v (.int .u64 a),.v (.int .u64 b)]=>some (.qI (decide (h<b)&&(u64 h&&(u64 a&&u64 b))) (.out (.tuple #[.int .u64 ((h*18446744073709551616+a) / b),.int .u64 ((h*18446744073709551616+a) % b)])))
 |_=>none
theorem qg:qu Tryz.prog La 206 spec:=⟨qD (by kernel_rfl),fun aa t v h e=>by
 unfold spec at h
 split at h
 ·rename_i h0 a b
  cases h
  obtain⟨g1,g2⟩:=GT.qh e
  cases g2
  unfold u64 at g1
  simp only[Ag,As]at g1
  obtain⟨g1,⟨g2,g3⟩,⟨g4,g5⟩,g6,g7⟩:=g1
  exact⟨rfl,qS (n0:=4) (k:=12) qx qf qd (by simpa using A228.qg) (by simpa using⟨A206L0.qE,A206L1.qE⟩) (by decide) (by simp) rfl ((run _ _ _).trans (qN _ _ _ g1 g2 g4 g5 g7))⟩
 ·cases h⟩
end A206g
end
end Go.Proofs.YtaiokpmmjbiajaaGreatDoorDx
namespace Go.Proofs.YtaiokpmmjbiajaaGreatDoorDx.Ari
section
open Go
def qG (n:Int):Int:=if n<0 then -n else n
theorem jE {n:Int} (h:inR n=true):0≤qG n∧qG n≤9223372036854775808:=by
 unfold inR at h
 simp only[Ag,As]at h
 unfold qG
 split<;>omega
theorem ca {n:Int}:qG n=0↔n=0:=by unfold qG;split<;>omega
def below (a b d:Int):Bool:= !((!(decide (a<0)==decide (b<0)))==decide (d<0))
def quot (a b d:Int):Int×Bool:=
 bif decide (qG a*qG b / qG d>9223372036854775808)||((qG a*qG b / qG d==9223372036854775808)&& !below a b d)then(0,false)else
 bif below a b d then(-(qG a*qG b / qG d),true)else(qG a*qG b / qG d,true)
def mdV (a b d:Int):Int×Bool:=
 bif decide (qG a*qG b / qG d≥18446744073709551616)then(0,false)else
 bif below a b d&&(qG a*qG b / qG d != 0)then(IntKind.wrap .i64 (-(qG a*qG b / qG d)),decide (qG a*qG b / qG d≤9223372036854775808))else
 (IntKind.wrap .i64 (qG a*qG b / qG d),decide (qG a*qG b / qG d<9223372036854775808))
theorem bz {a b:Int} (ha:inR a=true) (hb:inR b=true):0≤qG a*qG b∧qG a*qG b<340282366920938463463374607431768211456:=by
 have h1:=jE ha
 have h2:=jE hb
 refine⟨BG h1.1 h2.1,?_⟩
 have:=B9 h1.2 h2.2 h2.1 (by decide)
 omega
theorem size_pos {d:Int} (hd:inR d=true) (h:d≠0):0<qG d:=by
 have h1:=jE hd
 have:= @ca d
 omega
theorem XM {a b d:Int} (ha:inR a=true) (hb:inR b=true) (hd:inR d=true) (h:d≠0):(mdV a b d).2=(quot a b d).2∧((quot a b d).2=true→(mdV a b d).1=(quot a b d).1∧inR (quot a b d).1=true):=by
 have hq:0≤qG a*qG b / qG d:=BI (bz ha hb).1 (Ck (size_pos hd h))
 unfold mdV quot
 generalize qG a*qG b / qG d=q at*
 by_cases h1:q≥18446744073709551616
 ·rw [Al h1, Al (show q > 9223372036854775808 by omega)]
  exact⟨rfl,fun h=>by cases h⟩
 rw[An h1]
 cases hb2:below a b d
 ·simp only [BU, Ah, Bv, AE]
  by_cases h2:q<9223372036854775808
  ·have e : (q == 9223372036854775808) = false := Ao.2 (by omega)
   rw[Al h2,An (show¬q>9223372036854775808 by omega),e]
   refine⟨rfl,fun _=>⟨?_,?_⟩⟩
   ·show IntKind.wrap .i64 q = q
    rw[IntKind.wrap_i64];omega
   ·show inR q = true
    unfold inR;simp only[Ag,As];omega
  ·rw [An h2]
   have e:(decide (q>9223372036854775808)||q==9223372036854775808)=true:=by
    rw[AS,As,Ay];omega
   rw[e]
   exact⟨rfl,fun h=>by cases h⟩
 ·simp only [AF, Bh, Ch, Bool.or_false, Ai]
  by_cases h0:q=0
  ·subst h0
   exact⟨rfl,fun _=>⟨rfl,rfl⟩⟩
  ·rw [B8.2 h0]
   by_cases h2:q≤9223372036854775808
   ·rw [Al h2, An (show ¬ q > 9223372036854775808 by omega)]
    refine⟨rfl,fun _=>⟨?_,?_⟩⟩
    ·show IntKind.wrap .i64 (-q) = -q
     rw[IntKind.wrap_i64];omega
    ·show inR (-q) = true
     unfold inR;simp only[Ag,As];omega
   ·rw [An h2, Al (show q > 9223372036854775808 by omega)]
    exact⟨rfl,fun h=>by cases h⟩
end
end Go.Proofs.YtaiokpmmjbiajaaGreatDoorDx.Ari
namespace Go.Proofs.YtaiokpmmjbiajaaGreatDoorDx
section
open Go Go.Proofs
namespace A205
def T (a0:Int):GT Value:=let x1:=IntKind.wrap .u64 a0;(.br (decide (a0<0)) (.out (.int .u64 (IntKind.wrap .u64 (0 - x1)))) (.out (.int .u64 x1)))
theorem run (a0:Int):runK 4 [] [] 205 [.v (.int .i64 a0)]=(T a0).eval:=by kernel_rfl
theorem qN (a:Int) (h:inR a=true):(T a).eval=some (.int .u64 (Ari.qG a)):=by
 unfold inR at h
 simp only[Ag,As]at h
 unfold T Ari.qG
 by_cases hn:a<0
 ·have e : IntKind.wrap .u64 (0 - IntKind.wrap .u64 a) = -a := by rw [IntKind.wrap_u64, IntKind.wrap_u64]; omega
  simp only[GT.eval,Al hn,Ai,Ax hn,e]
 ·have e : IntKind.wrap .u64 a = a := by rw [IntKind.wrap_u64]; omega
  simp only[GT.eval,An hn,Ah,Aq hn,e]
def spec:Spec:=fun aa=>match aa with
 |[.v (.int .i64 a)]=>some (.qI (inR a) (.out (.int .u64 (Ari.qG a))))
 |_=>none
theorem qg:qu Tryz.prog La 205 spec:=⟨qD (by kernel_rfl),fun aa t v h e=>by
 unfold spec at h
 split at h
 ·rename_i a
  cases h
  obtain⟨g1,g2⟩:=GT.qh e
  cases g2
  exact⟨rfl,qS (l:=[]) (L:=[]) (n0:=4) (k:=12) qx qf qd (by simp) (by simp) (by decide) (by simp) rfl ((run _).trans (qN _ g1))⟩
 ·cases h⟩
end A205
namespace A175
def T (a0:Int) (a1:Int) (a2:Int):GT Value:=let y5:=Ari.qG a0;let y6:=Ari.qG a1;let y2:=(y5*y6) / 18446744073709551616;let y3:=(y5*y6) % 18446744073709551616;let y4:=Ari.qG a2;let y1:=((y2*18446744073709551616)+y3) / y4;let x1:=IntKind.wrap .i64 y1;let o1:GT Value:=(.out (.tuple #[.int .i64 x1,.bool (decide (y1<9223372036854775808))]));(.br (inR a0) (.br (inR a1) (.br ((decide (0≤y5)&&decide (y5<18446744073709551616))&&(decide (0≤y6)&&decide (y6<18446744073709551616))) (.br (inR a2) (.br (decide (y2≥y4)) (.out (.tuple #[.int .i64 0,.bool false])) (.br (decide (y2<y4)&&((decide (0≤y2)&&decide (y2<18446744073709551616))&&((decide (0≤y3)&&decide (y3<18446744073709551616))&&(decide (0≤y4)&&decide (y4<18446744073709551616))))) (.br (y1 != 0) (.br (!((!(decide (a0<0)==decide (a1<0)))==decide (a2<0))) (.out (.tuple #[.int .i64 (IntKind.wrap .i64 (IntKind.wrap .u64 (0 - y1))),.bool (decide (y1≤9223372036854775808))])) o1) o1) .no)) .no) .no) .no) .no)
theorem run (a0:Int) (a1:Int) (a2:Int):runK 4 [(204,yU),(206,A206g.spec),(205,A205.spec)] [] 175 [.v (.int .i64 a0),.v (.int .i64 a1),.v (.int .i64 a2)]=(T a0 a1 a2).eval:=by kernel_rfl
theorem qN (a b d:Int) (ha:inR a=true) (hb:inR b=true) (hd:inR d=true) (h0:d≠0):(T a b d).eval=some (.tuple #[.int .i64 (Ari.mdV a b d).1,.bool (Ari.mdV a b d).2]):=by
 obtain⟨n0,n1⟩:=Ari.bz ha hb
 have a1:=Ari.jE ha
 have b1:=Ari.jE hb
 have d1:=Ari.jE hd
 have dp:=Ari.size_pos hd h0
 unfold T Ari.mdV
 have hle:(Ari.qG a*Ari.qG b / 18446744073709551616≥Ari.qG d)↔Ari.qG a*Ari.qG b / Ari.qG d≥18446744073709551616:=by
  show Ari.qG d≤_↔18446744073709551616≤_
  rw[Int.le_ediv_iff_mul_le (by decide),Int.le_ediv_iff_mul_le dp,Cc]
 have e1:Ari.qG a*Ari.qG b / 18446744073709551616*18446744073709551616+Ari.qG a*Ari.qG b % 18446744073709551616=Ari.qG a*Ari.qG b:=by omega
 have e2:(decide (0≤Ari.qG a)&&decide (Ari.qG a<18446744073709551616)&&(decide (0≤Ari.qG b)&&decide (Ari.qG b<18446744073709551616)))=true:=by simp only[Ag,As];omega
 have hq:0≤Ari.qG a*Ari.qG b / Ari.qG d:=BI n0 (Ck dp)
 simp only[GT.eval,ha,hb,hd,e1,e2,Ai]
 by_cases hc:Ari.qG a*Ari.qG b / 18446744073709551616≥Ari.qG d
 ·rw[Al hc,Al (hle.1 hc)];rfl
 ·have hc' := fun g => hc (hle.2 g)
  rw[An hc,An hc']
  have e3:(decide (Ari.qG a*Ari.qG b / 18446744073709551616<Ari.qG d)&&(decide (0≤Ari.qG a*Ari.qG b / 18446744073709551616)&&decide (Ari.qG a*Ari.qG b / 18446744073709551616<18446744073709551616)&&(decide (0≤Ari.qG a*Ari.qG b % 18446744073709551616)&&decide (Ari.qG a*Ari.qG b % 18446744073709551616<18446744073709551616)&&(decide (0≤Ari.qG d)&&decide (Ari.qG d<18446744073709551616)))))=true:=by
   simp only[Ag,As];omega
  simp only[e3,Ai,Ah]
  unfold Ari.below
  generalize Ari.qG a*Ari.qG b / Ari.qG d=q at*
  have e4:IntKind.wrap .i64 (IntKind.wrap .u64 (0 - q))=IntKind.wrap .i64 (-q):=by
   rw[IntKind.wrap_u64,IntKind.wrap_i64,IntKind.wrap_i64];omega
  rw[e4]
  cases q != 0<;>cases (!((!(decide (a<0)==decide (b<0)))==decide (d<0)))<;>rfl
def spec:Spec:=fun aa=>match aa with
 |[.v (.int .i64 a),.v (.int .i64 b),.v (.int .i64 d)]=>some (.qI (inR a&&(inR b&&(inR d&& !(d==0)))) (.out (.tuple #[.int .i64 (Ari.mdV a b d).1,.bool (Ari.mdV a b d).2])))
 |_=>none
theorem qg:qu Tryz.prog La 175 spec:=⟨qD (by kernel_rfl),fun aa t v h e=>by
 unfold spec at h
 split at h
 ·rename_i a b d
  cases h
  obtain⟨g1,g2⟩:=GT.qh e
  cases g2
  simp only[Ag,Bm,Ao]at g1
  obtain⟨g1,g2,g3,g4⟩:=g1
  exact⟨rfl,qS (n0:=4) (k:=12) qx qf qd (by simpa using⟨KB,A206g.qg,A205.qg⟩) (by simp) (by decide) (by simp) rfl ((run _ _ _).trans (qN _ _ _ g1 g2 g3 g4))⟩
 ·cases h⟩
end A175
end
end Go.Proofs.YtaiokpmmjbiajaaGreatDoorDx
namespace Go.Proofs.YtaiokpmmjbiajaaGreatDoorDx.Ari
section
open Go Go.Proofs Go.Proofs.YtaiokpmmjbiajaaGreatDoorDx.Fit
def Kw (a b:W3):W3×Int:=
 bif(Ref.zD a.1 b.1 b.2.1 false).2 then(v0,(Ref.zD a.1 b.1 b.2.1 false).1)else
 ofV (bif a.1==3||b.1==3 then 3 else 2) (bif a.1==3&&b.1==3 then quot a.2.1 b.2.1 10000 else quot a.2.1 b.2.1 1)
def Va (a b:W3):W3×Int:=
 bif(Ref.zD a.1 b.1 b.2.1 true).2 then(v0,(Ref.zD a.1 b.1 b.2.1 true).1)else
 bif a.1==2&&b.1==2 then ofV 2 (quot a.2.1 1 b.2.1)else
 bif(Ref.zO a.1 a.2.1).2&&(Ref.zO b.1 b.2.1).2 then ofV 3 (quot (Ref.zO a.1 a.2.1).1 10000 (Ref.zO b.1 b.2.1).1)else(v0,20)
theorem Wt {k n:Int} (hn:inR n=true) (h:(Ref.zO k n).2=true):inR (Ref.zO k n).1=true:=by
 have h1:=vR.1 hn
 unfold Ref.zO at h ⊢
 cases hk:k==3<;>rw[hk]at h
 ·simp only [Ah, Ag, As] at h ⊢
  exact vR.2 (by rw[IntKind.wrap_i64];omega)
 ·exact hn
end
end Go.Proofs.YtaiokpmmjbiajaaGreatDoorDx.Ari
namespace Go.Proofs.YtaiokpmmjbiajaaGreatDoorDx
section
open Go Go.Proofs
namespace A161
def T (k0 n0:Int) (s0:ByteArray) (k1 n1:Int) (s1:ByteArray):GT Value:=let x1:=if k1>k0 then k1 else k0;let x2:=Ari.mdV n0 n1 10000;let o1:GT Value:=(.out (.tuple #[.agg #[.int .i64 0,.int .i64 0,.string ⟨#[]⟩],.int .i64 0]));let o2:GT Value:=(.out (.tuple #[.agg #[.int .i64 0,.int .i64 0,.string ⟨#[]⟩],.int .i64 20]));let y1:=(inR n0)&&((inR n1)&&true);let y2:=Ari.mdV n0 n1 1;let o3:GT Value:=(.br y1 (.br (!y2.2) o2 (.out (.tuple #[.agg #[.int .i64 x1,.int .i64 y2.1,.string ⟨#[]⟩],.int .i64 0]))) .no);let o4:GT Value:=(.br (k0==0) o1 (.br (k1==0) o1 (.br (k0==3) (.br (k1==3) (.br y1 (.br (!x2.2) o2 (.out (.tuple #[.agg #[.int .i64 x1,.int .i64 x2.1,.string ⟨#[]⟩],.int .i64 0]))) .no) o3) o3)));let o5:GT Value:=(.out (.tuple #[.agg #[.int .i64 0,.int .i64 0,.string ⟨#[]⟩],.int .i64 22]));let o6:GT Value:=(.br (k1==2) o4 (.br (!(k1==3)) (.br (k1 != 0) o5 o4) o4));(.br (k0==2) o6 (.br (!(k0==3)) (.br (k0 != 0) o5 o6) o6))
theorem run (k0 n0:Int) (s0:ByteArray) (k1 n1:Int) (s1:ByteArray):runK 4 [(175,A175.spec)] [] 161 [.v (.agg #[.int .i64 k0,.int .i64 n0,.string s0]),.v (.agg #[.int .i64 k1,.int .i64 n1,.string s1])]=(T k0 n0 s0 k1 n1 s1).eval:=by kernel_rfl
set_option maxHeartbeats 0 in
theorem qN (a b:W3) (ha:inR a.2.1=true) (hb:inR b.2.1=true):(T a.1 a.2.1 a.2.2 b.1 b.2.1 b.2.2).eval=some (ve (Ari.Kw a b)):=by
 obtain⟨k,n,s⟩:=a
 obtain⟨k',n',s'⟩:=b
 dsimp only[]at ha hb ⊢
 unfold T Ari.Kw Ref.zD
 obtain⟨e1,e2⟩:=Ari.XM ha hb (show inR 10000=true by decide) (by decide)
 obtain⟨e3,e4⟩:=Ari.XM ha hb (show inR 1=true by decide) (by decide)
 simp only[GT.eval,ha,hb]
 generalize Ari.mdV n n' 10000=m at*
 generalize Ari.quot n n' 10000=q at*
 generalize Ari.mdV n n' 1=m' at*
 generalize Ari.quot n n' 1=q' at*
 obtain⟨m1,m2⟩:=m
 obtain⟨q1,q2⟩:=q
 obtain⟨m3,m4⟩:=m'
 obtain⟨q3,q4⟩:=q'
 dsimp only[]at e1 e2 e3 e4 ⊢
 subst e1 e3
 unfold Ari.ofV
 cases m2<;>cases m4
 ·rcases Ari.kinds k with rfl|rfl|rfl|⟨g1,g2,g3,g4,g5⟩<;>rcases Ari.kinds k' with rfl|rfl|rfl|⟨f1,f2,f3,f4,f5⟩<;>
   (try simp only[g1,g2,g3,g4,g5])<;>(try simp only[f1,f2,f3,f4,f5])<;>rfl
 ·obtain ⟨rfl, _⟩ := e4 rfl
  rcases Ari.kinds k with rfl|rfl|rfl|⟨g1,g2,g3,g4,g5⟩<;>rcases Ari.kinds k' with rfl|rfl|rfl|⟨f1,f2,f3,f4,f5⟩<;>
   (try simp only[g1,g2,g3,g4,g5])<;>(try simp only[f1,f2,f3,f4,f5])<;>rfl
 ·obtain ⟨rfl, _⟩ := e2 rfl
  rcases Ari.kinds k with rfl|rfl|rfl|⟨g1,g2,g3,g4,g5⟩<;>rcases Ari.kinds k' with rfl|rfl|rfl|⟨f1,f2,f3,f4,f5⟩<;>
   (try simp only[g1,g2,g3,g4,g5])<;>(try simp only[f1,f2,f3,f4,f5])<;>rfl
 ·obtain ⟨rfl, _⟩ := e2 rfl
  obtain⟨rfl,_⟩:=e4 rfl
  rcases Ari.kinds k with rfl|rfl|rfl|⟨g1,g2,g3,g4,g5⟩<;>rcases Ari.kinds k' with rfl|rfl|rfl|⟨f1,f2,f3,f4,f5⟩<;>
   (try simp only[g1,g2,g3,g4,g5])<;>(try simp only[f1,f2,f3,f4,f5])<;>rfl
def spec:Spec:=fun aa=>match aa with
 |[a,b]=>(vOf a).bind fun x=>(vOf b).bind fun y=>some (.qI (inR x.2.1&&inR y.2.1) (.out (ve (Ari.Kw x y))))
 |_=>none
theorem qg:qu Tryz.prog La 161 spec:=⟨qD (by kernel_rfl),fun aa t v h e=>by
 unfold spec at h
 split at h
 ·rename_i a b
  obtain⟨x,h1,h⟩:=qi h
  obtain⟨y,h2,h⟩:=qi h
  cases h
  obtain⟨g1,g2⟩:=GT.qh e
  cases g2
  rw[Ag]at g1
  rw[qM h1,qM h2]
  exact⟨rfl,qS (n0:=4) (k:=12) qx qf qd (by simpa using A175.qg) (by simp) (by decide) (by simp) rfl ((run _ _ _ _ _ _).trans (qN x y g1.1 g1.2))⟩
 ·cases h⟩
end A161
namespace A195
def T (k0 n0:Int) (s0:ByteArray) (k1 n1:Int) (s1:ByteArray):GT Value:=let o1:GT Value:=(.out (.tuple #[.bool (k1==0),.int .i64 0]));let o2:GT Value:=(.br (k0==0) (.out (.tuple #[.bool true,.int .i64 0])) (.br (!(k1==0)) (.br (n1==0) (.out (.tuple #[.bool (k1==0),.int .i64 21])) o1) o1));let o3:GT Value:=(.out (.tuple #[.bool false,.int .i64 22]));let o4:GT Value:=(.br (k1==2) o2 (.br (!(k1==3)) (.br (k1 != 0) o3 o2) o2));(.br (k0==2) o4 (.br (!(k0==3)) (.br (k0 != 0) o3 o4) o4))
theorem run (k0 n0:Int) (s0:ByteArray) (k1 n1:Int) (s1:ByteArray):runK 4 [] [] 195 [.v (.agg #[.int .i64 k0,.int .i64 n0,.string s0]),.v (.agg #[.int .i64 k1,.int .i64 n1,.string s1])]=(T k0 n0 s0 k1 n1 s1).eval:=by kernel_rfl
theorem qN (a b:W3):(T a.1 a.2.1 a.2.2 b.1 b.2.1 b.2.2).eval=some (.tuple #[.bool (Ref.zeroV a.1 b.1 b.2.1).1,.int .i64 (Ref.zeroV a.1 b.1 b.2.1).2]):=by
 obtain⟨k,n,s⟩:=a
 obtain⟨k',n',s'⟩:=b
 unfold T Ref.zeroV
 dsimp only[]
 simp only[GT.eval]
 rcases Ari.kinds k with rfl|rfl|rfl|⟨e1,e2,e3,e4,e5⟩<;>rcases Ari.kinds k' with rfl|rfl|rfl|⟨f1,f2,f3,f4,f5⟩<;>
  (try simp only[e1,e2,e3,e4,e5])<;>(try simp only[f1,f2,f3,f4,f5])<;>(try rfl)<;>(cases n'==0<;>rfl)
def spec:Spec:=fun aa=>match aa with
 |[a,b]=>(vOf a).bind fun x=>(vOf b).bind fun y=>some (.out (.tuple #[.bool (Ref.zeroV x.1 y.1 y.2.1).1,.int .i64 (Ref.zeroV x.1 y.1 y.2.1).2]))
 |_=>none
theorem qg:qu Tryz.prog La 195 spec:=⟨qD (by kernel_rfl),fun aa t v h e=>by
 unfold spec at h
 split at h
 ·rename_i a b
  obtain⟨x,h1,h⟩:=qi h
  obtain⟨y,h2,h⟩:=qi h
  cases h;cases e
  rw[qM h1,qM h2]
  exact⟨rfl,qS (l:=[]) (L:=[]) (n0:=4) (k:=12) qx qf qd (by simp) (by simp) (by decide) (by simp) rfl ((run _ _ _ _ _ _).trans (qN x y))⟩
 ·cases h⟩
end A195
namespace A162
def T (k0 n0:Int) (s0:ByteArray) (k1 n1:Int) (s1:ByteArray):GT Value:=let y1:=A127.dec k1 n1;let y3:=A127.dec k0 n0;let x1:=Ari.mdV y3.1 10000 y1.1;let y2:=Ref.zeroV k0 k1 n1;let o1:GT Value:=(.out (.tuple #[.agg #[.int .i64 0,.int .i64 0,.string ⟨#[]⟩],.int .i64 y2.2]));let o2:GT Value:=(.out (.tuple #[.agg #[.int .i64 0,.int .i64 0,.string ⟨#[]⟩],.int .i64 20]));let o3:GT Value:=(.br (((k0==2)||(k0==3))&&(inR n0)) (.br (((k1==2)||(k1==3))&&(inR n1)) (.br (y3.2) (.br (!y1.2) o2 (.br ((inR y3.1)&&(true&&((inR y1.1)&&(!(y1.1==0))))) (.br (!x1.2) o2 (.out (.tuple #[.agg #[.int .i64 3,.int .i64 x1.1,.string ⟨#[]⟩],.int .i64 0]))) .no)) o2) .no) .no);let y4:=Ari.mdV n0 1 n1;(.br (y2.2 != 0) o1 (.br (y2.1) o1 (.br (k0==2) (.br (k1==2) (.br ((inR n0)&&(true&&((inR n1)&&(!(n1==0))))) (.br (!y4.2) o2 (.out (.tuple #[.agg #[.int .i64 2,.int .i64 y4.1,.string ⟨#[]⟩],.int .i64 0]))) .no) o3) o3)))
theorem run (k0 n0:Int) (s0:ByteArray) (k1 n1:Int) (s1:ByteArray):runK 4 [(127,A127.spec),(195,A195.spec),(175,A175.spec)] [] 162 [.v (.agg #[.int .i64 k0,.int .i64 n0,.string s0]),.v (.agg #[.int .i64 k1,.int .i64 n1,.string s1])]=(T k0 n0 s0 k1 n1 s1).eval:=by kernel_rfl
set_option maxHeartbeats 0 in
theorem qN (a b:W3) (ha:inR a.2.1=true) (hb:inR b.2.1=true):(T a.1 a.2.1 a.2.2 b.1 b.2.1 b.2.2).eval=some (ve (Ari.Va a b)):=by
 obtain⟨k,n,s⟩:=a
 obtain⟨k',n',s'⟩:=b
 dsimp only[]at ha hb ⊢
 unfold T Ari.Va
 have hz:(Ref.zD k k' n' true).2=((Ref.zeroV k k' n').2 != 0||(Ref.zeroV k k' n').1)∧(Ref.zD k k' n' true).1=(Ref.zeroV k k' n').2:=by
  unfold Ref.zD Ref.zeroV
  cases Ari.bad k||Ari.bad k'<;>cases k==0||k'==0<;>cases n'==0<;>exact⟨rfl,rfl⟩
 rw[hz.1,hz.2]
 simp only[GT.eval,ha,hb]
 cases h2:(Ref.zeroV k k' n').2 != 0
 rotate_left
 ·rfl
 cases h1:(Ref.zeroV k k' n').1
 rotate_left
 ·rfl
 have hn:=Ari.YU h1 h2
 have hn0:(n'==0)=false:=Ao.2 hn
 have hb':Ari.bad k=false∧Ari.bad k'=false∧(k==0)=false∧(k'==0)=false:=by
  unfold Ref.zeroV at h1 h2
  cases q1:Ari.bad k<;>cases q2:Ari.bad k'<;>cases q3:k==0<;>cases q4:k'==0<;>rw[q1,q2,q3,q4]at h1 h2<;>first|(cases h1;done)|(cases h2;done)|exact⟨rfl,rfl,rfl,rfl⟩
 obtain⟨b1,b2,b3,b4⟩:=hb'
 have hk:k=2∨k=3:=by
  rcases Ari.kinds k with rfl|h|h|⟨h,_⟩
  ·cases b3
  ·exact .inl h
  ·exact .inr h
  ·rw[b1]at h;cases h
 have hk':k'=2∨k'=3:=by
  rcases Ari.kinds k' with rfl|h|h|⟨h,_⟩
  ·cases b4
  ·exact .inl h
  ·exact .inr h
  ·rw[b2]at h;cases h
 obtain⟨d1,d2⟩:=Ari.jo hk ha
 obtain⟨d3,d4⟩:=Ari.jo hk' hb
 have hd:=Ari.K9 (k:=k') hn
 obtain⟨m1,m2⟩:=Ari.XM ha (show inR 1=true by decide) hb hn
 have m3:(Ref.zO k n).2=true→(Ref.zO k' n').2=true→(Ari.mdV (A127.dec k n).1 10000 (A127.dec k' n').1).2=(Ari.quot (Ref.zO k n).1 10000 (Ref.zO k' n').1).2∧((Ari.quot (Ref.zO k n).1 10000 (Ref.zO k' n').1).2=true→(Ari.mdV (A127.dec k n).1 10000 (A127.dec k' n').1).1=(Ari.quot (Ref.zO k n).1 10000 (Ref.zO k' n').1).1):=fun x y=>by
  rw[(d2 x).1,(d4 y).1]
  obtain⟨r1,r2⟩:=Ari.XM (d2 x).2 (show inR 10000=true by decide) (d4 y).2 (hd y)
  exact⟨r1,fun h=>(r2 h).1⟩
 have i1:(Ref.zO k n).2=true→inR (A127.dec k n).1=true:=fun h=>by rw[(d2 h).1];exact(d2 h).2
 have i2:(Ref.zO k' n').2=true→inR (A127.dec k' n').1=true∧((A127.dec k' n').1==0)=false:=fun h=>by rw[(d4 h).1];exact⟨(d4 h).2,Ao.2 (hd h)⟩
 have kk:((k==2)||(k==3))=true:=by rcases hk with rfl|rfl<;>rfl
 have kk':((k'==2)||(k'==3))=true:=by rcases hk' with rfl|rfl<;>rfl
 simp only[hn0,kk,kk',d1,d3,Ah,Bv,AI,Ai,AF]
 generalize A127.dec k n=p at*
 generalize A127.dec k' n'=q at*
 generalize Ref.zO k n=p' at*
 generalize Ref.zO k' n'=q' at*
 obtain⟨x',ox⟩:=p'
 obtain⟨y',oy⟩:=q'
 dsimp only[]at m3 i1 i2 ⊢
 generalize Ari.mdV p.1 10000 q.1=u at*
 generalize Ari.quot x' 10000 y'=u' at*
 generalize Ari.mdV n 1 n'=v at*
 generalize Ari.quot n 1 n'=v' at*
 obtain⟨u1,u2⟩:=u
 obtain⟨u3,u4⟩:=u'
 obtain⟨v1,v2⟩:=v
 obtain⟨v3,v4⟩:=v'
 dsimp only[]at m1 m2 m3 ⊢
 subst m1
 unfold Ari.ofV
 have hv:v2=true→v1=v3:=fun h=>(m2 h).1
 cases ox
 ·cases v2
  ·cases k==2<;>cases k'==2<;>rfl
  ·obtain rfl := hv rfl
   cases k==2<;>cases k'==2<;>rfl
 cases oy
 ·simp only [i1 rfl]
  cases v2
  ·cases k==2<;>cases k'==2<;>rfl
  ·obtain rfl := hv rfl
   cases k==2<;>cases k'==2<;>rfl
 obtain⟨m4,m5⟩:=m3 rfl rfl
 subst m4
 simp only[i1 rfl,(i2 rfl).1,(i2 rfl).2]
 cases v2
 ·cases u2
  ·cases k==2<;>cases k'==2<;>rfl
  ·obtain rfl := m5 rfl
   cases k==2<;>cases k'==2<;>rfl
 ·obtain rfl := hv rfl
  cases u2
  ·cases k==2<;>cases k'==2<;>rfl
  ·obtain rfl := m5 rfl
   cases k==2<;>cases k'==2<;>rfl
def spec:Spec:=fun aa=>match aa with
 |[a,b]=>(vOf a).bind fun x=>(vOf b).bind fun y=>some (.qI (inR x.2.1&&inR y.2.1) (.out (ve (Ari.Va x y))))
 |_=>none
theorem qg:qu Tryz.prog La 162 spec:=⟨qD (by kernel_rfl),fun aa t v h e=>by
 unfold spec at h
 split at h
 ·rename_i a b
  obtain⟨x,h1,h⟩:=qi h
  obtain⟨y,h2,h⟩:=qi h
  cases h
  obtain⟨g1,g2⟩:=GT.qh e
  cases g2
  rw[Ag]at g1
  rw[qM h1,qM h2]
  exact⟨rfl,qS (n0:=4) (k:=12) qx qf qd (by simpa using⟨A127.qg,A195.qg,A175.qg⟩) (by simp) (by decide) (by simp) rfl ((run _ _ _ _ _ _).trans (qN x y g1.1 g1.2))⟩
 ·cases h⟩
end A162
namespace A163
def T (k0 n0:Int) (s0:ByteArray) (k1 n1:Int) (s1:ByteArray):GT Value:=let y1:=A127.dec k1 n1;let y3:=A127.dec k0 n0;let x1:=Int.tmod y3.1 y1.1;let y2:=Ref.zeroV k0 k1 n1;let o1:GT Value:=(.out (.tuple #[.agg #[.int .i64 0,.int .i64 0,.string ⟨#[]⟩],.int .i64 y2.2]));let o2:GT Value:=(.out (.tuple #[.agg #[.int .i64 0,.int .i64 0,.string ⟨#[]⟩],.int .i64 0]));let o3:GT Value:=(.out (.tuple #[.agg #[.int .i64 0,.int .i64 0,.string ⟨#[]⟩],.int .i64 20]));let o4:GT Value:=(.br (((k0==2)||(k0==3))&&(inR n0)) (.br (((k1==2)||(k1==3))&&(inR n1)) (.br (y3.2) (.br (!y1.2) o3 (.br (y1.1==(-1)) (.out (.tuple #[.agg #[.int .i64 3,.int .i64 0,.string ⟨#[]⟩],.int .i64 0])) (.br (!decide (y1.1=0)) (.out (.tuple #[.agg #[.int .i64 3,.int .i64 x1,.string ⟨#[]⟩],.int .i64 0])) .no))) o3) .no) .no);let o5:GT Value:=(.br (k0==0) o2 (.br (k1==0) o2 (.br (k0==2) (.br (k1==2) (.br (n1==(-1)) (.out (.tuple #[.agg #[.int .i64 2,.int .i64 0,.string ⟨#[]⟩],.int .i64 0])) (.br (!decide (n1=0)) (.out (.tuple #[.agg #[.int .i64 2,.int .i64 (Int.tmod n0 n1),.string ⟨#[]⟩],.int .i64 0])) .no)) o4) o4)));let o6:GT Value:=(.out (.tuple #[.agg #[.int .i64 0,.int .i64 0,.string ⟨#[]⟩],.int .i64 22]));let o7:GT Value:=(.br (k1==2) o5 (.br (!(k1==3)) (.br (k1 != 0) o6 o5) o5));(.br (y2.2 != 0) o1 (.br (y2.1) o1 (.br (k0==2) o7 (.br (!(k0==3)) (.br (k0 != 0) o6 o7) o7))))
theorem run (k0 n0:Int) (s0:ByteArray) (k1 n1:Int) (s1:ByteArray):runK 4 [(127,A127.spec),(195,A195.spec)] [] 163 [.v (.agg #[.int .i64 k0,.int .i64 n0,.string s0]),.v (.agg #[.int .i64 k1,.int .i64 n1,.string s1])]=(T k0 n0 s0 k1 n1 s1).eval:=by kernel_rfl
set_option maxHeartbeats 0 in
theorem qN (a b:W3) (ha:inR a.2.1=true) (hb:inR b.2.1=true):(T a.1 a.2.1 a.2.2 b.1 b.2.1 b.2.2).eval=some (ve (Ari.Z6 a b)):=by
 obtain⟨k,n,s⟩:=a
 obtain⟨k',n',s'⟩:=b
 unfold T Ari.Z6
 dsimp only[]at ha hb ⊢
 simp only[GT.eval,ha,hb]
 cases hz:(Ref.zeroV k k' n').2 != 0
 rotate_left
 ·rfl
 cases hz1:(Ref.zeroV k k' n').1
 rotate_left
 ·rfl
 have hn:=Ari.YU hz1 hz
 have hd:(k'=2∨k'=3)→(A127.dec k' n').2=true→(A127.dec k' n').1≠0:=fun h=>Ari.gV h hb hn
 simp only[Ah,An hn,Bv,Ai]
 clear hz hz1
 unfold Ari.j8 Ari.ofV Ari.left Ari.rem
 dsimp only[]
 generalize A127.dec k n=p at*
 generalize A127.dec k' n'=q at*
 obtain⟨x,ox⟩:=p
 obtain⟨y,oy⟩:=q
 dsimp only[]at hd ⊢
 have e1:(n'== -1)= !(n' != -1):=by cases h:n'== -1<;>simp[bne,h]
 have e2:(y== -1)= !(y != -1):=by cases h:y== -1<;>simp[bne,h]
 rw[e1,e2]
 cases oy
 ·rcases Ari.kinds k with rfl|rfl|rfl|⟨g1,g2,g3,g4,g5⟩<;>rcases Ari.kinds k' with rfl|rfl|rfl|⟨f1,f2,f3,f4,f5⟩<;>
   (try simp only[g1,g2,g3,g4,g5])<;>(try simp only[f1,f2,f3,f4,f5])<;>(try rfl)<;>(cases n' != -1<;>cases ox<;>rfl)
 ·rcases Ari.kinds k with rfl|rfl|rfl|⟨g1,g2,g3,g4,g5⟩<;>rcases Ari.kinds k' with rfl|rfl|rfl|⟨f1,f2,f3,f4,f5⟩<;>
   (try simp only[g1,g2,g3,g4,g5])<;>(try simp only[f1,f2,f3,f4,f5])<;>(try rfl)<;>(try simp only[An (hd (.inl rfl) rfl)])<;>(try simp only[An (hd (.inr rfl) rfl)])<;>(cases n' != -1<;>cases y != -1<;>cases ox<;>rfl)
def spec:Spec:=fun aa=>match aa with
 |[a,b]=>(vOf a).bind fun x=>(vOf b).bind fun y=>some (.qI (inR x.2.1&&inR y.2.1) (.out (ve (Ari.Z6 x y))))
 |_=>none
theorem qg:qu Tryz.prog La 163 spec:=⟨qD (by kernel_rfl),fun aa t v h e=>by
 unfold spec at h
 split at h
 ·rename_i a b
  obtain⟨x,h1,h⟩:=qi h
  obtain⟨y,h2,h⟩:=qi h
  cases h
  obtain⟨g1,g2⟩:=GT.qh e
  cases g2
  rw[Ag]at g1
  rw[qM h1,qM h2]
  exact⟨rfl,qS (n0:=4) (k:=12) qx qf qd (by simpa using⟨A127.qg,A195.qg⟩) (by simp) (by decide) (by simp) rfl ((run _ _ _ _ _ _).trans (qN x y g1.1 g1.2))⟩
 ·cases h⟩
end A163
namespace A109
def T (k0 n0:Int) (s0:ByteArray):GT Value:=(.br (k0 != 1) (.out (.agg #[.int .i64 0,.int .i64 0,.string ⟨#[]⟩])) (.br (n0 != 0) (.out (.agg #[.int .i64 1,.int .i64 0,.string ⟨#[]⟩])) (.out (.agg #[.int .i64 1,.int .i64 1,.string ⟨#[]⟩]))))
theorem run (k0 n0:Int) (s0:ByteArray):runK 4 [] [] 109 [.v (.agg #[.int .i64 k0,.int .i64 n0,.string s0])]=(T k0 n0 s0).eval:=by kernel_rfl
theorem qN (a:W3):(T a.1 a.2.1 a.2.2).eval=some (vv (Ref.ja a)):=by
 unfold T Ref.ja Ref.lgc
 simp only[GT.eval]
 cases a.1 != 1<;>cases a.2.1 != 0<;>rfl
def spec:Spec:=fun aa=>match aa with
 |[a]=>(vOf a).bind fun x=>some (.out (vv (Ref.ja x)))
 |_=>none
theorem qg:qu Tryz.prog La 109 spec:=⟨qD (by kernel_rfl),fun aa t v h e=>by
 unfold spec at h
 split at h
 ·rename_i a
  obtain⟨x,h1,h⟩:=qi h
  cases h;cases e
  rw[qM h1]
  exact⟨rfl,qS (l:=[]) (L:=[]) (n0:=4) (k:=12) qx qf qd (by simp) (by simp) (by decide) (by simp) rfl ((run _ _ _).trans (qN x))⟩
 ·cases h⟩
end A109
namespace A164
def T (k0 n0:Int) (s0:ByteArray) (k1 n1:Int) (s1:ByteArray):GT Value:=let o1:GT Value:=(.out (.agg #[.int .i64 0,.int .i64 0,.string ⟨#[]⟩]));let o2:GT Value:=(.out (.agg #[.int .i64 1,.int .i64 0,.string ⟨#[]⟩]));(.br (k0 != 1) (.br (k1 != 1) o1 (.br (n1 != 0) o1 o2)) (.br (n0 != 0) (.br (k1 != 1) o1 (.br (n1 != 0) (.out (.agg #[.int .i64 1,.int .i64 1,.string ⟨#[]⟩])) o2)) (.br (k1 != 1) o2 (.br (n1 != 0) o2 o2))))
theorem run (k0 n0:Int) (s0:ByteArray) (k1 n1:Int) (s1:ByteArray):runK 4 [] [] 164 [.v (.agg #[.int .i64 k0,.int .i64 n0,.string s0]),.v (.agg #[.int .i64 k1,.int .i64 n1,.string s1])]=(T k0 n0 s0 k1 n1 s1).eval:=by kernel_rfl
theorem qN (a b:W3):(T a.1 a.2.1 a.2.2 b.1 b.2.1 b.2.2).eval=some (vv (Ref.Jc a b)):=by
 unfold T Ref.Jc Ref.lgc
 simp only[GT.eval]
 cases a.1 != 1<;>cases a.2.1 != 0<;>cases b.1 != 1<;>cases b.2.1 != 0<;>rfl
def spec:Spec:=fun aa=>match aa with
 |[a,b]=>(vOf a).bind fun x=>(vOf b).bind fun y=>some (.out (vv (Ref.Jc x y)))
 |_=>none
theorem qg:qu Tryz.prog La 164 spec:=⟨qD (by kernel_rfl),fun aa t v h e=>by
 unfold spec at h
 split at h
 ·rename_i a b
  obtain⟨x,h1,h⟩:=qi h
  obtain⟨y,h2,h⟩:=qi h
  cases h;cases e
  rw[qM h1,qM h2]
  exact⟨rfl,qS (l:=[]) (L:=[]) (n0:=4) (k:=12) qx qf qd (by simp) (by simp) (by decide) (by simp) rfl ((run _ _ _ _ _ _).trans (qN x y))⟩
 ·cases h⟩
end A164
namespace A165
def T (k0 n0:Int) (s0:ByteArray) (k1 n1:Int) (s1:ByteArray):GT Value:=let o1:GT Value:=(.out (.agg #[.int .i64 0,.int .i64 0,.string ⟨#[]⟩]));let o2:GT Value:=(.out (.agg #[.int .i64 1,.int .i64 1,.string ⟨#[]⟩]));(.br (k0 != 1) (.br (k1 != 1) o1 (.br (n1 != 0) o2 o1)) (.br (n0 != 0) (.br (k1 != 1) o2 (.br (n1 != 0) o2 o2)) (.br (k1 != 1) o1 (.br (n1 != 0) o2 (.out (.agg #[.int .i64 1,.int .i64 0,.string ⟨#[]⟩]))))))
theorem run (k0 n0:Int) (s0:ByteArray) (k1 n1:Int) (s1:ByteArray):runK 4 [] [] 165 [.v (.agg #[.int .i64 k0,.int .i64 n0,.string s0]),.v (.agg #[.int .i64 k1,.int .i64 n1,.string s1])]=(T k0 n0 s0 k1 n1 s1).eval:=by kernel_rfl
theorem qN (a b:W3):(T a.1 a.2.1 a.2.2 b.1 b.2.1 b.2.2).eval=some (vv (Ref.orV a b)):=by
 unfold T Ref.orV Ref.lgc
 simp only[GT.eval]
 cases a.1 != 1<;>cases a.2.1 != 0<;>cases b.1 != 1<;>cases b.2.1 != 0<;>rfl
def spec:Spec:=fun aa=>match aa with
 |[a,b]=>(vOf a).bind fun x=>(vOf b).bind fun y=>some (.out (vv (Ref.orV x y)))
 |_=>none
theorem qg:qu Tryz.prog La 165 spec:=⟨qD (by kernel_rfl),fun aa t v h e=>by
 unfold spec at h
 split at h
 ·rename_i a b
  obtain⟨x,h1,h⟩:=qi h
  obtain⟨y,h2,h⟩:=qi h
  cases h;cases e
  rw[qM h1,qM h2]
  exact⟨rfl,qS (l:=[]) (L:=[]) (n0:=4) (k:=12) qx qf qd (by simp) (by simp) (by decide) (by simp) rfl ((run _ _ _ _ _ _).trans (qN x y))⟩
 ·cases h⟩
end A165
namespace A166
def T (s0:ByteArray) (k1 n1:Int) (s1:ByteArray) (k2 n2:Int) (s2:ByteArray):GT Value:=let x1:=A76.compare k1 n1 s1 k2 n2 s2;let o1:GT Value:=(.out (.agg #[.int .i64 1,.int .i64 1,.string ⟨#[]⟩]));let o2:GT Value:=(.out (.agg #[.int .i64 1,.int .i64 0,.string ⟨#[]⟩]));(.br (!x1.2) (.out (.agg #[.int .i64 0,.int .i64 0,.string ⟨#[]⟩])) (.br (eqU s0.data.toList [60]) (.br (decide (x1.1<0)) o1 o2) (.br (eqU s0.data.toList [60,61]) (.br (decide (x1.1≤0)) o1 o2) (.br (eqU s0.data.toList [62]) (.br (decide (x1.1>0)) o1 o2) (.br (decide (x1.1≥0)) o1 o2)))))
theorem run (s0:ByteArray) (k1 n1:Int) (s1:ByteArray) (k2 n2:Int) (s2:ByteArray):runK 4 [(76,A76.spec)] [] 166 [.v (.string s0),.v (.agg #[.int .i64 k1,.int .i64 n1,.string s1]),.v (.agg #[.int .i64 k2,.int .i64 n2,.string s2])]=(T s0 k1 n1 s1 k2 n2 s2).eval:=by kernel_rfl
theorem qN (s:ByteArray) (a b:W3):(T s a.1 a.2.1 a.2.2 b.1 b.2.1 b.2.2).eval=some (vv (Ref.XK s (A76.compare a.1 a.2.1 a.2.2 b.1 b.2.1 b.2.2))):=by
 unfold T Ref.XK Ref.yi
 dsimp only[]
 simp only[GT.eval]
 generalize A76.compare a.1 a.2.1 a.2.2 b.1 b.2.1 b.2.2=p
 cases p.2
 ·rfl
 cases eqU s.data.toList [60]
 rotate_left
 ·cases decide (p.1<0)<;>rfl
 cases eqU s.data.toList [60,61]
 rotate_left
 ·cases decide (p.1≤0)<;>rfl
 cases eqU s.data.toList [62]
 rotate_left
 ·cases decide (p.1>0)<;>rfl
 cases decide (p.1≥0)<;>rfl
def spec:Spec:=fun aa=>match aa with
 |[.v (.string s),a,b]=>(vOf a).bind fun x=>(vOf b).bind fun y=>some (.out (vv (Ref.XK s (A76.compare x.1 x.2.1 x.2.2 y.1 y.2.1 y.2.2))))
 |_=>none
theorem qg:qu Tryz.prog La 166 spec:=⟨qD (by kernel_rfl),fun aa t v h e=>by
 unfold spec at h
 split at h
 ·rename_i s a b
  obtain⟨x,h1,h⟩:=qi h
  obtain⟨y,h2,h⟩:=qi h
  cases h;cases e
  rw[qM h1,qM h2]
  exact⟨rfl,qS (n0:=4) (k:=12) qx qf qd (by simpa using A76.qg) (by simp) (by decide) (by simp) rfl ((run _ _ _ _ _ _ _).trans (qN s x y))⟩
 ·cases h⟩
end A166
namespace A95
def T (k0 n0:Int) (s0:ByteArray) (k1 n1:Int) (s1:ByteArray):GT Value:=let x1:=IntKind.wrap .i64 (Int.tdiv n1 10000);let x2:=IntKind.wrap .i64 (Int.tdiv n0 10000);let x5:=IntKind.wrap .i64 (x2 - 1);let x6:=IntKind.wrap .i64 (x1 - 1);let x7:=Int.tmod n1 10000;let x3:=IntKind.wrap .i64 (x7+10000);let x8:=Int.tmod n0 10000;let x4:=IntKind.wrap .i64 (x8+10000);let o1:GT Value:=(.out (.tuple #[.int .i64 (-1),.bool true]));let o2:GT Value:=(.out (.tuple #[.int .i64 1,.bool true]));let o3:GT Value:=(.out (.tuple #[.int .i64 0,.bool true]));let o4:GT Value:=(.br (decide (n0<n1)) o1 (.br (decide (n0>n1)) o2 o3));let y1:=decide (x7<0);let y2:=decide (x8<0);let o5:GT Value:=(.br (k0==2) (.br (k1==2) o4 (.br y1 (.br (decide (n0<x6)) o1 (.br (decide (n0>x6)) o2 (.br (decide (0<x3)) o1 (.br (decide (0>x3)) o2 o3)))) (.br (decide (n0<x1)) o1 (.br (decide (n0>x1)) o2 (.br (decide (0<x7)) o1 (.br (decide (0>x7)) o2 o3)))))) (.br y2 (.br (k1==2) (.br (decide (x5<n1)) o1 (.br (decide (x5>n1)) o2 (.br (decide (x4<0)) o1 (.br (decide (x4>0)) o2 o3)))) (.br y1 (.br (decide (x5<x6)) o1 (.br (decide (x5>x6)) o2 (.br (decide (x4<x3)) o1 (.br (decide (x4>x3)) o2 o3)))) (.br (decide (x5<x1)) o1 (.br (decide (x5>x1)) o2 (.br (decide (x4<x7)) o1 (.br (decide (x4>x7)) o2 o3)))))) (.br (k1==2) (.br (decide (x2<n1)) o1 (.br (decide (x2>n1)) o2 (.br y2 o1 (.br (decide (x8>0)) o2 o3)))) (.br y1 (.br (decide (x2<x6)) o1 (.br (decide (x2>x6)) o2 (.br (decide (x8<x3)) o1 (.br (decide (x8>x3)) o2 o3)))) (.br (decide (x2<x1)) o1 (.br (decide (x2>x1)) o2 (.br (decide (x8<x7)) o1 (.br (decide (x8>x7)) o2 o3))))))));let o6:GT Value:=(.out (.tuple #[.int .i64 0,.bool false]));let o7:GT Value:=(.br (k0==1) (.br (k1==1) o4 o6) o6);let o8:GT Value:=(.br (k0==4) (.br (k1==4) (.br (ltU s0.data.toList s1.data.toList) o1 (.br (!(ltU s0.data.toList s1.data.toList||eqU s0.data.toList s1.data.toList)) o2 o3)) o7) o7);let o9:GT Value:=(.br (k1==2) o5 (.br (k1==3) o5 o8));(.br (k0==2) o9 (.br (k0==3) o9 o8))
theorem run (k0 n0:Int) (s0:ByteArray) (k1 n1:Int) (s1:ByteArray):runK 4 [] [] 95 [.v (.agg #[.int .i64 k0,.int .i64 n0,.string s0]),.v (.agg #[.int .i64 k1,.int .i64 n1,.string s1])]=(T k0 n0 s0 k1 n1 s1).eval:=by kernel_rfl
theorem XC {α:Type} {p:Prop} [Decidable p] (h:p) (x y:α):(bif decide p then x else y)=x:=by rw[Al h];rfl
theorem Xf {α:Type} {p:Prop} [Decidable p] (h: ¬p) (x y:α):(bif decide p then x else y)=y:=by rw[An h];rfl
def tw (p:Int×Bool):Value:= .tuple #[.int .i64 p.1,.bool p.2]
def o (z:Int):Option Value:=some (.tuple ([.int .i64 z,.bool true]).toArray)
theorem Jk (w x f g:Int):(bif decide (w<x)then o (-1)else bif decide (w>x)then o 1 else bif decide (f<g)then o (-1)else bif decide (f>g)then o 1 else o 0)=some (tw (if A131.wZ w x≠0 then A131.wZ w x else A131.wZ f g,true)):=by
 unfold A131.wZ
 by_cases h1:w<x
 ·rw[Al h1,Ax h1];rfl
 ·rw [An h1, Aq h1]
  by_cases h2:x<w
  ·rw[Al (show w>x from h2),Ax h2];rfl
  ·rw [An (show ¬ w > x from h2), Aq h2]
   by_cases h3:f<g
   ·rw[Al h3,Ax h3];rfl
   ·rw [An h3, Aq h3]
    by_cases h4:g<f
    ·rw[Al (show f>g from h4),Ax h4];rfl
    ·rw[An (show¬f>g from h4),Aq h4];rfl
theorem tri: ∀(a b:List UInt8),ltU a b=false→ltU b a= !eqU a b
 |[],[],_=>rfl
 |[],_::_,h=>by cases h
 |_::_,[],_=>rfl
 |x::a,y::b,h=>by
  have e1:ltU (x::a) (y::b)=(Nat.blt x.toNat y.toNat||(Nat.beq x.toNat y.toNat&&ltU a b)):=rfl
  have e2:ltU (y::b) (x::a)=(Nat.blt y.toNat x.toNat||(Nat.beq y.toNat x.toNat&&ltU b a)):=rfl
  have e3:eqU (x::a) (y::b)=(Nat.beq x.toNat y.toNat&&eqU a b):=rfl
  rw[e1]at h
  rw[e2,e3]
  simp only[AU]at h
  obtain⟨h1,h2⟩:=h
  have h1': ¬x.toNat<y.toNat:=fun hh=>by rw[show Nat.blt x.toNat y.toNat=true from by rw[AB];exact hh]at h1;cases h1
  by_cases he:x.toNat=y.toNat
  ·have b1 : Nat.beq x.toNat y.toNat = true := by rw [he]; exact A5 _
   have b2:Nat.beq y.toNat x.toNat=true:=by rw[he];exact A5 _
   have b3:Nat.blt y.toNat x.toNat=false:=by
    cases hb:Nat.blt y.toNat x.toNat
    ·rfl
    ·rw[AB]at hb;omega
   rw[b1,AF]at h2
   rw[b1,b2,b3,tri a b h2];rfl
  ·have b1:Nat.beq x.toNat y.toNat=false:=by
    cases hb:Nat.beq x.toNat y.toNat
    ·rfl
    ·exact absurd (Am hb) he
   have b3:Nat.blt y.toNat x.toNat=true:=by rw[AB];omega
   rw[b1,b3];rfl
theorem qN (k0 n0:Int) (s0:ByteArray) (k1 n1:Int) (s1:ByteArray):(T k0 n0 s0 k1 n1 s1).eval=some (tw (Ref.zB k0 n0 s0 k1 n1 s1)):=by
 have c22:((2:Int)==2)=true:=rfl
 have c23:((2:Int)==3)=false:=rfl
 have c32:((3:Int)==2)=false:=rfl
 have c33:((3:Int)==3)=true:=rfl
 have sp: ∀n:Int,Ref.kD 3 n=if n.tmod 10000<0 then(Ref.wr (Ref.wr (n.tdiv 10000) - 1),Ref.wr (n.tmod 10000+10000))else(Ref.wr (n.tdiv 10000),n.tmod 10000):=fun n=>by
  unfold Ref.kD;rw[Aq (by decide)]
 have s2: ∀n:Int,Ref.kD 2 n=(n,0):=fun n=>by unfold Ref.kD;rw[Ax rfl]
 have num: ∀a b:Int,Ref.isNum a=true→Ref.isNum b=true→Ref.zB a n0 s0 b n1 s1=(if A131.wZ (Ref.kD a n0).1 (Ref.kD b n1).1≠0 then A131.wZ (Ref.kD a n0).1 (Ref.kD b n1).1 else A131.wZ (Ref.kD a n0).2 (Ref.kD b n1).2,true):=fun a b ha hb=>by
  unfold Ref.zB;rw[Ax ⟨ha,hb⟩];rfl
 by_cases a2:k0=2
 ·subst a2
  by_cases b2:k1=2
  ·subst b2
   rw[num 2 2 rfl rfl,s2,s2]
   simp only[T,GT.eval,c22,Ai]
   exact Jk n0 n1 0 0
  ·by_cases b3 : k1 = 3
   ·subst b3
    rw[num 2 3 rfl rfl,s2,sp]
    simp only[T,GT.eval,c22,c32,c33,Ai,Ah]
    by_cases h:n1.tmod 10000<0
    ·rw[Ax h];refine(XC h _ _).trans ?_;exact Jk n0 _ 0 _
    ·rw[Aq h];refine(Xf h _ _).trans ?_;exact Jk n0 _ 0 _
   ·unfold Ref.zB Ref.isNum
    simp[T,GT.eval,tw,b2,b3,Ao.2 b2,Ao.2 b3]
 by_cases a3:k0=3
 ·subst a3
  by_cases b2:k1=2
  ·subst b2
   rw[num 3 2 rfl rfl,s2,sp]
   simp only[T,GT.eval,c22,c32,c33,Ai,Ah]
   by_cases h:n0.tmod 10000<0
   ·rw[Ax h];refine(XC h _ _).trans ?_;exact Jk _ n1 _ 0
   ·rw[Aq h];refine(Xf h _ _).trans ?_;exact Jk _ n1 _ 0
  ·by_cases b3 : k1 = 3
   ·subst b3
    rw[num 3 3 rfl rfl,sp,sp]
    simp only[T,GT.eval,c22,c32,c33,Ai,Ah]
    by_cases h:n0.tmod 10000<0
    ·rw [Ax h]; refine (XC h _ _).trans ?_
     by_cases h2:n1.tmod 10000<0
     ·rw[Ax h2];refine(XC h2 _ _).trans ?_;exact Jk _ _ _ _
     ·rw[Aq h2];refine(Xf h2 _ _).trans ?_;exact Jk _ _ _ _
    ·rw [Aq h]; refine (Xf h _ _).trans ?_
     by_cases h2:n1.tmod 10000<0
     ·rw[Ax h2];refine(XC h2 _ _).trans ?_;exact Jk _ _ _ _
     ·rw[Aq h2];refine(Xf h2 _ _).trans ?_;exact Jk _ _ _ _
   ·unfold Ref.zB Ref.isNum
    simp[T,GT.eval,tw,b2,b3,Ao.2 b2,Ao.2 b3]
 have e2:=Ao.2 a2
 have e3:=Ao.2 a3
 have hn:Ref.isNum k0=false:=by unfold Ref.isNum;rw[e2,e3];rfl
 unfold Ref.zB
 rw[Aq (by rw[hn];simp)]
 by_cases a4:k0=4
 ·subst a4
  by_cases b4:k1=4
  ·subst b4
   rw[Ax ⟨rfl,rfl⟩]
   unfold Ref.bw
   cases h1:ltU s0.data.toList s1.data.toList
   ·rw [tri _ _ h1]
    cases h2:eqU s0.data.toList s1.data.toList<;>simp[T,GT.eval,tw,h1,h2]
   ·simp[T,GT.eval,tw,h1]
  ·simp[T,GT.eval,tw,b4,Ao.2 b4]
 by_cases a1:k0=1
 ·subst a1
  by_cases b1:k1=1
  ·subst b1
   rw[Aq (by simp),Ax ⟨rfl,rfl⟩]
   unfold A131.wZ
   by_cases h1:n0<n1<;>by_cases h2:n1<n0<;>simp[T,GT.eval,tw,h1,h2]
  ·simp[T,GT.eval,tw,b1,Ao.2 b1]
 simp[T,GT.eval,tw,a4,a1,e2,e3,Ao.2 a4,Ao.2 a1]
def spec:Spec:=fun aa=>match aa with
 |[a,b]=>(vOf a).bind fun x=>(vOf b).bind fun y=>some (.out (.tuple #[.int .i64 (Ref.zB x.1 x.2.1 x.2.2 y.1 y.2.1 y.2.2).1,.bool (Ref.zB x.1 x.2.1 x.2.2 y.1 y.2.1 y.2.2).2]))
 |_=>none
theorem qg:qu Tryz.prog La 95 spec:=⟨qD (by kernel_rfl),fun aa t v h e=>by
 unfold spec at h
 split at h
 ·rename_i a b
  obtain⟨⟨k0,n0,s0⟩,h1,h⟩:=qi h
  obtain⟨⟨k1,n1,s1⟩,h2,h⟩:=qi h
  cases h;cases e
  rw[qM h1,qM h2]
  exact⟨rfl,qS (l:=[]) (L:=[]) (n0:=4) (k:=12) qx qf qd (by simp) (by simp) (by decide) (by simp) rfl ((run k0 n0 s0 k1 n1 s1).trans (qN _ _ _ _ _ _))⟩
 ·cases h⟩
end A95
namespace A40
def T (k0 n0:Int) (s0:ByteArray) (k1 n1:Int) (s1:ByteArray):GT Value:=let o1:GT Value:=(.out (.agg #[.int .i64 0,.int .i64 0,.string ⟨#[]⟩]));let o2:GT Value:=(.out (.agg #[.int .i64 1,.int .i64 0,.string ⟨#[]⟩]));let y1:=Ref.zB k0 n0 s0 k1 n1 s1;(.br (k0==0) o1 (.br (k1==0) o1 (.br (y1.2) (.br (y1.1==0) (.out (.agg #[.int .i64 1,.int .i64 1,.string ⟨#[]⟩])) o2) o2)))
theorem run (k0 n0:Int) (s0:ByteArray) (k1 n1:Int) (s1:ByteArray):runK 4 [(95,A95.spec)] [] 40 [.v (.agg #[.int .i64 k0,.int .i64 n0,.string s0]),.v (.agg #[.int .i64 k1,.int .i64 n1,.string s1])]=(T k0 n0 s0 k1 n1 s1).eval:=by kernel_rfl
def eqK (a b:W3):Int:=bif a.1==0||b.1==0 then 0 else 1
def eqN (a b:W3):Int:=bif a.1==0||b.1==0 then 0 else bif(Ref.zB a.1 a.2.1 a.2.2 b.1 b.2.1 b.2.2).2&&(Ref.zB a.1 a.2.1 a.2.2 b.1 b.2.1 b.2.2).1==0 then 1 else 0
theorem qN (a b:W3):(T a.1 a.2.1 a.2.2 b.1 b.2.1 b.2.2).eval=some (.agg #[.int .i64 (eqK a b),.int .i64 (eqN a b),.string ⟨#[]⟩]):=by
 unfold eqK eqN T
 simp only[GT.eval]
 cases a.1==0<;>cases b.1==0<;>cases (Ref.zB a.1 a.2.1 a.2.2 b.1 b.2.1 b.2.2).2<;>cases (Ref.zB a.1 a.2.1 a.2.2 b.1 b.2.1 b.2.2).1==0<;>rfl
def spec:Spec:=fun aa=>match aa with
 |[a,b]=>(vOf a).bind fun x=>(vOf b).bind fun y=>some (.out (.agg #[.int .i64 (eqK x y),.int .i64 (eqN x y),.string ⟨#[]⟩]))
 |_=>none
theorem qg:qu Tryz.prog La 40 spec:=⟨qD (by kernel_rfl),fun aa t v h e=>by
 unfold spec at h
 split at h
 ·rename_i a b
  obtain⟨x,h1,h⟩:=qi h
  obtain⟨y,h2,h⟩:=qi h
  cases h;cases e
  rw[qM h1,qM h2]
  exact⟨rfl,qS (l:=[(95,A95.spec)]) (L:=[]) (n0:=4) (k:=12) qx qf qd (by simpa using A95.qg) (by simp) (by decide) (by simp) rfl ((run _ _ _ _ _ _).trans (qN _ _))⟩
 ·cases h⟩
end A40
namespace A97
def T (k0 n0:Int) (s0:ByteArray):GT Value:=let x1:=IntKind.wrap .i64 (n0*10000);let o1:GT Value:=(.out (.tuple #[.agg #[.int .i64 0,.int .i64 0,.string ⟨#[]⟩],.int .i64 0]));let o2:GT Value:=(.out (.tuple #[.agg #[.int .i64 0,.int .i64 0,.string ⟨#[]⟩],.int .i64 20]));let o3:GT Value:=(.br (k0==0) o1 (.br (k0==0) o1 (.br (k0==3) (.out (.tuple #[.agg #[.int .i64 3,.int .i64 n0,.string ⟨#[]⟩],.int .i64 0])) (.br (decide (n0≤922337203685477)) (.br (!decide (n0≥(-922337203685477))) o2 (.out (.tuple #[.agg #[.int .i64 3,.int .i64 x1,.string ⟨#[]⟩],.int .i64 0]))) o2))));let o4:GT Value:=(.out (.tuple #[.agg #[.int .i64 0,.int .i64 0,.string ⟨#[]⟩],.int .i64 22]));let o5:GT Value:=(.br (k0==2) o3 (.br (!(k0==3)) (.br (k0 != 0) o4 o3) o3));(.br (k0==2) o5 (.br (!(k0==3)) (.br (k0 != 0) o4 o5) o5))
theorem run (k0 n0:Int) (s0:ByteArray):runK 4 [] [] 97 [.v (.agg #[.int .i64 k0,.int .i64 n0,.string s0])]=(T k0 n0 s0).eval:=by kernel_rfl
theorem qN (k n:Int) (s:ByteArray):(T k n s).eval=some (ve (Ref.ki k n)):=by
 unfold Ref.ki
 by_cases h0:k=0
 ·subst h0;rfl
 by_cases h2:k=2
 ·subst h2
  by_cases a:n≤922337203685477<;>by_cases b:n≥ -922337203685477<;>simp[T,GT.eval,ve,vv,v0,a,b]
 by_cases h3:k=3
 ·subst h3;rfl
 simp[T,GT.eval,ve,vv,v0,h0,h2,h3,Ao.mpr h2,Ao.mpr h3,B8.mpr h0]
def spec:Spec:=fun aa=>match aa with
 |[a]=>(vOf a).bind fun x=>some (.out (ve (Ref.ki x.1 x.2.1)))
 |_=>none
theorem qg:qu Tryz.prog La 97 spec:=⟨qD (by kernel_rfl),fun aa t v h e=>by
 unfold spec at h
 split at h
 ·rename_i a
  obtain⟨⟨k0,n0,s0⟩,h1,h⟩:=qi h
  cases h;cases e
  rw[qM h1]
  exact⟨rfl,qS (l:=[]) (L:=[]) (n0:=4) (k:=12) qx qf qd (by simp) (by simp) (by decide) (by simp) rfl ((run k0 n0 s0).trans (qN _ _ _))⟩
 ·cases h⟩
end A97
namespace A149
def T (k0 n0:Int) (s0:ByteArray) (k1 n1:Int) (s1:ByteArray) (b2:Bool):GT Value:=let o1:GT Value:=(.out (.tuple #[.int .i64 0,.bool true]));let o2:GT Value:=(.out (.tuple #[.int .i64 0,.bool false]));let o3:GT Value:=(.br (k0==0) o1 (.br (k1==0) o1 (.br b2 (.br (n1==0) (.out (.tuple #[.int .i64 21,.bool true])) o2) o2)));let o4:GT Value:=(.out (.tuple #[.int .i64 22,.bool true]));let o5:GT Value:=(.br (k1==2) o3 (.br (!(k1==3)) (.br (k1 != 0) o4 o3) o3));(.br (k0==2) o5 (.br (!(k0==3)) (.br (k0 != 0) o4 o5) o5))
theorem run (k0 n0:Int) (s0:ByteArray) (k1 n1:Int) (s1:ByteArray) (b2:Bool):runK 4 [] [] 149 [.v (.agg #[.int .i64 k0,.int .i64 n0,.string s0]),.v (.agg #[.int .i64 k1,.int .i64 n1,.string s1]),.v (.bool b2)]=(T k0 n0 s0 k1 n1 s1 b2).eval:=by kernel_rfl
theorem qN (a b:W3) (d:Bool):(T a.1 a.2.1 a.2.2 b.1 b.2.1 b.2.2 d).eval=some (.tuple #[.int .i64 (Ref.zD a.1 b.1 b.2.1 d).1,.bool (Ref.zD a.1 b.1 b.2.1 d).2]):=by
 obtain⟨k,n,s⟩:=a
 obtain⟨k',n',s'⟩:=b
 unfold T Ref.zD
 dsimp only[]
 simp only[GT.eval]
 rcases Ari.kinds k with rfl|rfl|rfl|⟨e1,e2,e3,e4,e5⟩<;>rcases Ari.kinds k' with rfl|rfl|rfl|⟨f1,f2,f3,f4,f5⟩<;>
  (try simp only[e1,e2,e3,e4,e5])<;>(try simp only[f1,f2,f3,f4,f5])<;>(try rfl)<;>(cases d<;>cases n'==0<;>rfl)
def spec:Spec:=fun aa=>match aa with
 |[a,b,.v (.bool d)]=>(vOf a).bind fun x=>(vOf b).bind fun y=>some (.out (.tuple #[.int .i64 (Ref.zD x.1 y.1 y.2.1 d).1,.bool (Ref.zD x.1 y.1 y.2.1 d).2]))
 |_=>none
theorem qg:qu Tryz.prog La 149 spec:=⟨qD (by kernel_rfl),fun aa t v h e=>by
 unfold spec at h
 split at h
 ·rename_i a b d
  obtain⟨x,h1,h⟩:=qi h
  obtain⟨y,h2,h⟩:=qi h
  cases h;cases e
  rw[qM h1,qM h2]
  exact⟨rfl,qS (l:=[]) (L:=[]) (n0:=4) (k:=12) qx qf qd (by simp) (by simp) (by decide) (by simp) rfl ((run _ _ _ _ _ _ _).trans (qN x y d))⟩
 ·cases h⟩
end A149
namespace Ka
def T (k0 n0:Int) (s0:ByteArray):GT Value:=let x1:=IntKind.wrap .i64 (n0*10000);(.br (k0==3) (.out (.tuple #[.int .i64 n0,.bool true])) (.br (decide (n0≤922337203685477)) (.out (.tuple #[.int .i64 x1,.bool (decide (n0≥(-922337203685477)))])) (.out (.tuple #[.int .i64 x1,.bool false]))))
theorem run (k0 n0:Int) (s0:ByteArray):runK 4 [] [] 150 [.v (.agg #[.int .i64 k0,.int .i64 n0,.string s0])]=(T k0 n0 s0).eval:=by kernel_rfl
theorem qN (v:W3):(T v.1 v.2.1 v.2.2).eval=some (.tuple #[.int .i64 (Ref.zO v.1 v.2.1).1,.bool (Ref.zO v.1 v.2.1).2]):=by
 unfold T Ref.zO
 simp only[GT.eval]
 cases v.1==3
 ·cases decide (v.2.1≤922337203685477)<;>rfl
 ·rfl
def spec:Spec:=fun aa=>match aa with
 |[a]=>(vOf a).bind fun x=>some (.out (.tuple #[.int .i64 (Ref.zO x.1 x.2.1).1,.bool (Ref.zO x.1 x.2.1).2]))
 |_=>none
theorem qg:qu Tryz.prog La 150 spec:=⟨qD (by kernel_rfl),fun aa t v h e=>by
 unfold spec at h
 split at h
 ·rename_i a
  obtain⟨x,h1,h⟩:=qi h
  cases h;cases e
  rw[qM h1]
  exact⟨rfl,qS (l:=[]) (L:=[]) (n0:=4) (k:=12) qx qf qd (by simp) (by simp) (by decide) (by simp) rfl ((run _ _ _).trans (qN x))⟩
 ·cases h⟩
end Ka
namespace A223
def T (a0:Int) (a1:Int):GT Value:=let x1:=IntKind.wrap .i64 (a0+a1);let o1:GT Value:=(.out (.tuple #[.int .i64 x1,.bool true]));let o2:GT Value:=(.br (decide (a0<0)) (.br (decide (a1<0)) (.out (.tuple #[.int .i64 x1,.bool (!decide (x1≥0))])) o1) o1);(.br (decide (a0>0)) (.br (decide (a1>0)) (.br (!decide (x1<0)) o2 (.out (.tuple #[.int .i64 x1,.bool false]))) o2) o2)
theorem run (a0:Int) (a1:Int):runK 4 [] [] 223 [.v (.int .i64 a0),.v (.int .i64 a1)]=(T a0 a1).eval:=by kernel_rfl
theorem qN (a b:Int):(T a b).eval=some (.tuple #[.int .i64 (Ref.Zn a b).1,.bool (Ref.Zn a b).2]):=by
 unfold T Ref.Zn
 simp only[GT.eval]
 generalize IntKind.wrap .i64 (a+b)=x
 cases decide (a>0)<;>cases decide (b>0)<;>cases decide (a<0)<;>cases decide (b<0)<;>cases decide (x<0)<;>cases decide (x≥0)<;>rfl
def spec:Spec:=fun aa=>match aa with
 |[.v (.int .i64 a),.v (.int .i64 b)]=>some (.out (.tuple #[.int .i64 (Ref.Zn a b).1,.bool (Ref.Zn a b).2]))
 |_=>none
theorem qg:qu Tryz.prog La 223 spec:=⟨qD (by kernel_rfl),fun aa t v h e=>by
 unfold spec at h
 split at h
 ·rename_i a b
  cases h;cases e
  exact⟨rfl,qS (l:=[]) (L:=[]) (n0:=4) (k:=12) qx qf qd (by simp) (by simp) (by decide) (by simp) rfl ((run _ _).trans (qN a b))⟩
 ·cases h⟩
end A223
namespace A198
def T (k0 n0:Int) (s0:ByteArray) (k1 n1:Int) (s1:ByteArray):GT Value:=let o1:GT Value:=(.out (.tuple #[.agg #[.int .i64 0,.int .i64 0,.string ⟨#[]⟩],.int .i64 20]));let y3:=Ref.zO k0 n0;let y4:=Ref.zO k1 n1;let y1:=Ref.Zn y3.1 y4.1;let o2:GT Value:=(.br (y3.2) (.br (y4.2) (.br (!y1.2) o1 (.out (.tuple #[.agg #[.int .i64 3,.int .i64 y1.1,.string ⟨#[]⟩],.int .i64 0]))) o1) o1);let y2:=Ref.zD k0 k1 n1 false;let y5:=Ref.Zn n0 n1;(.br (y2.2) (.out (.tuple #[.agg #[.int .i64 0,.int .i64 0,.string ⟨#[]⟩],.int .i64 y2.1])) (.br (k0==2) (.br (k1==2) (.br (!y5.2) o1 (.out (.tuple #[.agg #[.int .i64 2,.int .i64 y5.1,.string ⟨#[]⟩],.int .i64 0]))) o2) o2))
theorem run (k0 n0:Int) (s0:ByteArray) (k1 n1:Int) (s1:ByteArray):runK 4 [(149,A149.spec),(150,Ka.spec),(223,A223.spec)] [] 198 [.v (.agg #[.int .i64 k0,.int .i64 n0,.string s0]),.v (.agg #[.int .i64 k1,.int .i64 n1,.string s1])]=(T k0 n0 s0 k1 n1 s1).eval:=by kernel_rfl
theorem qN (a b:W3):(T a.1 a.2.1 a.2.2 b.1 b.2.1 b.2.2).eval=some (ve (Ari.xR Ref.Zn a b)):=by
 unfold T Ari.xR Ari.ofV
 dsimp only[]
 simp only[GT.eval]
 cases (Ref.zD a.1 b.1 b.2.1 false).2
 rotate_left
 ·rfl
 cases a.1==2<;>cases b.1==2<;>cases (Ref.zO a.1 a.2.1).2<;>cases (Ref.zO b.1 b.2.1).2<;>cases (Ref.Zn a.2.1 b.2.1).2<;>cases (Ref.Zn (Ref.zO a.1 a.2.1).1 (Ref.zO b.1 b.2.1).1).2<;>rfl
def spec:Spec:=fun aa=>match aa with
 |[a,b]=>(vOf a).bind fun x=>(vOf b).bind fun y=>some (.out (ve (Ari.xR Ref.Zn x y)))
 |_=>none
theorem qg:qu Tryz.prog La 198 spec:=⟨qD (by kernel_rfl),fun aa t v h e=>by
 unfold spec at h
 split at h
 ·rename_i a b
  obtain⟨x,h1,h⟩:=qi h
  obtain⟨y,h2,h⟩:=qi h
  cases h;cases e
  rw[qM h1,qM h2]
  exact⟨rfl,qS (n0:=4) (k:=12) qx qf qd (by simpa using⟨A149.qg,Ka.qg,A223.qg⟩) (by simp) (by decide) (by simp) rfl ((run _ _ _ _ _ _).trans (qN x y))⟩
 ·cases h⟩
end A198
namespace A225
def T (a0:Int) (a1:Int):GT Value:=let x1:=IntKind.wrap .i64 (a0 - a1);let o1:GT Value:=(.out (.tuple #[.int .i64 x1,.bool true]));let o2:GT Value:=(.br (decide (a0<0)) (.br (decide (a1>0)) (.out (.tuple #[.int .i64 x1,.bool (!decide (x1≥0))])) o1) o1);(.br (decide (a0≥0)) (.br (decide (a1<0)) (.br (!decide (x1<0)) o2 (.out (.tuple #[.int .i64 x1,.bool false]))) o2) o2)
theorem run (a0:Int) (a1:Int):runK 4 [] [] 225 [.v (.int .i64 a0),.v (.int .i64 a1)]=(T a0 a1).eval:=by kernel_rfl
theorem qN (a b:Int):(T a b).eval=some (.tuple #[.int .i64 (Ref.xG a b).1,.bool (Ref.xG a b).2]):=by
 unfold T Ref.xG
 simp only[GT.eval]
 generalize IntKind.wrap .i64 (a - b)=x
 cases decide (a≥0)<;>cases decide (b<0)<;>cases decide (a<0)<;>cases decide (b>0)<;>cases decide (x<0)<;>cases decide (x≥0)<;>rfl
def spec:Spec:=fun aa=>match aa with
 |[.v (.int .i64 a),.v (.int .i64 b)]=>some (.out (.tuple #[.int .i64 (Ref.xG a b).1,.bool (Ref.xG a b).2]))
 |_=>none
theorem qg:qu Tryz.prog La 225 spec:=⟨qD (by kernel_rfl),fun aa t v h e=>by
 unfold spec at h
 split at h
 ·rename_i a b
  cases h;cases e
  exact⟨rfl,qS (l:=[]) (L:=[]) (n0:=4) (k:=12) qx qf qd (by simp) (by simp) (by decide) (by simp) rfl ((run _ _).trans (qN a b))⟩
 ·cases h⟩
end A225
namespace A199
def T (k0 n0:Int) (s0:ByteArray) (k1 n1:Int) (s1:ByteArray):GT Value:=let o1:GT Value:=(.out (.tuple #[.agg #[.int .i64 0,.int .i64 0,.string ⟨#[]⟩],.int .i64 20]));let y4:=Ref.zO k0 n0;let y5:=Ref.zO k1 n1;let y1:=Ref.xG y4.1 y5.1;let o2:GT Value:=(.br (y4.2) (.br (y5.2) (.br (!y1.2) o1 (.out (.tuple #[.agg #[.int .i64 3,.int .i64 y1.1,.string ⟨#[]⟩],.int .i64 0]))) o1) o1);let y2:=Ref.zD k0 k1 n1 false;let y3:=Ref.xG n0 n1;(.br (y2.2) (.out (.tuple #[.agg #[.int .i64 0,.int .i64 0,.string ⟨#[]⟩],.int .i64 y2.1])) (.br (k0==2) (.br (k1==2) (.br (!y3.2) o1 (.out (.tuple #[.agg #[.int .i64 2,.int .i64 y3.1,.string ⟨#[]⟩],.int .i64 0]))) o2) o2))
theorem run (k0 n0:Int) (s0:ByteArray) (k1 n1:Int) (s1:ByteArray):runK 4 [(149,A149.spec),(150,Ka.spec),(225,A225.spec)] [] 199 [.v (.agg #[.int .i64 k0,.int .i64 n0,.string s0]),.v (.agg #[.int .i64 k1,.int .i64 n1,.string s1])]=(T k0 n0 s0 k1 n1 s1).eval:=by kernel_rfl
theorem qN (a b:W3):(T a.1 a.2.1 a.2.2 b.1 b.2.1 b.2.2).eval=some (ve (Ari.xR Ref.xG a b)):=by
 unfold T Ari.xR Ari.ofV
 dsimp only[]
 simp only[GT.eval]
 cases (Ref.zD a.1 b.1 b.2.1 false).2
 rotate_left
 ·rfl
 cases a.1==2<;>cases b.1==2<;>cases (Ref.zO a.1 a.2.1).2<;>cases (Ref.zO b.1 b.2.1).2<;>cases (Ref.xG a.2.1 b.2.1).2<;>cases (Ref.xG (Ref.zO a.1 a.2.1).1 (Ref.zO b.1 b.2.1).1).2<;>rfl
def spec:Spec:=fun aa=>match aa with
 |[a,b]=>(vOf a).bind fun x=>(vOf b).bind fun y=>some (.out (ve (Ari.xR Ref.xG x y)))
 |_=>none
theorem qg:qu Tryz.prog La 199 spec:=⟨qD (by kernel_rfl),fun aa t v h e=>by
 unfold spec at h
 split at h
 ·rename_i a b
  obtain⟨x,h1,h⟩:=qi h
  obtain⟨y,h2,h⟩:=qi h
  cases h;cases e
  rw[qM h1,qM h2]
  exact⟨rfl,qS (n0:=4) (k:=12) qx qf qd (by simpa using⟨A149.qg,Ka.qg,A225.qg⟩) (by simp) (by decide) (by simp) rfl ((run _ _ _ _ _ _).trans (qN x y))⟩
 ·cases h⟩
end A199
namespace A202
def T (k0 n0:Int) (s0:ByteArray) (k1 n1:Int) (s1:ByteArray):GT Value:=let y1:=Ref.zO k1 n1;let y3:=Ref.zO k0 n0;let x1:=Int.tmod y3.1 y1.1;let o1:GT Value:=(.out (.tuple #[.agg #[.int .i64 0,.int .i64 0,.string ⟨#[]⟩],.int .i64 20]));let o2:GT Value:=(.br (y3.2) (.br (!y1.2) o1 (.br (y1.1 != (-1)) (.br (!decide (y1.1=0)) (.out (.tuple #[.agg #[.int .i64 3,.int .i64 x1,.string ⟨#[]⟩],.int .i64 0])) .no) (.out (.tuple #[.agg #[.int .i64 3,.int .i64 0,.string ⟨#[]⟩],.int .i64 0])))) o1);let y2:=Ref.zD k0 k1 n1 true;(.br (y2.2) (.out (.tuple #[.agg #[.int .i64 0,.int .i64 0,.string ⟨#[]⟩],.int .i64 y2.1])) (.br (k0==3) o2 (.br (k1==3) o2 (.br (n1 != (-1)) (.br (!decide (n1=0)) (.out (.tuple #[.agg #[.int .i64 2,.int .i64 (Int.tmod n0 n1),.string ⟨#[]⟩],.int .i64 0])) .no) (.out (.tuple #[.agg #[.int .i64 2,.int .i64 0,.string ⟨#[]⟩],.int .i64 0]))))))
theorem run (k0 n0:Int) (s0:ByteArray) (k1 n1:Int) (s1:ByteArray):runK 4 [(149,A149.spec),(150,Ka.spec)] [] 202 [.v (.agg #[.int .i64 k0,.int .i64 n0,.string s0]),.v (.agg #[.int .i64 k1,.int .i64 n1,.string s1])]=(T k0 n0 s0 k1 n1 s1).eval:=by kernel_rfl
theorem qN (a b:W3):(T a.1 a.2.1 a.2.2 b.1 b.2.1 b.2.2).eval=some (ve (Ari.Q5 a b)):=by
 unfold T Ari.Q5
 dsimp only[]
 simp only[GT.eval]
 cases hf:(Ref.zD a.1 b.1 b.2.1 true).2
 rotate_left
 ·rfl
 have hn:=Ari.KE hf
 have hd:=Ari.K9 (k:=b.1) hn
 simp only[Ah,An hn,Bv,Ai]
 generalize Ref.zO a.1 a.2.1=p at*
 generalize Ref.zO b.1 b.2.1=q at*
 obtain⟨x,ox⟩:=p
 obtain⟨y,oy⟩:=q
 dsimp only[]at hd ⊢
 cases oy
 ·unfold Ari.rem
  cases a.1==3<;>cases b.1==3<;>cases ox<;>cases b.2.1 != -1<;>rfl
 ·have hy := hd rfl
  simp only[An hy,Bv,Ai,Bh,Ah]
  unfold Ari.rem
  cases a.1==3<;>cases b.1==3<;>cases ox<;>cases b.2.1 != -1<;>cases y != -1<;>rfl
def spec:Spec:=fun aa=>match aa with
 |[a,b]=>(vOf a).bind fun x=>(vOf b).bind fun y=>some (.out (ve (Ari.Q5 x y)))
 |_=>none
theorem qg:qu Tryz.prog La 202 spec:=⟨qD (by kernel_rfl),fun aa t v h e=>by
 unfold spec at h
 split at h
 ·rename_i a b
  obtain⟨x,h1,h⟩:=qi h
  obtain⟨y,h2,h⟩:=qi h
  cases h;cases e
  rw[qM h1,qM h2]
  exact⟨rfl,qS (n0:=4) (k:=12) qx qf qd (by simpa using⟨A149.qg,Ka.qg⟩) (by simp) (by decide) (by simp) rfl ((run _ _ _ _ _ _).trans (qN x y))⟩
 ·cases h⟩
end A202
end
section
open Go Go.Proofs
theorem qu.of {P:Program} {La:World→Prop} {f:FuncId} {sp sp':Spec} (h:qu P La f sp) (h': ∀aa t v,sp' aa=some t→t.eval=some v→ ∃t',sp aa=some t'∧t'.eval=some v):qu P La f sp':=
 ⟨h.1, fun aa t v e1 e2 => by
  obtain⟨t',a,b⟩:=h' aa t v e1 e2
  exact h.2 aa t' v a b⟩
def sp2 (g:W3→W3→Value):Spec:=fun aa=>match aa with
 |[a,b]=>(vOf a).bind fun x=>(vOf b).bind fun y=>some (.qI (inR x.2.1&&inR y.2.1) (.out (g x y)))
 |_=>none
theorem Zv {f:FuncId} {sp:Spec} {g:W3→W3→Value} (h:qu Tryz.prog La f sp) (h': ∀a b x y,vOf a=some x→vOf b=some y→inR x.2.1=true→inR y.2.1=true→ ∃t',sp [a,b]=some t'∧t'.eval=some (g x y)):qu Tryz.prog La f (sp2 g):=h.of fun aa t v e1 e2=>by
 unfold sp2 at e1
 split at e1
 ·rename_i a b
  obtain⟨x,h1,e1⟩:=qi e1
  obtain⟨y,h2,e1⟩:=qi e1
  cases e1
  obtain⟨g1,g2⟩:=GT.qh e2
  cases g2
  rw[Ag]at g1
  exact h' a b x y h1 h2 g1.1 g1.2
 ·cases e1
namespace Ref
def X5 (a b:W3):Int:=bif a.1==0||b.1==0 then 0 else 1
def W0 (a b:W3):Int:=bif a.1==0||b.1==0 then 0 else bif(A76.compare a.1 a.2.1 a.2.2 b.1 b.2.1 b.2.2).2&&(A76.compare a.1 a.2.1 a.2.2 b.1 b.2.1 b.2.2).1==0 then 1 else 0
def eqW (a b:W3):Value:= .agg #[.int .i64 (X5 a b),.int .i64 (W0 a b),.string ⟨#[]⟩]
def sa (a b:W3):Value:= .tuple #[.int .i64 (A76.compare a.1 a.2.1 a.2.2 b.1 b.2.1 b.2.2).1,.bool (A76.compare a.1 a.2.1 a.2.2 b.1 b.2.1 b.2.2).2]
end Ref
theorem tH:qu Tryz.prog La 36 (sp2 Ref.eqW):=Zv A36.qg fun a b x y h1 h2 i1 i2=>by
 refine⟨_,by unfold A36.spec;simp only[h1,h2,Ar];rfl,?_⟩
 show some _=some _
 unfold A36.eqv Ref.eqW Ref.X5 Ref.W0 A36.V3'
 cases x.1==0||y.1==0<;>cases (A76.compare x.1 x.2.1 x.2.2 y.1 y.2.1 y.2.2).2&&(A76.compare x.1 x.2.1 x.2.2 y.1 y.2.1 y.2.2).1==0<;>rfl
theorem tK:qu Tryz.prog La 40 (sp2 Ref.eqW):=Zv A40.qg fun a b x y h1 h2 i1 i2=>by
 refine⟨_,by unfold A40.spec;simp only[h1,h2,Ar];rfl,?_⟩
 show some _=some _
 unfold A40.eqK A40.eqN Ref.eqW Ref.X5 Ref.W0
 rw[Ref.xW i1 i2]
theorem pF:qu Tryz.prog La 95 (sp2 Ref.sa):=Zv A95.qg fun a b x y h1 h2 i1 i2=>by
 refine⟨_,by unfold A95.spec;simp only[h1,h2,Ar];rfl,?_⟩
 show some _=some _
 rw[Ref.xW i1 i2];rfl
theorem nU:qu Tryz.prog La 198 (sp2 fun x y=>ve (Ari.j8 Ari.VB x y)):=Zv A198.qg fun a b x y h1 h2 i1 i2=>by
 refine⟨_,by unfold A198.spec;simp only[h1,h2,Ar];rfl,?_⟩
 show some _=some _
 rw[Ari.Yo (fun _ _ h h'=>Ari.add_eq h h') i1 i2]
theorem ni:qu Tryz.prog La 199 (sp2 fun x y=>ve (Ari.j8 Ari.VF x y)):=Zv A199.qg fun a b x y h1 h2 i1 i2=>by
 refine⟨_,by unfold A199.spec;simp only[h1,h2,Ar];rfl,?_⟩
 show some _=some _
 rw[Ari.Yo (fun _ _ h h'=>Ari.sub_eq h h') i1 i2]
theorem mW:qu Tryz.prog La 202 (sp2 fun x y=>ve (Ari.Z6 x y)):=Zv A202.qg fun a b x y h1 h2 i1 i2=>by
 refine⟨_,by unfold A202.spec;simp only[h1,h2,Ar];rfl,?_⟩
 show some _=some _
 rw[Ari.ln i1 i2]
def sp1 (g:W3→Value):Spec:=fun aa=>match aa with
 |[a]=>(vOf a).bind fun x=>some (.qI (inR x.2.1) (.out (g x)))
 |_=>none
theorem pL:qu Tryz.prog La 97 (sp1 fun x=>ve (A75.kn x.1 x.2.1)):=A97.qg.of fun aa t v e1 e2=>by
 unfold sp1 at e1
 split at e1
 ·rename_i a
  obtain⟨x,h1,e1⟩:=qi e1
  cases e1
  obtain⟨g1,g2⟩:=GT.qh e2
  cases g2
  refine⟨_,by unfold A97.spec;simp only[h1,Ar];rfl,?_⟩
  show some _=some _
  rw[Ref.jo g1]
 ·cases e1
end
end Go.Proofs.YtaiokpmmjbiajaaGreatDoorDx
namespace Go.Proofs.YtaiokpmmjbiajaaGreatDoorDx.Ari
section
open Go Go.Proofs Go.Proofs.YtaiokpmmjbiajaaGreatDoorDx.Fit
def xQ (t:ByteArray) (a b:W3):W3×Int:=
 bif eqU t.data.toList [43]then j8 VB a b else bif eqU t.data.toList [45]then j8 VF a b else bif eqU t.data.toList [42]then Kw a b else bif eqU t.data.toList [47]then Va a b else Z6 a b
def wC (t:ByteArray) (a b:W3):W3×Int:=
 bif eqU t.data.toList [43]||(eqU t.data.toList [45]||(eqU t.data.toList [42]||(eqU t.data.toList [47]||eqU t.data.toList [37])))then xQ t a b else
 bif eqU t.data.toList [61]then((Ref.X5 a b,Ref.W0 a b,⟨#[]⟩),0)else bif eqU t.data.toList [33,61]then(Ref.ja (Ref.X5 a b,Ref.W0 a b,⟨#[]⟩),0)else
 bif eqU t.data.toList [97,110,100]then(Ref.Jc a b,0)else bif eqU t.data.toList [111,114]then(Ref.orV a b,0)else
 (Ref.XK t (A76.compare a.1 a.2.1 a.2.2 b.1 b.2.1 b.2.2),0)
def _root_.Go.Proofs.YtaiokpmmjbiajaaGreatDoorDx.yC (g:ByteArray→W3→W3→Value):Spec:=fun aa=>match aa with
 |[.v (.string t),a,b]=>(vOf a).bind fun x=>(vOf b).bind fun y=>some (.qI (inR x.2.1&&inR y.2.1) (.out (g t x y)))
 |_=>none
end
end Go.Proofs.YtaiokpmmjbiajaaGreatDoorDx.Ari
namespace Go.Proofs.YtaiokpmmjbiajaaGreatDoorDx
section
open Go Go.Proofs
namespace A110
def T (s0:ByteArray) (k1 n1:Int) (s1:ByteArray) (k2 n2:Int) (s2:ByteArray):GT Value:=let x1:=Ari.j8 Ari.VF (k1,(n1,s1)) (k2,(n2,s2));let x2:=Ari.j8 Ari.VB (k1,(n1,s1)) (k2,(n2,s2));let x3:=Ari.Kw (k1,(n1,s1)) (k2,(n2,s2));let x4:=Ari.Z6 (k1,(n1,s1)) (k2,(n2,s2));let x5:=Ari.Va (k1,(n1,s1)) (k2,(n2,s2));let x6:=A76.compare k1 n1 s1 k2 n2 s2;let y5:=Ref.X5 (k1,(n1,s1)) (k2,(n2,s2));let y6:=Ref.W0 (k1,(n1,s1)) (k2,(n2,s2));let y1:=Ref.ja (y5,(y6,⟨#[]⟩));let y2:=(inR n1)&&(inR n2);let y3:=Ref.Jc (k1,(n1,s1)) (k2,(n2,s2));let y4:=Ref.orV (k1,(n1,s1)) (k2,(n2,s2));let y7:=Ref.XK s0 x6;(.br (eqU s0.data.toList [43]) (.br y2 (.out (.tuple #[.agg #[.int .i64 x2.1.1,.int .i64 x2.1.2.1,.string x2.1.2.2],.int .i64 x2.2])) .no) (.br (eqU s0.data.toList [45]) (.br y2 (.out (.tuple #[.agg #[.int .i64 x1.1.1,.int .i64 x1.1.2.1,.string x1.1.2.2],.int .i64 x1.2])) .no) (.br (eqU s0.data.toList [42]) (.br y2 (.out (.tuple #[.agg #[.int .i64 x3.1.1,.int .i64 x3.1.2.1,.string x3.1.2.2],.int .i64 x3.2])) .no) (.br (eqU s0.data.toList [47]) (.br y2 (.out (.tuple #[.agg #[.int .i64 x5.1.1,.int .i64 x5.1.2.1,.string x5.1.2.2],.int .i64 x5.2])) .no) (.br (eqU s0.data.toList [37]) (.br y2 (.out (.tuple #[.agg #[.int .i64 x4.1.1,.int .i64 x4.1.2.1,.string x4.1.2.2],.int .i64 x4.2])) .no) (.br (eqU s0.data.toList [61]) (.br y2 (.out (.tuple #[.agg #[.int .i64 y5,.int .i64 y6,.string ⟨#[]⟩],.int .i64 0])) .no) (.br (eqU s0.data.toList [33,61]) (.br y2 (.out (.tuple #[.agg #[.int .i64 y1.1,.int .i64 y1.2.1,.string y1.2.2],.int .i64 0])) .no) (.br (eqU s0.data.toList [97,110,100]) (.out (.tuple #[.agg #[.int .i64 y3.1,.int .i64 y3.2.1,.string y3.2.2],.int .i64 0])) (.br (eqU s0.data.toList [111,114]) (.out (.tuple #[.agg #[.int .i64 y4.1,.int .i64 y4.2.1,.string y4.2.2],.int .i64 0])) (.out (.tuple #[.agg #[.int .i64 y7.1,.int .i64 y7.2.1,.string y7.2.2],.int .i64 0])))))))))))
theorem run (s0:ByteArray) (k1 n1:Int) (s1:ByteArray) (k2 n2:Int) (s2:ByteArray):runK 4 [(159,A159.spec),(160,A160.spec),(161,A161.spec),(162,A162.spec),(163,A163.spec),(36,sp2 Ref.eqW),(109,A109.spec),(164,A164.spec),(165,A165.spec),(166,A166.spec)] [] 110 [.v (.string s0),.v (.agg #[.int .i64 k1,.int .i64 n1,.string s1]),.v (.agg #[.int .i64 k2,.int .i64 n2,.string s2])]=(T s0 k1 n1 s1 k2 n2 s2).eval:=by kernel_rfl
theorem qN (t:ByteArray) (a b:W3) (ha:inR a.2.1=true) (hb:inR b.2.1=true):(T t a.1 a.2.1 a.2.2 b.1 b.2.1 b.2.2).eval=some (ve (Ari.wC t a b)):=by
 unfold T Ari.wC Ari.xQ
 simp only[GT.eval,ha,hb]
 cases eqU t.data.toList [43]
 rotate_left
 ·rfl
 cases eqU t.data.toList [45]
 rotate_left
 ·rfl
 cases eqU t.data.toList [42]
 rotate_left
 ·rfl
 cases eqU t.data.toList [47]
 rotate_left
 ·rfl
 cases eqU t.data.toList [37]
 rotate_left
 ·rfl
 cases eqU t.data.toList [61]
 rotate_left
 ·rfl
 cases eqU t.data.toList [33,61]
 rotate_left
 ·rfl
 cases eqU t.data.toList [97,110,100]
 rotate_left
 ·rfl
 cases eqU t.data.toList [111,114]
 rotate_left
 ·rfl
 rfl
theorem qg:qu Tryz.prog La 110 (yC fun t x y=>ve (Ari.wC t x y)):=⟨qD (by kernel_rfl),fun aa t v h e=>by
 unfold yC at h
 split at h
 ·rename_i s a b
  obtain⟨x,h1,h⟩:=qi h
  obtain⟨y,h2,h⟩:=qi h
  cases h
  obtain⟨g1,g2⟩:=GT.qh e
  cases g2
  rw[Ag]at g1
  rw[qM h1,qM h2]
  exact⟨rfl,qS (n0:=4) (k:=12) qx qf qd (by simpa using⟨A159.qg,A160.qg,A161.qg,A162.qg,A163.qg,tH,A109.qg,A164.qg,A165.qg,A166.qg⟩) (by simp) (by decide) (by simp) rfl ((run _ _ _ _ _ _ _).trans (qN s x y g1.1 g1.2))⟩
 ·cases h⟩
end A110
end
section
open Go Go.Proofs
def oo (p:O6):Value:= .agg #[.int .i64 p.1,.int .i64 p.2.1,.string p.2.2.1,.int .i64 p.2.2.2.1,.int .i64 p.2.2.2.2.1,.string p.2.2.2.2.2]
def oOf (a:AA):Option O6:=match a with
 | .v (.agg ⟨[.int .i64 k,.int .i64 n,.string t,.int .i64 vk,.int .i64 vn,.string vs]⟩)=>some (k,n,t,vk,vn,vs)
 |_=>none
theorem Jl {a:AA} {p:O6} (h:oOf a=some p):a= .v (oo p):=by
 unfold oOf at h
 split at h
 ·cases h;rfl
 ·cases h
def Ref.kI (k n:Int):Int×Int:=
 bif k==1||(k==2||k==9)then(0,1)else bif k==3||(k==5||k==10)then(1,1)else bif k==4 then(2,1)else bif k==6 then(n,1)else bif k==8 then(1,0)else(0,0)
def Ref.zj (k n:Int):Int×Int:=
 bif k==1||(k==2||k==9)then(0,1)else bif k==3||(k==5||k==10)then(1,0)else bif k==4 then(2,-1)else bif k==6 then(n,IntKind.wrap .i64 (1 - n))else bif k==8 then(1,-1)else(0,0)
theorem kM: ∀a b:List UInt8,eqU a b=eqU b a
 |[],[]=>rfl
 |[],_::_=>rfl
 |_::_,[]=>rfl
 |x::a,y::b=>by
  rw[eqU,eqU,kM a b]
  congr 1
  cases h:Nat.beq y.toNat x.toNat
  ·cases h' : Nat.beq x.toNat y.toNat
   ·rfl
   ·have := Am h'
    rw[this,A5]at h;cases h
  ·have := Am h
   rw[this,A5]
def Ref.oE (t:ByteArray):Bool:=eqU t.data.toList [43]||(eqU t.data.toList [45]||(eqU t.data.toList [42]||(eqU t.data.toList [47]||(eqU t.data.toList [37]||(eqU t.data.toList [61]||(eqU t.data.toList [33,61]||(eqU t.data.toList [60]||(eqU t.data.toList [60,61]||(eqU t.data.toList [62]||(eqU t.data.toList [62,61]||(eqU t.data.toList [97,110,100]||eqU t.data.toList [111,114])))))))))))
def Ref.wb (k n:Int) (t:ByteArray) (at_ len lf la:Int):Bool:=
 bif k==1||k==10 then true else bif k==2 then decide (n≥0)&&decide (n<lf)else bif k==9 then decide (n≥0)&&decide (n<la)else
 bif k==3 then eqU t.data.toList [45]||eqU t.data.toList [110,111,116]else bif k==4 then Ref.oE t else bif k==5 then n==0||n==1 else
 bif k==6 then decide (n≥0)&&decide (n≤1024)else bif k==7||k==8 then decide (n>at_)&&decide (n≤len)else false
end
section
open Go
set_option linter.unusedSectionVars false
theorem jR: ∀(q:Code) {b x:Code},b∈zl q→x∈zl b→x∈zl q
 | .loop a,b,x,hb,hx=>by
  unfold zl at hb ⊢
  rcases AX.1 hb with rfl|hb
  ·exact BK _ hx
  ·exact BK _ (jR a hb hx)
 | .seq a c,b,x,hb,hx=>by
  unfold zl at hb ⊢
  rcases AT.1 hb with hb|hb
  ·exact BL _ (jR a hb hx)
  ·exact BF _ (jR c hb hx)
 | .cond _ a c,b,x,hb,hx=>by
  unfold zl at hb ⊢
  rcases AT.1 hb with hb|hb
  ·exact BL _ (jR a hb hx)
  ·exact BF _ (jR c hb hx)
 | .block _ a,b,x,hb,hx=>by
  unfold zl at hb ⊢
  exact jR a hb hx
 | .skip,b,x,hb,hx=>by unfold zl at hb;cases hb
 | .label _,b,x,hb,hx=>by unfold zl at hb;cases hb
 | .region _ _ _,b,x,hb,hx=>by unfold zl at hb;cases hb
 | .exit _,b,x,hb,hx=>by unfold zl at hb;cases hb
 | .ret,b,x,hb,hx=>by unfold zl at hb;cases hb
 | .scope _,b,x,hb,hx=>by unfold zl at hb;cases hb
 | .goto _,b,x,hb,hx=>by unfold zl at hb;cases hb
 | .rangeFunc _ _ _ _,b,x,hb,hx=>by unfold zl at hb;cases hb
section
variable {P:Program} {La:World→Prop} {n0:Nat} {l:List (FuncId×Spec)} {L:List LpK}
theorem mO (hmix:P.follows .mixedOrders=true) (hnames:(P.funcs.toList.all fun fn=> !(fn.name== "runtime.NumGoroutine"))=true) (hsp: ∀p∈l,qu P La p.1 p.2) (hL: ∀p∈L,zq P La n0 p) {c:Cfg} {base:Bs} {I:World→Prop} (hP:c.P=P) (hn:c.n0=n0) (hG:c.G=0) (hI: @Inv (zL base) base I) (hIL: ∀w,I w→La w)
  {f i:Nat} (hf:iA P f=true) (hi:Nat.blt i (zl (Qv P f)).length=true) {k K m n R:Nat} {ro:Rows} {x y:KX} {ex:Ex} {jT:Ex→List Nat} {car:Ex→St→List (Nat×Bool)}
  (run:wy (zw P n0 (gpT l) (ltT n0 L)) (gpT l) (vL (zw P n0 (gpT l) (ltT n0 L)) (gpT l) (ltT n0 L) K) (ltT n0 L f) false k (qV P f i) (stK m n ro x) (zv n R m jT car)=some (ex,y)): @zy (zL base) c base I (qV P f i) m n R ro x ex y:=by
 obtain⟨fn,h1,h2,_⟩:=qD hf
 obtain⟨q,hq⟩: ∃q,fn.body=some q:=by
  cases hb:fn.body with
  |none=>rw[hb]at h2;cases h2
  |some q=>exact⟨q,rfl⟩
 have aB:Qv P f=q:=by unfold Qv;rw[h1];simp only[hq]
 have bT:qV P f i∈zl q:=by
  rw[AB]at hi
  unfold qV
  rw[aB]at hi ⊢
  rw[AN,Au hi]
  exact Bf hi
 refine @fL (zL base) c base I P n0 (gpT l) (ltT n0 L) hP hn hG hI hmix hnames (Jq _ _ _ _) (@YH (zL base) P La n0 l _ base I hI hIL hsp) (yP hL base I hI hIL) (ltT n0 L f) (qV P f i) (fun x hx=> ?_) k K m n R ro x y ex jT car run
 have:=(yP (l:=l) hL base I hI hIL) f fn q (by rw[show (zw P n0 (gpT l) (ltT n0 L)).fns=fun f=>P.funcs[f]? from Q1];exact h1) hq x (jR q bT hx)
 rwa [show (zw P n0 (gpT l) (ltT n0 L)).lops=fun f=>jO (ltT n0 L f)from Wn]at this
end
end
end Go.Proofs.YtaiokpmmjbiajaaGreatDoorDx
