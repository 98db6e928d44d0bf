/- A part of the proof of this claim. No condition beyond those that each theorem names. -/
import Derived.Test.YtaiokpmmjbiajaaGreatDoorRK0
import Derived.Test.YtaiokpmmjbiajaaGreatDoorRK1
import Derived.Test.YtaiokpmmjbiajaaGreatDoorProg
import Derived.KernelRfl
import Derived.Test.YtaiokpmmjbiajaaGreatDoorRLeaf0
import Derived.Test.YtaiokpmmjbiajaaGreatDoorRPLeafx1
import Derived.Lib.CountLaws
import Derived.Lib.ReplaceLaws
import Derived.WideShapes
set_option maxRecDepth 1000000
set_option linter.unusedVariables false
set_option linter.unusedSimpArgs false
namespace Go.Proofs.YtaiokpmmjbiajaaGreatDoorDx
section
open Go Go.Proofs
namespace A195
def T (k0 n0:Int) (s0:ByteArray) (k1 n1:Int) (s1:ByteArray):GT Value:=let o1:GT Value:=(.out (.tuple #[.bool (k1==0),.int .i64 0]));let o2:GT Value:=(.br (k0==0) (.out (.tuple #[.bool true,.int .i64 0])) (.br (!(k1==0)) (.br (n1==0) (.out (.tuple #[.bool (k1==0),.int .i64 21])) o1) o1));let o3:GT Value:=(.out (.tuple #[.bool false,.int .i64 22]));let o4:GT Value:=(.br (k1==2) o2 (.br (!(k1==3)) (.br (k1 != 0) o3 o2) o2));(.br (k0==2) o4 (.br (!(k0==3)) (.br (k0 != 0) o3 o4) o4))
theorem run (k0 n0:Int) (s0:ByteArray) (k1 n1:Int) (s1:ByteArray):runK 4 [] [] 195 [.v (.agg #[.int .i64 k0,.int .i64 n0,.string s0]),.v (.agg #[.int .i64 k1,.int .i64 n1,.string s1])]=(T k0 n0 s0 k1 n1 s1).eval:=by kernel_rfl
theorem qL (a b:W3):(T a.1 a.2.1 a.2.2 b.1 b.2.1 b.2.2).eval=some (.tuple #[.bool (Ref.zeroV a.1 b.1 b.2.1).1,.int .i64 (Ref.zeroV a.1 b.1 b.2.1).2]):=by
 obtain⟨k,n,s⟩:=a
 obtain⟨k',n',s'⟩:=b
 unfold T Ref.zeroV
 dsimp only[]
 simp only[GT.eval]
 rcases Ari.kinds k with rfl|rfl|rfl|⟨e1,e2,e3,e4,e5⟩<;>rcases Ari.kinds k' with rfl|rfl|rfl|⟨f1,f2,f3,f4,f5⟩<;>
  (try simp only[e1,e2,e3,e4,e5])<;>(try simp only[f1,f2,f3,f4,f5])<;>(try rfl)<;>(cases n'==0<;>rfl)
def spec:Spec:=fun aa=>match aa with
 |[a,b]=>(vOf a).bind fun x=>(vOf b).bind fun y=>some (.out (.tuple #[.bool (Ref.zeroV x.1 y.1 y.2.1).1,.int .i64 (Ref.zeroV x.1 y.1 y.2.1).2]))
 |_=>none
theorem qf:qu Tryz.prog La 195 spec:=⟨qE (by kernel_rfl),fun aa t v h e=>by
 unfold spec at h
 split at h
 ·rename_i a b
  obtain⟨x,h1,h⟩:=qi h
  obtain⟨y,h2,h⟩:=qi h
  cases h;cases e
  rw[qN h1,qN h2]
  exact⟨rfl,qR (l:=[]) (L:=[]) (n0:=4) (k:=12) qx qg qd (by simp) (by simp) (by decide) (by simp) rfl ((run _ _ _ _ _ _).trans (qL x y))⟩
 ·cases h⟩
end A195
namespace A162
def T (k0 n0:Int) (s0:ByteArray) (k1 n1:Int) (s1:ByteArray):GT Value:=let x1:=Ari.mdV (A127.dec k0 n0).1 10000 (A127.dec k1 n1).1;let o1:GT Value:=(.out (.tuple #[.agg #[.int .i64 0,.int .i64 0,.string ⟨#[]⟩],.int .i64 (Ref.zeroV k0 k1 n1).2]));let o2:GT Value:=(.out (.tuple #[.agg #[.int .i64 0,.int .i64 0,.string ⟨#[]⟩],.int .i64 20]));let o3:GT Value:=(.br (((k0==2)||(k0==3))&&(inR n0)) (.br (((k1==2)||(k1==3))&&(inR n1)) (.br ((A127.dec k0 n0).2) (.br (!(A127.dec k1 n1).2) o2 (.br ((inR (A127.dec k0 n0).1)&&(true&&((inR (A127.dec k1 n1).1)&&(!((A127.dec k1 n1).1==0))))) (.br (!x1.2) o2 (.out (.tuple #[.agg #[.int .i64 3,.int .i64 x1.1,.string ⟨#[]⟩],.int .i64 0]))) .no)) o2) .no) .no);(.br ((Ref.zeroV k0 k1 n1).2 != 0) o1 (.br ((Ref.zeroV k0 k1 n1).1) o1 (.br (k0==2) (.br (k1==2) (.br ((inR n0)&&(true&&((inR n1)&&(!(n1==0))))) (.br (!(Ari.mdV n0 1 n1).2) o2 (.out (.tuple #[.agg #[.int .i64 2,.int .i64 (Ari.mdV n0 1 n1).1,.string ⟨#[]⟩],.int .i64 0]))) .no) o3) o3)))
theorem run (k0 n0:Int) (s0:ByteArray) (k1 n1:Int) (s1:ByteArray):runK 4 [(127,A127.spec),(195,A195.spec),(175,A175.spec)] [] 162 [.v (.agg #[.int .i64 k0,.int .i64 n0,.string s0]),.v (.agg #[.int .i64 k1,.int .i64 n1,.string s1])]=(T k0 n0 s0 k1 n1 s1).eval:=by kernel_rfl
set_option maxHeartbeats 0 in
theorem qL (a b:W3) (ha:inR a.2.1=true) (hb:inR b.2.1=true):(T a.1 a.2.1 a.2.2 b.1 b.2.1 b.2.2).eval=some (ve (Ari.Kl a b)):=by
 obtain⟨k,n,s⟩:=a
 obtain⟨k',n',s'⟩:=b
 dsimp only[]at ha hb ⊢
 unfold T Ari.Kl
 have hz:(Ref.zq k k' n' true).2=((Ref.zeroV k k' n').2 != 0||(Ref.zeroV k k' n').1)∧(Ref.zq k k' n' true).1=(Ref.zeroV k k' n').2:=by
  unfold Ref.zq Ref.zeroV
  cases Ari.bad k||Ari.bad k'<;>cases k==0||k'==0<;>cases n'==0<;>exact⟨rfl,rfl⟩
 rw[hz.1,hz.2]
 simp only[GT.eval,ha,hb]
 cases h2:(Ref.zeroV k k' n').2 != 0
 rotate_left
 ·rfl
 cases h1:(Ref.zeroV k k' n').1
 rotate_left
 ·rfl
 have hn:=Ari.Yt h1 h2
 have hn0:(n'==0)=false:=beq_eq_false_iff_ne.2 hn
 have hb':Ari.bad k=false∧Ari.bad k'=false∧(k==0)=false∧(k'==0)=false:=by
  unfold Ref.zeroV at h1 h2
  cases q1:Ari.bad k<;>cases q2:Ari.bad k'<;>cases q3:k==0<;>cases q4:k'==0<;>rw[q1,q2,q3,q4]at h1 h2<;>first|(cases h1;done)|(cases h2;done)|exact⟨rfl,rfl,rfl,rfl⟩
 obtain⟨b1,b2,b3,b4⟩:=hb'
 have hk:k=2∨k=3:=by
  rcases Ari.kinds k with rfl|h|h|⟨h,_⟩
  ·cases b3
  ·exact .inl h
  ·exact .inr h
  ·rw[b1]at h;cases h
 have hk':k'=2∨k'=3:=by
  rcases Ari.kinds k' with rfl|h|h|⟨h,_⟩
  ·cases b4
  ·exact .inl h
  ·exact .inr h
  ·rw[b2]at h;cases h
 obtain⟨d1,d2⟩:=Ari.jo hk ha
 obtain⟨d3,d4⟩:=Ari.jo hk' hb
 have hd:=Ari.Va (k:=k') hn
 obtain⟨m1,m2⟩:=Ari.JH ha (show inR 1=true by decide) hb hn
 have m3:(Ref.zp k n).2=true→(Ref.zp k' n').2=true→(Ari.mdV (A127.dec k n).1 10000 (A127.dec k' n').1).2=(Ari.quot (Ref.zp k n).1 10000 (Ref.zp k' n').1).2∧((Ari.quot (Ref.zp k n).1 10000 (Ref.zp k' n').1).2=true→(Ari.mdV (A127.dec k n).1 10000 (A127.dec k' n').1).1=(Ari.quot (Ref.zp k n).1 10000 (Ref.zp k' n').1).1):=fun x y=>by
  rw[(d2 x).1,(d4 y).1]
  obtain⟨r1,r2⟩:=Ari.JH (d2 x).2 (show inR 10000=true by decide) (d4 y).2 (hd y)
  exact⟨r1,fun h=>(r2 h).1⟩
 have i1:(Ref.zp k n).2=true→inR (A127.dec k n).1=true:=fun h=>by rw[(d2 h).1];exact(d2 h).2
 have i2:(Ref.zp k' n').2=true→inR (A127.dec k' n').1=true∧((A127.dec k' n').1==0)=false:=fun h=>by rw[(d4 h).1];exact⟨(d4 h).2,beq_eq_false_iff_ne.2 (hd h)⟩
 have kk:((k==2)||(k==3))=true:=by rcases hk with rfl|rfl<;>rfl
 have kk':((k'==2)||(k'==3))=true:=by rcases hk' with rfl|rfl<;>rfl
 simp only[hn0,kk,kk',d1,d3,cond_false,Bool.not_false,Bool.and_self,cond_true,Bool.true_and]
 generalize A127.dec k n=p at*
 generalize A127.dec k' n'=q at*
 generalize Ref.zp k n=p' at*
 generalize Ref.zp k' n'=q' at*
 obtain⟨x',ox⟩:=p'
 obtain⟨y',oy⟩:=q'
 dsimp only[]at m3 i1 i2 ⊢
 generalize Ari.mdV p.1 10000 q.1=u at*
 generalize Ari.quot x' 10000 y'=u' at*
 generalize Ari.mdV n 1 n'=v at*
 generalize Ari.quot n 1 n'=v' at*
 obtain⟨u1,u2⟩:=u
 obtain⟨u3,u4⟩:=u'
 obtain⟨v1,v2⟩:=v
 obtain⟨v3,v4⟩:=v'
 dsimp only[]at m1 m2 m3 ⊢
 subst m1
 unfold Ari.ofV
 have hv:v2=true→v1=v3:=fun h=>(m2 h).1
 cases ox
 ·cases v2
  ·cases k==2<;>cases k'==2<;>rfl
  ·obtain rfl := hv rfl
   cases k==2<;>cases k'==2<;>rfl
 cases oy
 ·simp only [i1 rfl]
  cases v2
  ·cases k==2<;>cases k'==2<;>rfl
  ·obtain rfl := hv rfl
   cases k==2<;>cases k'==2<;>rfl
 obtain⟨m4,m5⟩:=m3 rfl rfl
 subst m4
 simp only[i1 rfl,(i2 rfl).1,(i2 rfl).2]
 cases v2
 ·cases u2
  ·cases k==2<;>cases k'==2<;>rfl
  ·obtain rfl := m5 rfl
   cases k==2<;>cases k'==2<;>rfl
 ·obtain rfl := hv rfl
  cases u2
  ·cases k==2<;>cases k'==2<;>rfl
  ·obtain rfl := m5 rfl
   cases k==2<;>cases k'==2<;>rfl
def spec:Spec:=fun aa=>match aa with
 |[a,b]=>(vOf a).bind fun x=>(vOf b).bind fun y=>some (.qI (inR x.2.1&&inR y.2.1) (.out (ve (Ari.Kl x y))))
 |_=>none
theorem qf:qu Tryz.prog La 162 spec:=⟨qE (by kernel_rfl),fun aa t v h e=>by
 unfold spec at h
 split at h
 ·rename_i a b
  obtain⟨x,h1,h⟩:=qi h
  obtain⟨y,h2,h⟩:=qi h
  cases h
  obtain⟨g1,g2⟩:=GT.qh e
  cases g2
  rw[Bool.and_eq_true]at g1
  rw[qN h1,qN h2]
  exact⟨rfl,qR (n0:=4) (k:=12) qx qg qd (by simpa using⟨A127.qf,A195.qf,A175.qf⟩) (by simp) (by decide) (by simp) rfl ((run _ _ _ _ _ _).trans (qL x y g1.1 g1.2))⟩
 ·cases h⟩
end A162
namespace A163
def T (k0 n0:Int) (s0:ByteArray) (k1 n1:Int) (s1:ByteArray):GT Value:=let x1:=Int.tmod (A127.dec k0 n0).1 (A127.dec k1 n1).1;let o1:GT Value:=(.out (.tuple #[.agg #[.int .i64 0,.int .i64 0,.string ⟨#[]⟩],.int .i64 (Ref.zeroV k0 k1 n1).2]));let o2:GT Value:=(.out (.tuple #[.agg #[.int .i64 0,.int .i64 0,.string ⟨#[]⟩],.int .i64 0]));let o3:GT Value:=(.out (.tuple #[.agg #[.int .i64 0,.int .i64 0,.string ⟨#[]⟩],.int .i64 20]));let o4:GT Value:=(.br (((k0==2)||(k0==3))&&(inR n0)) (.br (((k1==2)||(k1==3))&&(inR n1)) (.br ((A127.dec k0 n0).2) (.br (!(A127.dec k1 n1).2) o3 (.br ((A127.dec k1 n1).1==(-1)) (.out (.tuple #[.agg #[.int .i64 3,.int .i64 0,.string ⟨#[]⟩],.int .i64 0])) (.br (!decide ((A127.dec k1 n1).1=0)) (.out (.tuple #[.agg #[.int .i64 3,.int .i64 x1,.string ⟨#[]⟩],.int .i64 0])) .no))) o3) .no) .no);let o5:GT Value:=(.br (k0==0) o2 (.br (k1==0) o2 (.br (k0==2) (.br (k1==2) (.br (n1==(-1)) (.out (.tuple #[.agg #[.int .i64 2,.int .i64 0,.string ⟨#[]⟩],.int .i64 0])) (.br (!decide (n1=0)) (.out (.tuple #[.agg #[.int .i64 2,.int .i64 (Int.tmod n0 n1),.string ⟨#[]⟩],.int .i64 0])) .no)) o4) o4)));let o6:GT Value:=(.out (.tuple #[.agg #[.int .i64 0,.int .i64 0,.string ⟨#[]⟩],.int .i64 22]));let o7:GT Value:=(.br (k1==2) o5 (.br (!(k1==3)) (.br (k1 != 0) o6 o5) o5));(.br ((Ref.zeroV k0 k1 n1).2 != 0) o1 (.br ((Ref.zeroV k0 k1 n1).1) o1 (.br (k0==2) o7 (.br (!(k0==3)) (.br (k0 != 0) o6 o7) o7))))
theorem run (k0 n0:Int) (s0:ByteArray) (k1 n1:Int) (s1:ByteArray):runK 4 [(127,A127.spec),(195,A195.spec)] [] 163 [.v (.agg #[.int .i64 k0,.int .i64 n0,.string s0]),.v (.agg #[.int .i64 k1,.int .i64 n1,.string s1])]=(T k0 n0 s0 k1 n1 s1).eval:=by kernel_rfl
set_option maxHeartbeats 0 in
theorem qL (a b:W3) (ha:inR a.2.1=true) (hb:inR b.2.1=true):(T a.1 a.2.1 a.2.2 b.1 b.2.1 b.2.2).eval=some (ve (Ari.ZR a b)):=by
 obtain⟨k,n,s⟩:=a
 obtain⟨k',n',s'⟩:=b
 unfold T Ari.ZR
 dsimp only[]at ha hb ⊢
 simp only[GT.eval,ha,hb]
 cases hz:(Ref.zeroV k k' n').2 != 0
 rotate_left
 ·rfl
 cases hz1:(Ref.zeroV k k' n').1
 rotate_left
 ·rfl
 have hn:=Ari.Yt hz1 hz
 have hd:(k'=2∨k'=3)→(A127.dec k' n').2=true→(A127.dec k' n').1≠0:=fun h=>Ari.iH h hb hn
 simp only[cond_false,decide_eq_false hn,Bool.not_false,cond_true]
 clear hz hz1
 unfold Ari.j6 Ari.ofV Ari.left Ari.rem
 dsimp only[]
 generalize A127.dec k n=p at*
 generalize A127.dec k' n'=q at*
 obtain⟨x,ox⟩:=p
 obtain⟨y,oy⟩:=q
 dsimp only[]at hd ⊢
 have e1:(n'== -1)= !(n' != -1):=by cases h:n'== -1<;>simp[bne,h]
 have e2:(y== -1)= !(y != -1):=by cases h:y== -1<;>simp[bne,h]
 rw[e1,e2]
 cases oy
 ·rcases Ari.kinds k with rfl|rfl|rfl|⟨g1,g2,g3,g4,g5⟩<;>rcases Ari.kinds k' with rfl|rfl|rfl|⟨f1,f2,f3,f4,f5⟩<;>
   (try simp only[g1,g2,g3,g4,g5])<;>(try simp only[f1,f2,f3,f4,f5])<;>(try rfl)<;>(cases n' != -1<;>cases ox<;>rfl)
 ·rcases Ari.kinds k with rfl|rfl|rfl|⟨g1,g2,g3,g4,g5⟩<;>rcases Ari.kinds k' with rfl|rfl|rfl|⟨f1,f2,f3,f4,f5⟩<;>
   (try simp only[g1,g2,g3,g4,g5])<;>(try simp only[f1,f2,f3,f4,f5])<;>(try rfl)<;>(try simp only[decide_eq_false (hd (.inl rfl) rfl)])<;>(try simp only[decide_eq_false (hd (.inr rfl) rfl)])<;>(cases n' != -1<;>cases y != -1<;>cases ox<;>rfl)
def spec:Spec:=fun aa=>match aa with
 |[a,b]=>(vOf a).bind fun x=>(vOf b).bind fun y=>some (.qI (inR x.2.1&&inR y.2.1) (.out (ve (Ari.ZR x y))))
 |_=>none
theorem qf:qu Tryz.prog La 163 spec:=⟨qE (by kernel_rfl),fun aa t v h e=>by
 unfold spec at h
 split at h
 ·rename_i a b
  obtain⟨x,h1,h⟩:=qi h
  obtain⟨y,h2,h⟩:=qi h
  cases h
  obtain⟨g1,g2⟩:=GT.qh e
  cases g2
  rw[Bool.and_eq_true]at g1
  rw[qN h1,qN h2]
  exact⟨rfl,qR (n0:=4) (k:=12) qx qg qd (by simpa using⟨A127.qf,A195.qf⟩) (by simp) (by decide) (by simp) rfl ((run _ _ _ _ _ _).trans (qL x y g1.1 g1.2))⟩
 ·cases h⟩
end A163
namespace A109
def T (k0 n0:Int) (s0:ByteArray):GT Value:=(.br (k0 != 1) (.out (.agg #[.int .i64 0,.int .i64 0,.string ⟨#[]⟩])) (.br (n0 != 0) (.out (.agg #[.int .i64 1,.int .i64 0,.string ⟨#[]⟩])) (.out (.agg #[.int .i64 1,.int .i64 1,.string ⟨#[]⟩]))))
theorem run (k0 n0:Int) (s0:ByteArray):runK 4 [] [] 109 [.v (.agg #[.int .i64 k0,.int .i64 n0,.string s0])]=(T k0 n0 s0).eval:=by kernel_rfl
theorem qL (a:W3):(T a.1 a.2.1 a.2.2).eval=some (vv (Ref.wi a)):=by
 unfold T Ref.wi Ref.lgc
 simp only[GT.eval]
 cases a.1 != 1<;>cases a.2.1 != 0<;>rfl
def spec:Spec:=fun aa=>match aa with
 |[a]=>(vOf a).bind fun x=>some (.out (vv (Ref.wi x)))
 |_=>none
theorem qf:qu Tryz.prog La 109 spec:=⟨qE (by kernel_rfl),fun aa t v h e=>by
 unfold spec at h
 split at h
 ·rename_i a
  obtain⟨x,h1,h⟩:=qi h
  cases h;cases e
  rw[qN h1]
  exact⟨rfl,qR (l:=[]) (L:=[]) (n0:=4) (k:=12) qx qg qd (by simp) (by simp) (by decide) (by simp) rfl ((run _ _ _).trans (qL x))⟩
 ·cases h⟩
end A109
namespace A164
def T (k0 n0:Int) (s0:ByteArray) (k1 n1:Int) (s1:ByteArray):GT Value:=let o1:GT Value:=(.out (.agg #[.int .i64 0,.int .i64 0,.string ⟨#[]⟩]));let o2:GT Value:=(.out (.agg #[.int .i64 1,.int .i64 0,.string ⟨#[]⟩]));(.br (k0 != 1) (.br (k1 != 1) o1 (.br (n1 != 0) o1 o2)) (.br (n0 != 0) (.br (k1 != 1) o1 (.br (n1 != 0) (.out (.agg #[.int .i64 1,.int .i64 1,.string ⟨#[]⟩])) o2)) (.br (k1 != 1) o2 (.br (n1 != 0) o2 o2))))
theorem run (k0 n0:Int) (s0:ByteArray) (k1 n1:Int) (s1:ByteArray):runK 4 [] [] 164 [.v (.agg #[.int .i64 k0,.int .i64 n0,.string s0]),.v (.agg #[.int .i64 k1,.int .i64 n1,.string s1])]=(T k0 n0 s0 k1 n1 s1).eval:=by kernel_rfl
theorem qL (a b:W3):(T a.1 a.2.1 a.2.2 b.1 b.2.1 b.2.2).eval=some (vv (Ref.Zv a b)):=by
 unfold T Ref.Zv Ref.lgc
 simp only[GT.eval]
 cases a.1 != 1<;>cases a.2.1 != 0<;>cases b.1 != 1<;>cases b.2.1 != 0<;>rfl
def spec:Spec:=fun aa=>match aa with
 |[a,b]=>(vOf a).bind fun x=>(vOf b).bind fun y=>some (.out (vv (Ref.Zv x y)))
 |_=>none
theorem qf:qu Tryz.prog La 164 spec:=⟨qE (by kernel_rfl),fun aa t v h e=>by
 unfold spec at h
 split at h
 ·rename_i a b
  obtain⟨x,h1,h⟩:=qi h
  obtain⟨y,h2,h⟩:=qi h
  cases h;cases e
  rw[qN h1,qN h2]
  exact⟨rfl,qR (l:=[]) (L:=[]) (n0:=4) (k:=12) qx qg qd (by simp) (by simp) (by decide) (by simp) rfl ((run _ _ _ _ _ _).trans (qL x y))⟩
 ·cases h⟩
end A164
namespace A165
def T (k0 n0:Int) (s0:ByteArray) (k1 n1:Int) (s1:ByteArray):GT Value:=let o1:GT Value:=(.out (.agg #[.int .i64 0,.int .i64 0,.string ⟨#[]⟩]));let o2:GT Value:=(.out (.agg #[.int .i64 1,.int .i64 1,.string ⟨#[]⟩]));(.br (k0 != 1) (.br (k1 != 1) o1 (.br (n1 != 0) o2 o1)) (.br (n0 != 0) (.br (k1 != 1) o2 (.br (n1 != 0) o2 o2)) (.br (k1 != 1) o1 (.br (n1 != 0) o2 (.out (.agg #[.int .i64 1,.int .i64 0,.string ⟨#[]⟩]))))))
theorem run (k0 n0:Int) (s0:ByteArray) (k1 n1:Int) (s1:ByteArray):runK 4 [] [] 165 [.v (.agg #[.int .i64 k0,.int .i64 n0,.string s0]),.v (.agg #[.int .i64 k1,.int .i64 n1,.string s1])]=(T k0 n0 s0 k1 n1 s1).eval:=by kernel_rfl
theorem qL (a b:W3):(T a.1 a.2.1 a.2.2 b.1 b.2.1 b.2.2).eval=some (vv (Ref.orV a b)):=by
 unfold T Ref.orV Ref.lgc
 simp only[GT.eval]
 cases a.1 != 1<;>cases a.2.1 != 0<;>cases b.1 != 1<;>cases b.2.1 != 0<;>rfl
def spec:Spec:=fun aa=>match aa with
 |[a,b]=>(vOf a).bind fun x=>(vOf b).bind fun y=>some (.out (vv (Ref.orV x y)))
 |_=>none
theorem qf:qu Tryz.prog La 165 spec:=⟨qE (by kernel_rfl),fun aa t v h e=>by
 unfold spec at h
 split at h
 ·rename_i a b
  obtain⟨x,h1,h⟩:=qi h
  obtain⟨y,h2,h⟩:=qi h
  cases h;cases e
  rw[qN h1,qN h2]
  exact⟨rfl,qR (l:=[]) (L:=[]) (n0:=4) (k:=12) qx qg qd (by simp) (by simp) (by decide) (by simp) rfl ((run _ _ _ _ _ _).trans (qL x y))⟩
 ·cases h⟩
end A165
namespace A166
def T (s0:ByteArray) (k1 n1:Int) (s1:ByteArray) (k2 n2:Int) (s2:ByteArray):GT Value:=let x1:=A76.compare k1 n1 s1 k2 n2 s2;let o1:GT Value:=(.out (.agg #[.int .i64 1,.int .i64 1,.string ⟨#[]⟩]));let o2:GT Value:=(.out (.agg #[.int .i64 1,.int .i64 0,.string ⟨#[]⟩]));(.br (!x1.2) (.out (.agg #[.int .i64 0,.int .i64 0,.string ⟨#[]⟩])) (.br (eqU s0.data.toList [60]) (.br (decide (x1.1<0)) o1 o2) (.br (eqU s0.data.toList [60,61]) (.br (decide (x1.1≤0)) o1 o2) (.br (eqU s0.data.toList [62]) (.br (decide (x1.1>0)) o1 o2) (.br (decide (x1.1≥0)) o1 o2)))))
theorem run (s0:ByteArray) (k1 n1:Int) (s1:ByteArray) (k2 n2:Int) (s2:ByteArray):runK 4 [(76,A76.spec)] [] 166 [.v (.string s0),.v (.agg #[.int .i64 k1,.int .i64 n1,.string s1]),.v (.agg #[.int .i64 k2,.int .i64 n2,.string s2])]=(T s0 k1 n1 s1 k2 n2 s2).eval:=by kernel_rfl
theorem qL (s:ByteArray) (a b:W3):(T s a.1 a.2.1 a.2.2 b.1 b.2.1 b.2.2).eval=some (vv (Ref.Vn s (A76.compare a.1 a.2.1 a.2.2 b.1 b.2.1 b.2.2))):=by
 unfold T Ref.Vn Ref.yI
 dsimp only[]
 simp only[GT.eval]
 generalize A76.compare a.1 a.2.1 a.2.2 b.1 b.2.1 b.2.2=p
 cases p.2
 ·rfl
 cases eqU s.data.toList [60]
 rotate_left
 ·cases decide (p.1<0)<;>rfl
 cases eqU s.data.toList [60,61]
 rotate_left
 ·cases decide (p.1≤0)<;>rfl
 cases eqU s.data.toList [62]
 rotate_left
 ·cases decide (p.1>0)<;>rfl
 cases decide (p.1≥0)<;>rfl
def spec:Spec:=fun aa=>match aa with
 |[.v (.string s),a,b]=>(vOf a).bind fun x=>(vOf b).bind fun y=>some (.out (vv (Ref.Vn s (A76.compare x.1 x.2.1 x.2.2 y.1 y.2.1 y.2.2))))
 |_=>none
theorem qf:qu Tryz.prog La 166 spec:=⟨qE (by kernel_rfl),fun aa t v h e=>by
 unfold spec at h
 split at h
 ·rename_i s a b
  obtain⟨x,h1,h⟩:=qi h
  obtain⟨y,h2,h⟩:=qi h
  cases h;cases e
  rw[qN h1,qN h2]
  exact⟨rfl,qR (n0:=4) (k:=12) qx qg qd (by simpa using A76.qf) (by simp) (by decide) (by simp) rfl ((run _ _ _ _ _ _ _).trans (qL s x y))⟩
 ·cases h⟩
end A166
namespace A95
def T (k0 n0:Int) (s0:ByteArray) (k1 n1:Int) (s1:ByteArray):GT Value:=let x1:=IntKind.wrap .i64 (Int.tdiv n1 10000);let x2:=IntKind.wrap .i64 (Int.tdiv n0 10000);let x5:=IntKind.wrap .i64 (x2 - 1);let x6:=IntKind.wrap .i64 (x1 - 1);let x7:=Int.tmod n1 10000;let x3:=IntKind.wrap .i64 (x7+10000);let x8:=Int.tmod n0 10000;let x4:=IntKind.wrap .i64 (x8+10000);let o1:GT Value:=(.out (.tuple #[.int .i64 (-1),.bool true]));let o2:GT Value:=(.out (.tuple #[.int .i64 1,.bool true]));let o3:GT Value:=(.out (.tuple #[.int .i64 0,.bool true]));let o4:GT Value:=(.br (decide (n0<n1)) o1 (.br (decide (n0>n1)) o2 o3));let o5:GT Value:=(.br (k0==2) (.br (k1==2) o4 (.br (decide (x7<0)) (.br (decide (n0<x6)) o1 (.br (decide (n0>x6)) o2 (.br (decide (0<x3)) o1 (.br (decide (0>x3)) o2 o3)))) (.br (decide (n0<x1)) o1 (.br (decide (n0>x1)) o2 (.br (decide (0<x7)) o1 (.br (decide (0>x7)) o2 o3)))))) (.br (decide (x8<0)) (.br (k1==2) (.br (decide (x5<n1)) o1 (.br (decide (x5>n1)) o2 (.br (decide (x4<0)) o1 (.br (decide (x4>0)) o2 o3)))) (.br (decide (x7<0)) (.br (decide (x5<x6)) o1 (.br (decide (x5>x6)) o2 (.br (decide (x4<x3)) o1 (.br (decide (x4>x3)) o2 o3)))) (.br (decide (x5<x1)) o1 (.br (decide (x5>x1)) o2 (.br (decide (x4<x7)) o1 (.br (decide (x4>x7)) o2 o3)))))) (.br (k1==2) (.br (decide (x2<n1)) o1 (.br (decide (x2>n1)) o2 (.br (decide (x8<0)) o1 (.br (decide (x8>0)) o2 o3)))) (.br (decide (x7<0)) (.br (decide (x2<x6)) o1 (.br (decide (x2>x6)) o2 (.br (decide (x8<x3)) o1 (.br (decide (x8>x3)) o2 o3)))) (.br (decide (x2<x1)) o1 (.br (decide (x2>x1)) o2 (.br (decide (x8<x7)) o1 (.br (decide (x8>x7)) o2 o3))))))));let o6:GT Value:=(.out (.tuple #[.int .i64 0,.bool false]));let o7:GT Value:=(.br (k0==1) (.br (k1==1) o4 o6) o6);let o8:GT Value:=(.br (k0==4) (.br (k1==4) (.br (ltU s0.data.toList s1.data.toList) o1 (.br (!(ltU s0.data.toList s1.data.toList||eqU s0.data.toList s1.data.toList)) o2 o3)) o7) o7);let o9:GT Value:=(.br (k1==2) o5 (.br (k1==3) o5 o8));(.br (k0==2) o9 (.br (k0==3) o9 o8))
theorem run (k0 n0:Int) (s0:ByteArray) (k1 n1:Int) (s1:ByteArray):runK 4 [] [] 95 [.v (.agg #[.int .i64 k0,.int .i64 n0,.string s0]),.v (.agg #[.int .i64 k1,.int .i64 n1,.string s1])]=(T k0 n0 s0 k1 n1 s1).eval:=by kernel_rfl
theorem J4 {α:Type} {p:Prop} [Decidable p] (h:p) (x y:α):(bif decide p then x else y)=x:=by rw[decide_eq_true h];rfl
theorem JS {α:Type} {p:Prop} [Decidable p] (h: ¬p) (x y:α):(bif decide p then x else y)=y:=by rw[decide_eq_false h];rfl
def tw (p:Int×Bool):Value:= .tuple #[.int .i64 p.1,.bool p.2]
def o (z:Int):Option Value:=some (.tuple ([.int .i64 z,.bool true]).toArray)
theorem Jg (w x f g:Int):(bif decide (w<x)then o (-1)else bif decide (w>x)then o 1 else bif decide (f<g)then o (-1)else bif decide (f>g)then o 1 else o 0)=some (tw (if A131.wW w x≠0 then A131.wW w x else A131.wW f g,true)):=by
 unfold A131.wW
 by_cases h1:w<x
 ·rw[decide_eq_true h1,if_pos h1];rfl
 ·rw [decide_eq_false h1, if_neg h1]
  by_cases h2:x<w
  ·rw[decide_eq_true (show w>x from h2),if_pos h2];rfl
  ·rw [decide_eq_false (show ¬ w > x from h2), if_neg h2]
   by_cases h3:f<g
   ·rw[decide_eq_true h3,if_pos h3];rfl
   ·rw [decide_eq_false h3, if_neg h3]
    by_cases h4:g<f
    ·rw[decide_eq_true (show f>g from h4),if_pos h4];rfl
    ·rw[decide_eq_false (show¬f>g from h4),if_neg h4];rfl
theorem tri: ∀(a b:List UInt8),ltU a b=false→ltU b a= !eqU a b
 |[],[],_=>rfl
 |[],_::_,h=>by cases h
 |_::_,[],_=>rfl
 |x::a,y::b,h=>by
  have e1:ltU (x::a) (y::b)=(Nat.blt x.toNat y.toNat||(Nat.beq x.toNat y.toNat&&ltU a b)):=rfl
  have e2:ltU (y::b) (x::a)=(Nat.blt y.toNat x.toNat||(Nat.beq y.toNat x.toNat&&ltU b a)):=rfl
  have e3:eqU (x::a) (y::b)=(Nat.beq x.toNat y.toNat&&eqU a b):=rfl
  rw[e1]at h
  rw[e2,e3]
  simp only[Bool.or_eq_false_iff]at h
  obtain⟨h1,h2⟩:=h
  have h1': ¬x.toNat<y.toNat:=fun hh=>by rw[show Nat.blt x.toNat y.toNat=true from by rw[Nat.blt_eq];exact hh]at h1;cases h1
  by_cases he:x.toNat=y.toNat
  ·have b1 : Nat.beq x.toNat y.toNat = true := by rw [he]; exact Nat.beq_refl _
   have b2:Nat.beq y.toNat x.toNat=true:=by rw[he];exact Nat.beq_refl _
   have b3:Nat.blt y.toNat x.toNat=false:=by
    cases hb:Nat.blt y.toNat x.toNat
    ·rfl
    ·rw[Nat.blt_eq]at hb;omega
   rw[b1,Bool.true_and]at h2
   rw[b1,b2,b3,tri a b h2];rfl
  ·have b1:Nat.beq x.toNat y.toNat=false:=by
    cases hb:Nat.beq x.toNat y.toNat
    ·rfl
    ·exact absurd (Nat.eq_of_beq_eq_true hb) he
   have b3:Nat.blt y.toNat x.toNat=true:=by rw[Nat.blt_eq];omega
   rw[b1,b3];rfl
theorem qL (k0 n0:Int) (s0:ByteArray) (k1 n1:Int) (s1:ByteArray):(T k0 n0 s0 k1 n1 s1).eval=some (tw (Ref.zx k0 n0 s0 k1 n1 s1)):=by
 have c22:((2:Int)==2)=true:=rfl
 have c23:((2:Int)==3)=false:=rfl
 have c32:((3:Int)==2)=false:=rfl
 have c33:((3:Int)==3)=true:=rfl
 have sp: ∀n:Int,Ref.kD 3 n=if n.tmod 10000<0 then(Ref.wr (Ref.wr (n.tdiv 10000) - 1),Ref.wr (n.tmod 10000+10000))else(Ref.wr (n.tdiv 10000),n.tmod 10000):=fun n=>by
  unfold Ref.kD;rw[if_neg (by decide)]
 have s2: ∀n:Int,Ref.kD 2 n=(n,0):=fun n=>by unfold Ref.kD;rw[if_pos rfl]
 have num: ∀a b:Int,Ref.isNum a=true→Ref.isNum b=true→Ref.zx a n0 s0 b n1 s1=(if A131.wW (Ref.kD a n0).1 (Ref.kD b n1).1≠0 then A131.wW (Ref.kD a n0).1 (Ref.kD b n1).1 else A131.wW (Ref.kD a n0).2 (Ref.kD b n1).2,true):=fun a b ha hb=>by
  unfold Ref.zx;rw[if_pos ⟨ha,hb⟩];rfl
 by_cases a2:k0=2
 ·subst a2
  by_cases b2:k1=2
  ·subst b2
   rw[num 2 2 rfl rfl,s2,s2]
   simp only[T,GT.eval,c22,cond_true]
   exact Jg n0 n1 0 0
  ·by_cases b3 : k1 = 3
   ·subst b3
    rw[num 2 3 rfl rfl,s2,sp]
    simp only[T,GT.eval,c22,c32,c33,cond_true,cond_false]
    by_cases h:n1.tmod 10000<0
    ·rw[if_pos h];refine(J4 h _ _).trans ?_;exact Jg n0 _ 0 _
    ·rw[if_neg h];refine(JS h _ _).trans ?_;exact Jg n0 _ 0 _
   ·unfold Ref.zx Ref.isNum
    simp[T,GT.eval,tw,b2,b3,beq_eq_false_iff_ne.2 b2,beq_eq_false_iff_ne.2 b3]
 by_cases a3:k0=3
 ·subst a3
  by_cases b2:k1=2
  ·subst b2
   rw[num 3 2 rfl rfl,s2,sp]
   simp only[T,GT.eval,c22,c32,c33,cond_true,cond_false]
   by_cases h:n0.tmod 10000<0
   ·rw[if_pos h];refine(J4 h _ _).trans ?_;exact Jg _ n1 _ 0
   ·rw[if_neg h];refine(JS h _ _).trans ?_;exact Jg _ n1 _ 0
  ·by_cases b3 : k1 = 3
   ·subst b3
    rw[num 3 3 rfl rfl,sp,sp]
    simp only[T,GT.eval,c22,c32,c33,cond_true,cond_false]
    by_cases h:n0.tmod 10000<0
    ·rw [if_pos h]; refine (J4 h _ _).trans ?_
     by_cases h2:n1.tmod 10000<0
     ·rw[if_pos h2];refine(J4 h2 _ _).trans ?_;exact Jg _ _ _ _
     ·rw[if_neg h2];refine(JS h2 _ _).trans ?_;exact Jg _ _ _ _
    ·rw [if_neg h]; refine (JS h _ _).trans ?_
     by_cases h2:n1.tmod 10000<0
     ·rw[if_pos h2];refine(J4 h2 _ _).trans ?_;exact Jg _ _ _ _
     ·rw[if_neg h2];refine(JS h2 _ _).trans ?_;exact Jg _ _ _ _
   ·unfold Ref.zx Ref.isNum
    simp[T,GT.eval,tw,b2,b3,beq_eq_false_iff_ne.2 b2,beq_eq_false_iff_ne.2 b3]
 have e2:=beq_eq_false_iff_ne.2 a2
 have e3:=beq_eq_false_iff_ne.2 a3
 have hn:Ref.isNum k0=false:=by unfold Ref.isNum;rw[e2,e3];rfl
 unfold Ref.zx
 rw[if_neg (by rw[hn];simp)]
 by_cases a4:k0=4
 ·subst a4
  by_cases b4:k1=4
  ·subst b4
   rw[if_pos ⟨rfl,rfl⟩]
   unfold Ref.YR
   cases h1:ltU s0.data.toList s1.data.toList
   ·rw [tri _ _ h1]
    cases h2:eqU s0.data.toList s1.data.toList<;>simp[T,GT.eval,tw,h1,h2]
   ·simp[T,GT.eval,tw,h1]
  ·simp[T,GT.eval,tw,b4,beq_eq_false_iff_ne.2 b4]
 by_cases a1:k0=1
 ·subst a1
  by_cases b1:k1=1
  ·subst b1
   rw[if_neg (by simp),if_pos ⟨rfl,rfl⟩]
   unfold A131.wW
   by_cases h1:n0<n1<;>by_cases h2:n1<n0<;>simp[T,GT.eval,tw,h1,h2]
  ·simp[T,GT.eval,tw,b1,beq_eq_false_iff_ne.2 b1]
 simp[T,GT.eval,tw,a4,a1,e2,e3,beq_eq_false_iff_ne.2 a4,beq_eq_false_iff_ne.2 a1]
def spec:Spec:=fun aa=>match aa with
 |[a,b]=>(vOf a).bind fun x=>(vOf b).bind fun y=>some (.out (.tuple #[.int .i64 (Ref.zx x.1 x.2.1 x.2.2 y.1 y.2.1 y.2.2).1,.bool (Ref.zx x.1 x.2.1 x.2.2 y.1 y.2.1 y.2.2).2]))
 |_=>none
theorem qf:qu Tryz.prog La 95 spec:=⟨qE (by kernel_rfl),fun aa t v h e=>by
 unfold spec at h
 split at h
 ·rename_i a b
  obtain⟨⟨k0,n0,s0⟩,h1,h⟩:=qi h
  obtain⟨⟨k1,n1,s1⟩,h2,h⟩:=qi h
  cases h;cases e
  rw[qN h1,qN h2]
  exact⟨rfl,qR (l:=[]) (L:=[]) (n0:=4) (k:=12) qx qg qd (by simp) (by simp) (by decide) (by simp) rfl ((run k0 n0 s0 k1 n1 s1).trans (qL _ _ _ _ _ _))⟩
 ·cases h⟩
end A95
namespace A40
def T (k0 n0:Int) (s0:ByteArray) (k1 n1:Int) (s1:ByteArray):GT Value:=let o1:GT Value:=(.out (.agg #[.int .i64 0,.int .i64 0,.string ⟨#[]⟩]));let o2:GT Value:=(.out (.agg #[.int .i64 1,.int .i64 0,.string ⟨#[]⟩]));(.br (k0==0) o1 (.br (k1==0) o1 (.br ((Ref.zx k0 n0 s0 k1 n1 s1).2) (.br ((Ref.zx k0 n0 s0 k1 n1 s1).1==0) (.out (.agg #[.int .i64 1,.int .i64 1,.string ⟨#[]⟩])) o2) o2)))
theorem run (k0 n0:Int) (s0:ByteArray) (k1 n1:Int) (s1:ByteArray):runK 4 [(95,A95.spec)] [] 40 [.v (.agg #[.int .i64 k0,.int .i64 n0,.string s0]),.v (.agg #[.int .i64 k1,.int .i64 n1,.string s1])]=(T k0 n0 s0 k1 n1 s1).eval:=by kernel_rfl
def eqK (a b:W3):Int:=bif a.1==0||b.1==0 then 0 else 1
def eqN (a b:W3):Int:=bif a.1==0||b.1==0 then 0 else bif(Ref.zx a.1 a.2.1 a.2.2 b.1 b.2.1 b.2.2).2&&(Ref.zx a.1 a.2.1 a.2.2 b.1 b.2.1 b.2.2).1==0 then 1 else 0
theorem qL (a b:W3):(T a.1 a.2.1 a.2.2 b.1 b.2.1 b.2.2).eval=some (.agg #[.int .i64 (eqK a b),.int .i64 (eqN a b),.string ⟨#[]⟩]):=by
 unfold eqK eqN T
 simp only[GT.eval]
 cases a.1==0<;>cases b.1==0<;>cases (Ref.zx a.1 a.2.1 a.2.2 b.1 b.2.1 b.2.2).2<;>cases (Ref.zx a.1 a.2.1 a.2.2 b.1 b.2.1 b.2.2).1==0<;>rfl
def spec:Spec:=fun aa=>match aa with
 |[a,b]=>(vOf a).bind fun x=>(vOf b).bind fun y=>some (.out (.agg #[.int .i64 (eqK x y),.int .i64 (eqN x y),.string ⟨#[]⟩]))
 |_=>none
theorem qf:qu Tryz.prog La 40 spec:=⟨qE (by kernel_rfl),fun aa t v h e=>by
 unfold spec at h
 split at h
 ·rename_i a b
  obtain⟨x,h1,h⟩:=qi h
  obtain⟨y,h2,h⟩:=qi h
  cases h;cases e
  rw[qN h1,qN h2]
  exact⟨rfl,qR (l:=[(95,A95.spec)]) (L:=[]) (n0:=4) (k:=12) qx qg qd (by simpa using A95.qf) (by simp) (by decide) (by simp) rfl ((run _ _ _ _ _ _).trans (qL _ _))⟩
 ·cases h⟩
end A40
namespace A97
def T (k0 n0:Int) (s0:ByteArray):GT Value:=let x1:=IntKind.wrap .i64 (n0*10000);let o1:GT Value:=(.out (.tuple #[.agg #[.int .i64 0,.int .i64 0,.string ⟨#[]⟩],.int .i64 0]));let o2:GT Value:=(.out (.tuple #[.agg #[.int .i64 0,.int .i64 0,.string ⟨#[]⟩],.int .i64 20]));let o3:GT Value:=(.br (k0==0) o1 (.br (k0==0) o1 (.br (k0==3) (.out (.tuple #[.agg #[.int .i64 3,.int .i64 n0,.string ⟨#[]⟩],.int .i64 0])) (.br (decide (n0≤922337203685477)) (.br (!decide (n0≥(-922337203685477))) o2 (.out (.tuple #[.agg #[.int .i64 3,.int .i64 x1,.string ⟨#[]⟩],.int .i64 0]))) o2))));let o4:GT Value:=(.out (.tuple #[.agg #[.int .i64 0,.int .i64 0,.string ⟨#[]⟩],.int .i64 22]));let o5:GT Value:=(.br (k0==2) o3 (.br (!(k0==3)) (.br (k0 != 0) o4 o3) o3));(.br (k0==2) o5 (.br (!(k0==3)) (.br (k0 != 0) o4 o5) o5))
theorem run (k0 n0:Int) (s0:ByteArray):runK 4 [] [] 97 [.v (.agg #[.int .i64 k0,.int .i64 n0,.string s0])]=(T k0 n0 s0).eval:=by kernel_rfl
theorem qL (k n:Int) (s:ByteArray):(T k n s).eval=some (ve (Ref.zQ k n)):=by
 unfold Ref.zQ
 by_cases h0:k=0
 ·subst h0;rfl
 by_cases h2:k=2
 ·subst h2
  by_cases a:n≤922337203685477<;>by_cases b:n≥ -922337203685477<;>simp[T,GT.eval,ve,vv,v0,a,b]
 by_cases h3:k=3
 ·subst h3;rfl
 simp[T,GT.eval,ve,vv,v0,h0,h2,h3,beq_eq_false_iff_ne.mpr h2,beq_eq_false_iff_ne.mpr h3,bne_iff_ne.mpr h0]
def spec:Spec:=fun aa=>match aa with
 |[a]=>(vOf a).bind fun x=>some (.out (ve (Ref.zQ x.1 x.2.1)))
 |_=>none
theorem qf:qu Tryz.prog La 97 spec:=⟨qE (by kernel_rfl),fun aa t v h e=>by
 unfold spec at h
 split at h
 ·rename_i a
  obtain⟨⟨k0,n0,s0⟩,h1,h⟩:=qi h
  cases h;cases e
  rw[qN h1]
  exact⟨rfl,qR (l:=[]) (L:=[]) (n0:=4) (k:=12) qx qg qd (by simp) (by simp) (by decide) (by simp) rfl ((run k0 n0 s0).trans (qL _ _ _))⟩
 ·cases h⟩
end A97
namespace A149
def T (k0 n0:Int) (s0:ByteArray) (k1 n1:Int) (s1:ByteArray) (b2:Bool):GT Value:=let o1:GT Value:=(.out (.tuple #[.int .i64 0,.bool true]));let o2:GT Value:=(.out (.tuple #[.int .i64 0,.bool false]));let o3:GT Value:=(.br (k0==0) o1 (.br (k1==0) o1 (.br b2 (.br (n1==0) (.out (.tuple #[.int .i64 21,.bool true])) o2) o2)));let o4:GT Value:=(.out (.tuple #[.int .i64 22,.bool true]));let o5:GT Value:=(.br (k1==2) o3 (.br (!(k1==3)) (.br (k1 != 0) o4 o3) o3));(.br (k0==2) o5 (.br (!(k0==3)) (.br (k0 != 0) o4 o5) o5))
theorem run (k0 n0:Int) (s0:ByteArray) (k1 n1:Int) (s1:ByteArray) (b2:Bool):runK 4 [] [] 149 [.v (.agg #[.int .i64 k0,.int .i64 n0,.string s0]),.v (.agg #[.int .i64 k1,.int .i64 n1,.string s1]),.v (.bool b2)]=(T k0 n0 s0 k1 n1 s1 b2).eval:=by kernel_rfl
theorem qL (a b:W3) (d:Bool):(T a.1 a.2.1 a.2.2 b.1 b.2.1 b.2.2 d).eval=some (.tuple #[.int .i64 (Ref.zq a.1 b.1 b.2.1 d).1,.bool (Ref.zq a.1 b.1 b.2.1 d).2]):=by
 obtain⟨k,n,s⟩:=a
 obtain⟨k',n',s'⟩:=b
 unfold T Ref.zq
 dsimp only[]
 simp only[GT.eval]
 rcases Ari.kinds k with rfl|rfl|rfl|⟨e1,e2,e3,e4,e5⟩<;>rcases Ari.kinds k' with rfl|rfl|rfl|⟨f1,f2,f3,f4,f5⟩<;>
  (try simp only[e1,e2,e3,e4,e5])<;>(try simp only[f1,f2,f3,f4,f5])<;>(try rfl)<;>(cases d<;>cases n'==0<;>rfl)
def spec:Spec:=fun aa=>match aa with
 |[a,b,.v (.bool d)]=>(vOf a).bind fun x=>(vOf b).bind fun y=>some (.out (.tuple #[.int .i64 (Ref.zq x.1 y.1 y.2.1 d).1,.bool (Ref.zq x.1 y.1 y.2.1 d).2]))
 |_=>none
theorem qf:qu Tryz.prog La 149 spec:=⟨qE (by kernel_rfl),fun aa t v h e=>by
 unfold spec at h
 split at h
 ·rename_i a b d
  obtain⟨x,h1,h⟩:=qi h
  obtain⟨y,h2,h⟩:=qi h
  cases h;cases e
  rw[qN h1,qN h2]
  exact⟨rfl,qR (l:=[]) (L:=[]) (n0:=4) (k:=12) qx qg qd (by simp) (by simp) (by decide) (by simp) rfl ((run _ _ _ _ _ _ _).trans (qL x y d))⟩
 ·cases h⟩
end A149
namespace ZU
def T (k0 n0:Int) (s0:ByteArray):GT Value:=let x1:=IntKind.wrap .i64 (n0*10000);(.br (k0==3) (.out (.tuple #[.int .i64 n0,.bool true])) (.br (decide (n0≤922337203685477)) (.out (.tuple #[.int .i64 x1,.bool (decide (n0≥(-922337203685477)))])) (.out (.tuple #[.int .i64 x1,.bool false]))))
theorem run (k0 n0:Int) (s0:ByteArray):runK 4 [] [] 150 [.v (.agg #[.int .i64 k0,.int .i64 n0,.string s0])]=(T k0 n0 s0).eval:=by kernel_rfl
theorem qL (v:W3):(T v.1 v.2.1 v.2.2).eval=some (.tuple #[.int .i64 (Ref.zp v.1 v.2.1).1,.bool (Ref.zp v.1 v.2.1).2]):=by
 unfold T Ref.zp
 simp only[GT.eval]
 cases v.1==3
 ·cases decide (v.2.1≤922337203685477)<;>rfl
 ·rfl
def spec:Spec:=fun aa=>match aa with
 |[a]=>(vOf a).bind fun x=>some (.out (.tuple #[.int .i64 (Ref.zp x.1 x.2.1).1,.bool (Ref.zp x.1 x.2.1).2]))
 |_=>none
theorem qf:qu Tryz.prog La 150 spec:=⟨qE (by kernel_rfl),fun aa t v h e=>by
 unfold spec at h
 split at h
 ·rename_i a
  obtain⟨x,h1,h⟩:=qi h
  cases h;cases e
  rw[qN h1]
  exact⟨rfl,qR (l:=[]) (L:=[]) (n0:=4) (k:=12) qx qg qd (by simp) (by simp) (by decide) (by simp) rfl ((run _ _ _).trans (qL x))⟩
 ·cases h⟩
end ZU
namespace A223
def T (a0:Int) (a1:Int):GT Value:=let x1:=IntKind.wrap .i64 (a0+a1);let o1:GT Value:=(.out (.tuple #[.int .i64 x1,.bool true]));let o2:GT Value:=(.br (decide (a0<0)) (.br (decide (a1<0)) (.out (.tuple #[.int .i64 x1,.bool (!decide (x1≥0))])) o1) o1);(.br (decide (a0>0)) (.br (decide (a1>0)) (.br (!decide (x1<0)) o2 (.out (.tuple #[.int .i64 x1,.bool false]))) o2) o2)
theorem run (a0:Int) (a1:Int):runK 4 [] [] 223 [.v (.int .i64 a0),.v (.int .i64 a1)]=(T a0 a1).eval:=by kernel_rfl
theorem qL (a b:Int):(T a b).eval=some (.tuple #[.int .i64 (Ref.Qj a b).1,.bool (Ref.Qj a b).2]):=by
 unfold T Ref.Qj
 simp only[GT.eval]
 generalize IntKind.wrap .i64 (a+b)=x
 cases decide (a>0)<;>cases decide (b>0)<;>cases decide (a<0)<;>cases decide (b<0)<;>cases decide (x<0)<;>cases decide (x≥0)<;>rfl
def spec:Spec:=fun aa=>match aa with
 |[.v (.int .i64 a),.v (.int .i64 b)]=>some (.out (.tuple #[.int .i64 (Ref.Qj a b).1,.bool (Ref.Qj a b).2]))
 |_=>none
theorem qf:qu Tryz.prog La 223 spec:=⟨qE (by kernel_rfl),fun aa t v h e=>by
 unfold spec at h
 split at h
 ·rename_i a b
  cases h;cases e
  exact⟨rfl,qR (l:=[]) (L:=[]) (n0:=4) (k:=12) qx qg qd (by simp) (by simp) (by decide) (by simp) rfl ((run _ _).trans (qL a b))⟩
 ·cases h⟩
end A223
namespace A198
def T (k0 n0:Int) (s0:ByteArray) (k1 n1:Int) (s1:ByteArray):GT Value:=let o1:GT Value:=(.out (.tuple #[.agg #[.int .i64 0,.int .i64 0,.string ⟨#[]⟩],.int .i64 20]));let o2:GT Value:=(.br ((Ref.zp k0 n0).2) (.br ((Ref.zp k1 n1).2) (.br (!(Ref.Qj (Ref.zp k0 n0).1 (Ref.zp k1 n1).1).2) o1 (.out (.tuple #[.agg #[.int .i64 3,.int .i64 (Ref.Qj (Ref.zp k0 n0).1 (Ref.zp k1 n1).1).1,.string ⟨#[]⟩],.int .i64 0]))) o1) o1);(.br ((Ref.zq k0 k1 n1 false).2) (.out (.tuple #[.agg #[.int .i64 0,.int .i64 0,.string ⟨#[]⟩],.int .i64 (Ref.zq k0 k1 n1 false).1])) (.br (k0==2) (.br (k1==2) (.br (!(Ref.Qj n0 n1).2) o1 (.out (.tuple #[.agg #[.int .i64 2,.int .i64 (Ref.Qj n0 n1).1,.string ⟨#[]⟩],.int .i64 0]))) o2) o2))
theorem run (k0 n0:Int) (s0:ByteArray) (k1 n1:Int) (s1:ByteArray):runK 4 [(149,A149.spec),(150,ZU.spec),(223,A223.spec)] [] 198 [.v (.agg #[.int .i64 k0,.int .i64 n0,.string s0]),.v (.agg #[.int .i64 k1,.int .i64 n1,.string s1])]=(T k0 n0 s0 k1 n1 s1).eval:=by kernel_rfl
theorem qL (a b:W3):(T a.1 a.2.1 a.2.2 b.1 b.2.1 b.2.2).eval=some (ve (Ari.xP Ref.Qj a b)):=by
 unfold T Ari.xP Ari.ofV
 dsimp only[]
 simp only[GT.eval]
 cases (Ref.zq a.1 b.1 b.2.1 false).2
 rotate_left
 ·rfl
 cases a.1==2<;>cases b.1==2<;>cases (Ref.zp a.1 a.2.1).2<;>cases (Ref.zp b.1 b.2.1).2<;>cases (Ref.Qj a.2.1 b.2.1).2<;>cases (Ref.Qj (Ref.zp a.1 a.2.1).1 (Ref.zp b.1 b.2.1).1).2<;>rfl
def spec:Spec:=fun aa=>match aa with
 |[a,b]=>(vOf a).bind fun x=>(vOf b).bind fun y=>some (.out (ve (Ari.xP Ref.Qj x y)))
 |_=>none
theorem qf:qu Tryz.prog La 198 spec:=⟨qE (by kernel_rfl),fun aa t v h e=>by
 unfold spec at h
 split at h
 ·rename_i a b
  obtain⟨x,h1,h⟩:=qi h
  obtain⟨y,h2,h⟩:=qi h
  cases h;cases e
  rw[qN h1,qN h2]
  exact⟨rfl,qR (n0:=4) (k:=12) qx qg qd (by simpa using⟨A149.qf,ZU.qf,A223.qf⟩) (by simp) (by decide) (by simp) rfl ((run _ _ _ _ _ _).trans (qL x y))⟩
 ·cases h⟩
end A198
namespace A225
def T (a0:Int) (a1:Int):GT Value:=let x1:=IntKind.wrap .i64 (a0 - a1);let o1:GT Value:=(.out (.tuple #[.int .i64 x1,.bool true]));let o2:GT Value:=(.br (decide (a0<0)) (.br (decide (a1>0)) (.out (.tuple #[.int .i64 x1,.bool (!decide (x1≥0))])) o1) o1);(.br (decide (a0≥0)) (.br (decide (a1<0)) (.br (!decide (x1<0)) o2 (.out (.tuple #[.int .i64 x1,.bool false]))) o2) o2)
theorem run (a0:Int) (a1:Int):runK 4 [] [] 225 [.v (.int .i64 a0),.v (.int .i64 a1)]=(T a0 a1).eval:=by kernel_rfl
theorem qL (a b:Int):(T a b).eval=some (.tuple #[.int .i64 (Ref.jJ a b).1,.bool (Ref.jJ a b).2]):=by
 unfold T Ref.jJ
 simp only[GT.eval]
 generalize IntKind.wrap .i64 (a - b)=x
 cases decide (a≥0)<;>cases decide (b<0)<;>cases decide (a<0)<;>cases decide (b>0)<;>cases decide (x<0)<;>cases decide (x≥0)<;>rfl
def spec:Spec:=fun aa=>match aa with
 |[.v (.int .i64 a),.v (.int .i64 b)]=>some (.out (.tuple #[.int .i64 (Ref.jJ a b).1,.bool (Ref.jJ a b).2]))
 |_=>none
theorem qf:qu Tryz.prog La 225 spec:=⟨qE (by kernel_rfl),fun aa t v h e=>by
 unfold spec at h
 split at h
 ·rename_i a b
  cases h;cases e
  exact⟨rfl,qR (l:=[]) (L:=[]) (n0:=4) (k:=12) qx qg qd (by simp) (by simp) (by decide) (by simp) rfl ((run _ _).trans (qL a b))⟩
 ·cases h⟩
end A225
namespace A199
def T (k0 n0:Int) (s0:ByteArray) (k1 n1:Int) (s1:ByteArray):GT Value:=let o1:GT Value:=(.out (.tuple #[.agg #[.int .i64 0,.int .i64 0,.string ⟨#[]⟩],.int .i64 20]));let o2:GT Value:=(.br ((Ref.zp k0 n0).2) (.br ((Ref.zp k1 n1).2) (.br (!(Ref.jJ (Ref.zp k0 n0).1 (Ref.zp k1 n1).1).2) o1 (.out (.tuple #[.agg #[.int .i64 3,.int .i64 (Ref.jJ (Ref.zp k0 n0).1 (Ref.zp k1 n1).1).1,.string ⟨#[]⟩],.int .i64 0]))) o1) o1);(.br ((Ref.zq k0 k1 n1 false).2) (.out (.tuple #[.agg #[.int .i64 0,.int .i64 0,.string ⟨#[]⟩],.int .i64 (Ref.zq k0 k1 n1 false).1])) (.br (k0==2) (.br (k1==2) (.br (!(Ref.jJ n0 n1).2) o1 (.out (.tuple #[.agg #[.int .i64 2,.int .i64 (Ref.jJ n0 n1).1,.string ⟨#[]⟩],.int .i64 0]))) o2) o2))
theorem run (k0 n0:Int) (s0:ByteArray) (k1 n1:Int) (s1:ByteArray):runK 4 [(149,A149.spec),(150,ZU.spec),(225,A225.spec)] [] 199 [.v (.agg #[.int .i64 k0,.int .i64 n0,.string s0]),.v (.agg #[.int .i64 k1,.int .i64 n1,.string s1])]=(T k0 n0 s0 k1 n1 s1).eval:=by kernel_rfl
theorem qL (a b:W3):(T a.1 a.2.1 a.2.2 b.1 b.2.1 b.2.2).eval=some (ve (Ari.xP Ref.jJ a b)):=by
 unfold T Ari.xP Ari.ofV
 dsimp only[]
 simp only[GT.eval]
 cases (Ref.zq a.1 b.1 b.2.1 false).2
 rotate_left
 ·rfl
 cases a.1==2<;>cases b.1==2<;>cases (Ref.zp a.1 a.2.1).2<;>cases (Ref.zp b.1 b.2.1).2<;>cases (Ref.jJ a.2.1 b.2.1).2<;>cases (Ref.jJ (Ref.zp a.1 a.2.1).1 (Ref.zp b.1 b.2.1).1).2<;>rfl
def spec:Spec:=fun aa=>match aa with
 |[a,b]=>(vOf a).bind fun x=>(vOf b).bind fun y=>some (.out (ve (Ari.xP Ref.jJ x y)))
 |_=>none
theorem qf:qu Tryz.prog La 199 spec:=⟨qE (by kernel_rfl),fun aa t v h e=>by
 unfold spec at h
 split at h
 ·rename_i a b
  obtain⟨x,h1,h⟩:=qi h
  obtain⟨y,h2,h⟩:=qi h
  cases h;cases e
  rw[qN h1,qN h2]
  exact⟨rfl,qR (n0:=4) (k:=12) qx qg qd (by simpa using⟨A149.qf,ZU.qf,A225.qf⟩) (by simp) (by decide) (by simp) rfl ((run _ _ _ _ _ _).trans (qL x y))⟩
 ·cases h⟩
end A199
namespace A202
def T (k0 n0:Int) (s0:ByteArray) (k1 n1:Int) (s1:ByteArray):GT Value:=let x1:=Int.tmod (Ref.zp k0 n0).1 (Ref.zp k1 n1).1;let o1:GT Value:=(.out (.tuple #[.agg #[.int .i64 0,.int .i64 0,.string ⟨#[]⟩],.int .i64 20]));let o2:GT Value:=(.br ((Ref.zp k0 n0).2) (.br (!(Ref.zp k1 n1).2) o1 (.br ((Ref.zp k1 n1).1 != (-1)) (.br (!decide ((Ref.zp k1 n1).1=0)) (.out (.tuple #[.agg #[.int .i64 3,.int .i64 x1,.string ⟨#[]⟩],.int .i64 0])) .no) (.out (.tuple #[.agg #[.int .i64 3,.int .i64 0,.string ⟨#[]⟩],.int .i64 0])))) o1);(.br ((Ref.zq k0 k1 n1 true).2) (.out (.tuple #[.agg #[.int .i64 0,.int .i64 0,.string ⟨#[]⟩],.int .i64 (Ref.zq k0 k1 n1 true).1])) (.br (k0==3) o2 (.br (k1==3) o2 (.br (n1 != (-1)) (.br (!decide (n1=0)) (.out (.tuple #[.agg #[.int .i64 2,.int .i64 (Int.tmod n0 n1),.string ⟨#[]⟩],.int .i64 0])) .no) (.out (.tuple #[.agg #[.int .i64 2,.int .i64 0,.string ⟨#[]⟩],.int .i64 0]))))))
theorem run (k0 n0:Int) (s0:ByteArray) (k1 n1:Int) (s1:ByteArray):runK 4 [(149,A149.spec),(150,ZU.spec)] [] 202 [.v (.agg #[.int .i64 k0,.int .i64 n0,.string s0]),.v (.agg #[.int .i64 k1,.int .i64 n1,.string s1])]=(T k0 n0 s0 k1 n1 s1).eval:=by kernel_rfl
theorem qL (a b:W3):(T a.1 a.2.1 a.2.2 b.1 b.2.1 b.2.2).eval=some (ve (Ari.QQ a b)):=by
 unfold T Ari.QQ
 dsimp only[]
 simp only[GT.eval]
 cases hf:(Ref.zq a.1 b.1 b.2.1 true).2
 rotate_left
 ·rfl
 have hn:=Ari.KA hf
 have hd:=Ari.Va (k:=b.1) hn
 simp only[cond_false,decide_eq_false hn,Bool.not_false,cond_true]
 generalize Ref.zp a.1 a.2.1=p at*
 generalize Ref.zp b.1 b.2.1=q at*
 obtain⟨x,ox⟩:=p
 obtain⟨y,oy⟩:=q
 dsimp only[]at hd ⊢
 cases oy
 ·unfold Ari.rem
  cases a.1==3<;>cases b.1==3<;>cases ox<;>cases b.2.1 != -1<;>rfl
 ·have hy := hd rfl
  simp only[decide_eq_false hy,Bool.not_false,cond_true,Bool.not_true,cond_false]
  unfold Ari.rem
  cases a.1==3<;>cases b.1==3<;>cases ox<;>cases b.2.1 != -1<;>cases y != -1<;>rfl
def spec:Spec:=fun aa=>match aa with
 |[a,b]=>(vOf a).bind fun x=>(vOf b).bind fun y=>some (.out (ve (Ari.QQ x y)))
 |_=>none
theorem qf:qu Tryz.prog La 202 spec:=⟨qE (by kernel_rfl),fun aa t v h e=>by
 unfold spec at h
 split at h
 ·rename_i a b
  obtain⟨x,h1,h⟩:=qi h
  obtain⟨y,h2,h⟩:=qi h
  cases h;cases e
  rw[qN h1,qN h2]
  exact⟨rfl,qR (n0:=4) (k:=12) qx qg qd (by simpa using⟨A149.qf,ZU.qf⟩) (by simp) (by decide) (by simp) rfl ((run _ _ _ _ _ _).trans (qL x y))⟩
 ·cases h⟩
end A202
end
section
open Go Go.Proofs
theorem qu.of {P:Program} {La:World→Prop} {f:FuncId} {sp sp':Spec} (h:qu P La f sp) (h': ∀aa t v,sp' aa=some t→t.eval=some v→ ∃t',sp aa=some t'∧t'.eval=some v):qu P La f sp':=
 ⟨h.1, fun aa t v e1 e2 => by
  obtain⟨t',a,b⟩:=h' aa t v e1 e2
  exact h.2 aa t' v a b⟩
def sp2 (g:W3→W3→Value):Spec:=fun aa=>match aa with
 |[a,b]=>(vOf a).bind fun x=>(vOf b).bind fun y=>some (.qI (inR x.2.1&&inR y.2.1) (.out (g x y)))
 |_=>none
theorem Zb {f:FuncId} {sp:Spec} {g:W3→W3→Value} (h:qu Tryz.prog La f sp) (h': ∀a b x y,vOf a=some x→vOf b=some y→inR x.2.1=true→inR y.2.1=true→ ∃t',sp [a,b]=some t'∧t'.eval=some (g x y)):qu Tryz.prog La f (sp2 g):=h.of fun aa t v e1 e2=>by
 unfold sp2 at e1
 split at e1
 ·rename_i a b
  obtain⟨x,h1,e1⟩:=qi e1
  obtain⟨y,h2,e1⟩:=qi e1
  cases e1
  obtain⟨g1,g2⟩:=GT.qh e2
  cases g2
  rw[Bool.and_eq_true]at g1
  exact h' a b x y h1 h2 g1.1 g1.2
 ·cases e1
namespace Ref
def Zq (a b:W3):Int:=bif a.1==0||b.1==0 then 0 else 1
def Qf (a b:W3):Int:=bif a.1==0||b.1==0 then 0 else bif(A76.compare a.1 a.2.1 a.2.2 b.1 b.2.1 b.2.2).2&&(A76.compare a.1 a.2.1 a.2.2 b.1 b.2.1 b.2.2).1==0 then 1 else 0
def eqW (a b:W3):Value:= .agg #[.int .i64 (Zq a b),.int .i64 (Qf a b),.string ⟨#[]⟩]
def oA (a b:W3):Value:= .tuple #[.int .i64 (A76.compare a.1 a.2.1 a.2.2 b.1 b.2.1 b.2.2).1,.bool (A76.compare a.1 a.2.1 a.2.2 b.1 b.2.1 b.2.2).2]
end Ref
theorem sN:qu Tryz.prog La 36 (sp2 Ref.eqW):=Zb A36.qf fun a b x y h1 h2 i1 i2=>by
 refine⟨_,by unfold A36.spec;simp only[h1,h2,Option.bind_some];rfl,?_⟩
 show some _=some _
 unfold A36.eqv Ref.eqW Ref.Zq Ref.Qf A36.V3'
 cases x.1==0||y.1==0<;>cases (A76.compare x.1 x.2.1 x.2.2 y.1 y.2.1 y.2.2).2&&(A76.compare x.1 x.2.1 x.2.2 y.1 y.2.1 y.2.2).1==0<;>rfl
theorem sc:qu Tryz.prog La 40 (sp2 Ref.eqW):=Zb A40.qf fun a b x y h1 h2 i1 i2=>by
 refine⟨_,by unfold A40.spec;simp only[h1,h2,Option.bind_some];rfl,?_⟩
 show some _=some _
 unfold A40.eqK A40.eqN Ref.eqW Ref.Zq Ref.Qf
 rw[Ref.xS i1 i2]
theorem oS:qu Tryz.prog La 95 (sp2 Ref.oA):=Zb A95.qf fun a b x y h1 h2 i1 i2=>by
 refine⟨_,by unfold A95.spec;simp only[h1,h2,Option.bind_some];rfl,?_⟩
 show some _=some _
 rw[Ref.xS i1 i2];rfl
theorem mV:qu Tryz.prog La 198 (sp2 fun x y=>ve (Ari.j6 Ari.Vr x y)):=Zb A198.qf fun a b x y h1 h2 i1 i2=>by
 refine⟨_,by unfold A198.spec;simp only[h1,h2,Option.bind_some];rfl,?_⟩
 show some _=some _
 rw[Ari.XS (fun _ _ h h'=>Ari.add_eq h h') i1 i2]
theorem nD:qu Tryz.prog La 199 (sp2 fun x y=>ve (Ari.j6 Ari.Vm x y)):=Zb A199.qf fun a b x y h1 h2 i1 i2=>by
 refine⟨_,by unfold A199.spec;simp only[h1,h2,Option.bind_some];rfl,?_⟩
 show some _=some _
 rw[Ari.XS (fun _ _ h h'=>Ari.sub_eq h h') i1 i2]
theorem lN:qu Tryz.prog La 202 (sp2 fun x y=>ve (Ari.ZR x y)):=Zb A202.qf fun a b x y h1 h2 i1 i2=>by
 refine⟨_,by unfold A202.spec;simp only[h1,h2,Option.bind_some];rfl,?_⟩
 show some _=some _
 rw[Ari.iC i1 i2]
def sp1 (g:W3→Value):Spec:=fun aa=>match aa with
 |[a]=>(vOf a).bind fun x=>some (.qI (inR x.2.1) (.out (g x)))
 |_=>none
theorem oH:qu Tryz.prog La 97 (sp1 fun x=>ve (A75.kl x.1 x.2.1)):=A97.qf.of fun aa t v e1 e2=>by
 unfold sp1 at e1
 split at e1
 ·rename_i a
  obtain⟨x,h1,e1⟩:=qi e1
  cases e1
  obtain⟨g1,g2⟩:=GT.qh e2
  cases g2
  refine⟨_,by unfold A97.spec;simp only[h1,Option.bind_some];rfl,?_⟩
  show some _=some _
  rw[Ref.jo g1]
 ·cases e1
end
end Go.Proofs.YtaiokpmmjbiajaaGreatDoorDx
namespace Go.Proofs.YtaiokpmmjbiajaaGreatDoorDx.Ari
section
open Go Go.Proofs Go.Proofs.YtaiokpmmjbiajaaGreatDoorDx.Fit
def xY (t:ByteArray) (a b:W3):W3×Int:=
 bif eqU t.data.toList [43]then j6 Vr a b else bif eqU t.data.toList [45]then j6 Vm a b else bif eqU t.data.toList [42]then Kk a b else bif eqU t.data.toList [47]then Kl a b else ZR a b
def wK (t:ByteArray) (a b:W3):W3×Int:=
 bif eqU t.data.toList [43]||(eqU t.data.toList [45]||(eqU t.data.toList [42]||(eqU t.data.toList [47]||eqU t.data.toList [37])))then xY t a b else
 bif eqU t.data.toList [61]then((Ref.Zq a b,Ref.Qf a b,⟨#[]⟩),0)else bif eqU t.data.toList [33,61]then(Ref.wi (Ref.Zq a b,Ref.Qf a b,⟨#[]⟩),0)else
 bif eqU t.data.toList [97,110,100]then(Ref.Zv a b,0)else bif eqU t.data.toList [111,114]then(Ref.orV a b,0)else
 (Ref.Vn t (A76.compare a.1 a.2.1 a.2.2 b.1 b.2.1 b.2.2),0)
def _root_.Go.Proofs.YtaiokpmmjbiajaaGreatDoorDx.yD (g:ByteArray→W3→W3→Value):Spec:=fun aa=>match aa with
 |[.v (.string t),a,b]=>(vOf a).bind fun x=>(vOf b).bind fun y=>some (.qI (inR x.2.1&&inR y.2.1) (.out (g t x y)))
 |_=>none
end
end Go.Proofs.YtaiokpmmjbiajaaGreatDoorDx.Ari
namespace Go.Proofs.YtaiokpmmjbiajaaGreatDoorDx
section
open Go Go.Proofs
namespace A110
def T (s0:ByteArray) (k1 n1:Int) (s1:ByteArray) (k2 n2:Int) (s2:ByteArray):GT Value:=let x1:=Ari.j6 Ari.Vm (k1,(n1,s1)) (k2,(n2,s2));let x2:=Ari.j6 Ari.Vr (k1,(n1,s1)) (k2,(n2,s2));let x3:=Ari.Kk (k1,(n1,s1)) (k2,(n2,s2));let x4:=Ari.ZR (k1,(n1,s1)) (k2,(n2,s2));let x5:=Ari.Kl (k1,(n1,s1)) (k2,(n2,s2));let x6:=A76.compare k1 n1 s1 k2 n2 s2;(.br (eqU s0.data.toList [43]) (.br ((inR n1)&&(inR n2)) (.out (.tuple #[.agg #[.int .i64 x2.1.1,.int .i64 x2.1.2.1,.string x2.1.2.2],.int .i64 x2.2])) .no) (.br (eqU s0.data.toList [45]) (.br ((inR n1)&&(inR n2)) (.out (.tuple #[.agg #[.int .i64 x1.1.1,.int .i64 x1.1.2.1,.string x1.1.2.2],.int .i64 x1.2])) .no) (.br (eqU s0.data.toList [42]) (.br ((inR n1)&&(inR n2)) (.out (.tuple #[.agg #[.int .i64 x3.1.1,.int .i64 x3.1.2.1,.string x3.1.2.2],.int .i64 x3.2])) .no) (.br (eqU s0.data.toList [47]) (.br ((inR n1)&&(inR n2)) (.out (.tuple #[.agg #[.int .i64 x5.1.1,.int .i64 x5.1.2.1,.string x5.1.2.2],.int .i64 x5.2])) .no) (.br (eqU s0.data.toList [37]) (.br ((inR n1)&&(inR n2)) (.out (.tuple #[.agg #[.int .i64 x4.1.1,.int .i64 x4.1.2.1,.string x4.1.2.2],.int .i64 x4.2])) .no) (.br (eqU s0.data.toList [61]) (.br ((inR n1)&&(inR n2)) (.out (.tuple #[.agg #[.int .i64 (Ref.Zq (k1,(n1,s1)) (k2,(n2,s2))),.int .i64 (Ref.Qf (k1,(n1,s1)) (k2,(n2,s2))),.string ⟨#[]⟩],.int .i64 0])) .no) (.br (eqU s0.data.toList [33,61]) (.br ((inR n1)&&(inR n2)) (.out (.tuple #[.agg #[.int .i64 (Ref.wi ((Ref.Zq (k1,(n1,s1)) (k2,(n2,s2))),((Ref.Qf (k1,(n1,s1)) (k2,(n2,s2))),⟨#[]⟩))).1,.int .i64 (Ref.wi ((Ref.Zq (k1,(n1,s1)) (k2,(n2,s2))),((Ref.Qf (k1,(n1,s1)) (k2,(n2,s2))),⟨#[]⟩))).2.1,.string (Ref.wi ((Ref.Zq (k1,(n1,s1)) (k2,(n2,s2))),((Ref.Qf (k1,(n1,s1)) (k2,(n2,s2))),⟨#[]⟩))).2.2],.int .i64 0])) .no) (.br (eqU s0.data.toList [97,110,100]) (.out (.tuple #[.agg #[.int .i64 (Ref.Zv (k1,(n1,s1)) (k2,(n2,s2))).1,.int .i64 (Ref.Zv (k1,(n1,s1)) (k2,(n2,s2))).2.1,.string (Ref.Zv (k1,(n1,s1)) (k2,(n2,s2))).2.2],.int .i64 0])) (.br (eqU s0.data.toList [111,114]) (.out (.tuple #[.agg #[.int .i64 (Ref.orV (k1,(n1,s1)) (k2,(n2,s2))).1,.int .i64 (Ref.orV (k1,(n1,s1)) (k2,(n2,s2))).2.1,.string (Ref.orV (k1,(n1,s1)) (k2,(n2,s2))).2.2],.int .i64 0])) (.out (.tuple #[.agg #[.int .i64 (Ref.Vn s0 x6).1,.int .i64 (Ref.Vn s0 x6).2.1,.string (Ref.Vn s0 x6).2.2],.int .i64 0])))))))))))
theorem run (s0:ByteArray) (k1 n1:Int) (s1:ByteArray) (k2 n2:Int) (s2:ByteArray):runK 4 [(159,A159.spec),(160,A160.spec),(161,A161.spec),(162,A162.spec),(163,A163.spec),(36,sp2 Ref.eqW),(109,A109.spec),(164,A164.spec),(165,A165.spec),(166,A166.spec)] [] 110 [.v (.string s0),.v (.agg #[.int .i64 k1,.int .i64 n1,.string s1]),.v (.agg #[.int .i64 k2,.int .i64 n2,.string s2])]=(T s0 k1 n1 s1 k2 n2 s2).eval:=by kernel_rfl
theorem qL (t:ByteArray) (a b:W3) (ha:inR a.2.1=true) (hb:inR b.2.1=true):(T t a.1 a.2.1 a.2.2 b.1 b.2.1 b.2.2).eval=some (ve (Ari.wK t a b)):=by
 unfold T Ari.wK Ari.xY
 simp only[GT.eval,ha,hb]
 cases eqU t.data.toList [43]
 rotate_left
 ·rfl
 cases eqU t.data.toList [45]
 rotate_left
 ·rfl
 cases eqU t.data.toList [42]
 rotate_left
 ·rfl
 cases eqU t.data.toList [47]
 rotate_left
 ·rfl
 cases eqU t.data.toList [37]
 rotate_left
 ·rfl
 cases eqU t.data.toList [61]
 rotate_left
 ·rfl
 cases eqU t.data.toList [33,61]
 rotate_left
 ·rfl
 cases eqU t.data.toList [97,110,100]
 rotate_left
 ·rfl
 cases eqU t.data.toList [111,114]
 rotate_left
 ·rfl
 rfl
theorem qf:qu Tryz.prog La 110 (yD fun t x y=>ve (Ari.wK t x y)):=⟨qE (by kernel_rfl),fun aa t v h e=>by
 unfold yD at h
 split at h
 ·rename_i s a b
  obtain⟨x,h1,h⟩:=qi h
  obtain⟨y,h2,h⟩:=qi h
  cases h
  obtain⟨g1,g2⟩:=GT.qh e
  cases g2
  rw[Bool.and_eq_true]at g1
  rw[qN h1,qN h2]
  exact⟨rfl,qR (n0:=4) (k:=12) qx qg qd (by simpa using⟨A159.qf,A160.qf,A161.qf,A162.qf,A163.qf,sN,A109.qf,A164.qf,A165.qf,A166.qf⟩) (by simp) (by decide) (by simp) rfl ((run _ _ _ _ _ _ _).trans (qL s x y g1.1 g1.2))⟩
 ·cases h⟩
end A110
end
section
open Go Go.Proofs
theorem qu.to {P:Program} {La:World→Prop} {f:FuncId} {sp sp':Spec} (h:qu P La f sp) (e: ∀aa t' v,sp' aa=some t'→t'.eval=some v→ ∃t,sp aa=some t∧t.eval=some v):qu P La f sp':=
 ⟨h.1, fun aa t' v h1 h2 => by
  obtain⟨t,h3,h4⟩:=e aa t' v h1 h2
  exact h.2 aa t v h3 h4⟩
def KF:Spec:=fun aa=>match aa with
 |[.v (.string s),.v (.int .u8 a),.v (.int .u8 b),.v (.int .i64 d)]=>some (.qI (Nat.ble s.data.toList.length 9223372036854775807&&(decide (-1000≤d)&&decide (d≤1000))) (.out (.string (_root_.Go.Proofs.YtaiokpmmjbiajaaGreatDoorTxt.wH a b d s))))
 |_=>none
def Ku:Spec:=fun aa=>match aa with
 |[.v (.string s),.v (.int .i64 a),.v (.int .i64 b)]=>some (.qI (Nat.ble s.data.toList.length 70368744177664&&(inR a&&inR b)) (.out (.string (_root_.Go.Proofs.YtaiokpmmjbiajaaGreatDoorTxt.jS s a b))))
 |_=>none
def Ks:Spec:=fun aa=>match aa with
 |[a]=>(vOf a).bind fun x=>some (.qI (Nat.ble x.2.2.data.toList.length 9223372036854775807&&inR x.2.1) (.out (.string (Fit.j8 x.1 x.2.1 x.2.2))))
 |_=>none
namespace A83
def rc (s:ByteArray):Int:=Int.ofNat (Lib.runeCount s)
def spec:Spec:=fun aa=>match aa with
 |[.v (.string a)]=>some (.qI (Nat.blt a.data.toList.length 9223372036854775807) (.out (.int .i64 (rc a))))
 |_=>none
theorem qf:qu Tryz.prog La 83 spec:=aL.to fun aa t' v h1 h2=>by
 unfold spec at h1
 split at h1
 ·cases h1;exact⟨_,rfl,h2⟩
 ·cases h1
end A83
namespace A80
theorem Yh (s:ByteArray) (k n:Int) (t:ByteArray):jw s k n t=ve (Fit.yX s (k,n,t)):=by
 unfold jw Fit.yX
 cases h:k==2
 ·rfl
 ·rfl
def wQ:Spec:=fun aa=>match aa with
 |[.v (.string s),a]=>(vOf a).bind fun x=>some (.out (ve (Fit.yX s x)))
 |_=>none
theorem wa:qu Tryz.prog La 80 wQ:=qf.to fun aa t' v h1 h2=>by
 unfold wQ at h1
 split at h1
 ·rename_i s a
  obtain⟨x,h3,h4⟩:=qi h1
  cases h4
  refine⟨.out (jw s x.1 x.2.1 x.2.2),?_,?_⟩
  ·show ((vOf a).bind fun x => some (GT.out (jw s x.1 x.2.1 x.2.2))) = _
   rw[h3];rfl
  ·rw[Yh];exact h2
 ·cases h1
end A80
namespace A34
theorem bG (s:ByteArray) (l:List W3):xX s l=ve (Fit.kn s l):=by
 unfold xX Fit.kn
 cases h:(jc s l).1 != 0<;>rfl
def wQ:Spec:=fun aa=>match aa with
 |[.v (.string s),.sl n 3 cs]=>some (.qI (wo n (Int.ofNat n) cs&&(qj cs).all (fun v=>inR v.2.1)) (.out (ve (Fit.kn s (qj cs)))))
 |_=>none
theorem wa:qu Tryz.prog La 34 wQ:=qf.to fun aa t' v h1 h2=>by
 unfold wQ at h1
 split at h1
 ·rename_i s n cs
  cases h1
  rw[←bG]at h2
  exact⟨_,rfl,h2⟩
 ·cases h1
end A34
namespace A36
def eqK (a b:W3):Int:=bif a.1==0||b.1==0 then 0 else 1
def eqN (a b:W3):Int:=bif a.1==0||b.1==0 then 0 else bif(A76.compare a.1 a.2.1 a.2.2 b.1 b.2.1 b.2.2).2&&(A76.compare a.1 a.2.1 a.2.2 b.1 b.2.1 b.2.2).1==0 then 1 else 0
theorem nV (a b:W3):eqv a.1 a.2.1 a.2.2 b.1 b.2.1 b.2.2= .agg #[.int .i64 (eqK a b),.int .i64 (eqN a b),.string ⟨#[]⟩]:=by
 unfold eqv eqK eqN
 cases a.1==0||b.1==0
 ·cases (A76.compare a.1 a.2.1 a.2.2 b.1 b.2.1 b.2.2).2&&(A76.compare a.1 a.2.1 a.2.2 b.1 b.2.1 b.2.2).1==0<;>rfl
 ·rfl
def wQ:Spec:=fun aa=>match aa with
 |[a,b]=>(vOf a).bind fun x=>(vOf b).bind fun y=>some (.out (.agg #[.int .i64 (eqK x y),.int .i64 (eqN x y),.string ⟨#[]⟩]))
 |_=>none
theorem wa:qu Tryz.prog La 36 wQ:=qf.to fun aa t' v h1 h2=>by
 unfold wQ at h1
 split at h1
 ·rename_i a b
  obtain⟨x,h3,h1⟩:=qi h1
  obtain⟨y,h4,h1⟩:=qi h1
  cases h1
  refine⟨.out (eqv x.1 x.2.1 x.2.2 y.1 y.2.1 y.2.2),?_,?_⟩
  ·show ((vOf a).bind fun x => (vOf b).bind fun y => some (GT.out (eqv x.1 x.2.1 x.2.2 y.1 y.2.1 y.2.2))) = _
   rw[h3,h4];rfl
  ·rw[nV];exact h2
 ·cases h1
end A36
namespace A14
def wQ:Spec:=fun aa=>match aa with
 |[.v (.string s),.sl n 1 cs]=>some (.qI (vO n (Int.ofNat n) cs) (.out (Fit.two (Fit.kA s (cs.map kX)))))
 |[.v (.string s),.nil]=>some (.out (Fit.two (0,100)))
 |_=>none
theorem wa:qu Tryz.prog La 14 wQ:=qf.to fun aa t' v h1 h2=>by
 unfold wQ at h1
 split at h1
 ·cases h1
  rw[←Fit.VG]at h2
  exact⟨_,rfl,h2⟩
 ·cases h1
  exact⟨_,rfl,h2⟩
 ·cases h1
end A14
end
section
open Go Go.Proofs
open Go.Proofs.YtaiokpmmjbiajaaGreatDoor.PLeaf
theorem vK (s:ByteArray):s.data.toList.length=s.size:=by rw[Array.length_toList];rfl
theorem pw:qu Tryz.prog La 85 KF:=vF (by kernel_rfl) fun aa t v h e=>by
 unfold KF at h
 split at h
 ·rename_i s a b d
  cases h
  obtain⟨g1,g2⟩:=GT.qh e
  cases g2
  simp only[Bool.and_eq_true,decide_eq_true_eq,Nat.ble_eq,vK]at g1
  refine⟨[.string s,.int .u8 a,.int .u8 b,.int .i64 d],rfl,rfl,fun W hW=>qO.calls s a b d (_root_.Go.Proofs.YtaiokpmmjbiajaaGreatDoorTxt.wH a b d s) W ?_⟩
  unfold qO.f
  rw[if_pos g1.1,if_pos g1.2.1,if_pos g1.2.2]
  rfl
 ·cases h
theorem oB:qu Tryz.prog La 87 Ku:=vF (by kernel_rfl) fun aa t v h e=>by
 unfold Ku at h
 split at h
 ·rename_i s a b
  cases h
  obtain⟨g1,g2⟩:=GT.qh e
  cases g2
  simp only[Bool.and_eq_true,inR,decide_eq_true_eq,Nat.ble_eq,vK]at g1
  obtain⟨h1,⟨h2,h3⟩,h4,h5⟩:=g1
  refine⟨[.string s,.int .i64 a,.int .i64 b],rfl,rfl,fun W hW=>qH.calls s a b (_root_.Go.Proofs.YtaiokpmmjbiajaaGreatDoorTxt.jS s a b) W ?_⟩
  have e2: ∀(n i:Nat),qH.pts s n i=_root_.Go.Proofs.YtaiokpmmjbiajaaGreatDoorTxt.pts s n i:=by
   intro n
   induction n with
   |zero=>intro i;rfl
   |succ n ih=>intro i;unfold qH.pts _root_.Go.Proofs.YtaiokpmmjbiajaaGreatDoorTxt.pts;rw[ih]
  unfold qH.f
  rw[if_pos h1,if_pos h2,if_pos (by omega),if_pos h4,if_pos (by omega)]
  unfold qH.g _root_.Go.Proofs.YtaiokpmmjbiajaaGreatDoorTxt.jS
  rw[e2];rfl
 ·cases h
theorem gF (k n:Int) (s:ByteArray) (hs:s.size≤9223372036854775807):ku.f k n s=some (if A33.okv k n s=true then 0 else 1):=by
 have he:eqU s.data.toList []=decide (s.size=0):=by
  rw[←vK]
  cases s.data.toList<;>rfl
 unfold ku.f A33.okv
 rw[he]
 by_cases h0:k=0
 ·subst h0;simp
 by_cases h1:k=1
 ·subst h1;simp
 by_cases h2:k=2
 ·subst h2;simp
 by_cases h3:k=3
 ·subst h3;simp
 by_cases h4:k=4
 ·subst h4;simp[hs,and_assoc,vK]
 ·simp[h0,h1,h2,h3,h4]
def vM:List UInt8→List UInt8
 |[]=>[]
 |b::l=>if b=39 then 39::39::vM l else b::vM l
theorem yK: ∀s:List UInt8,Lib.replaceK [39] [39,39] (Lib.count s [39]) s=vM s
 |[]=>rfl
 |b::l=>by
  have ih:=yK l
  by_cases hb:b=39
  ·subst hb
   have hi:Lib.index (39::l) [39]=(0:Nat):=by simp[Lib.index]
   rw[Lib.count_hit (by simp) hi,Nat.add_comm,Lib.replaceK_hit _ _ _ _ 0 hi]
   simp only[List.length_singleton,Nat.zero_add,List.drop_succ_cons,List.drop_zero,List.take_zero,List.nil_append]
   rw[ih,vM,if_pos rfl]
   rfl
  ·have hp : ([39] : List UInt8).isPrefixOf (b :: l) = false := by simp [List.isPrefixOf]; exact fun e => hb e.symm
   rw[vM,if_neg hb]
   by_cases hl:Lib.index l [39]= -1
   ·have hi : Lib.index (b :: l) [39] = -1 := by rw [Lib.index, hp, hl]; rfl
    rw[Lib.count_miss hi]
    rw[Lib.count_miss hl]at ih
    rw[←ih]
    rfl
   ·have hge := Lib.index_ge l [39]
    obtain⟨i,hi⟩: ∃i:Nat,Lib.index l [39]=i:=⟨(Lib.index l [39]).toNat,by omega⟩
    have hi':Lib.index (b::l) [39]=((i+1:Nat):Int):=by
     rw[Lib.index,hp,hi]
     have: ¬((i:Int)== -1)=true:=fun e=>by have:=beq_iff_eq.1 e;omega
     rw[if_neg this]
     simp
    rw[Lib.count_hit (by simp) hi',Nat.add_comm,Lib.replaceK_hit _ _ _ _ _ hi']
    rw[Lib.count_hit (by simp) hi,Nat.add_comm,Lib.replaceK_hit _ _ _ _ _ hi]at ih
    rw[←ih]
    simp[Nat.add_assoc]
theorem wR (s:List UInt8):Lib.replaceAll s [39] [39,39]=vM s:=by
 unfold Lib.replaceAll Lib.replace Lib.replaceNum
 rw[if_neg (by decide),if_pos (.inl (by decide))]
 exact yK s
theorem K5: ∀s,(vM s).length≤2*s.length
 |[]=>by simp[vM]
 |b::l=>by
  have:=K5 l
  unfold vM
  split<;>simp<;>omega
theorem mQ (k n:Int) (s:ByteArray) (hs:s.size≤9223372036854775807) (hn:inR n=true):wY.f k n s=some (Fit.j8 k n s):=by
 unfold inR at hn
 simp only[Bool.and_eq_true,decide_eq_true_eq]at hn
 unfold wY.f Fit.j8 Fit.Yk
 rw[gF k n s hs,Option.bind_some]
 cases ho:A33.okv k n s
 ·simp
 ·simp only [if_true, Bool.not_true, cond_false]
  by_cases h1:k=1
  ·subst h1
   by_cases h:n=1
   ·subst h;rfl
   ·simp[h,beq_eq_false_iff_ne.2 h]
  by_cases h2:k=2
  ·subst h2
   simp[strconv_Itoa.f,hn.1,show n≤9223372036854775807 by omega]
  by_cases h3:k=3
  ·subst h3
   simp[qB.f,hn.1,show n≤9223372036854775807 by omega]
   rfl
  by_cases h4:k=4
  ·subst h4
   obtain⟨_,h5,h6⟩:=Fit.Zn ho
   rw[vK]at h5
   have hq:=K5 s.data.toList
   rw[vK]at hq
   have hc:=Lib.count_le s.data.toList [39]
   rw[vK]at hc
   have hrep:strings_ReplaceAll.f s ⟨#[39]⟩ ⟨#[39,39]⟩=some ⟨(vM s.data.toList).toArray⟩:=by
    unfold strings_ReplaceAll.f
    have s1:(⟨#[39]⟩:ByteArray).size=1:=rfl
    have s2:(⟨#[39,39]⟩:ByteArray).size=2:=rfl
    rw[if_pos (by omega),s1,if_pos (by omega),s2,if_pos (by show s.size+Lib.count s.data.toList [39]*2≤_;omega)]
    show some (⟨(Lib.replaceAll s.data.toList [39] [39,39]).toArray⟩:ByteArray)=_
    rw[wR]
   have hqs:(⟨(vM s.data.toList).toArray⟩:ByteArray).size=(vM s.data.toList).length:=by simp[ByteArray.size]
   simp only[hrep,Option.bind_some]
   rw[if_neg (by decide),if_neg (by decide),if_neg (by decide),if_pos (by decide),if_pos (by rw[hqs];omega)]
   refine congrArg some (WideShapes.bytes_inj ?_)
   rw[wR]
   simp
  have h0:k=0:=by
   unfold A33.okv at ho
   by_cases h0:k=0
   ·exact h0
   ·simp[beq_eq_false_iff_ne.2 h0,beq_eq_false_iff_ne.2 h1,beq_eq_false_iff_ne.2 h2,beq_eq_false_iff_ne.2 h3,beq_eq_false_iff_ne.2 h4]at ho
  subst h0
  rfl
def K0:Spec:=fun aa=>match aa with
 |[a]=>(vOf a).bind fun x=>some (.out (.bool (A33.okv x.1 x.2.1 x.2.2)))
 |_=>none
theorem eg (k n:Int) (s:ByteArray):YtaiokpmmjbiajaaGreatDoor.Pure.okB k n s=A33.okv k n s:=by
 have he:eqU s.data.toList []=decide (s.size=0):=by
  rw[←vK]
  cases s.data.toList<;>rfl
 unfold YtaiokpmmjbiajaaGreatDoor.Pure.okB A33.okv
 rw[he]
 have hd: ∀a b:Int,(a==b)=decide (a=b):=fun a b=>by
  by_cases h:a=b
  ·rw[decide_eq_true h,beq_iff_eq.2 h]
  ·rw[decide_eq_false h,beq_eq_false_iff_ne.2 h]
 by_cases h0:k=0
 ·subst h0;simp[hd]
 by_cases h1:k=1
 ·subst h1;simp[hd]
 by_cases h2:k=2
 ·subst h2;simp
 by_cases h3:k=3
 ·subst h3;simp
 by_cases h4:k=4
 ·subst h4;simp[vK,Bool.and_assoc,hd]
 ·simp[h0,h1,h2,h3,h4]
theorem lS:qu Tryz.prog La 15 K0:=vF (by kernel_rfl) fun aa t v h e=>by
 unfold K0 at h
 split at h
 ·rename_i a
  obtain⟨⟨k0,n0,s0⟩,h1,h⟩:=qi h
  cases h;cases e
  rw[qN h1]
  refine⟨[.agg #[.int .i64 k0,.int .i64 n0,.string s0]],rfl,rfl,fun W hW=>qp.calls 9301 k0 n0 s0 (A33.okv k0 n0 s0) W ?_⟩
  rw[←eg]
  exact YtaiokpmmjbiajaaGreatDoor.Pure.XI 0 k0 n0 s0
 ·cases h
theorem oL:qu Tryz.prog La 88 Ks:=vF (by kernel_rfl) fun aa t v h e=>by
 unfold Ks at h
 split at h
 ·rename_i a
  obtain⟨⟨k0,n0,s0⟩,h1,h⟩:=qi h
  cases h
  obtain⟨g1,g2⟩:=GT.qh e
  cases g2
  simp only[Bool.and_eq_true,Nat.ble_eq,vK]at g1
  rw[qN h1]
  exact⟨[.agg #[.int .i64 k0,.int .i64 n0,.string s0]],rfl,rfl,fun W hW=>wY.calls k0 n0 s0 (Fit.j8 k0 n0 s0) W hW (mQ k0 n0 s0 g1.1 g1.2)⟩
 ·cases h
end
section
open Go Go.Proofs
namespace A37
def T (s0:ByteArray) (m1:Nat) (c1:List Value):GT Value:=let x2:=A82.WA (rdI c1 0) (rdI c1 1);let x3:=A79.xi (rdI c1 0) (rdI c1 1);let x4:=A75.kl (rdI c1 0) (rdI c1 1);let x5:=Go.Lib.trimB (rdS c1 2).data.toList (32:UInt8);let x6:=A37L0.cat (qj c1);let o1:GT Value:=(.out (.tuple #[.agg #[.int .i64 (rdI c1 0),.int .i64 (rdI c1 1),.string (rdS c1 2)],.int .i64 0]));let o2:GT Value:=(.out (.tuple #[.agg #[.int .i64 (Fit.yX s0 (rdI c1 0,rdI c1 1,rdS c1 2)).1.1,.int .i64 (Fit.yX s0 (rdI c1 0,rdI c1 1,rdS c1 2)).1.2.1,.string (Fit.yX s0 (rdI c1 0,rdI c1 1,rdS c1 2)).1.2.2],.int .i64 (Fit.yX s0 (rdI c1 0,rdI c1 1,rdS c1 2)).2]));let o3:GT Value:=(.br (([(true,AA.v (.string s0)),((fun(cs:List Value)=>((0+m1*3).ble cs.length&&(List.take (m1*3) (List.drop 0 cs)).all qo,AA.sl m1 3 (List.take (m1*3) (List.drop 0 cs)))) c1)]).all fun x=>x.fst) (.br ((decide ((Int.ofNat m1)=(Int.ofNat m1))&&((kR (List.take (m1*3) (List.drop 0 c1)))&&(Nat.beq ((c1.drop 0).take (m1*3)).length (m1*3)&&Nat.blt m1 4398046511104)))&&(qj (List.take (m1*3) (List.drop 0 c1))).all fun v=>inR v.snd.fst) (.out (.tuple #[.agg #[.int .i64 (Fit.kn s0 (qj (List.take (m1*3) (List.drop 0 c1)))).1.1,.int .i64 (Fit.kn s0 (qj (List.take (m1*3) (List.drop 0 c1)))).1.2.1,.string (Fit.kn s0 (qj (List.take (m1*3) (List.drop 0 c1)))).1.2.2],.int .i64 (Fit.kn s0 (qj (List.take (m1*3) (List.drop 0 c1)))).2])) .no) .no);let o4:GT Value:=(.out (.tuple #[.agg #[.int .i64 0,.int .i64 0,.string ⟨#[]⟩],.int .i64 20]));(.br (Nat.blt 0 m1) (.br (isL c1 0 [(.i .i64),(.i .i64),.s]) (.br (eqU s0.data.toList [97,98,115]) (.br (decide ((rdI c1 1)<0)) (.out (.tuple #[.agg #[.int .i64 x3.1.1,.int .i64 x3.1.2.1,.string x3.1.2.2],.int .i64 x3.2])) o1) (.br (eqU s0.data.toList [99,101,105,108]) o2 (.br (eqU s0.data.toList [102,108,111,111,114]) o2 (.br (eqU s0.data.toList [114,111,117,110,100]) o2 (.br (eqU s0.data.toList [115,105,103,110]) (.br (decide ((rdI c1 1)<0)) (.out (.tuple #[.agg #[.int .i64 2,.int .i64 (-1),.string ⟨#[]⟩],.int .i64 0])) (.br (decide ((rdI c1 1)>0)) (.out (.tuple #[.agg #[.int .i64 2,.int .i64 1,.string ⟨#[]⟩],.int .i64 0])) (.out (.tuple #[.agg #[.int .i64 2,.int .i64 0,.string ⟨#[]⟩],.int .i64 0])))) (.br (eqU s0.data.toList [116,111,105,110,116]) (.out (.tuple #[.agg #[.int .i64 x2.1.1,.int .i64 x2.1.2.1,.string x2.1.2.2],.int .i64 x2.2])) (.br (eqU s0.data.toList [116,111,100,101,99]) (.br (inR (rdI c1 1)) (.out (.tuple #[.agg #[.int .i64 x4.1.1,.int .i64 x4.1.2.1,.string x4.1.2.2],.int .i64 x4.2])) .no) (.br (eqU s0.data.toList [103,114,101,97,116,101,115,116]) o3 (.br (eqU s0.data.toList [108,101,97,115,116]) o3 (.br (eqU s0.data.toList [108,101,110,103,116,104]) (.br (Nat.blt ((rdS c1 2).data.toList).length 9223372036854775807) (.out (.tuple #[.agg #[.int .i64 2,.int .i64 (A83.rc (rdS c1 2)),.string ⟨#[]⟩],.int .i64 0])) .no) (.br (eqU s0.data.toList [108,111,119,101,114]) (.br (Nat.ble ((rdS c1 2).data.toList).length 9223372036854775807&&true) (.br (decide ((Int.ofNat ((Go.Proofs.YtaiokpmmjbiajaaGreatDoorTxt.wH 65 90 32 (rdS c1 2)).data.toList).length)>1024)) o4 (.out (.tuple #[.agg #[.int .i64 4,.int .i64 0,.string (Go.Proofs.YtaiokpmmjbiajaaGreatDoorTxt.wH 65 90 32 (rdS c1 2))],.int .i64 0]))) .no) (.br (eqU s0.data.toList [117,112,112,101,114]) (.br (Nat.ble ((rdS c1 2).data.toList).length 9223372036854775807&&true) (.br (decide ((Int.ofNat ((Go.Proofs.YtaiokpmmjbiajaaGreatDoorTxt.wH 97 122 (-32) (rdS c1 2)).data.toList).length)>1024)) o4 (.out (.tuple #[.agg #[.int .i64 4,.int .i64 0,.string (Go.Proofs.YtaiokpmmjbiajaaGreatDoorTxt.wH 97 122 (-32) (rdS c1 2))],.int .i64 0]))) .no) (.br (eqU s0.data.toList [116,114,105,109]) (.br (Nat.ble ((rdS c1 2).data.toList).length 9223372036854775807) (.br (decide ((Int.ofNat x5.length)>1024)) o4 (.out (.tuple #[.agg #[.int .i64 4,.int .i64 0,.string ⟨(x5).toArray⟩],.int .i64 0]))) .no) (.br (eqU s0.data.toList [115,117,98,115,116,114]) (.br (Nat.blt 1 m1) (.br (isV c1 4 (.i .i64)) (.br (Nat.blt 2 m1) (.br (isV c1 7 (.i .i64)) (.br (Nat.ble ((rdS c1 2).data.toList).length 70368744177664&&((inR (rdI c1 4))&&(inR (rdI c1 7)))) (.br (decide ((Int.ofNat ((Go.Proofs.YtaiokpmmjbiajaaGreatDoorTxt.jS (rdS c1 2) (rdI c1 4) (rdI c1 7)).data.toList).length)>1024)) o4 (.out (.tuple #[.agg #[.int .i64 4,.int .i64 0,.string (Go.Proofs.YtaiokpmmjbiajaaGreatDoorTxt.jS (rdS c1 2) (rdI c1 4) (rdI c1 7))],.int .i64 0]))) .no) .no) .no) .no) .no) (.br (eqU s0.data.toList [116,111,116,101,120,116]) (.br ((rdI c1 0)==4) o1 (.br (Nat.ble ((rdS c1 2).data.toList).length 9223372036854775807&&(inR (rdI c1 1))) (.br (decide ((Int.ofNat ((Fit.j8 (rdI c1 0) (rdI c1 1) (rdS c1 2)).data.toList).length)>1024)) o4 (.out (.tuple #[.agg #[.int .i64 4,.int .i64 0,.string (Fit.j8 (rdI c1 0) (rdI c1 1) (rdS c1 2))],.int .i64 0]))) .no)) (.br (true&&([((1:Nat),c1)]).all fun p=>p.snd.all qo) (.br ((decide ((Int.ofNat m1)=(Int.ofNat m1))&&((kR c1)&&(Nat.beq c1.length (m1*3)&&Nat.blt m1 4398046511104)))&&(qj c1).all A37L0.jk) (.br (decide ((Int.ofNat (x6.data.toList).length)>1024)) o4 (.out (.tuple #[.agg #[.int .i64 4,.int .i64 0,.string x6],.int .i64 0]))) .no) .no)))))))))))))))) .no) .no)
theorem run (s0:ByteArray) (m1:Nat) (c1:List Value):runK 4 [(34,A34.wQ),(75,A75.spec),(79,A79.spec),(80,A80.wQ),(82,A82.spec),(83,A83.spec),(85,KF),(86,X2),(87,Ku),(88,Ks)] [A37L0.lp] 37 [.v (.string s0),.sl m1 3 c1]=(T s0 m1 c1).eval:=by kernel_rfl
theorem at0 (l:List W3) (h:0<l.length):l[0]=l.headD v0:=by cases l with
 |nil=>cases h
 |cons v l=>rfl
theorem atj (l:List W3) (j:Nat) (h:j<l.length):l[j]=l.getD j v0:=by simp[List.getD_eq_getElem?_getD,h]
theorem head_mem (l:List W3) (h:0<l.length):l.headD v0∈l:=by rw[←at0 l h];exact List.getElem_mem h
theorem jZ (l:List W3) (j:Nat) (h:j<l.length):l.getD j v0∈l:=by rw[←atj l j h];exact List.getElem_mem h
def guard (s:ByteArray) (l:List W3):Bool:=l.all (fun v=>inR v.2.1)&&(l.all A37L0.jk&&(Nat.blt 0 l.length&&(!eqU s.data.toList [115,117,98,115,116,114]||Nat.blt 2 l.length)))
theorem vC (t:ByteArray):GT.eval (.br (decide (Int.ofNat t.data.toList.length>1024)) (.out (.tuple ([.agg ([.int .i64 0,.int .i64 0,.string ⟨([]).toArray⟩]).toArray,.int .i64 20]).toArray)) (.out (.tuple ([.agg ([.int .i64 4,.int .i64 0,.string t]).toArray,.int .i64 0]).toArray)))=some (ve (Fit.kJ t)):=by
 unfold Fit.kJ
 cases h:decide (Int.ofNat t.data.toList.length>1024)<;>simp only[GT.eval]<;>rfl
set_option maxHeartbeats 0 in
theorem qL (s:ByteArray) (l:List W3) (hl:l.length<4398046511104) (hg:guard s l=true):(T s l.length (qq l)).eval=some (ve (Fit.Qa s l)):=by
 unfold guard at hg
 simp only[Bool.and_eq_true]at hg
 obtain⟨hin,hsh,h0,h3⟩:=hg
 have h0':0<l.length:=by rwa [Nat.blt_eq]at h0
 have hs1: ∀v∈l,v.2.2.data.toList.length≤1024:=fun v hv=>Nat.le_of_ble_eq_true (List.all_eq_true.1 hsh v hv)
 have hi1: ∀v∈l,inR v.2.1=true:=fun v hv=>List.all_eq_true.1 hin v hv
 have q0:rdI (qq l) 0=(l.headD v0).1:=by have:=zX l h0';rw[at0 l h0']at this;exact this
 have q1:rdI (qq l) 1=(l.headD v0).2.1:=by have:=kc l h0';rw[at0 l h0']at this;exact this
 have q2:rdS (qq l) 2=(l.headD v0).2.2:=by have:=kS l h0';rw[at0 l h0']at this;exact this
 have q3:isL (qq l) 0 [.i .i64,.i .i64,.s]=true:=kt l h0'
 have e2:Nat.ble (l.headD v0).2.2.data.toList.length 9223372036854775807=true:=by have:=hs1 _ (head_mem l h0');rw[Nat.ble_eq];omega
 have e3:Nat.blt (l.headD v0).2.2.data.toList.length 9223372036854775807=true:=by have:=hs1 _ (head_mem l h0');rw[Nat.blt_eq];omega
 have e4:Nat.ble (l.headD v0).2.2.data.toList.length 70368744177664=true:=by have:=hs1 _ (head_mem l h0');rw[Nat.ble_eq];omega
 have e5:inR (l.headD v0).2.1=true:=hi1 _ (head_mem l h0')
 have a1:(true&&[((1:Nat),qq l)].all fun p=>p.2.all qo)=true:=by simp[qZ]
 have a3:((qq l).drop 0).take (l.length*3)=qq l:=by rw[List.drop_zero];exact List.take_of_length_le (by rw[zh];exact Nat.le_refl _)
 have a5:(0+l.length*3).ble (qq l).length=true:=by rw[Nat.ble_eq,zh];omega
 have a6:(0+l.length*3).ble (l.length*3)=true:=by rw[Nat.ble_eq];omega
 have g:Nat.blt l.length 4398046511104=true:=by rw[Nat.blt_eq];exact hl
 unfold T
 dsimp only[]at a1 ⊢
 simp only[a1,a3,a5,a6,g,q0,q1,q2,q3,e2,e3,e4,e5,h0,vx,zh,Nat.beq_refl,decide_true,Bool.and_self,zn,qZ,hin,hsh,GT.eval,Bool.true_and,Bool.and_true,cond_true,List.all_cons,List.all_nil]
 unfold Fit.Qa Fit.is
 dsimp only[]
 cases n0:eqU s.data.toList [97,98,115]
 rotate_left
 ·cases decide ((l.headD v0).2.1<0)<;>rfl
 cases n1:eqU s.data.toList [99,101,105,108]
 rotate_left
 ·rfl
 cases n2:eqU s.data.toList [102,108,111,111,114]
 rotate_left
 ·rfl
 cases n3:eqU s.data.toList [114,111,117,110,100]
 rotate_left
 ·rfl
 cases n4:eqU s.data.toList [115,105,103,110]
 rotate_left
 ·unfold Fit.Kq
  cases decide ((l.headD v0).2.1<0)<;>cases decide ((l.headD v0).2.1>0)<;>rfl
 cases n5:eqU s.data.toList [116,111,105,110,116]
 rotate_left
 ·rfl
 cases n6:eqU s.data.toList [116,111,100,101,99]
 rotate_left
 ·rfl
 cases n7:eqU s.data.toList [103,114,101,97,116,101,115,116]
 rotate_left
 ·rfl
 cases n8:eqU s.data.toList [108,101,97,115,116]
 rotate_left
 ·rfl
 cases n9:eqU s.data.toList [108,101,110,103,116,104]
 rotate_left
 ·rfl
 cases n10:eqU s.data.toList [108,111,119,101,114]
 rotate_left
 ·exact vC _
 cases n11:eqU s.data.toList [117,112,112,101,114]
 rotate_left
 ·exact vC _
 cases n12:eqU s.data.toList [116,114,105,109]
 rotate_left
 ·have := vC ⟨(Lib.trimB (l.headD v0).2.2.data.toList 32).toArray⟩
  rw[List.toList_toArray]at this
  exact this
 cases n13:eqU s.data.toList [115,117,98,115,116,114]
 rotate_left
 ·rw [n13] at h3
  have k2:2<l.length:=by
   have:Nat.blt 2 l.length=true:=h3
   rwa [Nat.blt_eq]at this
  have k1:1<l.length:=by omega
  have b1:Nat.blt 1 l.length=true:=by rw[Nat.blt_eq];exact k1
  have b2:Nat.blt 2 l.length=true:=by rw[Nat.blt_eq];exact k2
  have c1:rdI (qq l) 4=(l.getD 1 v0).2.1:=by have:=kc l k1;rw[atj l 1 k1]at this;exact this
  have c2:rdI (qq l) 7=(l.getD 2 v0).2.1:=by have:=kc l k2;rw[atj l 2 k2]at this;exact this
  have d1:isV (qq l) 4 (.i .i64)=true:=by have:=vo 1 (by omega) l k1;unfold isV;rw[show (4:Nat)=1*3+1 from rfl,this];rfl
  have d2:isV (qq l) 7 (.i .i64)=true:=by have:=vo 1 (by omega) l k2;unfold isV;rw[show (7:Nat)=2*3+1 from rfl,this];rfl
  simp only[b1,b2,c1,c2,d1,d2,hi1 _ (jZ l 1 k1),hi1 _ (jZ l 2 k2),Bool.and_self,cond_true,cond_false]
  exact vC _
 cases n14:eqU s.data.toList [116,111,116,101,120,116]
 rotate_left
 ·cases (l.headD v0).1 == 4
  ·exact vC _
  ·rfl
 exact vC _
def spec:Spec:=fun aa=>match aa with
 |[.v (.string s),.sl n 3 cs]=>some (.qI (wo n (Int.ofNat n) cs&&guard s (qj cs)) (.out (ve (Fit.Qa s (qj cs)))))
 |_=>none
theorem qf (h85:qu Tryz.prog La 85 KF) (h87:qu Tryz.prog La 87 Ku) (h88:qu Tryz.prog La 88 Ks):qu Tryz.prog La 37 spec:=⟨qE (by kernel_rfl),fun aa t v h e=>by
 unfold spec at h
 split at h
 ·rename_i s n cs
  cases h
  obtain⟨g1,g2⟩:=GT.qh e
  cases g2
  simp only[Bool.and_eq_true]at g1
  obtain⟨_,hn,h4,h5⟩:=kB g1.1
  have hg:=g1.2
  generalize qj cs=l at h4 h5 hg
  subst h4 h5
  exact⟨rfl,qR qx qg qd (by simpa using⟨A34.wa,A75.qf,A79.qf,A80.wa,A82.qf,A83.qf,h85,bg,h87,h88⟩) (by simpa using A37L0.qG) (by decide) (by simp) rfl ((run _ _ _).trans (qL _ _ hn hg))⟩
 ·cases h⟩
end A37
namespace A10
def T (s0:ByteArray) (m1:Nat) (c1:List Value):GT Value:=let x1:=(rdI c1 3,rdI c1 4,rdS c1 5);let x2:=(rdI c1 0,rdI c1 1,rdS c1 2);let o1:GT Value:=(.out (.tuple #[.agg #[.int .i64 0,.int .i64 0,.string ⟨#[]⟩],.int .i64 0]));(.br (true&&([((1:Nat),c1)]).all fun p=>p.snd.all qo) (.br (Nat.beq m1 m1&&(decide ((Int.ofNat m1)=(Int.ofNat m1))&&((kR c1)&&(Nat.beq c1.length (m1*3)&&Nat.blt m1 4398046511104)))) (.br (Nat.beq m1 0) (.out (.tuple #[.agg #[.int .i64 0,.int .i64 0,.string ⟨#[]⟩],.int .i64 100])) (.br (([(true,AA.v (.string s0)),((fun(cs:List Value)=>((0+m1*1).ble cs.length&&(List.take (m1*1) (List.drop 0 cs)).all qo,AA.sl m1 1 (List.take (m1*1) (List.drop 0 cs)))) (ints IntKind.i64 (List.map (fun(x:W3)=>x.fst) (qj c1))))]).all fun x=>x.fst) (.br (vO m1 (Int.ofNat m1) (((((qj c1).map fun(x:W3)=>x.fst).map (Value.int IntKind.i64)).drop 0).take (m1*1))) (.br ((Fit.kA s0 ((((((qj c1).map fun(x:W3)=>x.fst).map (Value.int IntKind.i64)).drop 0).take (m1*1)).map kX)).2 != 0) (.out (.tuple #[.agg #[.int .i64 0,.int .i64 0,.string ⟨#[]⟩],.int .i64 (Fit.kA s0 ((((((qj c1).map fun(x:W3)=>x.fst).map (Value.int IntKind.i64)).drop 0).take (m1*1)).map kX)).2])) (.br (true&&([((1:Nat),c1)]).all fun p=>p.snd.all qo) (.br (Nat.beq m1 m1&&(decide ((Int.ofNat m1)=(Int.ofNat m1))&&((kR c1)&&(Nat.beq c1.length (m1*3)&&Nat.blt m1 4398046511104)))) (.br ((qj c1).any A10L1.bad) (.out (.tuple #[.agg #[.int .i64 0,.int .i64 0,.string ⟨#[]⟩],.int .i64 22])) (.br (eqU s0.data.toList [99,111,97,108,101,115,99,101]) (.br (([(true,AA.v (.string s0)),((fun(cs:List Value)=>((0+m1*3).ble cs.length&&(List.take (m1*3) (List.drop 0 cs)).all qo,AA.sl m1 3 (List.take (m1*3) (List.drop 0 cs)))) c1)]).all fun x=>x.fst) (.br ((decide ((Int.ofNat m1)=(Int.ofNat m1))&&((kR (List.take (m1*3) (List.drop 0 c1)))&&(Nat.beq ((c1.drop 0).take (m1*3)).length (m1*3)&&Nat.blt m1 4398046511104)))&&(qj (List.take (m1*3) (List.drop 0 c1))).all fun v=>inR v.snd.fst) (.out (.tuple #[.agg #[.int .i64 (Fit.kn s0 (qj (List.take (m1*3) (List.drop 0 c1)))).1.1,.int .i64 (Fit.kn s0 (qj (List.take (m1*3) (List.drop 0 c1)))).1.2.1,.string (Fit.kn s0 (qj (List.take (m1*3) (List.drop 0 c1)))).1.2.2],.int .i64 (Fit.kn s0 (qj (List.take (m1*3) (List.drop 0 c1)))).2])) .no) .no) (.br (eqU s0.data.toList [110,117,108,108,105,102]) (.br (Nat.blt 0 m1) (.br (isL c1 0 [(.i .i64),(.i .i64),.s]) (.br (Nat.blt 1 m1) (.br (isL c1 3 [(.i .i64),(.i .i64),.s]) (.br (A35.tru (A36.eqK x2 x1) (A36.eqN x2 x1)) o1 (.br (Nat.blt 0 m1) (.br (isL c1 0 [(.i .i64),(.i .i64),.s]) (.out (.tuple #[.agg #[.int .i64 (rdI c1 0),.int .i64 (rdI c1 1),.string (rdS c1 2)],.int .i64 0])) .no) .no)) .no) .no) .no) .no) (.br ((List.map (fun(x:W3)=>x.fst) (qj c1)).any fun x=>x==0) o1 (.br (([(true,AA.v (.string s0)),((fun(cs:List Value)=>((0+m1*3).ble cs.length&&(List.take (m1*3) (List.drop 0 cs)).all qo,AA.sl m1 3 (List.take (m1*3) (List.drop 0 cs)))) c1)]).all fun x=>x.fst) (.br ((decide ((Int.ofNat m1)=(Int.ofNat m1))&&((kR (List.take (m1*3) (List.drop 0 c1)))&&(Nat.beq ((c1.drop 0).take (m1*3)).length (m1*3)&&Nat.blt m1 4398046511104)))&&(A37.guard s0 (qj (List.take (m1*3) (List.drop 0 c1))))) (.out (.tuple #[.agg #[.int .i64 (Fit.Qa s0 (qj (List.take (m1*3) (List.drop 0 c1)))).1.1,.int .i64 (Fit.Qa s0 (qj (List.take (m1*3) (List.drop 0 c1)))).1.2.1,.string (Fit.Qa s0 (qj (List.take (m1*3) (List.drop 0 c1)))).1.2.2],.int .i64 (Fit.Qa s0 (qj (List.take (m1*3) (List.drop 0 c1)))).2])) .no) .no))))) .no) .no)) .no) .no)) .no) .no)
theorem run (s0:ByteArray) (m1:Nat) (c1:List Value):runK 4 [(14,A14.wQ),(34,A34.wQ),(35,A35.spec),(36,A36.wQ),(37,A37.spec)] [A10L0.lp,A10L1.lp] 10 [.v (.string s0),.sl m1 3 c1]=(T s0 m1 c1).eval:=by kernel_rfl
open Fit
theorem yj (s:ByteArray):kA s []=(0,100):=by
 unfold kA
 simp[rP,A14.num,A14.txt,A14.sub]
theorem xl {s:ByteArray} {l:List W3} (h:(kA s (l.map (·.1))).2=0):0<l.length:=by
 cases l with
 |nil=>rw[List.map_nil,yj]at h;cases h
 |cons v l=>simp
theorem bT {l:List W3} (h:(kA ⟨#[115,117,98,115,116,114]⟩ (l.map (·.1))).2=0):2<l.length:=by
 unfold kA at h
 cases hb:(l.map (·.1)).any A14L0.bad<;>rw[hb]at h
 ·have h : (rP (A14.sub (l.map (·.1))) 4).2 = 0 := h
  obtain⟨a,b,c,e,_⟩:=XY (rP0 h).1
  have:=congrArg List.length e
  simp at this
  omega
 ·cases h
theorem ZE {l:List W3} (h:(kA ⟨#[110,117,108,108,105,102]⟩ (l.map (·.1))).2=0):1<l.length:=by
 unfold kA at h
 cases hb:(l.map (·.1)).any A14L0.bad<;>rw[hb]at h
 ·have h : (rP (Int.ofNat (l.map (·.1)).length == 2 && (A53.res (l.map (·.1))).2) ((l.map (·.1)).headD 0)).2 = 0 := h
  have:=(rP0 h).1
  simp only[Bool.and_eq_true,beq_iff_eq,List.length_map]at this
  have e:(l.length:Int)=2:=this.1
  omega
 ·cases h
theorem Jy {v:W3} (h:A33.okv v.1 v.2.1 v.2.2=true):A37L0.jk v=true:=by
 obtain⟨k,n,s⟩:=v
 have he:eqU s.data.toList []=true→A37L0.jk (k,n,s)=true:=fun h=>by rw[zO (l:=[]) h];rfl
 unfold A33.okv at h
 simp only at h
 cases e0:k==0
 ·rw [e0, cond_false] at h
  cases e1:k==1
  ·rw [e1, cond_false] at h
   cases e2:k==2||k==3
   ·rw [e2, cond_false] at h
    simp only[Bool.and_eq_true,decide_eq_true_eq]at h
    unfold A37L0.jk
    rw[Nat.ble_eq];exact h.2.2.1
   ·rw[e2,cond_true]at h;exact he h
  ·rw[e1,cond_true,Bool.and_eq_true]at h;exact he h.1
 ·rw[e0,cond_true,Bool.and_eq_true]at h;exact he h.2
theorem Kw {s:ByteArray} {l:List W3} (hin:l.all (fun v=>inR v.2.1)=true) (hk:(kA s (l.map (·.1))).2=0) (hb:l.any A10L1.bad=false):A37.guard s l=true:=by
 unfold A37.guard
 have h1:l.all A37L0.jk=true:=List.all_eq_true.2 fun v hv=>Jy (XU hb v hv)
 have h2:Nat.blt 0 l.length=true:=by rw[Nat.blt_eq];exact xl hk
 rw[hin,h1,h2]
 cases h:eqU s.data.toList [115,117,98,115,116,114]
 ·rfl
 ·obtain rfl := zO h
  have:Nat.blt 2 l.length=true:=by rw[Nat.blt_eq];exact bT hk
  rw[this];rfl
set_option maxHeartbeats 0 in
theorem qL (s:ByteArray) (l:List W3) (hl:l.length<4398046511104) (hin:l.all (fun v=>inR v.2.1)=true):(T s l.length (qq l)).eval=some (ve (zR s l)):=by
 have g:Nat.blt l.length 4398046511104=true:=by rw[Nat.blt_eq];exact hl
 have gs:=qZ l
 have g2:=xM (l:=l.map (·.1)) (by rw[List.length_map];omega)
 rw[List.length_map]at g2
 have a1:(true&&[((1:Nat),qq l)].all fun p=>p.2.all qo)=true:=by simp[qZ]
 have a3:((ints .i64 (l.map (·.1))).drop 0).take (l.length*1)=ints .i64 (l.map (·.1)):=by rw[List.drop_zero,Nat.mul_one];exact List.take_of_length_le (by rw[zH,List.length_map];exact Nat.le_refl _)
 have a4:((qq l).drop 0).take (l.length*3)=qq l:=by rw[List.drop_zero];exact List.take_of_length_le (by rw[zh];exact Nat.le_refl _)
 have a5:(0+l.length*1).ble l.length=true:=by rw[Nat.ble_eq];omega
 have a6:(0+l.length*3).ble (l.length*3)=true:=by rw[Nat.ble_eq];omega
 have e0: ∀f:List Int,f.map (Value.int .i64)=ints .i64 f:=fun _=>rfl
 unfold T
 dsimp only[]at a1 ⊢
 simp only[e0,a1,a3,a4,a5,a6,g,gs,g2,vx,zh,zH,List.length_map,Nat.beq_refl,decide_true,Bool.and_self,zn,jE,qY,hin,GT.eval,Bool.true_and,Bool.and_true,cond_true,List.all_cons,List.all_nil]
 unfold zR is
 cases hb0:Nat.beq l.length 0
 rotate_left
 ·have : l = [] := List.length_eq_zero_iff.1 (Nat.eq_of_beq_eq_true hb0)
  subst this
  rw[List.map_nil,yj];rfl
 simp only[cond_false]
 cases hk:(kA s (l.map (·.1))).2 != 0
 rotate_left
 ·rfl
 have hk:=bne_eq_false_iff_eq.1 hk
 simp only[cond_false]
 cases fb:l.any A10L1.bad
 rotate_left
 ·rfl
 simp only[cond_false]
 have h0:=xl hk
 cases n1:eqU s.data.toList [99,111,97,108,101,115,99,101]
 rotate_left
 ·rfl
 simp only[cond_false]
 cases n2:eqU s.data.toList [110,117,108,108,105,102]
 rotate_left
 ·obtain rfl := zO n2
  have k1:=ZE hk
  have q0:rdI (qq l) 0=(l.headD v0).1:=by have:=zX l h0;rw[A37.at0 l h0]at this;exact this
  have q1:rdI (qq l) 1=(l.headD v0).2.1:=by have:=kc l h0;rw[A37.at0 l h0]at this;exact this
  have q2:rdS (qq l) 2=(l.headD v0).2.2:=by have:=kS l h0;rw[A37.at0 l h0]at this;exact this
  have q3:isL (qq l) 0 [.i .i64,.i .i64,.s]=true:=kt l h0
  have r0:rdI (qq l) 3=(l.getD 1 v0).1:=by have:=zX l k1;rw[A37.atj l 1 k1]at this;exact this
  have r1:rdI (qq l) 4=(l.getD 1 v0).2.1:=by have:=kc l k1;rw[A37.atj l 1 k1]at this;exact this
  have r2:rdS (qq l) 5=(l.getD 1 v0).2.2:=by have:=kS l k1;rw[A37.atj l 1 k1]at this;exact this
  have r3:isL (qq l) 3 [.i .i64,.i .i64,.s]=true:=kt l k1
  have b0:Nat.blt 0 l.length=true:=by rw[Nat.blt_eq];exact h0
  have b1:Nat.blt 1 l.length=true:=by rw[Nat.blt_eq];exact k1
  simp only[q0,q1,q2,q3,r0,r1,r2,r3,b0,b1,cond_true]
  generalize l.headD v0=v
  generalize l.getD 1 v0=u
  have et:A35.tru (A36.eqK (v.1,v.2.1,v.2.2) (u.1,u.2.1,u.2.2)) (A36.eqN (v.1,v.2.1,v.2.2) (u.1,u.2.1,u.2.2))=A35.tru (bif v.1==0||u.1==0 then 0 else 1) (bif(A76.compare v.1 v.2.1 v.2.2 u.1 u.2.1 u.2.2).2&&(A76.compare v.1 v.2.1 v.2.2 u.1 u.2.1 u.2.2).1==0 then 1 else 0):=by
   unfold A36.eqK A36.eqN
   dsimp only
   cases v.1==0||u.1==0<;>rfl
  rw[et]
  cases A35.tru (bif v.1==0||u.1==0 then 0 else 1) (bif(A76.compare v.1 v.2.1 v.2.2 u.1 u.2.1 u.2.2).2&&(A76.compare v.1 v.2.1 v.2.2 u.1 u.2.1 u.2.2).1==0 then 1 else 0)<;>rfl
 simp only[cond_false]
 cases hz:(l.map (·.1)).any (· ==0)
 rotate_left
 ·rfl
 rw[Kw hin hk fb]
 rfl
def spec:Spec:=fun aa=>match aa with
 |[.v (.string s),.sl n 3 cs]=>some (.qI (wo n (Int.ofNat n) cs&&(qj cs).all (fun v=>inR v.2.1)) (.out (ve (zR s (qj cs)))))
 |_=>none
theorem qf (h85:qu Tryz.prog La 85 KF) (h87:qu Tryz.prog La 87 Ku) (h88:qu Tryz.prog La 88 Ks):qu Tryz.prog La 10 spec:=⟨qE (by kernel_rfl),fun aa t v h e=>by
 unfold spec at h
 split at h
 ·rename_i s n cs
  cases h
  obtain⟨g1,g2⟩:=GT.qh e
  cases g2
  simp only[Bool.and_eq_true]at g1
  obtain⟨_,hn,h4,h5⟩:=kB g1.1
  have hin:=g1.2
  generalize qj cs=l at h4 h5 hin
  subst h4 h5
  exact⟨rfl,qR qx qg qd (by simpa using⟨A14.wa,A34.wa,A35.qf,A36.wa,A37.qf h85 h87 h88⟩) (by simpa using⟨A10L0.qG,A10L1.qG⟩) (by decide) (by simp) rfl ((run _ _ _).trans (qL _ _ hn hin))⟩
 ·cases h⟩
end A10
namespace A13
theorem run:runK 4 [(10,A10.spec),(14,A14.wQ)] [] 13 []=some (.bool true):=by kernel_rfl
def spec:Spec:=fun aa=>match aa with
 |[]=>some (.out (.bool true))
 |_=>none
theorem qf:qu Tryz.prog La 13 spec:=⟨qE (by kernel_rfl),fun aa t v h e=>by
 unfold spec at h
 split at h
 ·cases h; cases e
  exact⟨rfl,qR qx qg qd (by simpa using⟨A10.qf pw oB oL,A14.wa⟩) (by simp) (by decide) (by simp) rfl run⟩
 ·cases h⟩
end A13
namespace A10n
def T (s0:ByteArray):GT Value:= .out (ve (v0,100))
theorem run (s0:ByteArray):runK 4 [(14,A14.wQ)] [] 10 [.v (.string s0),.nil]=some (ve (v0,100)):=by kernel_rfl
def spec:Spec:=fun aa=>match aa with
 |[.v (.string s),.sl n 3 cs]=>some (.qI (wo n (Int.ofNat n) cs&&(qj cs).all (fun v=>inR v.2.1)) (.out (ve (Fit.zR s (qj cs)))))
 |[.v (.string s),.nil]=>some (.out (ve (v0,100)))
 |_=>none
theorem qf:qu Tryz.prog La 10 spec:=⟨qE (by kernel_rfl),fun aa t v h e=>by
 unfold spec at h
 split at h
 ·cases h
  exact(A10.qf pw oB oL).2 _ _ _ rfl e
 ·rename_i s
  cases h;cases e
  exact⟨rfl,qR qx qg qd (by simpa using A14.wa) (by simp) (by decide) (by simp) rfl (run s)⟩
 ·cases h⟩
end A10n
end
section
open Go Go.Proofs
def Ref.chk (k n:Int) (s:ByteArray):Int:=bif A33.okv k n s then 0 else 1
def yU:Spec:=fun aa=>match aa with
 |[a]=>(vOf a).bind fun x=>some (.out (.int .i64 (Ref.chk x.1 x.2.1 x.2.2)))
 |_=>none
theorem oh:qu Tryz.prog La 33 yU:=A33.qf
end
section
open Go Go.Proofs
namespace A16L0N
noncomputable def cfg:Cfg:=zz Tryz.prog 4 (gpT [(33,yU),(79,A79.spec),(109,A109.spec),(110,yD fun t x y=>ve (Ari.wK t x y)),(10,A10n.spec),(75,A75.spec),(35,A35.spec)]) (ltT 4 [])
def stA (n nr na:Nat) (i:Int):KX:=⟨[(0,.slice (some ⟨0,0,none⟩) n 6),(6,.pointer (some ⟨6,0,none⟩)),(7,.int .i64 0),(8,.pointer (some ⟨7,0,none⟩)),(9,.int .i64 i)],[[.int .i64 0,.int .i64 0,.string ⟨#[]⟩],[.slice none 0 0,.slice (some ⟨1,0,none⟩) nr 3,.slice (some ⟨2,0,none⟩) na 3,.int .i64 0]]⟩
def kp:Ex→List Nat
 | .normal=>[0,6,7,8,9]
 | .exit _=>[6,8]
 | .ret=>[6,7]
def cr:Ex→St→List (Nat×Bool):=fun e s=>match s.T.get 6 with
 |some (.pointer (some r))=>(match e with
  | .ret=>[(r.block,true)]
  |_=>match s.T.get 8 with
   |some (.pointer (some p))=>match zK s.h p.block with
    |some [.slice (some q) _ _,_,_,_]=>[(r.block,true),(p.block,false),(q.block,true)]
    |_=>[(r.block,true),(p.block,false)]
   |_=>[])
 |_=>[]
theorem round (n nr na:Nat) (i:Int) (cs:List Value) (rs:List Value) (as_:List Value):zW cfg [(33,yU),(79,A79.spec),(109,A109.spec),(110,yD fun t x y=>ve (Ari.wK t x y)),(10,A10n.spec),(75,A75.spec),(35,A35.spec)] [] 16 0 (stK 52 6 [(0,cs),(1,rs),(2,as_)] (stA n nr na i)) (zD 6 100 52 kp cr)=(let x2:=0+(i.toNat*6);let x1:=rdI cs (x2+1);let x3:=0+(x1.toNat*3);let x4:=IntKind.wrap .i64 (0 - x1);let x5:=IntKind.wrap .i64 (i+1);let x6:=rdS cs (((((x2+1)+1)+1)+1)+1);let x7:=rdI cs ((((x2+1)+1)+1)+1);let x8:=rdI cs (((x2+1)+1)+1);let x9:=rdS as_ ((x3+1)+1);let x10:=rdS rs ((x3+1)+1);let o1:Option (Ex×KX):=(some (.ret,⟨[(6,.pointer (some ⟨6,0,none⟩)),(7,.int .i64 22)],[[.int .i64 0,.int .i64 0,.string ⟨#[]⟩]]⟩));(bif decide (i<(Int.ofNat n))then(bif decide (0≤i)then(bif Nat.blt i.toNat n then(bif isL cs x2 [(.i .i64),(.i .i64),.s,(.i .i64),(.i .i64),.s]then(bif((rdI cs x2)==1)then(bif((Ref.chk x8 x7 x6) != 0)then o1 else(some (.normal,⟨[(0,.slice (some ⟨0,0,none⟩) n 6),(6,.pointer (some ⟨6,0,none⟩)),(7,.int .i64 0),(8,.pointer (some ⟨7,0,none⟩)),(9,.int .i64 x5)],[[.int .i64 0,.int .i64 0,.string ⟨#[]⟩],[.slice (some ⟨8,0,none⟩) 1 3,.slice (some ⟨1,0,none⟩) nr 3,.slice (some ⟨2,0,none⟩) na 3,.int .i64 0],[.int .i64 x8,.int .i64 x7,.string x6]]⟩)))else(bif((rdI cs x2)==2)then(bif decide (0≤x1)then(bif Nat.blt x1.toNat nr then(bif isL rs x3 [(.i .i64),(.i .i64),.s]then(bif((Ref.chk (rdI rs x3) (rdI rs (x3+1)) x10) != 0)then o1 else(some (.normal,⟨[(0,.slice (some ⟨0,0,none⟩) n 6),(6,.pointer (some ⟨6,0,none⟩)),(7,.int .i64 0),(8,.pointer (some ⟨7,0,none⟩)),(9,.int .i64 x5)],[[.int .i64 0,.int .i64 0,.string ⟨#[]⟩],[.slice (some ⟨8,0,none⟩) 1 3,.slice (some ⟨1,0,none⟩) nr 3,.slice (some ⟨2,0,none⟩) na 3,.int .i64 0],[.int .i64 (rdI rs x3),.int .i64 (rdI rs (x3+1)),.string x10]]⟩)))else none)else none)else none)else(bif((rdI cs x2)==9)then(bif decide (0≤x1)then(bif Nat.blt x1.toNat na then(bif isL as_ x3 [(.i .i64),(.i .i64),.s]then(bif((Ref.chk (rdI as_ x3) (rdI as_ (x3+1)) x9) != 0)then o1 else(some (.normal,⟨[(0,.slice (some ⟨0,0,none⟩) n 6),(6,.pointer (some ⟨6,0,none⟩)),(7,.int .i64 0),(8,.pointer (some ⟨7,0,none⟩)),(9,.int .i64 x5)],[[.int .i64 0,.int .i64 0,.string ⟨#[]⟩],[.slice (some ⟨8,0,none⟩) 1 3,.slice (some ⟨1,0,none⟩) nr 3,.slice (some ⟨2,0,none⟩) na 3,.int .i64 0],[.int .i64 (rdI as_ x3),.int .i64 (rdI as_ (x3+1)),.string x9]]⟩)))else none)else none)else none)else(bif((rdI cs x2)==3)then none else(bif((rdI cs x2)==4)then none else(bif((rdI cs x2)==5)then none else(bif((rdI cs x2)==6)then(bif(decide (0≤x4)&&Nat.ble x4.toNat 0)then(bif(decide (0≤x4)&&Nat.ble x4.toNat 0)then(some (.ret,⟨[(6,.pointer (some ⟨6,0,none⟩)),(7,.int .i64 100)],[[.int .i64 0,.int .i64 0,.string ⟨#[]⟩]]⟩))else none)else none)else(bif((rdI cs x2)==10)then none else(bif((rdI cs x2)==8)then none else(bif decide (0≤i)then(bif Nat.blt i.toNat n then(bif isV cs (x2+1) (.i .i64)then(some (.normal,⟨[(0,.slice (some ⟨0,0,none⟩) n 6),(6,.pointer (some ⟨6,0,none⟩)),(7,.int .i64 0),(8,.pointer (some ⟨7,0,none⟩)),(9,.int .i64 x1)],[[.int .i64 0,.int .i64 0,.string ⟨#[]⟩],[.slice none 0 0,.slice (some ⟨1,0,none⟩) nr 3,.slice (some ⟨2,0,none⟩) na 3,.int .i64 0]]⟩))else none)else none)else none))))))))))else none)else none)else none)else(some (.exit 0,⟨[(6,.pointer (some ⟨6,0,none⟩)),(8,.pointer (some ⟨7,0,none⟩))],[[.int .i64 0,.int .i64 0,.string ⟨#[]⟩],[.slice none 0 0,.slice (some ⟨1,0,none⟩) nr 3,.slice (some ⟨2,0,none⟩) na 3,.int .i64 0]]⟩)))):=by kernel_rfl
end A16L0N
namespace A16L0R
noncomputable def cfg:Cfg:=zz Tryz.prog 4 (gpT [(33,yU),(79,A79.spec),(109,A109.spec),(110,yD fun t x y=>ve (Ari.wK t x y)),(10,A10n.spec),(75,A75.spec),(35,A35.spec)]) (ltT 4 [])
def stA (n nr na k:Nat) (i:Int) (row:List Value):KX:=⟨[(0,.slice (some ⟨0,0,none⟩) n 6),(6,.pointer (some ⟨6,0,none⟩)),(7,.int .i64 0),(8,.pointer (some ⟨7,0,none⟩)),(9,.int .i64 i)],[[.int .i64 0,.int .i64 0,.string ⟨#[]⟩],[.slice (some ⟨8,0,none⟩) k 3,.slice (some ⟨1,0,none⟩) nr 3,.slice (some ⟨2,0,none⟩) na 3,.int .i64 0],row]⟩
def kp:Ex→List Nat
 | .normal=>[0,6,7,8,9]
 | .exit _=>[6,8]
 | .ret=>[6,7]
def cr:Ex→St→List (Nat×Bool):=fun e s=>match s.T.get 6 with
 |some (.pointer (some r))=>(match e with
  | .ret=>[(r.block,true)]
  |_=>match s.T.get 8 with
   |some (.pointer (some p))=>match zK s.h p.block with
    |some [.slice (some q) _ _,_,_,_]=>[(r.block,true),(p.block,false),(q.block,true)]
    |_=>[(r.block,true),(p.block,false)]
   |_=>[])
 |_=>[]
theorem round (n nr na k:Nat) (i:Int) (row:List Value) (cs:List Value) (rs:List Value) (as_:List Value):zW cfg [(33,yU),(79,A79.spec),(109,A109.spec),(110,yD fun t x y=>ve (Ari.wK t x y)),(10,A10n.spec),(75,A75.spec),(35,A35.spec)] [] 16 0 (stK 52 6 [(0,cs),(1,rs),(2,as_)] (stA n nr na k i row)) (zD 6 100 52 kp cr)=(let x1:=IntKind.wrap .i64 ((Int.ofNat k) - 1);let x4:=0+(x1.toNat*3);let x5:=0+(i.toNat*6);let x3:=IntKind.wrap .i64 ((Int.ofNat k) - (rdI cs (x5+1)));let x6:=0+((rdI cs (x5+1)).toNat*3);let x7:=IntKind.wrap .i64 ((Int.ofNat (x1.toNat - 0)) - 1);let x8:=rdI row (x4+1);let x9:=IntKind.wrap .i64 (i+1);let x10:=0+(x3.toNat*3);let x11:=A79.xi (rdI row x4) x8;let x12:=A75.kl (rdI row x4) x8;let x13:=rdS cs ((x5+1)+1);let x14:=rdS row ((x4+1)+1);let x15:=0+((x1.toNat - 0)*3);let x16:=rdS cs (((((x5+1)+1)+1)+1)+1);let x17:=rdI cs ((((x5+1)+1)+1)+1);let x18:=rdI cs (((x5+1)+1)+1);let x19:=rdS as_ ((x6+1)+1);let x20:=rdS rs ((x6+1)+1);let x21:=rdI as_ (x6+1);let x22:=0+(x7.toNat*3);let x2:=Ari.wK x13 ((rdI row x22),((rdI row (x22+1)),(rdS row ((x22+1)+1)))) ((rdI row x4),(x8,x14));let o1:Option (Ex×KX):=(some (.ret,⟨[(6,.pointer (some ⟨6,0,none⟩)),(7,.int .i64 22)],[[.int .i64 0,.int .i64 0,.string ⟨#[]⟩]]⟩));(bif decide (i<(Int.ofNat n))then(bif decide (0≤i)then(bif Nat.blt i.toNat n then(bif isL cs x5 [(.i .i64),(.i .i64),.s,(.i .i64),(.i .i64),.s]then(bif((rdI cs x5)==1)then(bif((Ref.chk x18 x17 x16) != 0)then o1 else(bif Nat.ble (k+1) 140737488355328 then(bif Nat.ble ((k+1)*32) 140737488355328 then(bif Nat.ble (0+(k*3)) row.length then(bif(true&&(true&&((((row.drop 0).take (k*3))++[Value.int .i64 x18,.int .i64 x17,.string x16]).all qo&&true)))then(some (.normal,⟨[(0,.slice (some ⟨0,0,none⟩) n 6),(6,.pointer (some ⟨6,0,none⟩)),(7,.int .i64 0),(8,.pointer (some ⟨7,0,none⟩)),(9,.int .i64 x9)],[[.int .i64 0,.int .i64 0,.string ⟨#[]⟩],[.slice (some ⟨8,0,none⟩) (k+1) 3,.slice (some ⟨1,0,none⟩) nr 3,.slice (some ⟨2,0,none⟩) na 3,.int .i64 0],(((row.drop 0).take (k*3))++[Value.int .i64 x18,.int .i64 x17,.string x16])]⟩))else none)else none)else none)else none))else(bif((rdI cs x5)==2)then(bif decide (0≤(rdI cs (x5+1)))then(bif Nat.blt (rdI cs (x5+1)).toNat nr then(bif isL rs x6 [(.i .i64),(.i .i64),.s]then(bif((Ref.chk (rdI rs x6) (rdI rs (x6+1)) x20) != 0)then o1 else(bif Nat.ble (k+1) 140737488355328 then(bif Nat.ble ((k+1)*32) 140737488355328 then(bif Nat.ble (0+(k*3)) row.length then(bif(true&&(true&&((((row.drop 0).take (k*3))++[Value.int .i64 (rdI rs x6),.int .i64 (rdI rs (x6+1)),.string x20]).all qo&&true)))then(some (.normal,⟨[(0,.slice (some ⟨0,0,none⟩) n 6),(6,.pointer (some ⟨6,0,none⟩)),(7,.int .i64 0),(8,.pointer (some ⟨7,0,none⟩)),(9,.int .i64 x9)],[[.int .i64 0,.int .i64 0,.string ⟨#[]⟩],[.slice (some ⟨8,0,none⟩) (k+1) 3,.slice (some ⟨1,0,none⟩) nr 3,.slice (some ⟨2,0,none⟩) na 3,.int .i64 0],(((row.drop 0).take (k*3))++[Value.int .i64 (rdI rs x6),.int .i64 (rdI rs (x6+1)),.string x20])]⟩))else none)else none)else none)else none))else none)else none)else none)else(bif((rdI cs x5)==9)then(bif decide (0≤(rdI cs (x5+1)))then(bif Nat.blt (rdI cs (x5+1)).toNat na then(bif isL as_ x6 [(.i .i64),(.i .i64),.s]then(bif((Ref.chk (rdI as_ x6) x21 x19) != 0)then o1 else(bif Nat.ble (k+1) 140737488355328 then(bif Nat.ble ((k+1)*32) 140737488355328 then(bif Nat.ble (0+(k*3)) row.length then(bif(true&&(true&&((((row.drop 0).take (k*3))++[Value.int .i64 (rdI as_ x6),.int .i64 x21,.string x19]).all qo&&true)))then(some (.normal,⟨[(0,.slice (some ⟨0,0,none⟩) n 6),(6,.pointer (some ⟨6,0,none⟩)),(7,.int .i64 0),(8,.pointer (some ⟨7,0,none⟩)),(9,.int .i64 x9)],[[.int .i64 0,.int .i64 0,.string ⟨#[]⟩],[.slice (some ⟨8,0,none⟩) (k+1) 3,.slice (some ⟨1,0,none⟩) nr 3,.slice (some ⟨2,0,none⟩) na 3,.int .i64 0],(((row.drop 0).take (k*3))++[Value.int .i64 (rdI as_ x6),.int .i64 x21,.string x19])]⟩))else none)else none)else none)else none))else none)else none)else none)else(bif((rdI cs x5)==3)then(bif decide (0≤x1)then(bif Nat.blt x1.toNat k then(bif isL row x4 [(.i .i64),(.i .i64),.s]then(bif(decide (0≤x1)&&Nat.ble x1.toNat k)then(bif eqU x13.data.toList [45]then(bif(x11.2 != 0)then(some (.ret,⟨[(6,.pointer (some ⟨6,0,none⟩)),(7,.int .i64 x11.2)],[[.int .i64 0,.int .i64 0,.string ⟨#[]⟩]]⟩))else(bif Nat.ble ((x1.toNat - 0)+1) 140737488355328 then(bif Nat.ble (((x1.toNat - 0)+1)*32) 140737488355328 then(bif Nat.ble x15 row.length then(bif(true&&(true&&((((row.drop 0).take ((x1.toNat - 0)*3))++[Value.int .i64 x11.1.1,.int .i64 x11.1.2.1,.string x11.1.2.2]).all qo&&true)))then(some (.normal,⟨[(0,.slice (some ⟨0,0,none⟩) n 6),(6,.pointer (some ⟨6,0,none⟩)),(7,.int .i64 0),(8,.pointer (some ⟨7,0,none⟩)),(9,.int .i64 x9)],[[.int .i64 0,.int .i64 0,.string ⟨#[]⟩],[.slice (some ⟨8,0,none⟩) ((x1.toNat - 0)+1) 3,.slice (some ⟨1,0,none⟩) nr 3,.slice (some ⟨2,0,none⟩) na 3,.int .i64 0],(((row.drop 0).take ((x1.toNat - 0)*3))++[Value.int .i64 x11.1.1,.int .i64 x11.1.2.1,.string x11.1.2.2])]⟩))else none)else none)else none)else none))else(bif Nat.ble ((x1.toNat - 0)+1) 140737488355328 then(bif Nat.ble (((x1.toNat - 0)+1)*32) 140737488355328 then(bif Nat.ble x15 row.length then(bif(true&&(true&&((((row.drop 0).take ((x1.toNat - 0)*3))++[Value.int .i64 (Ref.wi ((rdI row x4),(x8,x14))).1,.int .i64 (Ref.wi ((rdI row x4),(x8,x14))).2.1,.string (Ref.wi ((rdI row x4),(x8,x14))).2.2]).all qo&&true)))then(some (.normal,⟨[(0,.slice (some ⟨0,0,none⟩) n 6),(6,.pointer (some ⟨6,0,none⟩)),(7,.int .i64 0),(8,.pointer (some ⟨7,0,none⟩)),(9,.int .i64 x9)],[[.int .i64 0,.int .i64 0,.string ⟨#[]⟩],[.slice (some ⟨8,0,none⟩) ((x1.toNat - 0)+1) 3,.slice (some ⟨1,0,none⟩) nr 3,.slice (some ⟨2,0,none⟩) na 3,.int .i64 0],(((row.drop 0).take ((x1.toNat - 0)*3))++[Value.int .i64 (Ref.wi ((rdI row x4),(x8,x14))).1,.int .i64 (Ref.wi ((rdI row x4),(x8,x14))).2.1,.string (Ref.wi ((rdI row x4),(x8,x14))).2.2])]⟩))else none)else none)else none)else none))else none)else none)else none)else none)else(bif((rdI cs x5)==4)then(bif decide (0≤x1)then(bif Nat.blt x1.toNat k then(bif isL row x4 [(.i .i64),(.i .i64),.s]then(bif(decide (0≤x1)&&Nat.ble x1.toNat k)then(bif decide (0≤x7)then(bif Nat.blt x7.toNat (x1.toNat - 0)then(bif isL row x22 [(.i .i64),(.i .i64),.s]then(bif(decide (0≤x7)&&Nat.ble x7.toNat (x1.toNat - 0))then(bif((inR (rdI row (x22+1)))&&(inR x8))then(bif(x2.2 != 0)then(some (.ret,⟨[(6,.pointer (some ⟨6,0,none⟩)),(7,.int .i64 x2.2)],[[.int .i64 0,.int .i64 0,.string ⟨#[]⟩]]⟩))else(bif Nat.ble ((x7.toNat - 0)+1) 140737488355328 then(bif Nat.ble (((x7.toNat - 0)+1)*32) 140737488355328 then(bif Nat.ble (0+((x7.toNat - 0)*3)) row.length then(bif(true&&(true&&((((row.drop 0).take ((x7.toNat - 0)*3))++[Value.int .i64 x2.1.1,.int .i64 x2.1.2.1,.string x2.1.2.2]).all qo&&true)))then(some (.normal,⟨[(0,.slice (some ⟨0,0,none⟩) n 6),(6,.pointer (some ⟨6,0,none⟩)),(7,.int .i64 0),(8,.pointer (some ⟨7,0,none⟩)),(9,.int .i64 x9)],[[.int .i64 0,.int .i64 0,.string ⟨#[]⟩],[.slice (some ⟨8,0,none⟩) ((x7.toNat - 0)+1) 3,.slice (some ⟨1,0,none⟩) nr 3,.slice (some ⟨2,0,none⟩) na 3,.int .i64 0],(((row.drop 0).take ((x7.toNat - 0)*3))++[Value.int .i64 x2.1.1,.int .i64 x2.1.2.1,.string x2.1.2.2])]⟩))else none)else none)else none)else none))else none)else none)else none)else none)else none)else none)else none)else none)else none)else(bif((rdI cs x5)==5)then(bif decide (0≤x1)then(bif Nat.blt x1.toNat k then(bif isL row x4 [(.i .i64),(.i .i64),.s]then(bif(decide (0≤x1)&&Nat.ble x1.toNat k)then(bif(((rdI row x4)==0)==((rdI cs (x5+1))==0))then(bif Nat.ble ((x1.toNat - 0)+1) 140737488355328 then(bif Nat.ble (((x1.toNat - 0)+1)*32) 140737488355328 then(bif Nat.ble x15 row.length then(bif(true&&(true&&((((row.drop 0).take ((x1.toNat - 0)*3))++[Value.int .i64 1,.int .i64 1,.string ⟨#[]⟩]).all qo&&true)))then(some (.normal,⟨[(0,.slice (some ⟨0,0,none⟩) n 6),(6,.pointer (some ⟨6,0,none⟩)),(7,.int .i64 0),(8,.pointer (some ⟨7,0,none⟩)),(9,.int .i64 x9)],[[.int .i64 0,.int .i64 0,.string ⟨#[]⟩],[.slice (some ⟨8,0,none⟩) ((x1.toNat - 0)+1) 3,.slice (some ⟨1,0,none⟩) nr 3,.slice (some ⟨2,0,none⟩) na 3,.int .i64 0],(((row.drop 0).take ((x1.toNat - 0)*3))++[Value.int .i64 1,.int .i64 1,.string ⟨#[]⟩])]⟩))else none)else none)else none)else none)else(bif Nat.ble ((x1.toNat - 0)+1) 140737488355328 then(bif Nat.ble (((x1.toNat - 0)+1)*32) 140737488355328 then(bif Nat.ble x15 row.length then(bif(true&&(true&&((((row.drop 0).take ((x1.toNat - 0)*3))++[Value.int .i64 1,.int .i64 0,.string ⟨#[]⟩]).all qo&&true)))then(some (.normal,⟨[(0,.slice (some ⟨0,0,none⟩) n 6),(6,.pointer (some ⟨6,0,none⟩)),(7,.int .i64 0),(8,.pointer (some ⟨7,0,none⟩)),(9,.int .i64 x9)],[[.int .i64 0,.int .i64 0,.string ⟨#[]⟩],[.slice (some ⟨8,0,none⟩) ((x1.toNat - 0)+1) 3,.slice (some ⟨1,0,none⟩) nr 3,.slice (some ⟨2,0,none⟩) na 3,.int .i64 0],(((row.drop 0).take ((x1.toNat - 0)*3))++[Value.int .i64 1,.int .i64 0,.string ⟨#[]⟩])]⟩))else none)else none)else none)else none))else none)else none)else none)else none)else(bif((rdI cs x5)==6)then(bif(decide (0≤x3)&&Nat.ble x3.toNat k)then(bif(true&&((Nat.ble (x10+((k - x3.toNat)*3)) row.length&&((row.drop x10).take ((k - x3.toNat)*3)).all qo)&&true))then(bif((wo (k - x3.toNat) (Int.ofNat (k - x3.toNat)) ((row.drop x10).take ((k - x3.toNat)*3)))&&(qj ((row.drop x10).take ((k - x3.toNat)*3))).all fun v=>inR v.snd.fst)then(bif(decide (0≤x3)&&Nat.ble x3.toNat k)then(bif((Fit.zR x13 (qj ((row.drop x10).take ((k - x3.toNat)*3)))).2 != 0)then(some (.ret,⟨[(6,.pointer (some ⟨6,0,none⟩)),(7,.int .i64 (Fit.zR x13 (qj ((row.drop x10).take ((k - x3.toNat)*3)))).2)],[[.int .i64 0,.int .i64 0,.string ⟨#[]⟩]]⟩))else(bif Nat.ble ((x3.toNat - 0)+1) 140737488355328 then(bif Nat.ble (((x3.toNat - 0)+1)*32) 140737488355328 then(bif Nat.ble (0+((x3.toNat - 0)*3)) row.length then(bif(true&&(true&&((((row.drop 0).take ((x3.toNat - 0)*3))++[Value.int .i64 (Fit.zR x13 (qj ((row.drop x10).take ((k - x3.toNat)*3)))).1.1,.int .i64 (Fit.zR x13 (qj ((row.drop x10).take ((k - x3.toNat)*3)))).1.2.1,.string (Fit.zR x13 (qj ((row.drop x10).take ((k - x3.toNat)*3)))).1.2.2]).all qo&&true)))then(some (.normal,⟨[(0,.slice (some ⟨0,0,none⟩) n 6),(6,.pointer (some ⟨6,0,none⟩)),(7,.int .i64 0),(8,.pointer (some ⟨7,0,none⟩)),(9,.int .i64 x9)],[[.int .i64 0,.int .i64 0,.string ⟨#[]⟩],[.slice (some ⟨8,0,none⟩) ((x3.toNat - 0)+1) 3,.slice (some ⟨1,0,none⟩) nr 3,.slice (some ⟨2,0,none⟩) na 3,.int .i64 0],(((row.drop 0).take ((x3.toNat - 0)*3))++[Value.int .i64 (Fit.zR x13 (qj ((row.drop x10).take ((k - x3.toNat)*3)))).1.1,.int .i64 (Fit.zR x13 (qj ((row.drop x10).take ((k - x3.toNat)*3)))).1.2.1,.string (Fit.zR x13 (qj ((row.drop x10).take ((k - x3.toNat)*3)))).1.2.2])]⟩))else none)else none)else none)else none))else none)else none)else none)else none)else(bif((rdI cs x5)==10)then(bif decide (0≤x1)then(bif Nat.blt x1.toNat k then(bif isL row x4 [(.i .i64),(.i .i64),.s]then(bif(decide (0≤x1)&&Nat.ble x1.toNat k)then(bif(inR x8)then(bif(x12.2 != 0)then(some (.ret,⟨[(6,.pointer (some ⟨6,0,none⟩)),(7,.int .i64 x12.2)],[[.int .i64 0,.int .i64 0,.string ⟨#[]⟩]]⟩))else(bif Nat.ble ((x1.toNat - 0)+1) 140737488355328 then(bif Nat.ble (((x1.toNat - 0)+1)*32) 140737488355328 then(bif Nat.ble x15 row.length then(bif(true&&(true&&((((row.drop 0).take ((x1.toNat - 0)*3))++[Value.int .i64 x12.1.1,.int .i64 x12.1.2.1,.string x12.1.2.2]).all qo&&true)))then(some (.normal,⟨[(0,.slice (some ⟨0,0,none⟩) n 6),(6,.pointer (some ⟨6,0,none⟩)),(7,.int .i64 0),(8,.pointer (some ⟨7,0,none⟩)),(9,.int .i64 x9)],[[.int .i64 0,.int .i64 0,.string ⟨#[]⟩],[.slice (some ⟨8,0,none⟩) ((x1.toNat - 0)+1) 3,.slice (some ⟨1,0,none⟩) nr 3,.slice (some ⟨2,0,none⟩) na 3,.int .i64 0],(((row.drop 0).take ((x1.toNat - 0)*3))++[Value.int .i64 x12.1.1,.int .i64 x12.1.2.1,.string x12.1.2.2])]⟩))else none)else none)else none)else none))else none)else none)else none)else none)else none)else(bif((rdI cs x5)==8)then(bif decide (0≤x1)then(bif Nat.blt x1.toNat k then(bif isL row x4 [(.i .i64),(.i .i64),.s]then(bif(decide (0≤x1)&&Nat.ble x1.toNat k)then(bif(A35.tru (rdI row x4) x8)then(bif(true&&(true&&(row.all qo&&true)))then(some (.normal,⟨[(0,.slice (some ⟨0,0,none⟩) n 6),(6,.pointer (some ⟨6,0,none⟩)),(7,.int .i64 0),(8,.pointer (some ⟨7,0,none⟩)),(9,.int .i64 x9)],[[.int .i64 0,.int .i64 0,.string ⟨#[]⟩],[.slice (some ⟨8,0,none⟩) (x1.toNat - 0) 3,.slice (some ⟨1,0,none⟩) nr 3,.slice (some ⟨2,0,none⟩) na 3,.int .i64 0],row]⟩))else none)else(bif decide (0≤i)then(bif Nat.blt i.toNat n then(bif isV cs (x5+1) (.i .i64)then(bif(true&&(true&&(row.all qo&&true)))then(some (.normal,⟨[(0,.slice (some ⟨0,0,none⟩) n 6),(6,.pointer (some ⟨6,0,none⟩)),(7,.int .i64 0),(8,.pointer (some ⟨7,0,none⟩)),(9,.int .i64 (rdI cs (x5+1)))],[[.int .i64 0,.int .i64 0,.string ⟨#[]⟩],[.slice (some ⟨8,0,none⟩) (x1.toNat - 0) 3,.slice (some ⟨1,0,none⟩) nr 3,.slice (some ⟨2,0,none⟩) na 3,.int .i64 0],row]⟩))else none)else none)else none)else none))else none)else none)else none)else none)else(bif decide (0≤i)then(bif Nat.blt i.toNat n then(bif isV cs (x5+1) (.i .i64)then(bif(true&&(true&&(row.all qo&&true)))then(some (.normal,⟨[(0,.slice (some ⟨0,0,none⟩) n 6),(6,.pointer (some ⟨6,0,none⟩)),(7,.int .i64 0),(8,.pointer (some ⟨7,0,none⟩)),(9,.int .i64 (rdI cs (x5+1)))],[[.int .i64 0,.int .i64 0,.string ⟨#[]⟩],[.slice (some ⟨8,0,none⟩) k 3,.slice (some ⟨1,0,none⟩) nr 3,.slice (some ⟨2,0,none⟩) na 3,.int .i64 0],row]⟩))else none)else none)else none)else none))))))))))else none)else none)else none)else(bif(true&&(true&&(row.all qo&&true)))then(some (.exit 0,⟨[(6,.pointer (some ⟨6,0,none⟩)),(8,.pointer (some ⟨7,0,none⟩))],[[.int .i64 0,.int .i64 0,.string ⟨#[]⟩],[.slice (some ⟨8,0,none⟩) k 3,.slice (some ⟨1,0,none⟩) nr 3,.slice (some ⟨2,0,none⟩) na 3,.int .i64 0],row]⟩))else none))):=by kernel_rfl
end A16L0R
end
end Go.Proofs.YtaiokpmmjbiajaaGreatDoorDx
namespace Go.Proofs.YtaiokpmmjbiajaaGreatDoorDx.Ari
section
open Go Go.Proofs Go.Proofs.YtaiokpmmjbiajaaGreatDoorDx.Fit
theorem xn (x:Int):inR (IntKind.wrap .i64 x)=true:=vN.2 (by rw[IntKind.wrap_i64];omega)
abbrev I (v:W3):Prop:=inR v.2.1=true
theorem dL (k n:Int):I (A79.xi k n).1:=by
 unfold A79.xi
 split
 ·rfl
 ·split
  ·split
   ·rfl
   ·exact xn _
  ·rfl
theorem iZ {k n:Int} (hk:k=2∨k=3) (hn:inR n=true) (h:(A127.dec k n).2=true):inR (A127.dec k n).1=true:=by
 obtain⟨d1,d2⟩:=jo hk hn
 rw[d1]at h
 rw[(d2 h).1]
 exact(d2 h).2
theorem ly {k n:Int} (hn:inR n=true) (h:(A127.dec k n).2=true):inR (A127.dec k n).1=true:=by
 by_cases hk:k=3
 ·subst hk;exact hn
 ·have e : A127.dec k n = A127.dec 2 n := by unfold A127.dec; rw [if_neg hk, if_neg (by decide)]
  rw[e]at h ⊢
  exact iZ (.inl rfl) hn h
theorem X5 {k n:Int} (hn:inR n=true):I (A75.kl k n).1:=by
 unfold A75.kl
 split
 ·rfl
 ·split
  ·rename_i hk
   split
   ·rename_i h;exact iZ hk hn h
   ·rfl
  ·rfl
theorem W8 (c:Int):I (Ref.J5 c):=by
 unfold Ref.J5
 cases c==0<;>cases c==1<;>rfl
theorem QB (b:Bool):I (Ref.yI b):=by cases b<;>rfl
theorem ow (s:ByteArray) (p:Int×Bool):I (Ref.Vn s p):=by
 unfold Ref.Vn
 cases p.2
 ·rfl
 ·cases eqU s.data.toList [60]
  ·cases eqU s.data.toList [60, 61]
   ·cases eqU s.data.toList [62]
    ·exact QB _
    ·exact QB _
   ·exact QB _
  ·exact QB _
theorem Jl {k:Int} {p:Int×Bool} (h:p.2=true→inR p.1=true):I (ofV k p).1:=by
 unfold ofV
 cases e:p.2
 ·rfl
 ·exact h e
theorem dX {f:Int→Int→Int×Bool} (hf: ∀a b,inR a=true→inR b=true→(f a b).2=true→inR (f a b).1=true) {a b:W3} (ha:I a) (hb:I b):I (j6 f a b).1:=by
 unfold j6
 cases bad a.1||bad b.1
 rotate_left
 ·rfl
 cases a.1==0||b.1==0
 rotate_left
 ·rfl
 cases a.1==2&&b.1==2
 rotate_left
 ·exact Jl (hf _ _ ha hb)
 cases hd:(A127.dec a.1 a.2.1).2&&(A127.dec b.1 b.2.1).2
 ·rfl
 ·refine Jl fun h => ?_
  rw[Bool.and_eq_true]at hd
  exact hf _ _ (ly ha hd.1) (ly hb hd.2) h
theorem aJ (n:Nat) (b:Int):0≤Int.tmod (n:Int) b∧Int.tmod (n:Int) b≤n:=by
 cases b with
 |ofNat m=>
  show (0:Int)≤((n % m:Nat):Int)∧((n % m:Nat):Int)≤n
  have:=Nat.mod_le n m
  omega
 |negSucc m=>
  show (0:Int)≤((n % (m+1):Nat):Int)∧((n % (m+1):Nat):Int)≤n
  have:=Nat.mod_le n (m+1)
  omega
theorem pn {a b:Int} (ha:inR a=true) (hb:inR b=true):inR (rem a b)=true:=by
 have h1:=vN.1 ha
 unfold rem
 cases b != -1
 ·rfl
 ·show inR (Int.tmod a b) = true
  refine vN.2 ?_
  rcases Int.lt_or_le a 0 with h|h
  ·have e : Int.tmod a b = -Int.tmod (-a) b := by rw [Int.neg_tmod, Int.neg_neg]
   obtain⟨n,hn⟩:=Int.eq_ofNat_of_zero_le (show 0≤ -a by omega)
   have g:=aJ n b
   rw[e,hn]
   omega
  ·obtain ⟨n, rfl⟩ := Int.eq_ofNat_of_zero_le h
   have g:=aJ n b
   omega
theorem iF {k n:Int} {t:ByteArray} (h:A33.okv k n t=true):t.data.toList.length≤1024:=by
 have e0:eqU t.data.toList []=true→t.data.toList.length≤1024:=fun e=>by
  have:=Go.Proofs.YtaiokpmmjbiajaaGreatDoorDx.Fit.yJ e
  rw[this];decide
 unfold A33.okv at h
 cases h0:k==0<;>rw[h0]at h
 rotate_left
 ·simp only[cond_true,Bool.and_eq_true]at h;exact e0 h.2
 cases h1:k==1<;>rw[h1]at h
 rotate_left
 ·simp only[cond_true,cond_false,Bool.and_eq_true]at h;exact e0 h.1
 cases h2:k==2||k==3<;>rw[h2]at h
 rotate_left
 ·exact e0 h
 simp only[cond_false,Bool.and_eq_true,decide_eq_true_eq]at h
 exact h.2.2.1
theorem Jh {a b d:Int} (ha:inR a=true) (hb:inR b=true) (hd:inR d=true) (h0:d≠0) (h:(quot a b d).2=true):inR (quot a b d).1=true:=((JH ha hb hd h0).2 h).2
theorem nO {a b:W3} (ha:I a) (hb:I b):I (Kk a b).1:=by
 unfold Kk
 cases (Ref.zq a.1 b.1 b.2.1 false).2
 rotate_left
 ·rfl
 refine Jl ?_
 cases a.1==3&&b.1==3
 ·exact Jh ha hb rfl (by decide)
 ·exact Jh ha hb rfl (by decide)
theorem mh {a b:W3} (ha:I a) (hb:I b):I (Kl a b).1:=by
 unfold Kl
 cases hf:(Ref.zq a.1 b.1 b.2.1 true).2
 rotate_left
 ·rfl
 have hn:=KA hf
 cases a.1==2&&b.1==2
 rotate_left
 ·exact Jl (Jh ha rfl hb hn)
 cases hd:(Ref.zp a.1 a.2.1).2&&(Ref.zp b.1 b.2.1).2
 ·rfl
 ·rw [Bool.and_eq_true] at hd
  exact Jl (Jh (Wo ha hd.1) rfl (Wo hb hd.2) (Va hn hd.2))
theorem nG {a b:W3} (ha:I a) (hb:I b):I (ZR a b).1:=by
 unfold ZR
 cases (Ref.zeroV a.1 b.1 b.2.1).2 != 0
 rotate_left
 ·rfl
 cases (Ref.zeroV a.1 b.1 b.2.1).1
 rotate_left
 ·rfl
 exact dX (fun x y hx hy _=>pn hx hy) ha hb
theorem nR (t:ByteArray) {a b:W3} (ha:I a) (hb:I b):I (wK t a b).1:=by
 unfold wK
 cases eqU t.data.toList [43]||(eqU t.data.toList [45]||(eqU t.data.toList [42]||(eqU t.data.toList [47]||eqU t.data.toList [37])))
 rotate_left
 ·unfold xY
  cases eqU t.data.toList [43]
  rotate_left
  ·exact dX (fun x y _ _ _=>xn _) ha hb
  cases eqU t.data.toList [45]
  rotate_left
  ·exact dX (fun x y _ _ _=>xn _) ha hb
  cases eqU t.data.toList [42]
  rotate_left
  ·exact nO ha hb
  cases eqU t.data.toList [47]
  ·exact nG ha hb
  ·exact mh ha hb
 cases eqU t.data.toList [61]
 rotate_left
 ·show inR (Ref.Qf a b) = true
  unfold Ref.Qf
  cases a.1==0||b.1==0
  ·cases (A76.compare a.1 a.2.1 a.2.2 b.1 b.2.1 b.2.2).2&&(A76.compare a.1 a.2.1 a.2.2 b.1 b.2.1 b.2.2).1==0<;>rfl
  ·rfl
 cases eqU t.data.toList [33,61]
 rotate_left
 ·exact W8 _
 cases eqU t.data.toList [97,110,100]
 rotate_left
 ·exact W8 _
 cases eqU t.data.toList [111,114]
 rotate_left
 ·exact W8 _
 exact ow _ _
theorem gq (s:ByteArray) (kind:Int): ∀(l:List W3) (p:Bool×W3),(∀v∈l,I v)→I p.2→I (A34L1.go s kind p l).2
 |[],p,h,hp=>hp
 |v::l,p,h,hp=>by
  have hv:=h v (List.mem_cons_self ..)
  have ht: ∀w∈l,I w:=fun w hw=>h w (List.mem_cons_of_mem _ hw)
  have hpick: ∀u:W3,I u→I (A34L1.pick s p u).2:=fun u hu=>by
   unfold A34L1.pick
   cases A34L1.better s p.1 (A76.compare u.1 u.2.1 u.2.2 p.2.1 p.2.2.1 p.2.2.2).1
   ·exact hp
   ·exact hu
  unfold A34L1.go
  cases v.1==0
  rotate_left
  ·exact gq s kind l p ht hp
  cases kind==3
  ·exact gq s kind l _ ht (hpick v hv)
  ·cases (A75.kl v.1 v.2.1).2 != 0
   ·exact gq s kind l _ ht (hpick _ (X5 hv))
   ·exact hp
theorem Vf (s:ByteArray) (l:List W3) (h: ∀v∈l,I v):I (kn s l).1:=by
 unfold kn
 cases (A34.jc s l).1 != 0
 ·exact gq s _ l _ h rfl
 ·rfl
theorem Zj (t:ByteArray):I (kJ t).1:=by
 unfold kJ
 cases decide (Int.ofNat t.data.toList.length>1024)<;>rfl
theorem bQ (s:ByteArray) {v:W3} (hv:I v):I (yX s v).1:=by
 unfold yX
 cases v.1==2
 ·show inR (A80.rnd s v.2.1) = true
  unfold A80.rnd
  cases (eqU s.data.toList [99,101,105,108]&&decide (Int.tmod v.2.1 10000>0))||(eqU s.data.toList [114,111,117,110,100]&&decide (Int.tmod v.2.1 10000≥5000))
  ·cases (eqU s.data.toList [102,108,111,111,114]&&decide (Int.tmod v.2.1 10000<0))||(eqU s.data.toList [114,111,117,110,100]&&decide (IntKind.wrap .i64 (0 - Int.tmod v.2.1 10000)≥5000))<;>exact xn _
  ·exact xn _
 ·exact hv
theorem YT {l:List W3} (h: ∀v∈l,I v):I (l.headD v0):=by
 cases l with
 |nil=>rfl
 |cons v l=>exact h v (List.mem_cons_self ..)
theorem l7 {k n:Int} (hn:inR n=true):I (A82.WA k n).1:=by
 unfold A82.WA
 split
 ·rfl
 ·split
  ·exact xn _
  ·split
   ·exact hn
   ·rfl
theorem mg (s:ByteArray) (l:List W3) (h: ∀v∈l,I v) (hok:l.any A10L1.bad=false):I (Qa s l).1:=by
 have hh:=YT h
 have hlen:inR (Int.ofNat (Lib.runeCount (l.headD v0).2.2))=true:=by
  have hs:(l.headD v0).2.2.size≤1024:=by
   cases l with
   |nil=>show (0:Nat)≤1024;omega
   |cons v l=>
    rw[List.any_cons,Bool.or_eq_false_iff]at hok
    have ho:A33.okv v.1 v.2.1 v.2.2=true:=by have:=hok.1;unfold A10L1.bad at this;simpa using this
    show v.2.2.size≤1024
    have:=iF ho
    rwa [Array.length_toList]at this
  have hr:Lib.runeCount (l.headD v0).2.2≤(l.headD v0).2.2.size:=Lib.runeCountFrom_le _ _ _
  exact vN.2 (by show -9223372036854775808≤((Lib.runeCount (l.headD v0).2.2:Nat):Int)∧((Lib.runeCount (l.headD v0).2.2:Nat):Int)<_;omega)
 unfold Qa
 dsimp only[]
 cases is s [97,98,115]
 rotate_left
 ·cases decide ((l.headD v0).2.1 < 0)
  ·exact hh
  ·exact dL _ _
 cases is s [99,101,105,108]
 rotate_left
 ·exact bQ s hh
 cases is s [102,108,111,111,114]
 rotate_left
 ·exact bQ s hh
 cases is s [114,111,117,110,100]
 rotate_left
 ·exact bQ s hh
 cases is s [115,105,103,110]
 rotate_left
 ·show inR (Kq (l.headD v0).2.1) = true
  unfold Kq
  cases decide ((l.headD v0).2.1<0)<;>cases decide ((l.headD v0).2.1>0)<;>rfl
 cases is s [116,111,105,110,116]
 rotate_left
 ·exact l7 hh
 cases is s [116,111,100,101,99]
 rotate_left
 ·exact X5 hh
 cases is s [103,114,101,97,116,101,115,116]
 rotate_left
 ·exact Vf s l h
 cases is s [108,101,97,115,116]
 rotate_left
 ·exact Vf s l h
 cases is s [108,101,110,103,116,104]
 rotate_left
 ·exact hlen
 cases is s [108,111,119,101,114]
 rotate_left
 ·exact Zj _
 cases is s [117,112,112,101,114]
 rotate_left
 ·exact Zj _
 cases is s [116,114,105,109]
 rotate_left
 ·exact Zj _
 cases is s [115,117,98,115,116,114]
 rotate_left
 ·exact Zj _
 cases is s [116,111,116,101,120,116]
 ·exact Zj _
 ·cases (l.headD v0).1 == 4
  ·exact Zj _
  ·exact hh
theorem iJ (s:ByteArray) (l:List W3) (h: ∀v∈l,I v):I (zR s l).1:=by
 unfold zR
 cases (kA s (l.map (·.1))).2 != 0
 rotate_left
 ·rfl
 cases hb:l.any A10L1.bad
 rotate_left
 ·rfl
 cases is s [99,111,97,108,101,115,99,101]
 rotate_left
 ·exact Vf s l h
 cases is s [110,117,108,108,105,102]
 rotate_left
 ·cases A35.tru (bif (l.headD v0).1 == 0 || (l.getD 1 v0).1 == 0 then 0 else 1) (bif (A76.compare (l.headD v0).1 (l.headD v0).2.1 (l.headD v0).2.2 (l.getD 1 v0).1 (l.getD 1 v0).2.1 (l.getD 1 v0).2.2).2 && (A76.compare (l.headD v0).1 (l.headD v0).2.1 (l.headD v0).2.2 (l.getD 1 v0).1 (l.getD 1 v0).2.1 (l.getD 1 v0).2.2).1 == 0 then 1 else 0)
  ·exact YT h
  ·rfl
 cases (l.map (·.1)).any (· ==0)
 ·exact mg s l h hb
 ·rfl
end
end Go.Proofs.YtaiokpmmjbiajaaGreatDoorDx.Ari
namespace Go.Proofs.YtaiokpmmjbiajaaGreatDoorDx
section
open Go Go.Proofs
theorem fz {a b:List Value} {i:Nat} (h:i<a.length):nth (a++b) i=nth a i:=by rw[vS,vS,List.getElem?_append_left h]
theorem jN (l:List W3) (r:List Value) {j:Nat} (h:j<l.length) (d:Nat) (hd:d<3):nth (qq l++r) (j*3+d)=(vt (l.getD j v0))[d]? :=by
 rw[fz (by rw[zh];omega),vo d hd l h,List.getD_eq_getElem?_getD,List.getElem?_eq_getElem h];rfl
theorem ky (l:List W3) (r:List Value) {j:Nat} (h:j<l.length):isL (qq l++r) (j*3) [.i .i64,.i .i64,.s]=true:=by
 have h0:=jN l r h 0 (by omega)
 have h1:=jN l r h 1 (by omega)
 have h2:=jN l r h 2 (by omega)
 simp only[isL,isV,Nat.add_assoc,Nat.add_zero]at h0 ⊢
 rw[h0,h1,h2]
 rfl
theorem km (l:List W3) (r:List Value) {j:Nat} (h:j<l.length):rdI (qq l++r) (j*3)=(l.getD j v0).1:=by
 have h0:=jN l r h 0 (by omega)
 rw[Nat.add_zero]at h0
 unfold rdI;rw[h0];rfl
theorem kz (l:List W3) (r:List Value) {j:Nat} (h:j<l.length):rdI (qq l++r) (j*3+1)=(l.getD j v0).2.1:=by
 unfold rdI;rw[jN l r h 1 (by omega)];rfl
theorem kN (l:List W3) (r:List Value) {j:Nat} (h:j<l.length):rdS (qq l++r) (j*3+1+1)=(l.getD j v0).2.2:=by
 unfold rdS;rw[Nat.add_assoc,jN l r h 2 (by omega)];rfl
theorem yw (a b:List W3):qq (a++b)=qq a++qq b:=by unfold qq;rw[List.flatMap_append]
theorem aV (l:List W3) (p:Nat):(qq l).take (p*3)=qq (l.take p):=by
 induction l generalizing p with
 |nil=>simp[qq]
 |cons v l ih=>
  cases p with
  |zero=>simp[qq]
  |succ p=>
   show (vt v++qq l).take _=vt v++qq (l.take p)
   rw[List.take_append,List.take_of_length_le (by show 3≤(p+1)*3;omega),←ih p]
   congr 2
   show (p+1)*3 - 3=p*3
   omega
theorem aP (l:List W3) (p:Nat):(qq l).drop (p*3)=qq (l.drop p):=by
 induction l generalizing p with
 |nil=>simp[qq]
 |cons v l ih=>
  cases p with
  |zero=>simp
  |succ p=>
   show (vt v++qq l).drop _=qq (l.drop p)
   rw[List.drop_append,List.drop_of_length_le (by show 3≤(p+1)*3;omega),←ih p,List.nil_append]
   congr 1
   show (p+1)*3 - 3=p*3
   omega
theorem vB (l:List W3) (r:List Value) {p:Nat} (h:p≤l.length):((qq l++r).drop 0).take (p*3)=qq (l.take p):=by
 rw[List.drop_zero,List.take_append_of_le_length (by rw[zh];exact Nat.mul_le_mul_right _ h),aV]
theorem Xp (l:List W3) (r:List Value) {p:Nat} (h:p≤l.length):((qq l++r).drop (p*3)).take ((l.length - p)*3)=qq (l.drop p):=by
 rw[List.drop_append_of_le_length (by rw[zh];exact Nat.mul_le_mul_right _ h),aP,List.take_append_of_le_length (by rw[zh,List.length_drop];exact Nat.le_refl _),List.take_of_length_le (by rw[zh,List.length_drop];exact Nat.le_refl _)]
theorem Vt (l:List W3) (v:W3):qq l++[.int .i64 v.1,.int .i64 v.2.1,.string v.2.2]=qq (l++[v]):=by rw[yw];rfl
namespace AMac
def given (v:W3) (st:List W3) (i:Nat):(List W3×Nat) ⊕ Int:=bif Ref.chk v.1 v.2.1 v.2.2 != 0 then .inr 22 else .inl (st++[v],i+1)
def put (p:W3×Int) (st:List W3) (i:Nat):(List W3×Nat) ⊕ Int:=bif p.2 != 0 then .inr p.2 else .inl (st++[p.1],i+1)
def step (row aggs:List W3) (o:O6) (i:Nat) (st:List W3):(List W3×Nat) ⊕ Int:=
 bif o.1==1 then given o.2.2.2 st i else
 bif o.1==2 then given (row.getD o.2.1.toNat v0) st i else
 bif o.1==9 then given (aggs.getD o.2.1.toNat v0) st i else
 bif o.1==3 then(bif eqU o.2.2.1.data.toList [45]then put (A79.xi (st.getD (st.length - 1) v0).1 (st.getD (st.length - 1) v0).2.1) (st.take (st.length - 1)) i else .inl (st.take (st.length - 1)++[Ref.wi (st.getD (st.length - 1) v0)],i+1))else
 bif o.1==4 then put (Ari.wK o.2.2.1 (st.getD (st.length - 2) v0) (st.getD (st.length - 1) v0)) (st.take (st.length - 2)) i else
 bif o.1==5 then .inl (st.take (st.length - 1)++[Ref.yI (((st.getD (st.length - 1) v0).1==0)==(o.2.1==0))],i+1)else
 bif o.1==6 then put (Fit.zR o.2.2.1 (st.drop (st.length - o.2.1.toNat))) (st.take (st.length - o.2.1.toNat)) i else
 bif o.1==10 then put (A75.kl (st.getD (st.length - 1) v0).1 (st.getD (st.length - 1) v0).2.1) (st.take (st.length - 1)) i else
 bif o.1==8 then(bif A35.tru (st.getD (st.length - 1) v0).1 (st.getD (st.length - 1) v0).2.1 then .inl (st.take (st.length - 1),i+1)else .inl (st.take (st.length - 1),o.2.1.toNat))else
 .inl (st,o.2.1.toNat)
structure Q9 (row aggs:List W3) (o:O6) (i:Nat) (N:Int) (st:List W3):Prop where
 may:Ref.we o.1 o.2.1 o.2.2.1 i N row.length aggs.length=true
 qI:(Ref.zj o.1 o.2.1).1≤st.length
 small:st.length≤1024
 ist: ∀v∈st,Ari.I v
 irow: ∀v∈row,Ari.I v
 iagg: ∀v∈aggs,Ari.I v
 iop:Ari.I o.2.2.2
theorem xh {l:List W3} (h: ∀v∈l,Ari.I v) (j:Nat):Ari.I (l.getD j v0):=by
 rw[List.getD_eq_getElem?_getD]
 cases e:l[j]? with
 |none=>rfl
 |some v=>exact h v (List.mem_of_getElem? e)
theorem WQ {l:List W3} {v:W3} (h: ∀w∈l,Ari.I w) (hv:Ari.I v): ∀w∈l++[v],Ari.I w:=fun w hw=>by
 rcases List.mem_append.1 hw with hw|hw
 ·exact h w hw
 ·rw[List.mem_singleton.1 hw];exact hv
theorem dM {row aggs:List W3} {o:O6} {i:Nat} {N:Int} {st st':List W3} {i':Nat} (h:Q9 row aggs o i N st) (e:step row aggs o i st= .inl (st',i')): ∀v∈st',Ari.I v:=by
 have ht: ∀p,∀v∈st.take p,Ari.I v:=fun p v hv=>h.ist v (List.mem_of_mem_take hv)
 have hd: ∀p,∀v∈st.drop p,Ari.I v:=fun p v hv=>h.ist v (List.mem_of_mem_drop hv)
 have hg:=xh h.ist
 have giv: ∀v,Ari.I v→given v st i= .inl (st',i')→ ∀w∈st',Ari.I w:=fun v hv e=>by
  unfold given at e
  cases q:Ref.chk v.1 v.2.1 v.2.2 != 0<;>rw[q]at e
  ·cases e;exact WQ h.ist hv
  ·cases e
 have pt: ∀(p:W3×Int) (l:List W3),Ari.I p.1→(∀w∈l,Ari.I w)→put p l i= .inl (st',i')→ ∀w∈st',Ari.I w:=fun p l hp hl e=>by
  unfold put at e
  cases q:p.2 != 0<;>rw[q]at e
  ·cases e;exact WQ hl hp
  ·cases e
 unfold step at e
 cases q1:o.1==1<;>rw[q1]at e
 rotate_left
 ·exact giv _ h.iop e
 cases q2:o.1==2<;>rw[q2]at e
 rotate_left
 ·exact giv _ (xh h.irow _) e
 cases q9:o.1==9<;>rw[q9]at e
 rotate_left
 ·exact giv _ (xh h.iagg _) e
 cases q3:o.1==3<;>rw[q3]at e
 rotate_left
 ·cases qt : eqU o.2.2.1.data.toList [45] <;> rw [qt] at e
  ·cases e;exact WQ (ht _) (Ari.W8 _)
  ·exact pt _ _ (Ari.dL _ _) (ht _) e
 cases q4:o.1==4<;>rw[q4]at e
 rotate_left
 ·exact pt _ _ (Ari.nR _ (hg _) (hg _)) (ht _) e
 cases q5:o.1==5<;>rw[q5]at e
 rotate_left
 ·cases e;exact WQ (ht _) (Ari.QB _)
 cases q6:o.1==6<;>rw[q6]at e
 rotate_left
 ·exact pt _ _ (Ari.iJ _ _ (hd _)) (ht _) e
 cases q10:o.1==10<;>rw[q10]at e
 rotate_left
 ·exact pt _ _ (Ari.X5 (hg _)) (ht _) e
 cases q8:o.1==8<;>rw[q8]at e
 ·cases e;exact h.ist
 ·cases qt:A35.tru (st.getD (st.length - 1) v0).1 (st.getD (st.length - 1) v0).2.1<;>rw[qt]at e<;>cases e<;>exact ht _
end AMac
end
end Go.Proofs.YtaiokpmmjbiajaaGreatDoorDx
section
namespace Go.Proofs.YtaiokpmmjbiajaaGreatDoorDx.AHei
open Go
theorem JV {t:List Int} {a b:Nat} {g:Int} (hb:b<t.length):(t.set a g).getD b 0=if a=b then g else t.getD b 0:=by
 split
 ·rename_i e
  subst e
  rw[List.getD_eq_getElem?_getD,List.getElem?_set_self hb];rfl
 ·rename_i e
  exact getD_set_ne e
theorem Jk {t t':List Int} {j:Nat} {g:Int} (h0:0≤g) (hj:j<t.length) (e:put t j g=some t'):t'.length=t.length∧t'.getD j 0=g∧ ∀x,x<t.length→0≤t.getD x 0→t'.getD x 0=t.getD x 0:=by
 unfold put at e
 cases h2:decide (t.getD j 0<0)<;>rw[h2]at e
 ·cases h3 : t.getD j 0 == g <;> rw [h3] at e
  ·cases e
  ·cases e;exact⟨rfl,beq_iff_eq.1 h3,fun x _ _=>rfl⟩
 ·cases e
  have h2:=of_decide_eq_true h2
  refine⟨by simp,by rw[JV hj,if_pos rfl],fun x hx hx0=> ?_⟩
  rw[JV hx]
  split
  ·rename_i e;subst e;omega
  ·rfl
structure Ok (N lf la:Int) (t:List Int) (i:Nat) (o:O6):Prop where
 may:Ref.we o.1 o.2.1 o.2.2.1 i N lf la=true
 h0:0≤t.getD i 0
 qI:(Ref.zj o.1 o.2.1).1≤t.getD i 0
 h1:t.getD i 0≤1024
 next:o.1≠7→t.getD (i+1) 0=t.getD i 0+(Ref.zj o.1 o.2.1).2
 jump:o.1=7∨o.1=8→t.getD o.2.1.toNat 0=t.getD i 0+(Ref.zj o.1 o.2.1).2
 pos:0≤t.getD i 0+(Ref.zj o.1 o.2.1).2
theorem step_ok {N lf la:Int} {n:Nat} (hN:N=n) {s s':List Int×Int} {i:Nat} {o:O6} (hi:i<n) (h:Good n s) (e:step N lf la s i o=some s'):Ok N lf la s'.1 i o∧ ∀x,x<n+1→0≤s.1.getD x 0→s'.1.getD x 0=s.1.getD x 0:=by
 unfold step at e
 cases hc:decide (s.1.getD i 0<0)||(!Ref.we o.1 o.2.1 o.2.2.1 i N lf la||(decide (s.1.getD i 0<(Ref.zj o.1 o.2.1).1)||decide (s.1.getD i 0+(Ref.zj o.1 o.2.1).2>1024)))<;>rw[hc]at e
 rotate_left
 ·cases e
 simp only[Bool.or_eq_false_iff,Bool.not_eq_false',decide_eq_false_iff_not]at hc
 obtain⟨c1,c2,c3,c4⟩:=hc
 obtain⟨n1,n2,n3,n4⟩:=yy (k:=o.1) (n:=o.2.1) (ZY c2)
 have hg0:0≤s.1.getD i 0+(Ref.zj o.1 o.2.1).2:=by omega
 have hh:=(h.le _ (jZ (l:=s.1) (j:=i) (by have:=h.len;omega))).2
 have hlen:=h.len
 simp only[cond_false]at e
 obtain⟨t2,e2,rfl⟩:=Option.map_eq_some_iff.1 e
 obtain⟨t1,e1,e3⟩:=qi e2
 generalize hg:s.1.getD i 0+(Ref.zj o.1 o.2.1).2=g at*
 have p1:t1.length=n+1∧((o.1=7∨o.1=8)→t1.getD o.2.1.toNat 0=g∧o.2.1.toNat<n+1)∧ ∀x,x<n+1→0≤s.1.getD x 0→t1.getD x 0=s.1.getD x 0:=by
  cases q:o.1==7||o.1==8<;>rw[q]at e1
  ·cases e1
   refine⟨hlen,fun hk=> ?_,fun x _ _=>rfl⟩
   rcases hk with hk|hk<;>rw[hk]at q<;>cases q
  ·have hk : o.1 = 7 ∨ o.1 = 8 := by simpa using q
   have hb:=xw c2 hk
   have hjn:o.2.1.toNat<n+1:=by omega
   obtain⟨a1,a2,a3⟩:=Jk hg0 (by omega) e1
   exact⟨by omega,fun _=>⟨a2,hjn⟩,fun x hx h0=>a3 x (by omega) h0⟩
 have p2:t2.length=n+1∧(o.1≠7→t2.getD (i+1) 0=g)∧ ∀x,x<n+1→0≤t1.getD x 0→t2.getD x 0=t1.getD x 0:=by
  cases q:o.1==7<;>rw[q]at e3
  ·obtain ⟨a1, a2, a3⟩ := Jk hg0 (by omega) e3
   exact⟨by omega,fun _=>a2,fun x hx h0=>a3 x (by omega) h0⟩
  ·cases e3
   exact⟨p1.1,fun hk=>absurd (beq_iff_eq.1 q) hk,fun x _ _=>rfl⟩
 have mono: ∀x,x<n+1→0≤s.1.getD x 0→t2.getD x 0=s.1.getD x 0:=fun x hx h0=>by
  have:=p1.2.2 x hx h0
  rw[p2.2.2 x hx (by omega),this]
 have hii:=mono i (by omega) (by omega)
 refine⟨⟨c2,?_,?_,?_,fun hk=> ?_,fun hk=> ?_,?_⟩,mono⟩
 ·show 0≤t2.getD i 0;omega
 ·show _≤t2.getD i 0;omega
 ·show t2.getD i 0≤_;omega
 ·show t2.getD (i + 1) 0 = t2.getD i 0 + _
  rw[p2.2.1 hk,hii];omega
 ·show t2.getD o.2.1.toNat 0 = t2.getD i 0 + _
  obtain⟨b1,b2⟩:=p1.2.1 hk
  rw[p2.2.2 _ b2 (by omega),b1,hii];omega
 ·show 0≤t2.getD i 0+_;omega
theorem Ok.mono {N lf la:Int} {n:Nat} (hN:N=n) {t u:List Int} {i:Nat} {o:O6} (hi:i<n) (h:Ok N lf la t i o) (hm: ∀x,x<n+1→0≤t.getD x 0→u.getD x 0=t.getD x 0):Ok N lf la u i o:=by
 have h0:=h.h0;have h1:=h.h1;have hn:=h.qI;have hp:=h.pos
 have e:=hm i (by omega) h0
 refine⟨h.may,by omega,by omega,by omega,fun hk=> ?_,fun hk=> ?_,by omega⟩
 ·have g := h.next hk
  rw[hm (i+1) (by omega) (by omega),g,e]
 ·have g := h.jump hk
  have hb:=xw h.may hk
  rw[hm _ (by omega) (by omega),g,e]
theorem XG {N lf la:Int} {n:Nat} (hN:N=n): ∀(l:List O6) (i:Nat) (s t:List Int×Int),i+l.length=n→Good n s→run N lf la i l s=some t→(∀j (hj:j<l.length),Ok N lf la t.1 (i+j) l[j])∧ ∀x,x<n+1→0≤s.1.getD x 0→t.1.getD x 0=s.1.getD x 0
 |[],i,s,t,hl,hg,e=>by cases e;exact⟨fun j hj=>absurd hj (Nat.not_lt_zero _),fun x _ _=>rfl⟩
 |o::l,i,s,t,hl,hg,e=>by
  rw[List.length_cons]at hl
  unfold run at e
  obtain⟨u,e1,e2⟩:=qi e
  obtain⟨a1,a2⟩:=step_ok hN (show i<n by omega) hg e1
  obtain⟨b1,b2⟩:=XG hN l (i+1) u t (by omega) (yN hg e1) e2
  refine⟨fun j hj=> ?_,fun x hx h0=> ?_⟩
  ·cases j with
   |zero=>exact Ok.mono hN (by omega) a1 b2
   |succ j=>
    have:=b1 j (by simpa using hj)
    rw[show i+(j+1)=i+1+j by omega]
    exact this
  ·have := a2 x hx h0
   rw[b2 x hx (by omega),this]
theorem Qn {lf la:Int} {l:List O6} (h:(kf lf la l).2=true):l.length≤4096∧ ∃T:List Int,T.getD 0 0=0∧T.getD l.length 0=1∧ ∀j (hj:j<l.length),Ok l.length lf la T j l[j]:=by
 unfold kf at h
 cases h0:(l.length:Int)==0<;>rw[h0]at h
 rotate_left
 ·cases h
 cases h1:decide ((l.length:Int)>4096)<;>rw[h1]at h
 rotate_left
 ·cases h
 cases h2:j4 l.length lf la l (first l.length,0)<;>rw[h2]at h
 ·cases h
 have h1:=of_decide_eq_false h1
 have h:((j5 l.length lf la l (first l.length,0)).getD l.length 0==1)=true:=h
 refine⟨by omega,j5 l.length lf la l (first l.length,0),?_,beq_iff_eq.1 h,?_⟩
 ·unfold j4 at h2
  unfold j5
  cases e:run l.length lf la 0 l (first l.length,0)with
  |none=>rw[e]at h2;cases h2
  |some t=>
   have:=(XG rfl l 0 _ t (by omega) (wZ _) e).2 0 (by omega) (Int.le_refl 0)
   exact this
 ·unfold j4 at h2
  unfold j5
  cases e:run l.length lf la 0 l (first l.length,0)with
  |none=>rw[e]at h2;cases h2
  |some t=>
   have:=(XG rfl l 0 _ t (by omega) (wZ _) e).1
   intro j hj
   have g:=this j hj
   rw[Nat.zero_add]at g
   exact g
end Go.Proofs.YtaiokpmmjbiajaaGreatDoorDx.AHei
namespace Go.Proofs.YtaiokpmmjbiajaaGreatDoorDx.AMac
open Go
theorem KC {row aggs:List W3} {o:O6} {i:Nat} {N:Int} {st st':List W3} {i':Nat} (h:Q9 row aggs o i N st) (e:step row aggs o i st= .inl (st',i')):
  (st'.length:Int)=st.length+(Ref.zj o.1 o.2.1).2∧((o.1≠7∧i'=i+1)∨((o.1=7∨o.1=8)∧i'=o.2.1.toNat)):=by
 have hneed:=h.qI
 have k6:=h.may
 have giv: ∀v,given v st i= .inl (st',i')→st'.length=st.length+1∧i'=i+1:=fun v e=>by
  unfold given at e
  cases q:Ref.chk v.1 v.2.1 v.2.2 != 0<;>rw[q]at e
  ·cases e;exact⟨by simp,rfl⟩
  ·cases e
 have pt: ∀(p:W3×Int) (m:Nat),m≤st.length→put p (st.take m) i= .inl (st',i')→st'.length=m+1∧i'=i+1:=fun p m hm e=>by
  unfold put at e
  cases q:p.2 != 0<;>rw[q]at e
  ·cases e;exact⟨by rw[List.length_append,List.length_take];simp;omega,rfl⟩
  ·cases e
 have ZQ: ∀p:Nat,p≤st.length→(st.take p).length=p:=fun p hp=>by rw[List.length_take];omega
 unfold step at e
 cases q1:o.1==1<;>rw[q1]at e
 rotate_left
 ·obtain ⟨a, b⟩ := giv _ e
  rw[beq_iff_eq.1 q1]
  exact⟨by show (st'.length:Int)=st.length+1;omega,.inl ⟨by decide,b⟩⟩
 cases q2:o.1==2<;>rw[q2]at e
 rotate_left
 ·obtain ⟨a, b⟩ := giv _ e
  rw[beq_iff_eq.1 q2]
  exact⟨by show (st'.length:Int)=st.length+1;omega,.inl ⟨by decide,b⟩⟩
 cases q9:o.1==9<;>rw[q9]at e
 rotate_left
 ·obtain ⟨a, b⟩ := giv _ e
  rw[beq_iff_eq.1 q9]
  exact⟨by show (st'.length:Int)=st.length+1;omega,.inl ⟨by decide,b⟩⟩
 cases q3:o.1==3<;>rw[q3]at e
 rotate_left
 ·rw [beq_iff_eq.1 q3] at hneed ⊢
  have hn:(1:Int)≤st.length:=hneed
  have:st'.length=st.length - 1+1∧i'=i+1:=by
   cases qt:eqU o.2.2.1.data.toList [45]<;>rw[qt]at e
   ·cases e;exact⟨by rw[List.length_append,ZQ _ (by omega)];rfl,rfl⟩
   ·exact pt _ _ (by omega) e
  exact⟨by show (st'.length:Int)=st.length+0;omega,.inl ⟨by decide,this.2⟩⟩
 cases q4:o.1==4<;>rw[q4]at e
 rotate_left
 ·rw [beq_iff_eq.1 q4] at hneed ⊢
  have hn:(2:Int)≤st.length:=hneed
  obtain⟨a,b⟩:=pt _ _ (by omega) e
  exact⟨by show (st'.length:Int)=st.length+ -1;omega,.inl ⟨by decide,b⟩⟩
 cases q5:o.1==5<;>rw[q5]at e
 rotate_left
 ·rw [beq_iff_eq.1 q5] at hneed ⊢
  have hn:(1:Int)≤st.length:=hneed
  cases e
  exact⟨by rw[List.length_append,ZQ _ (by omega)];show ((st.length - 1+1:Nat):Int)=st.length+0;omega,.inl ⟨by decide,rfl⟩⟩
 cases q6:o.1==6<;>rw[q6]at e
 rotate_left
 ·obtain ⟨m1, m2⟩ := AHei.ZY k6 (beq_iff_eq.1 q6)
  rw[beq_iff_eq.1 q6]at hneed ⊢
  have hn:o.2.1≤st.length:=hneed
  obtain⟨a,b⟩:=pt _ _ (by omega) e
  refine⟨?_,.inl ⟨by decide,b⟩⟩
  show (st'.length:Int)=st.length+IntKind.wrap .i64 (1 - o.2.1)
  rw[zZ (by omega) (by omega)];omega
 cases q10:o.1==10<;>rw[q10]at e
 rotate_left
 ·rw [beq_iff_eq.1 q10] at hneed ⊢
  have hn:(1:Int)≤st.length:=hneed
  obtain⟨a,b⟩:=pt _ _ (by omega) e
  exact⟨by show (st'.length:Int)=st.length+0;omega,.inl ⟨by decide,b⟩⟩
 cases q8:o.1==8<;>rw[q8]at e
 ·cases e
  have hk:o.1=7:=by
   by_cases h7:o.1=7
   ·exact h7
   ·have e7 : (o.1 == 7 || o.1 == 8) = false := by rw [q8, beq_eq_false_iff_ne.2 h7]; rfl
    unfold Ref.we at k6
    rw[q1,q2,q9,q3,q4,q5,q6,q10,e7]at k6
    cases k6
  rw[hk]
  exact⟨by show (st.length:Int)=st.length+0;omega,.inr ⟨.inl rfl,rfl⟩⟩
 ·rw [beq_iff_eq.1 q8] at hneed ⊢
  have hn:(1:Int)≤st.length:=hneed
  cases qt:A35.tru (st.getD (st.length - 1) v0).1 (st.getD (st.length - 1) v0).2.1<;>rw[qt]at e<;>cases e
  ·exact⟨by rw[ZQ _ (by omega)];show ((st.length - 1:Nat):Int)=st.length+ -1;omega,.inr ⟨.inr rfl,rfl⟩⟩
  ·exact⟨by rw[ZQ _ (by omega)];show ((st.length - 1:Nat):Int)=st.length+ -1;omega,.inl ⟨by decide,rfl⟩⟩
def run (row aggs:List W3) (ops:List O6):Nat→Nat→List W3→List W3 ⊕ Int
 |0,_,st=> .inl st
 |f+1,i,st=>match ops[i]? with
  |none=> .inl st
  |some o=>match step row aggs o i st with
   | .inl p=>run row aggs ops f p.2 p.1
   | .inr e=> .inr e
def xN (row aggs:List W3) (ops:List O6):W3×Int:=
 bif AHei.kM row.length aggs.length ops != 0 then(v0,120)else match run row aggs ops ops.length 0 []with
  | .inl st=>(st.getD 0 v0,0)
  | .inr e=>(v0,e)
def qD (k:Int) (st:List W3) (j:List Value):List Value:=
 bif k==1 then[]else bif k==2 then[]else bif k==9 then[]else bif k==3 then[]else bif k==4 then[]else bif k==5 then[]else bif k==6 then[]else bif k==10 then[]else
 bif k==8 then vt (st.getD (st.length - 1) v0)++j else j
theorem VJ {k:Int} {st:List W3} {j:List Value} (h:j.all qo=true):(qD k st j).all qo=true:=by
 unfold qD
 cases k==1
 rotate_left
 ·rfl
 cases k==2
 rotate_left
 ·rfl
 cases k==9
 rotate_left
 ·rfl
 cases k==3
 rotate_left
 ·rfl
 cases k==4
 rotate_left
 ·rfl
 cases k==5
 rotate_left
 ·rfl
 cases k==6
 rotate_left
 ·rfl
 cases k==10
 rotate_left
 ·rfl
 cases k==8
 ·exact h
 ·show (vt _ ++ j).all qo = true
  rw[List.all_append,h];rfl
def ja (row aggs:List W3) (ops:List O6):Nat→Nat→List W3→List Value→(List W3×List Value) ⊕ Int
 |0,_,st,j=> .inl (st,j)
 |f+1,i,st,j=>match ops[i]? with
  |none=> .inl (st,j)
  |some o=>match step row aggs o i st with
   | .inl p=>ja row aggs ops f p.2 p.1 (qD o.1 st j)
   | .inr e=> .inr e
theorem Jp (row aggs:List W3) (ops:List O6): ∀(f i:Nat) (st:List W3) (j:List Value),(match ja row aggs ops f i st j with| .inl p=>(.inl p.1:List W3 ⊕ Int)| .inr e=> .inr e)=run row aggs ops f i st
 |0,i,st,j=>rfl
 |f+1,i,st,j=>by
  unfold ja run
  cases ops[i]? with
  |none=>rfl
  |some o=>
   dsimp only[]
   cases step row aggs o i st with
   |inl p=>exact Jp row aggs ops f p.2 p.1 _
   |inr e=>rfl
structure At (row aggs:List W3) (ops:List O6) (T:List Int) (i:Nat) (st:List W3):Prop where
 le:i≤ops.length
 len:(st.length:Int)=T.getD i 0
 ist: ∀v∈st,Ari.I v
theorem At.j4 {row aggs:List W3} {ops:List O6} {T:List Int} {i:Nat} {st:List W3} (h:At row aggs ops T i st) (hi:i<ops.length) (hT: ∀j (hj:j<ops.length),AHei.Ok ops.length row.length aggs.length T j ops[j]) (hr: ∀v∈row,Ari.I v) (ha: ∀v∈aggs,Ari.I v) (ho: ∀o∈ops,Ari.I o.2.2.2):Q9 row aggs ops[i] i ops.length st:=by
 have hk:=hT i hi
 have:=h.len;have:=hk.qI;have:=hk.h1
 exact⟨hk.may,by omega,by omega,h.ist,hr,ha,ho _ (List.getElem_mem hi)⟩
theorem At.next {row aggs:List W3} {ops:List O6} {T:List Int} {i:Nat} {st:List W3} (h:At row aggs ops T i st) (hi:i<ops.length) (hT: ∀j (hj:j<ops.length),AHei.Ok ops.length row.length aggs.length T j ops[j]) (hf:Q9 row aggs ops[i] i ops.length st) {st':List W3} {i':Nat} (e:step row aggs ops[i] i st= .inl (st',i')):i<i'∧At row aggs ops T i' st':=by
 have hk:=hT i hi
 obtain⟨a,b⟩:=KC hf e
 have hl:=h.len
 rcases b with⟨b1,rfl⟩|⟨b1,rfl⟩
 ·exact⟨by omega,⟨hi,by rw[hk.next b1];omega,dM hf e⟩⟩
 ·have hb := AHei.xw hk.may b1
  exact⟨by omega,⟨by omega,by rw[hk.jump b1];omega,dM hf e⟩⟩
end Go.Proofs.YtaiokpmmjbiajaaGreatDoorDx.AMac
namespace Go.Proofs.YtaiokpmmjbiajaaGreatDoorDx.AMac
open Go
def gd (n nr na:Nat) (cs rs as_:List Value):Bool:=
 je n (Int.ofNat n) cs&&(wo nr (Int.ofNat nr) rs&&(wo na (Int.ofNat na) as_&&((opsOf cs).all (fun o=>inR o.2.2.2.2.1)&&((qj rs).all (fun v=>inR v.2.1)&&((qj as_).all (fun v=>inR v.2.1)&&AHei.kM nr na (opsOf cs)==0)))))
def ZA (cs rs as_:List Value):Bool:=match ja (qj rs) (qj as_) (opsOf cs) (opsOf cs).length 0 [] []with
 | .inl _=>false
 | .inr _=>true
def err (cs rs as_:List Value):Int:=match ja (qj rs) (qj as_) (opsOf cs) (opsOf cs).length 0 [] []with
 | .inl _=>0
 | .inr e=>e
def ZD (cs rs as_:List Value):List Value:=match ja (qj rs) (qj as_) (opsOf cs) (opsOf cs).length 0 [] []with
 | .inl p=>qq p.1++p.2
 | .inr _=>[]
theorem yj (s:ByteArray):Fit.kA s []=(0,100):=by
 unfold Fit.kA Fit.rP
 simp only[show ([]:List Int).any A14L0.bad=false from rfl,show A14.num []=false from rfl,show A14.txt []=false from rfl,show A14.sub []=false from rfl,show ((A53.res []).2&&decide (Int.ofNat ([]:List Int).length≥1))=false from rfl,show (Int.ofNat ([]:List Int).length==2&&(A53.res []).2)=false from rfl,show ([]:List Int).foldl (fun b k=>b&&A14L1.ok1 k) (decide (Int.ofNat ([]:List Int).length≥1))=false from rfl,show (Int.ofNat ([]:List Int).length==1)=false from rfl,cond_false,Bool.cond_self]
theorem Kh (s:ByteArray):Fit.zR s []=(v0,100):=by
 unfold Fit.zR
 rw[List.map_nil,yj];rfl
end Go.Proofs.YtaiokpmmjbiajaaGreatDoorDx.AMac
namespace Go.Proofs.YtaiokpmmjbiajaaGreatDoorDx.AMac
open Go
def gd0 (n nr na:Nat) (cs rs as_:List Value):Bool:=
 je n (Int.ofNat n) cs&&(wo nr (Int.ofNat nr) rs&&(wo na (Int.ofNat na) as_&&((opsOf cs).all (fun o=>inR o.2.2.2.2.1)&&((qj rs).all (fun v=>inR v.2.1)&&(qj as_).all (fun v=>inR v.2.1)))))
end Go.Proofs.YtaiokpmmjbiajaaGreatDoorDx.AMac
namespace Go.Proofs.YtaiokpmmjbiajaaGreatDoorDx.AMac
open Go
def xq (row aggs:List W3) (ops:List O6):Bool×Int:=
 bif(ops.length:Int)==0 then(true,0)else((xN row aggs ops).2==0&&A35.tru (xN row aggs ops).1.1 (xN row aggs ops).1.2.1,(xN row aggs ops).2)
end Go.Proofs.YtaiokpmmjbiajaaGreatDoorDx.AMac
end
namespace Go.Proofs.YtaiokpmmjbiajaaGreatDoorDx
section
open Go Go.Proofs
namespace A16L0
abbrev sp:List (FuncId×Spec):=[(33,yU),(79,A79.spec),(109,A109.spec),(110,yD fun t x y=>ve (Ari.wK t x y)),(10,A10n.spec),(75,A75.spec),(35,A35.spec)]
theorem kG: ∀p∈sp,qu Tryz.prog La p.1 p.2:=by simpa[sp]using⟨oh,A79.qf,A109.qf,A110.qf,A10n.qf,A75.qf,A35.qf⟩
def qV (e:Int):KX:=⟨[(6,.pointer (some ⟨6,0,none⟩)),(7,.int .i64 e)],[[.int .i64 0,.int .i64 0,.string ⟨#[]⟩]]⟩
def stS (n nr na:Nat) (i:Nat) (st:List W3) (qD:List Value):KX:=A16L0R.stA n nr na st.length i (qq st++qD)
theorem xz (n nr na i:Nat) (l:List W3) (v:W3):A16L0R.stA n nr na (l.length+1) i (qq l++[.int .i64 v.1,.int .i64 v.2.1,.string v.2.2])=stS n nr na i (l++[v]) []:=by
 unfold stS
 rw[List.append_nil,←Vt,List.length_append];rfl
theorem dn (n:Nat):decide ((0:Int)≤(n:Int))=true:=decide_eq_true (by omega)
theorem vU (l:List W3) (h:l.length<4398046511104):wo l.length (Int.ofNat l.length) (qq l)=true:=by
 unfold wo
 simp only[Bool.and_eq_true,decide_true,vx,zh,Nat.beq_refl,Nat.blt_eq,true_and]
 exact h
def res (n nr na:Nat) (qD:List Value):(List W3×Nat) ⊕ Int→Ex×KX
 | .inl p=>(.normal,stS n nr na p.2 p.1 qD)
 | .inr e=>(.ret,qV e)
set_option maxHeartbeats 0 in
theorem dE (ops:List O6) (row aggs:List W3) (hl:ops.length≤4096) {i:Nat} (hi:i<ops.length) {st:List W3} {qD:List Value} (hj:qD.all qo=true) (hf:AMac.Q9 row aggs ops[i] i ops.length st):
  zW A16L0R.cfg sp [] 16 0 (stK 52 6 [(0,zu ops),(1,qq row),(2,qq aggs)] (stS ops.length row.length aggs.length i st qD)) (zD 6 100 52 A16L0R.kp A16L0R.cr)=
  some (res ops.length row.length aggs.length (AMac.qD ops[i].1 st qD) (AMac.step row aggs ops[i] i st)):=by
 unfold stS
 rw[A16L0R.round]
 dsimp only[]
 have h1:decide ((i:Int)<(ops.length:Int))=true:=decide_eq_true (by omega)
 have h2:=geI i
 have h3:Nat.blt i ops.length=true:=by rw[Nat.blt_eq];exact hi
 have h4:(0+i*6)=i*6:=by omega
 have h5:=wrI i (by omega)
 have hv1:isV (zu ops) (i*6+1) (.i .i64)=true:=by unfold isV;rw[vm ops hi 1 (by omega)];rfl
 have i1: ∀n:Nat,Int.ofNat n=(n:Int):=fun _=>rfl
 have hsc:(qq st++qD).all qo=true:=by rw[List.all_append,qZ,hj];rfl
 have Yc:=hf.small
 have big: ∀p:Nat,p≤1024→Nat.ble (p+1) 140737488355328=true∧Nat.ble ((p+1)*32) 140737488355328=true:=fun p hp=>⟨by rw[Nat.ble_eq];omega,by rw[Nat.ble_eq];omega⟩
 have len: ∀p:Nat,p≤st.length→Nat.ble (p*3) (qq st++qD).length=true:=fun p hp=>by rw[Nat.ble_eq,List.length_append,zh];omega
 have ZQ: ∀p:Nat,p≤st.length→(st.take p).length=p:=fun p hp=>by rw[List.length_take];omega
 have sc3: ∀(l:List W3) (a b:Int) (c:ByteArray),(qq l++[Value.int .i64 a,.int .i64 b,.string c]).all qo=true:=fun l a b c=>by rw[List.all_append,qZ];rfl
 have fin: ∀(p:Nat) (hp:p≤st.length) (j:Nat) (v:W3),A16L0R.stA ops.length row.length aggs.length (p+1) j (qq (st.take p)++[.int .i64 v.1,.int .i64 v.2.1,.string v.2.2])=stS ops.length row.length aggs.length j (st.take p++[v]) []:=fun p hp j v=>by
  have:=xz ops.length row.length aggs.length j (st.take p) v
  rw[ZQ p hp]at this;exact this
 obtain⟨k6,hneed,_,hist,eB,eX,XX⟩:=hf
 simp only[h1,h2,h3,h4,h5,hv1,xG ops hi,JM ops hi,XM ops hi,aX ops hi,YQ ops hi,Y6 ops hi,ar ops hi,Int.toNat_natCast,cond_true,Bool.true_and,Bool.and_true,hsc,i1]
 generalize ops[i]=o at*
 obtain⟨k,n,t,vk,vn,vs⟩:=o
 dsimp only[]at k6 hneed XX ⊢
 have nx:st.take st.length=st:=List.take_length
 have t0:=vB st qD (Nat.le_refl _)
 rw[nx]at t0
 have b0:=big st.length Yc
 have l0:=len st.length (Nat.le_refl _)
 have top1:1≤st.length→Nat.blt (st.length - 1) st.length=true∧Nat.ble (st.length - 1) st.length=true:=fun h=>⟨by rw[Nat.blt_eq];omega,by rw[Nat.ble_eq];omega⟩
 have w1:1≤st.length→IntKind.wrap .i64 ((st.length:Int) - 1)=((st.length - 1:Nat):Int):=fun h=>by rw[zZ (by omega) (by omega)];omega
 have giv: ∀v:W3,(bif Ref.chk v.1 v.2.1 v.2.2 != 0 then some (Ex.ret,qV 22)else some (.normal,A16L0R.stA ops.length row.length aggs.length (st.length+1) ((i+1:Nat):Int) (qq st++[.int .i64 v.1,.int .i64 v.2.1,.string v.2.2])))=some (res ops.length row.length aggs.length [] (AMac.given v st i)):=fun v=>by
  unfold AMac.given
  cases Ref.chk v.1 v.2.1 v.2.2 != 0
  ·rw[xz];rfl
  ·rfl
 have pt: ∀(p:W3×Int) (q:Nat),q≤st.length→(bif p.2 != 0 then some (Ex.ret,qV p.2)else some (.normal,A16L0R.stA ops.length row.length aggs.length (q+1) ((i+1:Nat):Int) (qq (st.take q)++[.int .i64 p.1.1,.int .i64 p.1.2.1,.string p.1.2.2])))=some (res ops.length row.length aggs.length [] (AMac.put p (st.take q) i)):=fun p q hq=>by
  unfold AMac.put
  cases p.2 != 0
  ·rw[fin q hq];rfl
  ·rfl
 unfold AMac.step AMac.qD
 dsimp only[]
 cases q1:k==1
 rotate_left
 ·simp only [cond_true, t0, b0.1, b0.2, l0, Nat.zero_add, sc3]
  exact giv (vk,vn,vs)
 cases q2:k==2
 rotate_left
 ·obtain rfl := beq_iff_eq.1 q2
  have hm:0≤n∧n<row.length:=by
   have:(decide (n≥0)&&decide (n<(row.length:Int)))=true:=k6
   simp only[Bool.and_eq_true,decide_eq_true_eq]at this
   omega
  obtain⟨N,rfl⟩:=Int.eq_ofNat_of_zero_le hm.1
  have hN:N<row.length:=by omega
  have a1:Nat.blt N row.length=true:=by rw[Nat.blt_eq];exact hN
  have a2:=ky row [] hN
  have a3:=km row [] hN
  have a4:=kz row [] hN
  have a5:=kN row [] hN
  rw[List.append_nil]at a2 a3 a4 a5
  simp only[dn,Int.toNat_natCast,a1,Nat.zero_add,a2,a3,a4,a5,cond_true,cond_false,t0,b0.1,b0.2,l0,sc3]
  exact giv (row.getD N v0)
 cases q9:k==9
 rotate_left
 ·obtain rfl := beq_iff_eq.1 q9
  have hm:0≤n∧n<aggs.length:=by
   have:(decide (n≥0)&&decide (n<(aggs.length:Int)))=true:=k6
   simp only[Bool.and_eq_true,decide_eq_true_eq]at this
   omega
  obtain⟨N,rfl⟩:=Int.eq_ofNat_of_zero_le hm.1
  have hN:N<aggs.length:=by omega
  have a1:Nat.blt N aggs.length=true:=by rw[Nat.blt_eq];exact hN
  have a2:=ky aggs [] hN
  have a3:=km aggs [] hN
  have a4:=kz aggs [] hN
  have a5:=kN aggs [] hN
  rw[List.append_nil]at a2 a3 a4 a5
  simp only[dn,Int.toNat_natCast,a1,Nat.zero_add,a2,a3,a4,a5,cond_true,cond_false,t0,b0.1,b0.2,l0,sc3]
  exact giv (aggs.getD N v0)
 have one:1≤st.length→ ∀z:Nat,True:=fun _ _=>trivial
 cases q3:k==3
 rotate_left
 ·obtain rfl := beq_iff_eq.1 q3
  have hm:1≤st.length:=by have:(1:Int)≤st.length:=hneed;omega
  have hp:st.length - 1<st.length:=by omega
  have t1:=vB st qD (Nat.le_of_lt hp)
  have b1:=big (st.length - 1) (by omega)
  simp only[w1 hm,dn,Int.toNat_natCast,(top1 hm).1,(top1 hm).2,Nat.zero_add,Nat.sub_zero,ky st qD hp,km st qD hp,kz st qD hp,kN st qD hp,cond_true,cond_false,Bool.true_and,t1,b1.1,b1.2,len _ (Nat.le_of_lt hp),sc3]
  cases eqU t.data.toList [45]
  ·simp only [cond_false]
   have:=fin (st.length - 1) (Nat.le_of_lt hp) (i+1) (Ref.wi (st.getD (st.length - 1) v0))
   exact congrArg (fun z=>some (Ex.normal,z)) this
  ·exact pt (A79.xi (st.getD (st.length - 1) v0).1 (st.getD (st.length - 1) v0).2.1) (st.length - 1) (Nat.le_of_lt hp)
 cases q4:k==4
 rotate_left
 ·obtain rfl := beq_iff_eq.1 q4
  have hm:2≤st.length:=by have:(2:Int)≤st.length:=hneed;omega
  have hp:st.length - 1<st.length:=by omega
  have hp2:st.length - 2<st.length:=by omega
  have t1:=vB st qD (Nat.le_of_lt hp2)
  have b1:=big (st.length - 2) (by omega)
  have w2:IntKind.wrap .i64 (((st.length - 1:Nat):Int) - 1)=((st.length - 2:Nat):Int):=by rw[zZ (by omega) (by omega)];omega
  have a1:Nat.blt (st.length - 2) (st.length - 1)=true:=by rw[Nat.blt_eq];omega
  have a2:Nat.ble (st.length - 2) (st.length - 1)=true:=by rw[Nat.ble_eq];omega
  have g1:inR (st.getD (st.length - 2) v0).2.1=true:=AMac.xh hist _
  have g2:inR (st.getD (st.length - 1) v0).2.1=true:=AMac.xh hist _
  simp only[w1 (by omega),w2,dn,Int.toNat_natCast,(top1 (by omega)).1,(top1 (by omega)).2,a1,a2,Nat.zero_add,Nat.sub_zero,ky st qD hp,km st qD hp,kz st qD hp,kN st qD hp,ky st qD hp2,km st qD hp2,kz st qD hp2,kN st qD hp2,g1,g2,cond_true,cond_false,Bool.true_and,t1,b1.1,b1.2,len _ (Nat.le_of_lt hp2),sc3]
  exact pt (Ari.wK t (st.getD (st.length - 2) v0) (st.getD (st.length - 1) v0)) (st.length - 2) (Nat.le_of_lt hp2)
 cases q5:k==5
 rotate_left
 ·obtain rfl := beq_iff_eq.1 q5
  have hm:1≤st.length:=by have:(1:Int)≤st.length:=hneed;omega
  have hp:st.length - 1<st.length:=by omega
  have t1:=vB st qD (Nat.le_of_lt hp)
  have b1:=big (st.length - 1) (by omega)
  simp only[w1 hm,dn,Int.toNat_natCast,(top1 hm).1,(top1 hm).2,Nat.zero_add,Nat.sub_zero,ky st qD hp,km st qD hp,kz st qD hp,kN st qD hp,cond_true,cond_false,Bool.true_and,t1,b1.1,b1.2,len _ (Nat.le_of_lt hp),sc3]
  have:=fin (st.length - 1) (Nat.le_of_lt hp) (i+1)
  cases ((st.getD (st.length - 1) v0).1==0)==(n==0)
  ·exact congrArg (fun z=>some (Ex.normal,z)) (this (1,0,⟨#[]⟩))
  ·exact congrArg (fun z=>some (Ex.normal,z)) (this (1,1,⟨#[]⟩))
 cases q6:k==6
 rotate_left
 ·obtain rfl := beq_iff_eq.1 q6
  obtain⟨m1,m2⟩:=AHei.ZY k6 rfl
  obtain⟨N,rfl⟩:=Int.eq_ofNat_of_zero_le m1
  have hm:N≤st.length:=by have:(N:Int)≤st.length:=hneed;omega
  have hp:st.length - N≤st.length:=by omega
  have w3:IntKind.wrap .i64 ((st.length:Int) - (N:Int))=((st.length - N:Nat):Int):=by rw[zZ (by omega) (by omega)];omega
  have t1:=vB st qD hp
  have t2:=Xp st qD hp
  have b1:=big (st.length - N) (by omega)
  have a1:Nat.ble (st.length - N) st.length=true:=by rw[Nat.ble_eq];omega
  have a2:Nat.ble ((st.length - N)*3+(st.length - (st.length - N))*3) (qq st++qD).length=true:=by rw[Nat.ble_eq,List.length_append,zh];omega
  have hlen:(st.drop (st.length - N)).length=st.length - (st.length - N):=List.length_drop
  have a3:=vU (st.drop (st.length - N)) (by rw[hlen];omega)
  rw[hlen]at a3
  have a4:((st.drop (st.length - N)).all fun v=>inR v.snd.fst)=true:=List.all_eq_true.2 fun v hv=>hist v (List.mem_of_mem_drop hv)
  have a3':wo (st.length - (st.length - N)) ((st.length - (st.length - N):Nat):Int) (qq (st.drop (st.length - N)))=true:=a3
  simp only[w3,dn,Int.toNat_natCast,Nat.zero_add,Nat.sub_zero,t1,t2,a1,a2,a3',a4,zn,qZ,cond_true,cond_false,Bool.true_and,Bool.and_true,b1.1,b1.2,len _ hp,sc3]
  exact pt (Fit.zR t (st.drop (st.length - N))) (st.length - N) hp
 cases q10:k==10
 rotate_left
 ·obtain rfl := beq_iff_eq.1 q10
  have hm:1≤st.length:=by have:(1:Int)≤st.length:=hneed;omega
  have hp:st.length - 1<st.length:=by omega
  have t1:=vB st qD (Nat.le_of_lt hp)
  have b1:=big (st.length - 1) (by omega)
  have g2:inR (st.getD (st.length - 1) v0).2.1=true:=AMac.xh hist _
  simp only[w1 hm,dn,Int.toNat_natCast,(top1 hm).1,(top1 hm).2,Nat.zero_add,Nat.sub_zero,ky st qD hp,km st qD hp,kz st qD hp,kN st qD hp,g2,cond_true,cond_false,Bool.true_and,t1,b1.1,b1.2,len _ (Nat.le_of_lt hp),sc3]
  exact pt (A75.kl (st.getD (st.length - 1) v0).1 (st.getD (st.length - 1) v0).2.1) (st.length - 1) (Nat.le_of_lt hp)
 cases q8:k==8
 ·have hn: ∃N:Nat,n=N:=by
   by_cases h7:k=7
   ·obtain ⟨m1, m2⟩ := AHei.xw k6 (.inl h7)
    exact⟨n.toNat,by omega⟩
   ·have e7 : (k == 7 || k == 8) = false := by rw [q8, beq_eq_false_iff_ne.2 h7]; rfl
    unfold Ref.we at k6
    rw[q1,q2,q9,q3,q4,q5,q6,q10,e7]at k6
    cases k6
  obtain⟨N,rfl⟩:=hn
  simp only[cond_false,cond_true]
  rfl
 ·obtain rfl := beq_iff_eq.1 q8
  obtain⟨m1,m2⟩:=AHei.xw k6 (.inr rfl)
  obtain⟨N,rfl⟩:=Int.eq_ofNat_of_zero_le (show 0≤n by omega)
  have hm:1≤st.length:=by have:(1:Int)≤st.length:=hneed;omega
  have hp:st.length - 1<st.length:=by omega
  have dq:qq st++qD=qq (st.take (st.length - 1))++(vt (st.getD (st.length - 1) v0)++qD):=by
   rw[←List.append_assoc]
   congr 1
   have:st=st.take (st.length - 1)++[st.getD (st.length - 1) v0]:=by
    rw[List.getD_eq_getElem?_getD,List.getElem?_eq_getElem hp]
    show st=st.take (st.length - 1)++[st[st.length - 1]]
    rw[List.take_append_getElem hp,Nat.sub_add_cancel hm,List.take_length]
   conv=>lhs;rw[this]
   rw[yw];rfl
  simp only[w1 hm,dn,Int.toNat_natCast,(top1 hm).1,(top1 hm).2,Nat.zero_add,Nat.sub_zero,ky st qD hp,km st qD hp,kz st qD hp,cond_true,cond_false,Bool.true_and]
  have hst: ∀j:Nat,A16L0R.stA ops.length row.length aggs.length (st.length - 1) j (qq st++qD)=stS ops.length row.length aggs.length j (st.take (st.length - 1)) (vt (st.getD (st.length - 1) v0)++qD):=fun j=>by
   unfold stS;rw[ZQ _ (Nat.le_of_lt hp),dq]
  cases A35.tru (st.getD (st.length - 1) v0).1 (st.getD (st.length - 1) v0).2.1
  ·exact congrArg (fun z=>some (Ex.normal,z)) (hst N)
  ·exact congrArg (fun z=>some (Ex.normal,z)) (hst (i+1))
end A16L0
namespace A16L0
def jl (nr na:Nat) (row:List Value):KX:=⟨[(6,.pointer (some ⟨6,0,none⟩)),(8,.pointer (some ⟨7,0,none⟩))],[[.int .i64 0,.int .i64 0,.string ⟨#[]⟩],[.slice (some ⟨8,0,none⟩) 1 3,.slice (some ⟨1,0,none⟩) nr 3,.slice (some ⟨2,0,none⟩) na 3,.int .i64 0],row]⟩
theorem cL (ops:List O6) (row aggs:List W3) {v:W3} {qD:List Value} (hj:qD.all qo=true):
  zW A16L0R.cfg sp [] 16 0 (stK 52 6 [(0,zu ops),(1,qq row),(2,qq aggs)] (stS ops.length row.length aggs.length ops.length [v] qD)) (zD 6 100 52 A16L0R.kp A16L0R.cr)=
  some (.exit 0,jl row.length aggs.length (qq [v]++qD)):=by
 unfold stS
 rw[A16L0R.round]
 dsimp only[]
 have h1:decide ((ops.length:Int)<Int.ofNat ops.length)=false:=decide_eq_false (by show¬(ops.length:Int)<(ops.length:Int);omega)
 have hsc:(qq [v]++qD).all qo=true:=by rw[List.all_append,qZ,hj];rfl
 simp only[h1,hsc,cond_false,Bool.and_true,Bool.true_and,cond_true]
 rfl
def Zc (n nr na:Nat) (k:Int):(List W3×Nat) ⊕ Int→Ex×KX
 | .inl p=>(.normal,bif k==7 then A16L0N.stA n nr na p.2 else stS n nr na p.2 p.1 [])
 | .inr e=>(.ret,qV e)
set_option maxHeartbeats 0 in
theorem dD (ops:List O6) (row aggs:List W3) (hl:ops.length≤4096) {i:Nat} (hi:i<ops.length) (hf:AMac.Q9 row aggs ops[i] i ops.length []):
  zW A16L0N.cfg sp [] 16 0 (stK 52 6 [(0,zu ops),(1,qq row),(2,qq aggs)] (A16L0N.stA ops.length row.length aggs.length i)) (zD 6 100 52 A16L0N.kp A16L0N.cr)=
  some (Zc ops.length row.length aggs.length ops[i].1 (AMac.step row aggs ops[i] i [])):=by
 rw[A16L0N.round]
 dsimp only[]
 have h1:decide ((i:Int)<(ops.length:Int))=true:=decide_eq_true (by omega)
 have h2:=geI i
 have h3:Nat.blt i ops.length=true:=by rw[Nat.blt_eq];exact hi
 have h4:(0+i*6)=i*6:=by omega
 have h5:=wrI i (by omega)
 have hv1:isV (zu ops) (i*6+1) (.i .i64)=true:=by unfold isV;rw[vm ops hi 1 (by omega)];rfl
 have i1: ∀n:Nat,Int.ofNat n=(n:Int):=fun _=>rfl
 obtain⟨k6,hneed,_,hist,eB,eX,XX⟩:=hf
 simp only[h1,h2,h3,h4,h5,hv1,xG ops hi,JM ops hi,XM ops hi,aX ops hi,YQ ops hi,Y6 ops hi,ar ops hi,Int.toNat_natCast,cond_true,Bool.true_and,Bool.and_true,i1]
 generalize ops[i]=o at*
 obtain⟨k,n,t,vk,vn,vs⟩:=o
 dsimp only[]at k6 hneed XX ⊢
 have giv: ∀(k:Int) (v:W3),(k==7)=false→(bif Ref.chk v.1 v.2.1 v.2.2 != 0 then some (Ex.ret,qV 22)else some (.normal,A16L0R.stA ops.length row.length aggs.length 1 ((i+1:Nat):Int) [.int .i64 v.1,.int .i64 v.2.1,.string v.2.2]))=some (Zc ops.length row.length aggs.length k (AMac.given v [] i)):=fun k v hk=>by
  unfold AMac.given
  cases Ref.chk v.1 v.2.1 v.2.2 != 0
  ·show _ = some (Ex.normal, bif k == 7 then _ else _)
   rw[hk]
   exact congrArg (fun z=>some (Ex.normal,z)) (xz ops.length row.length aggs.length (i+1) [] v)
  ·rfl
 unfold AMac.step
 dsimp only[]
 cases q1:k==1
 rotate_left
 ·obtain rfl := beq_iff_eq.1 q1
  simp only[cond_true]
  exact giv 1 (vk,vn,vs) rfl
 cases q2:k==2
 rotate_left
 ·obtain rfl := beq_iff_eq.1 q2
  have hm:0≤n∧n<row.length:=by
   have:(decide (n≥0)&&decide (n<(row.length:Int)))=true:=k6
   simp only[Bool.and_eq_true,decide_eq_true_eq]at this
   omega
  obtain⟨N,rfl⟩:=Int.eq_ofNat_of_zero_le hm.1
  have hN:N<row.length:=by omega
  have a1:Nat.blt N row.length=true:=by rw[Nat.blt_eq];exact hN
  have a2:=ky row [] hN
  have a3:=km row [] hN
  have a4:=kz row [] hN
  have a5:=kN row [] hN
  rw[List.append_nil]at a2 a3 a4 a5
  simp only[dn,Int.toNat_natCast,a1,Nat.zero_add,a2,a3,a4,a5,cond_true,cond_false]
  exact giv 2 (row.getD N v0) rfl
 cases q9:k==9
 rotate_left
 ·obtain rfl := beq_iff_eq.1 q9
  have hm:0≤n∧n<aggs.length:=by
   have:(decide (n≥0)&&decide (n<(aggs.length:Int)))=true:=k6
   simp only[Bool.and_eq_true,decide_eq_true_eq]at this
   omega
  obtain⟨N,rfl⟩:=Int.eq_ofNat_of_zero_le hm.1
  have hN:N<aggs.length:=by omega
  have a1:Nat.blt N aggs.length=true:=by rw[Nat.blt_eq];exact hN
  have a2:=ky aggs [] hN
  have a3:=km aggs [] hN
  have a4:=kz aggs [] hN
  have a5:=kN aggs [] hN
  rw[List.append_nil]at a2 a3 a4 a5
  simp only[dn,Int.toNat_natCast,a1,Nat.zero_add,a2,a3,a4,a5,cond_true,cond_false]
  exact giv 9 (aggs.getD N v0) rfl
 cases q3:k==3
 rotate_left
 ·obtain rfl := beq_iff_eq.1 q3
  have:(1:Int)≤0:=hneed
  omega
 cases q4:k==4
 rotate_left
 ·obtain rfl := beq_iff_eq.1 q4
  have:(2:Int)≤0:=hneed
  omega
 cases q5:k==5
 rotate_left
 ·obtain rfl := beq_iff_eq.1 q5
  have:(1:Int)≤0:=hneed
  omega
 cases q6:k==6
 rotate_left
 ·obtain rfl := beq_iff_eq.1 q6
  obtain⟨m1,m2⟩:=AHei.ZY k6 rfl
  have:n≤0:=hneed
  obtain rfl:n=0:=by omega
  have e:AMac.put (Fit.zR t (([]:List W3).drop (([]:List W3).length - (0:Int).toNat))) (([]:List W3).take (([]:List W3).length - (0:Int).toNat)) i= .inr 100:=by
   rw[List.drop_nil,AMac.Kh];rfl
  simp only[cond_true,cond_false,e]
  rfl
 cases q10:k==10
 rotate_left
 ·obtain rfl := beq_iff_eq.1 q10
  have:(1:Int)≤0:=hneed
  omega
 cases q8:k==8
 rotate_left
 ·obtain rfl := beq_iff_eq.1 q8
  have:(1:Int)≤0:=hneed
  omega
 have hk:k=7:=by
  by_cases h7:k=7
  ·exact h7
  ·have e7 : (k == 7 || k == 8) = false := by rw [q8, beq_eq_false_iff_ne.2 h7]; rfl
   unfold Ref.we at k6
   rw[q1,q2,q9,q3,q4,q5,q6,q10,e7]at k6
   cases k6
 subst hk
 obtain⟨m1,m2⟩:=AHei.xw k6 (.inl rfl)
 obtain⟨N,rfl⟩:=Int.eq_ofNat_of_zero_le (show 0≤n by omega)
 rfl
section
variable {Step:KX→Ex→KX→Prop} {ops:List O6} {row aggs:List W3} {T:List Int}
theorem Yb (hT: ∀j (hj:j<ops.length),AHei.Ok ops.length row.length aggs.length T j ops[j]) (hT1:T.getD ops.length 0=1) (hr: ∀v∈row,Ari.I v) (ha: ∀v∈aggs,Ari.I v) (ho: ∀o∈ops,Ari.I o.2.2.2)
  (hn: ∀i (hi:i<ops.length) st qD,qD.all qo=true→AMac.Q9 row aggs ops[i] i ops.length st→Step (stS ops.length row.length aggs.length i st qD) (res ops.length row.length aggs.length (AMac.qD ops[i].1 st qD) (AMac.step row aggs ops[i] i st)).1 (res ops.length row.length aggs.length (AMac.qD ops[i].1 st qD) (AMac.step row aggs ops[i] i st)).2)
  (he: ∀v qD,qD.all qo=true→Step (stS ops.length row.length aggs.length ops.length [v] qD) (.exit 0) (jl row.length aggs.length (qq [v]++qD))):
  ∀(f i:Nat) (st:List W3) (qD:List Value),ops.length≤i+f→qD.all qo=true→AMac.At row aggs ops T i st→match AMac.ja row aggs ops f i st qD with
   | .inl p=>zF Step (stS ops.length row.length aggs.length i st qD) (.exit 0) (jl row.length aggs.length (qq p.1++p.2))∧p.1.length=1
   | .inr e=>zF Step (stS ops.length row.length aggs.length i st qD) .ret (qV e):=by
 have fin: ∀(i:Nat) (st:List W3) (qD:List Value),i=ops.length→qD.all qo=true→AMac.At row aggs ops T i st→zF Step (stS ops.length row.length aggs.length i st qD) (.exit 0) (jl row.length aggs.length (qq st++qD))∧st.length=1:=fun i st qD h hj hat=>by
  subst h
  have:=hat.len
  rw[hT1]at this
  match st,this with
  |[v],_=>exact⟨.stop (by simp) (he v qD hj),rfl⟩
  |[],h=>cases h
  |_::_::l,h=>rw[List.length_cons,List.length_cons]at h;omega
 intro f
 induction f with
 |zero=>
  intro i st qD h hj hat
  have:=hat.le
  exact fin i st qD (by omega) hj hat
 |succ f ih=>
  intro i st qD h hj hat
  unfold AMac.ja
  by_cases hi:i<ops.length
  ·rw [List.getElem?_eq_getElem hi]
   dsimp only[]
   have hf:=hat.j4 hi hT hr ha ho
   have hs:=hn i hi st qD hj hf
   cases e:AMac.step row aggs ops[i] i st with
   |inr x=>rw[e]at hs;exact .stop (by simp[res]) hs
   |inl p=>
    rw[e]at hs
    obtain⟨a,b⟩:=hat.next hi hT hf e
    have:=ih p.2 p.1 (AMac.qD ops[i].1 st qD) (by omega) (AMac.VJ hj) b
    dsimp only[]
    cases e2:AMac.ja row aggs ops f p.2 p.1 (AMac.qD ops[i].1 st qD)with
    |inl q=>rw[e2]at this;exact⟨.next hs this.1,this.2⟩
    |inr x=>rw[e2]at this;exact .next hs this
  ·have := hat.le
   rw[List.getElem?_eq_none (by omega)]
   exact fin i st qD (by omega) hj hat
theorem Ww (hT: ∀j (hj:j<ops.length),AHei.Ok ops.length row.length aggs.length T j ops[j]) (hT1:T.getD ops.length 0=1) (hr: ∀v∈row,Ari.I v) (ha: ∀v∈aggs,Ari.I v) (ho: ∀o∈ops,Ari.I o.2.2.2)
  (hn: ∀i (hi:i<ops.length) st qD,qD.all qo=true→AMac.Q9 row aggs ops[i] i ops.length st→Step (stS ops.length row.length aggs.length i st qD) (res ops.length row.length aggs.length (AMac.qD ops[i].1 st qD) (AMac.step row aggs ops[i] i st)).1 (res ops.length row.length aggs.length (AMac.qD ops[i].1 st qD) (AMac.step row aggs ops[i] i st)).2)
  (he: ∀v qD,qD.all qo=true→Step (stS ops.length row.length aggs.length ops.length [v] qD) (.exit 0) (jl row.length aggs.length (qq [v]++qD)))
  (h0: ∀i (hi:i<ops.length),AMac.Q9 row aggs ops[i] i ops.length []→Step (A16L0N.stA ops.length row.length aggs.length i) (Zc ops.length row.length aggs.length ops[i].1 (AMac.step row aggs ops[i] i [])).1 (Zc ops.length row.length aggs.length ops[i].1 (AMac.step row aggs ops[i] i [])).2):
  ∀(f i:Nat),ops.length≤i+f→AMac.At row aggs ops T i []→match AMac.ja row aggs ops f i [] []with
   | .inl p=>zF Step (A16L0N.stA ops.length row.length aggs.length i) (.exit 0) (jl row.length aggs.length (qq p.1++p.2))∧p.1.length=1
   | .inr e=>zF Step (A16L0N.stA ops.length row.length aggs.length i) .ret (qV e):=by
 have no: ∀i,i=ops.length→AMac.At row aggs ops T i []→False:=fun i h hat=>by
  subst h
  have:=hat.len
  rw[hT1]at this
  cases this
 intro f
 induction f with
 |zero=>
  intro i h hat
  have:=hat.le
  exact(no i (by omega) hat).elim
 |succ f ih=>
  intro i h hat
  unfold AMac.ja
  by_cases hi:i<ops.length
  ·rw [List.getElem?_eq_getElem hi]
   dsimp only[]
   have hf:=hat.j4 hi hT hr ha ho
   have hs:=h0 i hi hf
   cases e:AMac.step row aggs ops[i] i []with
   |inr x=>rw[e]at hs;exact .stop (by simp[Zc]) hs
   |inl p=>
    rw[e]at hs
    obtain⟨a,b⟩:=hat.next hi hT hf e
    obtain⟨i',hi'⟩: ∃x,p.2=x:=⟨_,rfl⟩
    obtain⟨st',hst⟩: ∃x,p.1=x:=⟨_,rfl⟩
    obtain⟨p1,p2⟩:=p
    subst hi' hst
    dsimp only[]at a b hs ⊢
    unfold Zc at hs
    dsimp only[]at hs
    cases h7:ops[i].1==7
    ·rw [h7] at hs
     have hj:AMac.qD ops[i].1 [] []=[]:=by
      have hm:=hf.may
      have hnd:=hf.qI
      generalize ops[i]=o at*
      obtain⟨k,n,t,v⟩:=o
      dsimp only[]at hm hnd h7 ⊢
      unfold AMac.qD
      cases h8:k==8
      ·simp only[cond_false,Bool.cond_self]
      ·obtain rfl := beq_iff_eq.1 h8
       have:(1:Int)≤0:=hnd
       omega
     rw[hj]
     have:=Yb hT hT1 hr ha ho hn he f p2 p1 [] (by omega) rfl b
     cases e2:AMac.ja row aggs ops f p2 p1 []with
     |inl q=>rw[e2]at this;exact⟨.next hs this.1,this.2⟩
     |inr x=>rw[e2]at this;exact .next hs this
    ·rw [h7] at hs
     have h7':=beq_iff_eq.1 h7
     have hp1:p1=[]:=by
      obtain⟨l,_⟩:=AMac.KC hf e
      rw[h7']at l
      have:(p1.length:Int)=0+0:=l
      exact List.eq_nil_of_length_eq_zero (by omega)
     subst hp1
     have hj:AMac.qD ops[i].1 [] []=[]:=by rw[h7'];rfl
     rw[hj]
     have:=ih p2 (by omega) b
     cases e2:AMac.ja row aggs ops f p2 [] []with
     |inl q=>rw[e2]at this;exact⟨.next hs this.1,this.2⟩
     |inr x=>rw[e2]at this;exact .next hs this
  ·have := hat.le
   exact(no i (by omega) hat).elim
end
def D:KD:=⟨52,6,100,[0,6,7,8,9],[0,1,2],fun s=>match s.T.get 6 with
 |some (.pointer (some r))=>(match s.T.get 8 with
  |some (.pointer (some p))=>[(r.block,true),(p.block,false)]
  |_=>[])
 |_=>[],fun x ro=>match x.vs,x.cars,ro with
 |[(0,.slice (some ⟨0,0,none⟩) n 6),(6,.pointer (some ⟨6,0,none⟩)),(7,.int .i64 0),(8,.pointer (some ⟨7,0,none⟩)),(9,.int .i64 0)],[[.int .i64 0,.int .i64 0,.string ⟨⟨[]⟩⟩],[.slice none 0 0,.slice (some ⟨1,0,none⟩) nr 3,.slice (some ⟨2,0,none⟩) na 3,.int .i64 0]],[(0,cs),(1,rs),(2,as_)]=>
  .qI (AMac.gd n nr na cs rs as_) (.br (AMac.ZA cs rs as_) (.out (.ret,qV (AMac.err cs rs as_))) (.out (.exit 0,jl nr na (AMac.ZD cs rs as_))))
 |_,_,_=> .no⟩
def lp:LpK:=⟨16,5,0,D⟩
theorem iX {n nr na:Nat} {cs rs as_:List Value} (h:AMac.gd n nr na cs rs as_=true): ∃(ops:List O6) (row aggs:List W3),cs=zu ops∧rs=qq row∧as_=qq aggs∧n=ops.length∧nr=row.length∧na=aggs.length∧(∀o∈ops,Ari.I o.2.2.2)∧(∀v∈row,Ari.I v)∧(∀v∈aggs,Ari.I v)∧(AHei.kf row.length aggs.length ops).2=true:=by
 unfold AMac.gd at h
 simp only[Bool.and_eq_true,List.all_eq_true]at h
 obtain⟨h1,h2,h3,h4,h5,h6,h7⟩:=h
 obtain⟨_,_,a1,a2⟩:=jy h1
 obtain⟨_,_,b1,b2⟩:=kB h2
 obtain⟨_,_,c1,c2⟩:=kB h3
 refine⟨opsOf cs,qj rs,qj as_,a1,b1,c1,a2.symm,b2.symm,c2.symm,h4,h5,h6,?_⟩
 unfold AHei.kM at h7
 rw[b2,c2]
 cases e:(AHei.kf nr na (opsOf cs)).2
 ·rw[e]at h7;cases h7
 ·rfl
theorem qG:zw Tryz.prog La 4 lp:=by
 refine⟨by kernel_rfl,fun c base I hP hn hG hI hIL x ro ex y e=> ?_⟩
 obtain⟨vs,cars⟩:=x
 simp only[lp,D]at e ⊢
 split at e
 ·rename_i n nr na cs rs as_
  obtain⟨g1,g2⟩:=GT.qh e
  obtain⟨ops,row,aggs,rfl,rfl,rfl,rfl,rfl,rfl,ho,hr,ha,hc⟩:=iX g1
  obtain⟨hl,T,T0,T1,hT⟩:=AHei.Qn hc
  have key:=Ww (Step:= @zA (zV base) c base I (qW Tryz.prog 16 0) 52 6 100 [(0,zu ops),(1,qq row),(2,qq aggs)]) hT T1 hr ha ho
   (fun i hi st qD hj hf=>stepT qg qd kG (by simp) hP hn hG hI hIL (dE ops row aggs hl hi hj hf))
   (fun v qD hj=>stepT qg qd kG (by simp) hP hn hG hI hIL (cL ops row aggs hj))
   (fun i hi hf=>stepT qg qd kG (by simp) hP hn hG hI hIL (dD ops row aggs hl hi hf)) ops.length 0 (by omega) ⟨by omega,by rw[T0];rfl,fun v hv=>absurd hv (List.not_mem_nil)⟩
  unfold AMac.ZA AMac.err AMac.ZD at g2
  rw[zy,zn,zn]at g2
  cases hrun:AMac.ja row aggs ops ops.length 0 [] []with
  |inl p=>rw[hrun]at key g2;cases g2;exact key.1
  |inr x=>rw[hrun]at key g2;cases g2;exact key
 ·cases e
end A16L0
namespace A55L0
noncomputable def cfg:Cfg:=zz Tryz.prog 4 (gpT []) (ltT 4 [])
def stA (n:Nat) (lf la i:Int):KX:=⟨[(0,.slice (some ⟨0,0,none⟩) n 6),(1,.int .i64 lf),(2,.int .i64 la),(11,.slice (some ⟨0,0,none⟩) n 6),(12,.int .i64 (Int.ofNat n)),(13,.int .i64 i)],[]⟩
def kp:Ex→List Nat
 | .normal=>[0,1,2,11,12,13]
 | .exit _=>[0,1,2]
 | .ret=>[6]
def cr:Ex→St→List (Nat×Bool):=fun _ _=>[]
theorem round (n:Nat) (lf la i:Int) (cs:List Value):zW cfg [] [] 55 0 (stK 45 4 [(0,cs)] (stA n lf la i)) (zD 4 100 45 kp cr)=(let x1:=0+(i.toNat*6);let x2:=IntKind.wrap .i64 (i+1);let o1:Option (Ex×KX):=(some (.normal,⟨[(0,.slice (some ⟨0,0,none⟩) n 6),(1,.int .i64 lf),(2,.int .i64 la),(11,.slice (some ⟨0,0,none⟩) n 6),(12,.int .i64 (Int.ofNat n)),(13,.int .i64 x2)],[]⟩));let o2:Option (Ex×KX):=(bif((rdI cs x1)==9)then(bif decide ((rdI cs (x1+1))≥la)then(some (.ret,⟨[(6,.int .i64 120)],[]⟩))else o1)else o1);(bif decide (i<(Int.ofNat n))then(bif decide (0≤i)then(bif Nat.blt i.toNat n then(bif isL cs x1 [(.i .i64),(.i .i64),.s,(.i .i64),(.i .i64),.s]then(bif((rdI cs x1)==2)then(bif decide ((rdI cs (x1+1))≥lf)then(some (.ret,⟨[(6,.int .i64 120)],[]⟩))else o2)else o2)else none)else none)else none)else(some (.exit 0,⟨[(0,.slice (some ⟨0,0,none⟩) n 6),(1,.int .i64 lf),(2,.int .i64 la)],[]⟩)))):=by kernel_rfl
def qV:KX:=⟨[(6,.int .i64 120)],[]⟩
def stE (n:Nat) (lf la:Int):KX:=⟨[(0,.slice (some ⟨0,0,none⟩) n 6),(1,.int .i64 lf),(2,.int .i64 la)],[]⟩
def D:KD:=⟨45,4,100,[0,1,2,11,12,13],[0],fun _=>[],fun x ro=>match x.vs,x.cars,ro with
 |[(0,.slice (some ⟨0,0,none⟩) n 6),(1,.int .i64 lf),(2,.int .i64 la),(11,.slice (some ⟨0,0,none⟩) n' 6),(12,.int .i64 m),(13,.int .i64 0)],[],[(0,cs)]=>
  .qI (Nat.beq n' n&&je n m cs) (.br ((opsOf cs).any (AHei.bad lf la)) (.out (.ret,qV)) (.out (.exit 0,stE n lf la)))
 |_,_,_=> .no⟩
def lp:LpK:=⟨55,2,0,D⟩
theorem qG:zw Tryz.prog La 4 lp:=by
 refine⟨by kernel_rfl,fun c base I hP hn hG hI hIL x ro ex y e=> ?_⟩
 obtain⟨vs,cars⟩:=x
 simp only[lp,D]at e ⊢
 split at e
 ·rename_i n lf la n' m cs
  obtain⟨g1,g2⟩:=GT.qh e
  simp only[Bool.and_eq_true]at g1
  obtain rfl:=Nat.eq_of_beq_eq_true g1.1
  obtain⟨rfl,hn2,h4,h5⟩:=jy g1.2
  generalize opsOf cs=l at h4 h5 g2
  subst h4 h5
  have key:=zP (Step:= @zA (zV base) c base I (qW Tryz.prog 55 0) 45 4 100 [(0,zu l)]) (step:=fun(_:Unit) (o:O6)=>bif AHei.bad lf la o then .inr (.ret,qV)else .inl ()) (fin:=fun _=>(.exit 0,stE l.length lf la)) (st:=fun _ j=>stA l.length lf la j) (l:=l) (fun s=>by simp) (fun s a r h=>by cases hb:AHei.bad lf la a<;>rw[hb]at h<;>cases h<;>simp) (fun _ j hj=>by
    have h1:=ltI hj
    have h2:=geI j
    have h3:=xE hj
    have h4:(0+((j:Int)).toNat*6)=j*6:=by simp
    have h5:=wrI j (by omega)
    have hr:=round l.length lf la j (zu l)
    dsimp only[]at hr
    simp only[h1,h2,h3,h4,h5,xG l hj,JM l hj,XM l hj,cond_true]at hr
    unfold AHei.bad
    generalize l[j]=o at hr
    revert hr
    cases o.1==2<;>cases o.1==9<;>cases decide (o.2.1≥lf)<;>cases decide (o.2.1≥la)<;>exact fun hr=>stepT qg qd (by simp) (by simp) hP hn hG hI hIL hr) (fun _=>by
    have h1:=xZ l.length
    have hr:=round l.length lf la l.length (zu l)
    dsimp only[]at hr
    simp only[h1,cond_false]at hr
    exact stepT qg qd (by simp) (by simp) hP hn hG hI hIL hr) l.length 0 () (by omega)
  rw[List.drop_zero,xC]at key
  cases hb:l.any (AHei.bad lf la)with
  |true=>rw[GT.eval,hb]at g2;cases g2;rw[hb]at key;exact key
  |false=>rw[GT.eval,hb]at g2;cases g2;rw[hb]at key;exact key
 ·cases e
end A55L0
namespace A105L0
noncomputable def cfg:Cfg:=zz Tryz.prog 4 (gpT []) (ltT 4 [])
def stA (n m:Nat) (k i:Int) (row:List Value):KX:=⟨[(0,.slice (some ⟨0,0,none⟩) n 6),(4,.int .i64 k),(5,.pointer (some ⟨6,0,none⟩)),(27,.int .i64 (Int.ofNat m)),(28,.int .i64 i)],[[.slice (some ⟨7,0,none⟩) m 1],row]⟩
def kp:Ex→List Nat
 | .normal=>[0,4,5,27,28]
 | .exit _=>[0,4,5]
 |_=>[]
def cr:Ex→St→List (Nat×Bool):=fun _ s=>match s.T.get 5 with
 |some (.pointer (some p))=>match zK s.h p.block with
  |some [.slice (some q) _ _]=>[(p.block,false),(q.block,true)]
  |_=>[]
 |_=>[]
theorem round (n m:Nat) (k i:Int) (row:List Value):zW cfg [] [] 105 0 (stK 113 6 [] (stA n m k i row)) (zD 6 100 113 kp cr)=(let x1:=0+(i.toNat*1);(bif decide (i<(Int.ofNat m))then(bif decide (0≤i)then(bif Nat.blt i.toNat m then(bif Nat.ble (x1+1) row.length then(bif(true&&((zr row x1 [.int .i64 (-1)]).all qo&&true))then(some (.normal,⟨[(0,.slice (some ⟨0,0,none⟩) n 6),(4,.int .i64 k),(5,.pointer (some ⟨6,0,none⟩)),(27,.int .i64 (Int.ofNat m)),(28,.int .i64 (IntKind.wrap .i64 (i+1)))],[[.slice (some ⟨7,0,none⟩) m 1],(zr row x1 [.int .i64 (-1)])]⟩))else none)else none)else none)else none)else(bif(true&&(row.all qo&&true))then(some (.exit 0,⟨[(0,.slice (some ⟨0,0,none⟩) n 6),(4,.int .i64 k),(5,.pointer (some ⟨6,0,none⟩))],[[.slice (some ⟨7,0,none⟩) m 1],row]⟩))else none))):=by kernel_rfl
def st (n:Nat) (k:Int) (row:List Int) (j:Nat):KX:=stA n row.length k j (ints .i64 (List.replicate j (-1)++row.drop j))
def fin (n m:Nat) (k:Int):KX:=⟨[(0,.slice (some ⟨0,0,none⟩) n 6),(4,.int .i64 k),(5,.pointer (some ⟨6,0,none⟩))],[[.slice (some ⟨7,0,none⟩) m 1],AHei.Vl m]⟩
def D:KD:=⟨113,6,100,[0,4,5,27,28],[],fun s=>match s.T.get 5 with
 |some (.pointer (some p))=>match zK s.h p.block with
  |some [.slice (some q) _ _]=>[(p.block,false),(q.block,true)]
  |_=>[]
 |_=>[],fun x ro=>match x.vs,x.cars,ro with
 |[(0,.slice (some ⟨0,0,none⟩) n 6),(4,.int .i64 k),(5,.pointer (some ⟨6,0,none⟩)),(27,.int .i64 l),(28,.int .i64 0)],[[.slice (some ⟨7,0,none⟩) m 1],row],[]=>
  .qI (vO m l row) (.out (.exit 0,fin n m k))
 |_,_,_=> .no⟩
def lp:LpK:=⟨105,6,0,D⟩
theorem qG:zw Tryz.prog La 4 lp:=by
 refine⟨by kernel_rfl,fun c base I hP hn hG hI hIL x ro ex y e=> ?_⟩
 obtain⟨vs,cars⟩:=x
 simp only[lp,D]at e ⊢
 split at e
 ·rename_i n k l m row
  obtain⟨g1,g2⟩:=GT.qh e
  cases g2
  obtain⟨rfl,hm,rw0,rfl,_,rfl⟩:=vV g1
  have main: ∀j,j≤rw0.length→zF (@zA (zV base) c base I (qW Tryz.prog 105 0) 113 6 100 []) (st n k rw0 (rw0.length - j)) (.exit 0) (fin n rw0.length k):=by
   intro j
   induction j with
   |zero=>
    intro _
    have hr:=round n rw0.length k rw0.length (ints .i64 (List.replicate rw0.length (-1)))
    have h1:decide ((rw0.length:Int)<Int.ofNat rw0.length)=false:=decide_eq_false (by show¬(rw0.length:Int)<(rw0.length:Int);omega)
    simp only[h1,cond_false,qY,Bool.and_true,cond_true]at hr
    have e:st n k rw0 (rw0.length - 0)=stA n rw0.length k rw0.length (ints .i64 (List.replicate rw0.length (-1))):=by
     unfold st;rw[Nat.sub_zero,List.drop_length,List.append_nil]
    rw[e]
    exact .stop (by simp) (stepT qg qd (by simp) (by simp) hP hn hG hI hIL hr)
   |succ j ih=>
    intro hj
    obtain⟨i,hi⟩: ∃i,rw0.length - (j+1)=i:=⟨_,rfl⟩
    have hi2:rw0.length - j=i+1:=by omega
    have hil:i<rw0.length:=by omega
    rw[hi]
    rw[hi2]at ih
    refine .next ?_ (ih (by omega))
    have hr:=round n rw0.length k i (ints .i64 (List.replicate i (-1)++rw0.drop i))
    have h1:decide ((i:Int)<Int.ofNat rw0.length)=true:=decide_eq_true (by show (i:Int)<(rw0.length:Int);omega)
    have h2:=geI i
    have h3:Nat.blt ((i:Int)).toNat rw0.length=true:=by rw[Nat.blt_eq];simpa using hil
    have h4:(0+((i:Int)).toNat*1)=i:=by simp
    have h5:=wrI i (by omega)
    have hlen:(List.replicate i (-1:Int)++rw0.drop i).length=rw0.length:=by simp;omega
    have h6:Nat.ble (i+1) (ints .i64 (List.replicate i (-1)++rw0.drop i)).length=true:=by rw[Nat.ble_eq,zH,hlen];omega
    have h7:zr (ints .i64 (List.replicate i (-1)++rw0.drop i)) i [.int .i64 (-1)]=ints .i64 (List.replicate (i+1) (-1)++rw0.drop (i+1)):=by
     rw[AHei.Zt (by rw[hlen];exact hil)]
     refine congrArg (ints .i64) ?_
     rw[List.set_append_right _ _ (by simp),List.length_replicate,Nat.sub_self,List.drop_eq_getElem_cons hil,List.set_cons_zero,List.replicate_succ',List.append_assoc]
     rfl
    simp only[h1,h2,h3,h4,h5,h6,h7,qY,Bool.and_true,cond_true]at hr
    exact stepT qg qd (by simp) (by simp) hP hn hG hI hIL hr
  have e0:st n k rw0 (rw0.length - rw0.length)=⟨[(0,.slice (some ⟨0,0,none⟩) n 6),(4,.int .i64 k),(5,.pointer (some ⟨6,0,none⟩)),(27,.int .i64 (Int.ofNat rw0.length)),(28,.int .i64 0)],[[.slice (some ⟨7,0,none⟩) rw0.length 1],ints .i64 rw0]⟩:=by
   unfold st;rw[Nat.sub_self];rfl
  exact e0▸main rw0.length (Nat.le_refl _)
 ·cases e
end A105L0
namespace A105
def T (m0:Nat) (c0:List Value):GT Value:=let x1:=IntKind.wrap .i64 ((Int.ofNat m0)+1);let x2:=AHei.j5 (Int.ofNat m0) 9223372036854775807 9223372036854775807 (opsOf c0) ((AHei.first m0),0);let x3:=AHei.Vl x1.toNat;let x4:=0+((Int.ofNat m0).toNat*1);let o1:GT Value:=(.out (.tuple #[.int .i64 0,.bool false]));(.br ((Int.ofNat m0)==0) o1 (.br (decide ((Int.ofNat m0)>4096)) o1 (.br (decide (0≤x1)) (.br (decide (0≤x1)) (.br (Nat.ble x1.toNat 1000000) (.br (Nat.ble x1.toNat x1.toNat) (.br ((true&&((rep [.int .i64 0] x1.toNat).all qo&&true))&&true) (.br (vO x1.toNat (Int.ofNat x1.toNat) (rep [.int .i64 0] x1.toNat)) (.br (Nat.blt 0 x1.toNat) (.br (Nat.ble 1 x3.length) (.br ((true&&((zr x3 0 [.int .i64 0]).all qo&&true))&&(c0.all qo&&true)) (.br ((je m0 (Int.ofNat m0) c0)&&(((Int.ofNat m0)==(Int.ofNat m0))&&(Nat.ble m0 4096&&(Nat.beq x1.toNat (m0+1)&&(AHei.isF m0 (zr x3 0 [.int .i64 0])))))) (.br (AHei.j4 (Int.ofNat m0) 9223372036854775807 9223372036854775807 (opsOf c0) ((AHei.first m0),0)) (.br (Nat.blt (Int.ofNat m0).toNat x1.toNat) (.br (isV (x2.map (Value.int IntKind.i64)) x4 (.i .i64)) (.out (.tuple #[.int .i64 (AHei.wO (Int.ofNat m0) 9223372036854775807 9223372036854775807 (opsOf c0) ((AHei.first m0),0)),.bool ((rdI (x2.map (Value.int IntKind.i64)) x4)==1)])) .no) .no) o1) .no) .no) .no) .no) .no) .no) .no) .no) .no) .no)))
theorem run (m0:Nat) (c0:List Value):runK 4 [(156,A156.spec),(157,A157.spec)] [A105L0.lp,A105L1.lp] 105 [.sl m0 6 c0]=(T m0 c0).eval:=by kernel_rfl
theorem qL (l:List O6) (hl:l.length<2199023255552):(T l.length (zu l)).eval=some (.tuple #[.int .i64 (AHei.kf 9223372036854775807 9223372036854775807 l).1,.bool (AHei.kf 9223372036854775807 9223372036854775807 l).2]):=by
 have e0:Int.ofNat l.length=(l.length:Int):=rfl
 unfold T AHei.kf
 simp only[GT.eval,e0]
 cases h0:(l.length:Int)==0
 rotate_left
 ·rfl
 have h0':=beq_eq_false_iff_ne.1 h0
 cases h1:decide ((l.length:Int)>4096)
 rotate_left
 ·rfl
 have h1':l.length≤4096:=by have:=of_decide_eq_false h1;omega
 have w:IntKind.wrap .i64 ((l.length:Int)+1)=((l.length+1:Nat):Int):=by rw[zZ (by omega) (by omega)];omega
 have a1:decide ((0:Int)≤((l.length+1:Nat):Int))=true:=decide_eq_true (by omega)
 have a2:Nat.ble (l.length+1) 1000000=true:=by rw[Nat.ble_eq];omega
 have a3:Nat.ble (l.length+1) (l.length+1)=true:=by rw[Nat.ble_eq];exact Nat.le_refl _
 have a4:rep [Value.int .i64 0] (l.length+1)=ints .i64 (List.replicate (l.length+1) 0):=by
  generalize l.length+1=n
  induction n with
  |zero=>rfl
  |succ n ih=>show [Value.int .i64 0]++rep [Value.int .i64 0] n=_;rw[ih];rfl
 have a5:vO (l.length+1) (((l.length+1:Nat):Int)) (ints .i64 (List.replicate (l.length+1) 0))=true:=by
  have:=xM (l:=List.replicate (l.length+1) (0:Int)) (by simp;omega)
  rw[List.length_replicate]at this
  exact this
 have a6:Nat.blt 0 (l.length+1)=true:=by rw[Nat.blt_eq];omega
 have a7:Nat.ble 1 (AHei.Vl (l.length+1)).length=true:=by unfold AHei.Vl;rw[Nat.ble_eq,zH];simp
 have a8:zr (AHei.Vl (l.length+1)) 0 [.int .i64 0]=ints .i64 (AHei.first l.length):=rfl
 have a9:je l.length (l.length:Int) (zu l)=true:=jM l hl
 have a10:Nat.ble l.length 4096=true:=by rw[Nat.ble_eq];exact h1'
 have a11:AHei.isF l.length (ints .i64 (AHei.first l.length))=true:=AHei.fg _
 have a12:Nat.blt l.length (l.length+1)=true:=by rw[Nat.blt_eq];omega
 have a13:0+l.length*1=l.length:=by omega
 have i1: ∀n:Nat,Int.ofNat n=(n:Int):=fun _=>rfl
 simp only[w,a1,a2,a3,a4,a5,a6,a7,a8,a9,a10,a11,a12,a13,i1,Int.toNat_natCast,qY,vw,zy,beq_self_eq_true,Nat.beq_refl,Bool.and_self,Bool.and_true,Bool.true_and,cond_true,cond_false]
 cases hf:AHei.j4 l.length 9223372036854775807 9223372036854775807 l (AHei.first l.length,0)
 ·rfl
 ·have ht := AHei.KS hf
  have hlt:l.length<(AHei.j5 l.length 9223372036854775807 9223372036854775807 l (AHei.first l.length,0)).length:=by omega
  have b1:=vG .i64 _ hlt
  have b2:=A105L1.rd hlt
  unfold ints at b1 b2
  simp only[b1,b2,cond_true]
def spec:Spec:=fun aa=>match aa with
 |[.sl n 6 cs]=>some (.qI (je n (Int.ofNat n) cs) (.out (.tuple #[.int .i64 (AHei.kf 9223372036854775807 9223372036854775807 (opsOf cs)).1,.bool (AHei.kf 9223372036854775807 9223372036854775807 (opsOf cs)).2])))
 |_=>none
theorem qf:qu Tryz.prog La 105 spec:=⟨qE (by kernel_rfl),fun aa t v h e=>by
 unfold spec at h
 split at h
 ·rename_i n cs
  cases h
  obtain⟨g1,g2⟩:=GT.qh e
  cases g2
  obtain⟨_,hn,h4,h5⟩:=jy g1
  generalize opsOf cs=l at h4 h5
  subst h4 h5
  exact⟨rfl,qR (n0:=4) (k:=12) qx qg qd (by simpa using⟨A156.qf,A157.qf⟩) (by simpa using⟨A105L0.qG,A105L1.qG⟩) (by decide) (by simp) rfl ((run _ _).trans (qL l hn))⟩
 ·cases h⟩
end A105
namespace A55
def T (m0:Nat) (c0:List Value) (a1:Int) (a2:Int):GT Value:=(.br (true&&(c0.all qo&&true)) (.br (Nat.beq m0 m0&&(je m0 (Int.ofNat m0) c0)) (.br ((opsOf c0).any (AHei.bad a1 a2)) (.out (.int .i64 120)) (.br ((Nat.ble (0+(m0*6)) c0.length&&((c0.drop 0).take (m0*6)).all qo)&&true) (.br (je m0 (Int.ofNat m0) ((c0.drop 0).take (m0*6))) (.br (!(AHei.kf 9223372036854775807 9223372036854775807 (opsOf ((c0.drop 0).take (m0*6)))).2) (.out (.int .i64 120)) (.out (.int .i64 0))) .no) .no)) .no) .no)
theorem run (m0:Nat) (c0:List Value) (a1:Int) (a2:Int):runK 4 [(105,A105.spec)] [A55L0.lp] 55 [.sl m0 6 c0,.v (.int .i64 a1),.v (.int .i64 a2)]=(T m0 c0 a1 a2).eval:=by kernel_rfl
theorem qL (l:List O6) (lf la:Int) (hl:l.length<2199023255552) (hf:lf≤9223372036854775807) (ha:la≤9223372036854775807):(T l.length (zu l) lf la).eval=some (.int .i64 (AHei.kM lf la l)):=by
 unfold T
 rw[←AHei.fl hf ha l]
 have h1:Nat.ble (0+l.length*6) (zu l).length=true:=by rw[Nat.ble_eq,kK];omega
 have h2:je l.length (Int.ofNat l.length) (zu l)=true:=jM l hl
 simp only[A21.xQ,h1,h2,vw,zy,GT.eval,Bool.and_self,cond_true,Nat.beq_refl]
 cases l.any (AHei.bad lf la)<;>cases (AHei.kf 9223372036854775807 9223372036854775807 l).2<;>rfl
def spec:Spec:=fun aa=>match aa with
 |[.sl n 6 cs,.v (.int .i64 lf),.v (.int .i64 la)]=>some (.qI (je n (Int.ofNat n) cs&&(inR lf&&inR la)) (.out (.int .i64 (AHei.kM lf la (opsOf cs)))))
 |_=>none
theorem qf:qu Tryz.prog La 55 spec:=⟨qE (by kernel_rfl),fun aa t v h e=>by
 unfold spec at h
 split at h
 ·rename_i n cs lf la
  cases h
  obtain⟨g1,g2⟩:=GT.qh e
  cases g2
  simp only[Bool.and_eq_true]at g1
  obtain⟨g1,g3,g4⟩:=g1
  have g3:=Ari.vN.1 g3
  have g4:=Ari.vN.1 g4
  obtain⟨_,hn,h4,h5⟩:=jy g1
  generalize opsOf cs=l at h4 h5
  subst h4 h5
  exact⟨rfl,qR (n0:=4) (k:=12) qx qg qd (by simpa using A105.qf) (by simpa using A55L0.qG) (by decide) (by simp) rfl ((run _ _ _ _).trans (qL l lf la hn (by omega) (by omega)))⟩
 ·cases h⟩
end A55
namespace A16
def T (m0:Nat) (c0:List Value) (m1:Nat) (c1:List Value) (m2:Nat) (c2:List Value):GT Value:=let x1:=AMac.ZD c0 c1 c2;(.br ((Nat.ble (0+(m0*6)) c0.length&&((c0.drop 0).take (m0*6)).all qo)&&(true&&(true&&true))) (.br ((je m0 (Int.ofNat m0) ((c0.drop 0).take (m0*6)))&&((inR (Int.ofNat m1))&&(inR (Int.ofNat m2)))) (.br ((AHei.kM (Int.ofNat m1) (Int.ofNat m2) (opsOf ((c0.drop 0).take (m0*6)))) != 0) (.out (.tuple #[.agg #[.int .i64 0,.int .i64 0,.string ⟨#[]⟩],.int .i64 120])) (.br ((true&&(true&&true))&&(c0.all qo&&(c1.all qo&&(c2.all qo&&true)))) (.br (AMac.gd m0 m1 m2 c0 c1 c2) (.br (AMac.ZA c0 c1 c2) (.out (.tuple #[.agg #[.int .i64 0,.int .i64 0,.string ⟨#[]⟩],.int .i64 (AMac.err c0 c1 c2)])) (.br (isL x1 0 [(.i .i64),(.i .i64),.s]) (.out (.tuple #[.agg #[.int .i64 (rdI x1 0),.int .i64 (rdI x1 1),.string (rdS x1 2)],.int .i64 0])) .no)) .no) .no)) .no) .no)
theorem run (m0:Nat) (c0:List Value) (m1:Nat) (c1:List Value) (m2:Nat) (c2:List Value):runK 4 [(55,A55.spec)] [A16L0.lp] 16 [.sl m0 6 c0,.sl m1 3 c1,.sl m2 3 c2]=(T m0 c0 m1 c1 m2 c2).eval:=by kernel_rfl
theorem JP {row aggs:List W3} {ops:List O6} (hc:(AHei.kf row.length aggs.length ops).2=true) (ho: ∀o∈ops,Ari.I o.2.2.2) (hr: ∀v∈row,Ari.I v) (ha: ∀v∈aggs,Ari.I v) {p:List W3×List Value} (e:AMac.ja row aggs ops ops.length 0 [] []= .inl p): ∃v,p.1=[v]:=by
 obtain⟨hl,T,T0,T1,hT⟩:=AHei.Qn hc
 have key:=A16L0.Ww (Step:=fun _ _ _=>True) hT T1 hr ha ho (fun _ _ _ _ _ _=>trivial) (fun _ _ _=>trivial) (fun _ _ _=>trivial) ops.length 0 (by omega) ⟨by omega,by rw[T0];rfl,fun v hv=>absurd hv (List.not_mem_nil)⟩
 rw[e]at key
 obtain⟨v,hv⟩:=List.length_eq_one_iff.1 key.2
 exact⟨v,hv⟩
theorem dc {row aggs:List W3} {ops:List O6} (h:AHei.kM row.length aggs.length ops=0):AMac.xN row aggs ops=match AMac.ja row aggs ops ops.length 0 [] []with
  | .inl p=>(p.1.getD 0 v0,0)
  | .inr e=>(v0,e):=by
 unfold AMac.xN
 rw[h,←AMac.Jp row aggs ops ops.length 0 [] []]
 cases AMac.ja row aggs ops ops.length 0 [] []<;>rfl
theorem qL (ops:List O6) (row aggs:List W3) (hl:ops.length<2199023255552) (hrl:row.length<4398046511104) (hal:aggs.length<4398046511104) (ho: ∀o∈ops,Ari.I o.2.2.2) (hr: ∀v∈row,Ari.I v) (ha: ∀v∈aggs,Ari.I v):
  (T ops.length (zu ops) row.length (qq row) aggs.length (qq aggs)).eval=some (ve (AMac.xN row aggs ops)):=by
 have e1:Nat.ble (0+ops.length*6) (zu ops).length=true:=by rw[Nat.ble_eq,kK];omega
 have e2:je ops.length (Int.ofNat ops.length) (zu ops)=true:=jM ops hl
 have e3: ∀n:Nat,n<4398046511104→inR (Int.ofNat n)=true:=fun n h=>Ari.vN.2 (by show -9223372036854775808≤(n:Int)∧(n:Int)<_;omega)
 unfold T
 simp only[A21.xQ,e1,e2,e3 _ hrl,e3 _ hal,vw,qZ,zy,GT.eval,Bool.and_self,Bool.and_true,Bool.true_and,cond_true]
 cases hc:AHei.kM (Int.ofNat row.length) (Int.ofNat aggs.length) ops != 0
 rotate_left
 ·have hc' : (AHei.kM (row.length : Int) (aggs.length : Int) ops != 0) = true := hc
  unfold AMac.xN
  rw[hc'];rfl
 have hc0:AHei.kM (row.length:Int) (aggs.length:Int) ops=0:=by
  have:(AHei.kM (row.length:Int) (aggs.length:Int) ops != 0)=false:=hc
  simpa[bne]using this
 have hh:(AHei.kf row.length aggs.length ops).2=true:=by
  unfold AHei.kM at hc0
  cases e:(AHei.kf row.length aggs.length ops).2
  ·rw[e]at hc0;cases hc0
  ·rfl
 have hgd:AMac.gd ops.length row.length aggs.length (zu ops) (qq row) (qq aggs)=true:=by
  unfold AMac.gd
  rw[zy,zn,zn]
  simp only[Bool.and_eq_true,List.all_eq_true]
  exact⟨e2,A16L0.vU row hrl,A16L0.vU aggs hal,ho,hr,ha,by rw[hc0];rfl⟩
 rw[dc hc0]
 simp only[hgd,cond_true,cond_false]
 unfold AMac.ZA AMac.err AMac.ZD
 rw[zy,zn,zn]
 cases hrun:AMac.ja row aggs ops ops.length 0 [] []with
 |inr x=>rfl
 |inl p=>
  obtain⟨v,hv⟩:=JP hh ho hr ha hrun
  dsimp only[]
  rw[hv]
  rfl
def spec:Spec:=fun aa=>match aa with
 |[.sl n 6 cs,.sl nr 3 rs,.sl na 3 as_]=>some (.qI (AMac.gd0 n nr na cs rs as_) (.out (ve (AMac.xN (qj rs) (qj as_) (opsOf cs)))))
 |_=>none
theorem KP {n nr na:Nat} {cs rs as_:List Value} (h:AMac.gd0 n nr na cs rs as_=true): ∃(ops:List O6) (row aggs:List W3),cs=zu ops∧rs=qq row∧as_=qq aggs∧n=ops.length∧nr=row.length∧na=aggs.length∧(∀o∈ops,Ari.I o.2.2.2)∧(∀v∈row,Ari.I v)∧(∀v∈aggs,Ari.I v)∧n<2199023255552∧nr<4398046511104∧na<4398046511104:=by
 unfold AMac.gd0 at h
 simp only[Bool.and_eq_true,List.all_eq_true]at h
 obtain⟨h1,h2,h3,h4,h5,h6⟩:=h
 obtain⟨_,a0,a1,a2⟩:=jy h1
 obtain⟨_,b0,b1,b2⟩:=kB h2
 obtain⟨_,c0,c1,c2⟩:=kB h3
 exact⟨opsOf cs,qj rs,qj as_,a1,b1,c1,a2.symm,b2.symm,c2.symm,h4,h5,h6,a0,b0,c0⟩
theorem qf:qu Tryz.prog La 16 spec:=⟨qE (by kernel_rfl),fun aa t v h e=>by
 unfold spec at h
 split at h
 ·rename_i n cs nr rs na as_
  cases h
  obtain⟨g1,g2⟩:=GT.qh e
  cases g2
  obtain⟨ops,row,aggs,rfl,rfl,rfl,rfl,rfl,rfl,ho,hr,ha,h1,h2,h3⟩:=KP g1
  rw[zy,zn,zn]
  exact⟨rfl,qR (n0:=4) (k:=12) qx qg qd (by simpa using A55.qf) (by simpa using A16L0.qG) (by decide) (by simp) rfl ((run _ _ _ _ _ _).trans (qL ops row aggs h1 h2 h3 ho hr ha))⟩
 ·cases h⟩
end A16
namespace A18
def T (m0:Nat) (c0:List Value) (m1:Nat) (c1:List Value) (m2:Nat) (c2:List Value):GT Value:=let x1:=AMac.xN (qj ((c1.drop 0).take (m1*3))) (qj ((c2.drop 0).take (m2*3))) (opsOf ((c0.drop 0).take (m0*6)));(.br ((Int.ofNat m0)==0) (.out (.tuple #[.bool true,.int .i64 0])) (.br ((Nat.ble (0+(m0*6)) c0.length&&((c0.drop 0).take (m0*6)).all qo)&&((Nat.ble (0+(m1*3)) c1.length&&((c1.drop 0).take (m1*3)).all qo)&&((Nat.ble (0+(m2*3)) c2.length&&((c2.drop 0).take (m2*3)).all qo)&&true))) (.br (AMac.gd0 m0 m1 m2 ((c0.drop 0).take (m0*6)) ((c1.drop 0).take (m1*3)) ((c2.drop 0).take (m2*3))) (.br (x1.2==0) (.out (.tuple #[.bool (A35.tru x1.1.1 x1.1.2.1),.int .i64 x1.2])) (.out (.tuple #[.bool false,.int .i64 x1.2]))) .no) .no))
theorem run (m0:Nat) (c0:List Value) (m1:Nat) (c1:List Value) (m2:Nat) (c2:List Value):runK 4 [(16,A16.spec),(35,A35.spec)] [] 18 [.sl m0 6 c0,.sl m1 3 c1,.sl m2 3 c2]=(T m0 c0 m1 c1 m2 c2).eval:=by kernel_rfl
theorem qL (ops:List O6) (row aggs:List W3) (h:AMac.gd0 ops.length row.length aggs.length (zu ops) (qq row) (qq aggs)=true):(T ops.length (zu ops) row.length (qq row) aggs.length (qq aggs)).eval=some (.tuple #[.bool (AMac.xq row aggs ops).1,.int .i64 (AMac.xq row aggs ops).2]):=by
 have e1:Nat.ble (0+ops.length*6) (zu ops).length=true:=by rw[Nat.ble_eq,kK];omega
 have e2: ∀l:List W3,Nat.ble (0+l.length*3) (qq l).length=true:=fun l=>by rw[Nat.ble_eq,zh];omega
 have e3: ∀l:List W3,((qq l).drop 0).take (l.length*3)=qq l:=fun l=>by rw[List.drop_zero,List.take_of_length_le (by rw[zh];exact Nat.le_refl _)]
 unfold T AMac.xq
 simp only[A21.xQ,e1,e2,e3,vw,qZ,zy,zn,h,GT.eval,Bool.and_self,Bool.and_true,cond_true]
 cases Int.ofNat ops.length==0
 ·simp only [cond_false]
  cases (AMac.xN row aggs ops).2==0<;>rfl
 ·rfl
def spec:Spec:=fun aa=>match aa with
 |[.sl n 6 cs,.sl nr 3 rs,.sl na 3 as_]=>some (.qI (AMac.gd0 n nr na cs rs as_) (.out (.tuple #[.bool (AMac.xq (qj rs) (qj as_) (opsOf cs)).1,.int .i64 (AMac.xq (qj rs) (qj as_) (opsOf cs)).2])))
 |_=>none
theorem qf:qu Tryz.prog La 18 spec:=⟨qE (by kernel_rfl),fun aa t v h e=>by
 unfold spec at h
 split at h
 ·rename_i n cs nr rs na as_
  cases h
  obtain⟨g1,g2⟩:=GT.qh e
  cases g2
  obtain⟨ops,row,aggs,rfl,rfl,rfl,rfl,rfl,rfl,ho,hr,ha,h1,h2,h3⟩:=A16.KP g1
  rw[zy,zn,zn]
  exact⟨rfl,qR (n0:=4) (k:=12) qx qg qd (by simpa using⟨A16.qf,A35.qf⟩) (by simp) (by decide) (by simp) rfl ((run _ _ _ _ _ _).trans (qL ops row aggs g1))⟩
 ·cases h⟩
end A18
end
end Go.Proofs.YtaiokpmmjbiajaaGreatDoorDx
section
namespace Go.Proofs.YtaiokpmmjbiajaaGreatDoorDx.Ari
open Go
def bZ (hi lo z:Int):Int:=((hi*18446744073709551616+lo) / z) % 18446744073709551616
noncomputable def KI (hi lo z:Int):Bool:= @decide ((hi*18446744073709551616+lo) / z≥18446744073709551616) (Classical.propDecidable _)
structure OkD (z lo hi:Int):Prop where
 z0:0<z
 z1:z≤9223372036854775808
 l0:0≤lo
 l1:lo<18446744073709551616
 h0:0≤hi
 h1:hi<18446744073709551616
noncomputable def okD (z lo hi:Int):Bool:= @decide (OkD z lo hi) (Classical.propDecidable _)
theorem Yo {z lo hi:Int}:okD z lo hi=true↔OkD z lo hi:= @decide_eq_true_iff _ (Classical.propDecidable _)
theorem gJ (n:Nat) (hn:n≤62) {a m:Int} (hm:m=2 ^ n - 1) (h0:0≤a) (h1:a<18446744073709551616):Int.ofNat (BitVec.ofInt 64 a &&& BitVec.ofInt 64 m).toNat=a % 2 ^ n:=by
 have h:=Bits.wM n (by omega) hm h0 h1
 have hlt:(BitVec.ofInt 64 a &&& BitVec.ofInt 64 m).toNat<2 ^ 64:=BitVec.isLt _
 rw[←h,Bits.vX (by show (0:Int)≤((_:Nat):Int);omega) (by show ((_:Nat):Int)<_;omega)]
theorem yu (j:Nat):(0:Int)<2 ^ j:=Int.pow_pos (by decide)
theorem ny {hi lo:Int} (j:Nat) (hj:j<64):((hi*18446744073709551616+lo) / 2 ^ j) % 2=(lo / 2 ^ j) % 2:=by
 have e:hi*18446744073709551616=2 ^ j*(2*(hi*2 ^ (63 - j))):=by
  have:(18446744073709551616:Int)=2 ^ j*(2*2 ^ (63 - j)):=by
   rw[←Int.pow_succ',←Int.pow_add,show j+(63 - j+1)=64 by omega];rfl
  rw[this,Int.mul_left_comm hi,Int.mul_left_comm hi]
 rw[e,Int.add_comm,Int.add_mul_ediv_left _ _ (by have:=yu j;omega),Int.add_mul_emod_self_left]
theorem mW {hi lo:Int} (l0:0≤lo) (l1:lo<18446744073709551616) (j:Nat) (hj:64≤j):((hi*18446744073709551616+lo) / 2 ^ j)=hi / 2 ^ (j - 64):=by
 have e:(2:Int) ^ j=18446744073709551616*2 ^ (j - 64):=by
  have:(18446744073709551616:Int)=2 ^ 64:=rfl
  rw[this,←Int.pow_add,show 64+(j - 64)=j by omega]
 rw[e,←Int.ediv_ediv_of_nonneg (by decide)]
 congr 1
 omega
theorem fp {N:Int} (j:Nat):N / 2 ^ j=2*(N / 2 ^ (j+1))+(N / 2 ^ j) % 2:=by
 rw[Int.pow_succ,←Int.ediv_ediv_of_nonneg (by have:=yu j;omega)]
 omega
theorem de {t b z:Int} (hz:0<z) (hz1:z≤9223372036854775808) (ht:0≤t) (hb:0≤b∧b≤1):
  (2*t+b) % z=(if z≤2*(t % z)+b then 2*(t % z)+b - z else 2*(t % z)+b)∧(2*t+b) / z=(if z≤2*(t % z)+b then 2*(t / z)+1 else 2*(t / z)):=by
 have h1:=Int.emod_add_mul_ediv t z
 have h2:=Int.emod_nonneg t (show z≠0 by omega)
 have h3:=Int.emod_lt_of_pos t hz
 generalize t % z=r at*
 generalize t / z=q at*
 have e:2*t+b=(2*r+b)+z*(2*q):=by
  rw[←h1,Int.mul_left_comm z];omega
 have e2:(2*r+b)+z*(2*q)=(2*r+b - z)+z*(2*q+1):=by rw[Int.mul_add];omega
 split
 ·rw [e, e2, Int.add_mul_emod_self_left, Int.add_mul_ediv_left _ _ (by omega), Int.emod_eq_of_lt (by omega) (by omega), Int.ediv_eq_zero_of_lt (by omega) (by omega)]
  omega
 ·rw [e, Int.add_mul_emod_self_left, Int.add_mul_ediv_left _ _ (by omega), Int.emod_eq_of_lt (by omega) (by omega), Int.ediv_eq_zero_of_lt (by omega) (by omega)]
  omega
theorem nt {x:Int} (h0:0≤x) (h1:x*2+1<18446744073709551616):IntKind.wrap .u64 (Int.ofNat (BitVec.ofInt 64 (x*2) ||| BitVec.ofInt 64 1).toNat)=x*2+1:=Bits.WR 1 h0 (by decide) (by decide) h1
theorem mJ {x b:Int} (h0:0≤x) (hb:0≤b∧b≤1) (h1:x*2+b<18446744073709551616):IntKind.wrap .u64 (Int.ofNat (BitVec.ofInt 64 (x*2) ||| BitVec.ofInt 64 b).toNat)=x*2+b:=Bits.WR 1 h0 hb.1 (by have:(2:Int) ^ 1=2:=rfl;omega) h1
end Go.Proofs.YtaiokpmmjbiajaaGreatDoorDx.Ari
namespace Go.Proofs.YtaiokpmmjbiajaaGreatDoorDx.Ari
theorem nQ {x y:Int} (x0:0≤x) (x1:x≤9223372036854775808) (y0:0≤y) (y1:y≤9223372036854775808):
  ∀X1 X0 Y1 Y0 ll lh hl:Int,X1=x / 4294967296→X0=x % 4294967296→Y1=y / 4294967296→Y0=y % 4294967296→ll=X0*Y0→lh=X0*Y1→hl=X1*Y0→
  (0≤ll∧ll<18446744073709551616)∧(0≤lh∧lh<9223372036854775808)∧(0≤hl∧hl<9223372036854775808)∧(0≤X1*Y1∧X1*Y1≤4611686018427387904)∧x*y=X1*Y1*18446744073709551616+(lh+hl)*4294967296+ll:=by
 intro X1 X0 Y1 Y0 ll lh hl e1 e2 e3 e4 e5 e6 e7
 have a1:0≤X1∧X1≤2147483648:=by omega
 have a2:0≤X0∧X0≤4294967295:=by omega
 have a3:0≤Y1∧Y1≤2147483648:=by omega
 have a4:0≤Y0∧Y0≤4294967295:=by omega
 have b1:=Int.mul_nonneg a2.1 a4.1
 have b2:=Int.mul_nonneg a2.1 a3.1
 have b3:=Int.mul_nonneg a1.1 a4.1
 have b4:=Int.mul_nonneg a1.1 a3.1
 have c1:=Int.mul_le_mul a2.2 a4.2 a4.1 (by decide)
 have c2:=Int.mul_le_mul a2.2 a3.2 a3.1 (by decide)
 have c3:=Int.mul_le_mul a1.2 a4.2 a4.1 (by decide)
 have c4:=Int.mul_le_mul a1.2 a3.2 a3.1 (by decide)
 have ex:x=X1*4294967296+X0:=by omega
 have ey:y=Y1*4294967296+Y0:=by omega
 have em:x*y=X1*Y1*18446744073709551616+(lh+hl)*4294967296+ll:=by
  rw[ex,ey,Int.add_mul,Int.mul_add,Int.mul_add,←Int.mul_assoc (X1*4294967296),Int.mul_right_comm X1 4294967296 Y1,Int.mul_right_comm X1 4294967296 Y0,←Int.mul_assoc X0,e5,e6,e7]
  omega
 omega
end Go.Proofs.YtaiokpmmjbiajaaGreatDoorDx.Ari
end
namespace Go.Proofs.YtaiokpmmjbiajaaGreatDoorDx
section
open Go Go.Proofs
namespace A226L0
noncomputable def cfg:Cfg:=zz Tryz.prog 4 (gpT []) (ltT 4 [])
def stA (a:Int) (b:Int) (d:Int) (z:Int) (lo:Int) (hi:Int) (r:Int) (q:Int) (v:Bool) (i:Int):KX:=⟨[(0,.int .i64 a),(1,.int .i64 b),(2,.int .i64 d),(10,.int .u64 z),(16,.int .u64 lo),(17,.int .u64 hi),(18,.int .u64 r),(19,.int .u64 q),(20,.bool v),(21,.int .i64 i)],[]⟩
def qP (a:Int) (b:Int) (d:Int) (q:Int) (v:Bool):KX:=⟨[(0,.int .i64 a),(1,.int .i64 b),(2,.int .i64 d),(19,.int .u64 q),(20,.bool v)],[]⟩
def kp:Ex→List Nat
 | .normal=>[0,1,2,10,16,17,18,19,20,21]
 | .exit _=>[0,1,2,19,20]
 |_=>[]
theorem round (a:Int) (b:Int) (d:Int) (z:Int) (lo:Int) (hi:Int) (r:Int) (q:Int) (v:Bool) (i:Int):zW cfg [] [] 226 0 (stK 146 4 [] (stA a b d z lo hi r q v i)) (zD 4 100 146 kp (fun _ _=>[]))=(let x1:=IntKind.wrap .u64 (Int.ofNat (BitVec.ofInt 64 (IntKind.wrap .u64 (r*2)) ||| BitVec.ofInt 64 (IntKind.wrap .u64 (Int.ofNat (BitVec.ofInt 64 (Int.fdiv lo (2 ^ (min (IntKind.wrap .u64 (IntKind.wrap .i64 (Int.ofNat (BitVec.ofInt 64 i &&& BitVec.ofInt 64 63).toNat))).toNat 64))) &&& BitVec.ofInt 64 1).toNat))).toNat);let x2:=IntKind.wrap .u64 (Int.ofNat (BitVec.ofInt 64 (IntKind.wrap .u64 (r*2)) ||| BitVec.ofInt 64 (IntKind.wrap .u64 (Int.ofNat (BitVec.ofInt 64 (Int.fdiv hi (2 ^ (min (IntKind.wrap .u64 (IntKind.wrap .i64 (i - 64))).toNat 64))) &&& BitVec.ofInt 64 1).toNat))).toNat);let x4:=IntKind.wrap .i64 (i - 1);let x5:=Int.fdiv q 9223372036854775808;let x6:=IntKind.wrap .u64 (q*2);let x3:=IntKind.wrap .u64 (Int.ofNat (BitVec.ofInt 64 x6 ||| BitVec.ofInt 64 1).toNat);let x7:=IntKind.wrap .u64 (x2 - z);let x8:=IntKind.wrap .u64 (x1 - z);(bif decide (i≥0)then(bif(!decide ((IntKind.wrap .u64 (IntKind.wrap .i64 (Int.ofNat (BitVec.ofInt 64 i &&& BitVec.ofInt 64 63).toNat)))<0))then(bif decide (i≥64)then(bif(!decide ((IntKind.wrap .u64 (IntKind.wrap .i64 (i - 64)))<0))then(bif v then(bif decide (x2≥z)then(some (.normal,stA a b d z lo hi x7 x3 true x4))else(some (.normal,stA a b d z lo hi x2 x6 true x4)))else(bif decide (x2≥z)then(some (.normal,stA a b d z lo hi x7 x3 (x5==1) x4))else(some (.normal,stA a b d z lo hi x2 x6 (x5==1) x4))))else none)else(bif v then(bif decide (x1≥z)then(some (.normal,stA a b d z lo hi x8 x3 true x4))else(some (.normal,stA a b d z lo hi x1 x6 true x4)))else(bif decide (x1≥z)then(some (.normal,stA a b d z lo hi x8 x3 (x5==1) x4))else(some (.normal,stA a b d z lo hi x1 x6 (x5==1) x4)))))else none)else(some (.exit 0,qP a b d q v)))
):=by kernel_rfl
def N (hi lo:Int):Int:=hi*18446744073709551616+lo
def st (a b d z lo hi:Int) (j:Nat):KX:=stA a b d z lo hi ((N hi lo / 2 ^ j) % z) (((N hi lo / 2 ^ j) / z) % 18446744073709551616) (decide ((N hi lo / 2 ^ j) / z≥18446744073709551616)) ((j:Int) - 1)
theorem next (a b d:Int) {z lo hi:Int} (h:Ari.OkD z lo hi) {j:Nat} (hj:j<128):
  zW cfg [] [] 226 0 (stK 146 4 [] (st a b d z lo hi (j+1))) (zD 4 100 146 kp (fun _ _=>[]))=some (.normal,st a b d z lo hi j):=by
 obtain⟨z0,z1,l0,l1,h0,h1⟩:=h
 unfold st
 rw[round]
 have hN:0≤N hi lo:=by unfold N;omega
 have hs:=Ari.fp (N:=N hi lo) j
 have bC:0≤(N hi lo / 2 ^ j) % 2∧(N hi lo / 2 ^ j) % 2≤1:=by omega
 have ht:0≤N hi lo / 2 ^ (j+1):=Int.ediv_nonneg hN (Int.le_of_lt (Ari.yu _))
 obtain⟨d1,d2⟩:=Ari.de z0 z1 ht bC
 rw[←hs]at d1 d2
 have ei:(((j+1:Nat):Int) - 1)=(j:Int):=by omega
 have c1:decide ((j:Int)≥0)=true:=decide_eq_true (by omega)
 have w1:IntKind.wrap .i64 ((j:Int) - 1)=(j:Int) - 1:=zZ (by omega) (by omega)
 rw[ei]
 have r0:=Int.emod_nonneg (N hi lo / 2 ^ (j+1)) (show z≠0 by omega)
 have r1:=Int.emod_lt_of_pos (N hi lo / 2 ^ (j+1)) z0
 have u0:0≤N hi lo / 2 ^ (j+1) / z:=Int.ediv_nonneg ht (Int.le_of_lt z0)
 have e63:IntKind.wrap .i64 (Int.ofNat (BitVec.ofInt 64 (j:Int) &&& BitVec.ofInt 64 63).toNat)=((j % 64:Nat):Int):=by
  rw[Ari.gJ 6 (by decide) (by decide) (by omega) (by omega),zZ (by show _≤(j:Int) % 2 ^ 6;omega) (by show (j:Int) % 2 ^ 6≤_;omega)]
  show (j:Int) % 64=_
  omega
 have e64:IntKind.wrap .u64 ((j % 64:Nat):Int)=((j % 64:Nat):Int):=Bits.vX (by omega) (by omega)
 have e65:min (((j % 64:Nat):Int)).toNat 64=j % 64:=by rw[Int.toNat_natCast];omega
 have c2:decide (((j % 64:Nat):Int)<0)=false:=decide_eq_false (by omega)
 have f1: ∀x:Int,∀k:Nat,Int.fdiv x (2 ^ k)=x / 2 ^ k:=fun x k=>Int.fdiv_eq_ediv_of_nonneg _ (Int.le_of_lt (Ari.yu k))
 have rr:IntKind.wrap .u64 ((N hi lo / 2 ^ (j+1)) % z*2)=(N hi lo / 2 ^ (j+1)) % z*2:=Bits.vX (by omega) (by omega)
 have ob:=Ari.mJ (x:=(N hi lo / 2 ^ (j+1)) % z) r0 bC (by omega)
 have bb: ∀x:Int,∀k:Nat,0≤x→x<18446744073709551616→IntKind.wrap .u64 (Int.ofNat (BitVec.ofInt 64 (x / 2 ^ k) &&& BitVec.ofInt 64 1).toNat)=(x / 2 ^ k) % 2:=fun x k x0 x1=>by
  have:=Ari.yu k
  have g0:0≤x / 2 ^ k:=Int.ediv_nonneg x0 (by omega)
  have g1:=Int.ediv_le_self (2 ^ k) x0
  exact Bits.wM 1 (by decide) (by decide) g0 (by omega)
 have x6:IntKind.wrap .u64 ((N hi lo / 2 ^ (j+1) / z) % 18446744073709551616*2)=((N hi lo / 2 ^ (j+1) / z) % 9223372036854775808)*2:=by rw[IntKind.wrap_u64];omega
 have oo:=Ari.nt (x:=(N hi lo / 2 ^ (j+1) / z) % 9223372036854775808) (by omega) (by omega)
 have f2: ∀x:Int,Int.fdiv x 9223372036854775808=x / 9223372036854775808:=fun x=>Int.fdiv_eq_ediv_of_nonneg _ (by decide)
 have key: ∀B:Int,B=(N hi lo / 2 ^ j) % 2→True:=fun _ _=>trivial
 have fin: ∀(v w:Bool),(v=decide (N hi lo / 2 ^ (j+1) / z≥18446744073709551616))→(w=bif v then true else(N hi lo / 2 ^ (j+1) / z) % 18446744073709551616 / 9223372036854775808==1)→
   (bif decide ((N hi lo / 2 ^ (j+1)) % z*2+(N hi lo / 2 ^ j) % 2≥z)then(some (Ex.normal,stA a b d z lo hi (IntKind.wrap .u64 ((N hi lo / 2 ^ (j+1)) % z*2+(N hi lo / 2 ^ j) % 2 - z)) ((N hi lo / 2 ^ (j+1) / z) % 9223372036854775808*2+1) w ((j:Int) - 1)))else(some (.normal,stA a b d z lo hi ((N hi lo / 2 ^ (j+1)) % z*2+(N hi lo / 2 ^ j) % 2) ((N hi lo / 2 ^ (j+1) / z) % 9223372036854775808*2) w ((j:Int) - 1))))=
   some (.normal,stA a b d z lo hi ((N hi lo / 2 ^ j) % z) (((N hi lo / 2 ^ j) / z) % 18446744073709551616) (decide ((N hi lo / 2 ^ j) / z≥18446744073709551616)) ((j:Int) - 1)):=by
  intro v w hv hw
  rw[d1,d2]
  generalize (N hi lo / 2 ^ (j+1)) % z=r at*
  generalize N hi lo / 2 ^ (j+1) / z=u at*
  generalize (N hi lo / 2 ^ j) % 2=bt at*
  have hw2:w=decide (u≥9223372036854775808):=by
   rw[hw,hv]
   by_cases g:u≥18446744073709551616
   ·rw[decide_eq_true g,decide_eq_true (by omega)];rfl
   ·rw [decide_eq_false g]
    rw[Bool.eq_iff_iff]
    simp only[cond_false,beq_iff_eq,decide_eq_true_eq]
    omega
  by_cases g:z≤2*r+bt
  ·rw [if_pos g, if_pos g, decide_eq_true (show r * 2 + bt ≥ z by omega), Bits.vX (by omega) (by omega), hw2]
   rw[show r*2+bt - z=2*r+bt - z by omega,show u % 9223372036854775808*2+1=(2*u+1) % 18446744073709551616 by omega]
   have:decide (u≥9223372036854775808)=decide (2*u+1≥18446744073709551616):=by rw[decide_eq_decide];omega
   rw[this];rfl
  ·rw [if_neg g, if_neg g, decide_eq_false (show ¬ r * 2 + bt ≥ z by omega), hw2]
   rw[show r*2+bt=2*r+bt by omega,show u % 9223372036854775808*2=(2*u) % 18446744073709551616 by omega]
   have:decide (u≥9223372036854775808)=decide (2*u≥18446744073709551616):=by rw[decide_eq_decide];omega
   rw[this];rfl
 by_cases h64:64≤j
 ·have c3 : decide ((j : Int) ≥ 64) = true := decide_eq_true (by omega)
  have w2:IntKind.wrap .i64 ((j:Int) - 64)=((j - 64:Nat):Int):=by rw[zZ (by omega) (by omega)];omega
  have w3:IntKind.wrap .u64 ((j - 64:Nat):Int)=((j - 64:Nat):Int):=Bits.vX (by omega) (by omega)
  have w4:min (((j - 64:Nat):Int)).toNat 64=j - 64:=by rw[Int.toNat_natCast];omega
  have c4:decide (((j - 64:Nat):Int)<0)=false:=decide_eq_false (by omega)
  have eb:(hi / 2 ^ (j - 64)) % 2=(N hi lo / 2 ^ j) % 2:=by unfold N;rw[Ari.mW l0 l1 j h64]
  simp only[e63,e64,c1,c2,c3,c4,w1,w2,w3,w4,f1,bb hi _ h0 h1,eb,rr,ob,x6,oo,f2,cond_true,Bool.not_false]
  rw[←fin (decide (N hi lo / 2 ^ (j+1) / z≥18446744073709551616)) _ rfl rfl]
  cases decide (N hi lo / 2 ^ (j+1) / z≥18446744073709551616)<;>rfl
 ·have c3 : decide ((j : Int) ≥ 64) = false := decide_eq_false (by omega)
  have ej:j % 64=j:=by omega
  have eb:(lo / 2 ^ (j % 64)) % 2=(N hi lo / 2 ^ j) % 2:=by unfold N;rw[Ari.ny j (by omega),ej]
  simp only[e63,e64,e65,c1,c2,c3,w1,f1,bb lo _ l0 l1,eb,rr,ob,x6,oo,f2,cond_true,cond_false,Bool.not_false]
  rw[←fin (decide (N hi lo / 2 ^ (j+1) / z≥18446744073709551616)) _ rfl rfl]
  cases decide (N hi lo / 2 ^ (j+1) / z≥18446744073709551616)<;>rfl
theorem last (a b d z lo hi:Int):
  zW cfg [] [] 226 0 (stK 146 4 [] (st a b d z lo hi 0)) (zD 4 100 146 kp (fun _ _=>[]))=some (.exit 0,qP a b d ((N hi lo / z) % 18446744073709551616) (decide (N hi lo / z≥18446744073709551616))):=by
 unfold st
 rw[round]
 have c1:decide (((0:Nat):Int) - 1≥0)=false:=rfl
 have e:N hi lo / 2 ^ 0=N hi lo:=by rw[Int.pow_zero,Int.ediv_one]
 simp only[c1,e,cond_false]
noncomputable def D:KD:=⟨146,4,100,[0,1,2,10,16,17,18,19,20,21],[],fun _=>[],fun x ro=>match x.vs,x.cars,ro with
 |[(0,.int .i64 a),(1,.int .i64 b),(2,.int .i64 d),(10,.int .u64 z),(16,.int .u64 lo),(17,.int .u64 hi),(18,.int .u64 0),(19,.int .u64 0),(20,.bool false),(21,.int .i64 127)],[],[]=>
  .qI (Ari.okD z lo hi) (.out (.exit 0,qP a b d (Ari.bZ hi lo z) (Ari.KI hi lo z)))
 |_,_,_=> .no⟩
noncomputable def lp:LpK:=⟨226,12,0,D⟩
theorem qG:zw Tryz.prog La 4 lp:=by
 refine⟨by kernel_rfl,fun c base I hP hn hG hI hIL x ro ex y e=> ?_⟩
 obtain⟨vs,cars⟩:=x
 simp only[lp,D]at e ⊢
 split at e
 ·rename_i a b d z lo hi
  obtain⟨g1,g2⟩:=GT.qh e
  cases g2
  have h:=Ari.Yo.1 g1
  have main: ∀j,j≤128→zF (@zA (zV base) c base I (qW Tryz.prog 226 0) 146 4 100 []) (st a b d z lo hi j) (.exit 0) (qP a b d (Ari.bZ hi lo z) (Ari.KI hi lo z)):=by
   intro j
   induction j with
   |zero=>
    intro _
    have e:Ari.KI hi lo z=decide (N hi lo / z≥18446744073709551616):=by unfold Ari.KI N;congr 1
    rw[e]
    exact .stop (by simp) (stepT qg qd (by simp) (by simp) hP hn hG hI hIL (last a b d z lo hi))
   |succ j ih=>
    intro hj
    exact .next (stepT qg qd (by simp) (by simp) hP hn hG hI hIL (next a b d h (by omega))) (ih (by omega))
  have m:=main 128 (Nat.le_refl _)
  have e0:N hi lo / 2 ^ 128=0:=by
   have:=h.h0;have:=h.h1;have:=h.l0;have:=h.l1
   exact Int.ediv_eq_zero_of_lt (by unfold N;omega) (by unfold N;show _<(340282366920938463463374607431768211456:Int);omega)
  unfold st at m
  rw[e0,Int.zero_emod,Int.zero_ediv]at m
  exact m
 ·cases e
end A226L0
namespace A243
def T (a0:Int):GT Value:=let x1:=IntKind.wrap .u64 a0;(.br (decide (a0<0)) (.out (.int .u64 (IntKind.wrap .u64 (0 - x1)))) (.out (.int .u64 x1)))
theorem run (a0:Int):runK 4 [] [] 243 [.v (.int .i64 a0)]=(T a0).eval:=by kernel_rfl
theorem qL (a:Int) (h:inR a=true):(T a).eval=some (.int .u64 (Ari.qz a)):=by
 unfold inR at h
 simp only[Bool.and_eq_true,decide_eq_true_eq]at h
 unfold T Ari.qz
 by_cases hn:a<0
 ·have e : IntKind.wrap .u64 (0 - IntKind.wrap .u64 a) = -a := by rw [IntKind.wrap_u64, IntKind.wrap_u64]; omega
  simp only[GT.eval,decide_eq_true hn,cond_true,if_pos hn,e]
 ·have e : IntKind.wrap .u64 a = a := by rw [IntKind.wrap_u64]; omega
  simp only[GT.eval,decide_eq_false hn,cond_false,if_neg hn,e]
def spec:Spec:=fun aa=>match aa with
 |[.v (.int .i64 a)]=>some (.qI (inR a) (.out (.int .u64 (Ari.qz a))))
 |_=>none
theorem qf:qu Tryz.prog La 243 spec:=⟨qE (by kernel_rfl),fun aa t v h e=>by
 unfold spec at h
 split at h
 ·rename_i a
  cases h
  obtain⟨g1,g2⟩:=GT.qh e
  cases g2
  exact⟨rfl,qR (l:=[]) (L:=[]) (n0:=4) (k:=12) qx qg qd (by simp) (by simp) (by decide) (by simp) rfl ((run _).trans (qL _ g1))⟩
 ·cases h⟩
end A243
namespace A226
noncomputable def T (a0:Int) (a1:Int) (a2:Int):GT Value:=let x2:=IntKind.wrap .u64 ((IntKind.wrap .u64 ((Int.fdiv (IntKind.wrap .u64 ((IntKind.wrap .u64 (Int.ofNat (BitVec.ofInt 64 (Ari.qz a0) &&& BitVec.ofInt 64 4294967295).toNat))*(IntKind.wrap .u64 (Int.ofNat (BitVec.ofInt 64 (Ari.qz a1) &&& BitVec.ofInt 64 4294967295).toNat)))) 4294967296)+(IntKind.wrap .u64 (Int.ofNat (BitVec.ofInt 64 (IntKind.wrap .u64 ((IntKind.wrap .u64 (Int.ofNat (BitVec.ofInt 64 (Ari.qz a0) &&& BitVec.ofInt 64 4294967295).toNat))*(Int.fdiv (Ari.qz a1) 4294967296))) &&& BitVec.ofInt 64 4294967295).toNat))))+(IntKind.wrap .u64 (Int.ofNat (BitVec.ofInt 64 (IntKind.wrap .u64 ((Int.fdiv (Ari.qz a0) 4294967296)*(IntKind.wrap .u64 (Int.ofNat (BitVec.ofInt 64 (Ari.qz a1) &&& BitVec.ofInt 64 4294967295).toNat)))) &&& BitVec.ofInt 64 4294967295).toNat)));let x3:=IntKind.wrap .u64 ((IntKind.wrap .u64 ((IntKind.wrap .u64 ((IntKind.wrap .u64 ((Int.fdiv (Ari.qz a0) 4294967296)*(Int.fdiv (Ari.qz a1) 4294967296)))+(Int.fdiv (IntKind.wrap .u64 ((IntKind.wrap .u64 (Int.ofNat (BitVec.ofInt 64 (Ari.qz a0) &&& BitVec.ofInt 64 4294967295).toNat))*(Int.fdiv (Ari.qz a1) 4294967296))) 4294967296)))+(Int.fdiv (IntKind.wrap .u64 ((Int.fdiv (Ari.qz a0) 4294967296)*(IntKind.wrap .u64 (Int.ofNat (BitVec.ofInt 64 (Ari.qz a1) &&& BitVec.ofInt 64 4294967295).toNat)))) 4294967296)))+(Int.fdiv x2 4294967296));let x4:=IntKind.wrap .u64 (Int.ofNat (BitVec.ofInt 64 (IntKind.wrap .u64 (x2*4294967296)) ||| BitVec.ofInt 64 (IntKind.wrap .u64 (Int.ofNat (BitVec.ofInt 64 (IntKind.wrap .u64 ((IntKind.wrap .u64 (Int.ofNat (BitVec.ofInt 64 (Ari.qz a0) &&& BitVec.ofInt 64 4294967295).toNat))*(IntKind.wrap .u64 (Int.ofNat (BitVec.ofInt 64 (Ari.qz a1) &&& BitVec.ofInt 64 4294967295).toNat)))) &&& BitVec.ofInt 64 4294967295).toNat))).toNat);let x1:=Ari.bZ x3 x4 (Ari.qz a2);let x5:=IntKind.wrap .i64 (IntKind.wrap .u64 (0 - x1));let x6:=IntKind.wrap .i64 x1;(.br ((inR a0)) (.br ((inR a1)) (.br ((inR a2)) (.br ((Ari.okD (Ari.qz a2) x4 x3)) (.br ((Ari.KI x3 x4 (Ari.qz a2))) (.out (.tuple ([.int .i64 0,.bool (false)]).toArray)) (.br (decide (x1>9223372036854775808)) (.out (.tuple ([.int .i64 0,.bool (false)]).toArray)) (.br ((x1==9223372036854775808)) (.br ((!(!((!(decide (a0<0)==decide (a1<0)))==decide (a2<0))))) (.out (.tuple ([.int .i64 0,.bool (false)]).toArray)) (.br ((!((!(decide (a0<0)==decide (a1<0)))==decide (a2<0)))) (.out (.tuple ([.int .i64 x5,.bool (true)]).toArray)) (.out (.tuple ([.int .i64 x6,.bool (true)]).toArray)))) (.br ((!((!(decide (a0<0)==decide (a1<0)))==decide (a2<0)))) (.out (.tuple ([.int .i64 x5,.bool (true)]).toArray)) (.out (.tuple ([.int .i64 x6,.bool (true)]).toArray)))))) .no) .no) .no) .no)
theorem run (a0:Int) (a1:Int) (a2:Int):runK 4 [(243,A243.spec)] [A226L0.lp] 226 [.v (.int .i64 a0),.v (.int .i64 a1),.v (.int .i64 a2)]=(T a0 a1 a2).eval:=by kernel_rfl
theorem qL (a b d:Int) (ha:inR a=true) (hb:inR b=true) (hd:inR d=true) (h0:d≠0):(T a b d).eval=some (.tuple #[.int .i64 (Ari.quot a b d).1,.bool (Ari.quot a b d).2]):=by
 have a1:=Ari.jv ha
 have b1:=Ari.jv hb
 have d1:=Ari.jv hd
 have dp:=Ari.size_pos hd h0
 unfold T Ari.quot
 generalize Ari.qz a=x at*
 generalize Ari.qz b=y at*
 generalize Ari.qz d=z at*
 obtain⟨p1,p2,p3,p4,p5⟩:=Ari.nQ a1.1 a1.2 b1.1 b1.2 _ _ _ _ _ _ _ rfl rfl rfl rfl rfl rfl rfl
 have m1:=Bits.wM 32 (by decide) (a:=x) (m:=4294967295) (by decide) (by omega) (by omega)
 have m2:=Bits.wM 32 (by decide) (a:=y) (m:=4294967295) (by decide) (by omega) (by omega)
 rw[show (2:Int) ^ 32=4294967296 from rfl]at m1 m2
 have f1: ∀x:Int,Int.fdiv x 4294967296=x / 4294967296:=fun x=>Int.fdiv_eq_ediv_of_nonneg _ (by decide)
 simp only[m1,m2,f1]
 generalize hll:x % 4294967296*(y % 4294967296)=ll at*
 generalize hlh:x % 4294967296*(y / 4294967296)=lh at*
 generalize hhl:x / 4294967296*(y % 4294967296)=hl at*
 generalize hhh:x / 4294967296*(y / 4294967296)=hh at*
 have w1:IntKind.wrap .u64 ll=ll:=Bits.vX p1.1 p1.2
 have w2:IntKind.wrap .u64 lh=lh:=Bits.vX p2.1 (by omega)
 have w3:IntKind.wrap .u64 hl=hl:=Bits.vX p3.1 (by omega)
 have w4:IntKind.wrap .u64 hh=hh:=Bits.vX p4.1 (by omega)
 have m3:=Bits.wM 32 (by decide) (a:=ll) (m:=4294967295) (by decide) p1.1 p1.2
 have m4:=Bits.wM 32 (by decide) (a:=lh) (m:=4294967295) (by decide) p2.1 (by omega)
 have m5:=Bits.wM 32 (by decide) (a:=hl) (m:=4294967295) (by decide) p3.1 (by omega)
 rw[show (2:Int) ^ 32=4294967296 from rfl]at m3 m4 m5
 simp only[w1,w2,w3,w4,m3,m4,m5]
 have w5:IntKind.wrap .u64 (IntKind.wrap .u64 (ll / 4294967296+lh % 4294967296)+hl % 4294967296)=ll / 4294967296+lh % 4294967296+hl % 4294967296:=by
  rw[IntKind.wrap_u64,IntKind.wrap_u64];omega
 simp only[w5]
 generalize tR:ll / 4294967296+lh % 4294967296+hl % 4294967296=mid at*
 have tQ:0≤mid∧mid<12884901888:=by omega
 have w6:IntKind.wrap .u64 (mid*4294967296)=(mid % 4294967296)*2 ^ 32:=by
  rw[IntKind.wrap_u64,show (2:Int) ^ 32=4294967296 from rfl];omega
 have w7:=Bits.WR 32 (x:=mid % 4294967296) (b:=ll % 4294967296) (by omega) (by omega) (by rw[show (2:Int) ^ 32=4294967296 from rfl];omega) (by rw[show (2:Int) ^ 32=4294967296 from rfl];omega)
 have w8:IntKind.wrap .u64 (IntKind.wrap .u64 (IntKind.wrap .u64 (hh+lh / 4294967296)+hl / 4294967296)+mid / 4294967296)=hh+lh / 4294967296+hl / 4294967296+mid / 4294967296:=by
  simp only[IntKind.wrap_u64];omega
 simp only[w6,w7,w8]
 rw[show (2:Int) ^ 32=4294967296 from rfl]
 have hN:(hh+lh / 4294967296+hl / 4294967296+mid / 4294967296)*18446744073709551616+(mid % 4294967296*4294967296+ll % 4294967296)=x*y:=by omega
 have hok:Ari.okD z (mid % 4294967296*4294967296+ll % 4294967296) (hh+lh / 4294967296+hl / 4294967296+mid / 4294967296)=true:=Ari.Yo.2 ⟨dp,d1.2,by omega,by omega,by omega,by omega⟩
 have hov:Ari.KI (hh+lh / 4294967296+hl / 4294967296+mid / 4294967296) (mid % 4294967296*4294967296+ll % 4294967296) z=decide (x*y / z≥18446744073709551616):=by
  unfold Ari.KI;rw[hN];congr 1
 have pa:Ari.bZ (hh+lh / 4294967296+hl / 4294967296+mid / 4294967296) (mid % 4294967296*4294967296+ll % 4294967296) z=(x*y / z) % 18446744073709551616:=by
  unfold Ari.bZ;rw[hN]
 have q0:0≤x*y / z:=Int.ediv_nonneg (Int.mul_nonneg a1.1 b1.1) (Int.le_of_lt dp)
 simp only[GT.eval,ha,hb,hd,hok,hov,pa,cond_true]
 have hbl:(!((!(decide (a<0)==decide (b<0)))==decide (d<0)))=Ari.below a b d:=rfl
 rw[hbl]
 generalize Ari.below a b d=bl
 generalize x*y / z=q at*
 by_cases h1:q≥18446744073709551616
 ·rw[decide_eq_true h1,decide_eq_true (show q>9223372036854775808 by omega)];rfl
 rw[decide_eq_false h1,show q % 18446744073709551616=q by omega]
 have v1:IntKind.wrap .i64 (IntKind.wrap .u64 (0 - q))=IntKind.wrap .i64 (-q):=by rw[IntKind.wrap_u64,IntKind.wrap_i64,IntKind.wrap_i64];omega
 rw[v1]
 by_cases h2:q>9223372036854775808
 ·rw[decide_eq_true h2];rfl
 rw[decide_eq_false h2]
 have v2:IntKind.wrap .i64 (-q)= -q:=by rw[IntKind.wrap_i64];omega
 rw[v2]
 cases h3:q==9223372036854775808
 ·have := beq_eq_false_iff_ne.1 h3
  have v3:IntKind.wrap .i64 q=q:=by rw[IntKind.wrap_i64];omega
  rw[v3]
  cases bl<;>rfl
 ·cases bl<;>rfl
def spec:Spec:=fun aa=>match aa with
 |[.v (.int .i64 a),.v (.int .i64 b),.v (.int .i64 d)]=>some (.qI (inR a&&(inR b&&(inR d&& !(d==0)))) (.out (.tuple #[.int .i64 (Ari.quot a b d).1,.bool (Ari.quot a b d).2])))
 |_=>none
theorem qf:qu Tryz.prog La 226 spec:=⟨qE (by kernel_rfl),fun aa t v h e=>by
 unfold spec at h
 split at h
 ·rename_i a b d
  cases h
  obtain⟨g1,g2⟩:=GT.qh e
  cases g2
  simp only[Bool.and_eq_true,Bool.not_eq_true',beq_eq_false_iff_ne]at g1
  obtain⟨g1,g2,g3,g4⟩:=g1
  exact⟨rfl,qR (n0:=4) (k:=12) qx qg qd (by simpa using A243.qf) (by simpa using A226L0.qG) (by decide) (by simp) rfl ((run _ _ _).trans (qL _ _ _ g1 g2 g3 g4))⟩
 ·cases h⟩
end A226
namespace WZ
def T (k0 n0:Int) (s0:ByteArray) (k1 n1:Int) (s1:ByteArray):GT Value:=let x1:=Ari.quot n0 n1 1;let x2:=Ari.quot n0 n1 10000;let o1:GT Value:=(.out (.tuple #[.agg #[.int .i64 0,.int .i64 0,.string ⟨#[]⟩],.int .i64 20]));let o2:GT Value:=(.br ((inR n0)&&((inR n1)&&true)) (.br (!x1.2) o1 (.out (.tuple #[.agg #[.int .i64 3,.int .i64 x1.1,.string ⟨#[]⟩],.int .i64 0]))) .no);let o3:GT Value:=(.br (k0==3) (.br (k1==3) (.br ((inR n0)&&((inR n1)&&true)) (.br (!x2.2) o1 (.out (.tuple #[.agg #[.int .i64 3,.int .i64 x2.1,.string ⟨#[]⟩],.int .i64 0]))) .no) o2) o2);let o4:GT Value:=(.br ((inR n0)&&((inR n1)&&true)) (.br (!x1.2) o1 (.out (.tuple #[.agg #[.int .i64 2,.int .i64 x1.1,.string ⟨#[]⟩],.int .i64 0]))) .no);(.br ((Ref.zq k0 k1 n1 false).2) (.out (.tuple #[.agg #[.int .i64 0,.int .i64 0,.string ⟨#[]⟩],.int .i64 (Ref.zq k0 k1 n1 false).1])) (.br (k0==3) o3 (.br (k1==3) o3 (.br (k0==3) (.br (k1==3) (.br ((inR n0)&&((inR n1)&&true)) (.br (!x2.2) o1 (.out (.tuple #[.agg #[.int .i64 2,.int .i64 x2.1,.string ⟨#[]⟩],.int .i64 0]))) .no) o4) o4))))
theorem run (k0 n0:Int) (s0:ByteArray) (k1 n1:Int) (s1:ByteArray):runK 4 [(149,A149.spec),(226,A226.spec)] [] 200 [.v (.agg #[.int .i64 k0,.int .i64 n0,.string s0]),.v (.agg #[.int .i64 k1,.int .i64 n1,.string s1])]=(T k0 n0 s0 k1 n1 s1).eval:=by kernel_rfl
theorem qL (a b:W3) (ha:inR a.2.1=true) (hb:inR b.2.1=true):(T a.1 a.2.1 a.2.2 b.1 b.2.1 b.2.2).eval=some (ve (Ari.Kk a b)):=by
 obtain⟨k,n,s⟩:=a
 obtain⟨k',n',s'⟩:=b
 dsimp only[]at ha hb ⊢
 unfold T Ari.Kk
 simp only[GT.eval,ha,hb]
 generalize Ari.quot n n' 10000=q at*
 generalize Ari.quot n n' 1=q' at*
 obtain⟨q1,q2⟩:=q
 obtain⟨q3,q4⟩:=q'
 unfold Ari.ofV
 cases (Ref.zq k k' n' false).2<;>cases k==3<;>cases k'==3<;>cases q2<;>cases q4<;>rfl
def spec:Spec:=fun aa=>match aa with
 |[a,b]=>(vOf a).bind fun x=>(vOf b).bind fun y=>some (.qI (inR x.2.1&&inR y.2.1) (.out (ve (Ari.Kk x y))))
 |_=>none
theorem qf:qu Tryz.prog La 200 spec:=⟨qE (by kernel_rfl),fun aa t v h e=>by
 unfold spec at h
 split at h
 ·rename_i a b
  obtain⟨x,h1,h⟩:=qi h
  obtain⟨y,h2,h⟩:=qi h
  cases h
  obtain⟨g1,g2⟩:=GT.qh e
  cases g2
  rw[Bool.and_eq_true]at g1
  rw[qN h1,qN h2]
  exact⟨rfl,qR (n0:=4) (k:=12) qx qg qd (by simpa using⟨A149.qf,A226.qf⟩) (by simp) (by decide) (by simp) rfl ((run _ _ _ _ _ _).trans (qL x y g1.1 g1.2))⟩
 ·cases h⟩
end WZ
namespace A201
def T (k0 n0:Int) (s0:ByteArray) (k1 n1:Int) (s1:ByteArray):GT Value:=let x1:=Ari.quot (Ref.zp k0 n0).1 10000 (Ref.zp k1 n1).1;let o1:GT Value:=(.out (.tuple #[.agg #[.int .i64 0,.int .i64 0,.string ⟨#[]⟩],.int .i64 20]));let o2:GT Value:=(.br ((Ref.zp k0 n0).2) (.br (!(Ref.zp k1 n1).2) o1 (.br ((inR (Ref.zp k0 n0).1)&&(true&&((inR (Ref.zp k1 n1).1)&&(!((Ref.zp k1 n1).1==0))))) (.br (!x1.2) o1 (.out (.tuple #[.agg #[.int .i64 3,.int .i64 x1.1,.string ⟨#[]⟩],.int .i64 0]))) .no)) o1);(.br ((Ref.zq k0 k1 n1 true).2) (.out (.tuple #[.agg #[.int .i64 0,.int .i64 0,.string ⟨#[]⟩],.int .i64 (Ref.zq k0 k1 n1 true).1])) (.br (k0==2) (.br (k1==2) (.br ((inR n0)&&(true&&((inR n1)&&(!(n1==0))))) (.br (!(Ari.quot n0 1 n1).2) o1 (.out (.tuple #[.agg #[.int .i64 2,.int .i64 (Ari.quot n0 1 n1).1,.string ⟨#[]⟩],.int .i64 0]))) .no) o2) o2))
theorem run (k0 n0:Int) (s0:ByteArray) (k1 n1:Int) (s1:ByteArray):runK 4 [(149,A149.spec),(150,ZU.spec),(226,A226.spec)] [] 201 [.v (.agg #[.int .i64 k0,.int .i64 n0,.string s0]),.v (.agg #[.int .i64 k1,.int .i64 n1,.string s1])]=(T k0 n0 s0 k1 n1 s1).eval:=by kernel_rfl
theorem qL (a b:W3) (ha:inR a.2.1=true) (hb:inR b.2.1=true):(T a.1 a.2.1 a.2.2 b.1 b.2.1 b.2.2).eval=some (ve (Ari.Kl a b)):=by
 obtain⟨k,n,s⟩:=a
 obtain⟨k',n',s'⟩:=b
 dsimp only[]at ha hb ⊢
 unfold T Ari.Kl
 simp only[GT.eval,ha,hb]
 cases hf:(Ref.zq k k' n' true).2
 rotate_left
 ·rfl
 have hn:=Ari.KA hf
 have hd:=Ari.Va (k:=k') hn
 have i1:=Ari.Wo (k:=k) ha
 have i2:=Ari.Wo (k:=k') hb
 have hn0:(n'==0)=false:=beq_eq_false_iff_ne.2 hn
 have hd0:(Ref.zp k' n').2=true→((Ref.zp k' n').1==0)=false:=fun h=>beq_eq_false_iff_ne.2 (hd h)
 simp only[hn0,cond_false,Bool.not_false,Bool.and_self,cond_true,Bool.true_and]
 generalize Ref.zp k n=p at*
 generalize Ref.zp k' n'=q at*
 obtain⟨x,ox⟩:=p
 obtain⟨y,oy⟩:=q
 dsimp only[]at hd0 i1 i2 ⊢
 generalize Ari.quot x 10000 y=u at*
 generalize Ari.quot n 1 n'=v at*
 obtain⟨u1,u2⟩:=u
 obtain⟨v1,v2⟩:=v
 unfold Ari.ofV
 cases ox<;>cases oy<;>(try simp only[i1 rfl])<;>(try simp only[i2 rfl,hd0 rfl])<;>(cases k==2<;>cases k'==2<;>cases u2<;>cases v2<;>rfl)
def spec:Spec:=fun aa=>match aa with
 |[a,b]=>(vOf a).bind fun x=>(vOf b).bind fun y=>some (.qI (inR x.2.1&&inR y.2.1) (.out (ve (Ari.Kl x y))))
 |_=>none
theorem qf:qu Tryz.prog La 201 spec:=⟨qE (by kernel_rfl),fun aa t v h e=>by
 unfold spec at h
 split at h
 ·rename_i a b
  obtain⟨x,h1,h⟩:=qi h
  obtain⟨y,h2,h⟩:=qi h
  cases h
  obtain⟨g1,g2⟩:=GT.qh e
  cases g2
  rw[Bool.and_eq_true]at g1
  rw[qN h1,qN h2]
  exact⟨rfl,qR (n0:=4) (k:=12) qx qg qd (by simpa using⟨A149.qf,ZU.qf,A226.qf⟩) (by simp) (by decide) (by simp) rfl ((run _ _ _ _ _ _).trans (qL x y g1.1 g1.2))⟩
 ·cases h⟩
end A201
namespace A168
def T (s0:ByteArray) (k1 n1:Int) (s1:ByteArray) (k2 n2:Int) (s2:ByteArray):GT Value:=let x1:=Ari.j6 Ari.Vm (k1,(n1,s1)) (k2,(n2,s2));let x2:=Ari.j6 Ari.Vr (k1,(n1,s1)) (k2,(n2,s2));let x3:=Ari.Kk (k1,(n1,s1)) (k2,(n2,s2));let x4:=Ari.ZR (k1,(n1,s1)) (k2,(n2,s2));let x5:=Ari.Kl (k1,(n1,s1)) (k2,(n2,s2));(.br (eqU s0.data.toList [43]) (.br ((inR n1)&&(inR n2)) (.out (.tuple #[.agg #[.int .i64 x2.1.1,.int .i64 x2.1.2.1,.string x2.1.2.2],.int .i64 x2.2])) .no) (.br (eqU s0.data.toList [45]) (.br ((inR n1)&&(inR n2)) (.out (.tuple #[.agg #[.int .i64 x1.1.1,.int .i64 x1.1.2.1,.string x1.1.2.2],.int .i64 x1.2])) .no) (.br (eqU s0.data.toList [42]) (.br ((inR n1)&&(inR n2)) (.out (.tuple #[.agg #[.int .i64 x3.1.1,.int .i64 x3.1.2.1,.string x3.1.2.2],.int .i64 x3.2])) .no) (.br (eqU s0.data.toList [47]) (.br ((inR n1)&&(inR n2)) (.out (.tuple #[.agg #[.int .i64 x5.1.1,.int .i64 x5.1.2.1,.string x5.1.2.2],.int .i64 x5.2])) .no) (.br ((inR n1)&&(inR n2)) (.out (.tuple #[.agg #[.int .i64 x4.1.1,.int .i64 x4.1.2.1,.string x4.1.2.2],.int .i64 x4.2])) .no)))))
theorem run (s0:ByteArray) (k1 n1:Int) (s1:ByteArray) (k2 n2:Int) (s2:ByteArray):runK 4 [(198,sp2 fun x y=>ve (Ari.j6 Ari.Vr x y)),(199,sp2 fun x y=>ve (Ari.j6 Ari.Vm x y)),(200,WZ.spec),(201,A201.spec),(202,sp2 fun x y=>ve (Ari.ZR x y))] [] 168 [.v (.string s0),.v (.agg #[.int .i64 k1,.int .i64 n1,.string s1]),.v (.agg #[.int .i64 k2,.int .i64 n2,.string s2])]=(T s0 k1 n1 s1 k2 n2 s2).eval:=by kernel_rfl
theorem qL (t:ByteArray) (a b:W3) (ha:inR a.2.1=true) (hb:inR b.2.1=true):(T t a.1 a.2.1 a.2.2 b.1 b.2.1 b.2.2).eval=some (ve (Ari.xY t a b)):=by
 unfold T Ari.xY
 simp only[GT.eval,ha,hb]
 cases eqU t.data.toList [43]<;>cases eqU t.data.toList [45]<;>cases eqU t.data.toList [42]<;>cases eqU t.data.toList [47]<;>rfl
theorem qf:qu Tryz.prog La 168 (yD fun t x y=>ve (Ari.xY t x y)):=⟨qE (by kernel_rfl),fun aa t v h e=>by
 unfold yD at h
 split at h
 ·rename_i s a b
  obtain⟨x,h1,h⟩:=qi h
  obtain⟨y,h2,h⟩:=qi h
  cases h
  obtain⟨g1,g2⟩:=GT.qh e
  cases g2
  rw[Bool.and_eq_true]at g1
  rw[qN h1,qN h2]
  exact⟨rfl,qR (n0:=4) (k:=12) qx qg qd (by simpa using⟨mV,nD,WZ.qf,A201.qf,lN⟩) (by simp) (by decide) (by simp) rfl ((run _ _ _ _ _ _ _).trans (qL s x y g1.1 g1.2))⟩
 ·cases h⟩
end A168
namespace A112
def T (k0 n0:Int) (s0:ByteArray):GT Value:=let o1:GT Value:=(.out (.agg #[.int .i64 1,.int .i64 0,.string ⟨#[]⟩]));let o2:GT Value:=(.br (k0 != 1) o1 (.br (n0 != 0) o1 (.out (.agg #[.int .i64 1,.int .i64 1,.string ⟨#[]⟩]))));(.br (k0 != 1) (.out (.agg #[.int .i64 0,.int .i64 0,.string ⟨#[]⟩])) (.br (n0 != 0) o2 o2))
theorem run (k0 n0:Int) (s0:ByteArray):runK 4 [] [] 112 [.v (.agg #[.int .i64 k0,.int .i64 n0,.string s0])]=(T k0 n0 s0).eval:=by kernel_rfl
theorem qL (a:W3):(T a.1 a.2.1 a.2.2).eval=some (vv (Ref.wi a)):=by
 unfold T Ref.wi Ref.lgc
 simp only[GT.eval]
 cases a.1 != 1<;>cases a.2.1 != 0<;>rfl
def spec:Spec:=fun aa=>match aa with
 |[a]=>(vOf a).bind fun x=>some (.out (vv (Ref.wi x)))
 |_=>none
theorem qf:qu Tryz.prog La 112 spec:=⟨qE (by kernel_rfl),fun aa t v h e=>by
 unfold spec at h
 split at h
 ·rename_i a
  obtain⟨x,h1,h⟩:=qi h
  cases h;cases e
  rw[qN h1]
  exact⟨rfl,qR (l:=[]) (L:=[]) (n0:=4) (k:=12) qx qg qd (by simp) (by simp) (by decide) (by simp) rfl ((run _ _ _).trans (qL x))⟩
 ·cases h⟩
end A112
namespace A169
def T (k0 n0:Int) (s0:ByteArray) (k1 n1:Int) (s1:ByteArray):GT Value:=let o1:GT Value:=(.out (.agg #[.int .i64 0,.int .i64 0,.string ⟨#[]⟩]));let o2:GT Value:=(.out (.agg #[.int .i64 1,.int .i64 0,.string ⟨#[]⟩]));(.br (k0 != 1) (.br (k1 != 1) o1 (.br (n1 != 0) o1 o2)) (.br (n0 != 0) (.br (k1 != 1) o1 (.br (n1 != 0) (.out (.agg #[.int .i64 1,.int .i64 1,.string ⟨#[]⟩])) o2)) (.br (k1 != 1) o2 (.br (n1 != 0) o2 o2))))
theorem run (k0 n0:Int) (s0:ByteArray) (k1 n1:Int) (s1:ByteArray):runK 4 [] [] 169 [.v (.agg #[.int .i64 k0,.int .i64 n0,.string s0]),.v (.agg #[.int .i64 k1,.int .i64 n1,.string s1])]=(T k0 n0 s0 k1 n1 s1).eval:=by kernel_rfl
theorem qL (a b:W3):(T a.1 a.2.1 a.2.2 b.1 b.2.1 b.2.2).eval=some (vv (Ref.Zv a b)):=by
 unfold T Ref.Zv Ref.lgc
 simp only[GT.eval]
 cases a.1 != 1<;>cases a.2.1 != 0<;>cases b.1 != 1<;>cases b.2.1 != 0<;>rfl
def spec:Spec:=fun aa=>match aa with
 |[a,b]=>(vOf a).bind fun x=>(vOf b).bind fun y=>some (.out (vv (Ref.Zv x y)))
 |_=>none
theorem qf:qu Tryz.prog La 169 spec:=⟨qE (by kernel_rfl),fun aa t v h e=>by
 unfold spec at h
 split at h
 ·rename_i a b
  obtain⟨x,h1,h⟩:=qi h
  obtain⟨y,h2,h⟩:=qi h
  cases h;cases e
  rw[qN h1,qN h2]
  exact⟨rfl,qR (l:=[]) (L:=[]) (n0:=4) (k:=12) qx qg qd (by simp) (by simp) (by decide) (by simp) rfl ((run _ _ _ _ _ _).trans (qL x y))⟩
 ·cases h⟩
end A169
namespace A170
def T (k0 n0:Int) (s0:ByteArray) (k1 n1:Int) (s1:ByteArray):GT Value:=let o1:GT Value:=(.out (.agg #[.int .i64 0,.int .i64 0,.string ⟨#[]⟩]));let o2:GT Value:=(.out (.agg #[.int .i64 1,.int .i64 1,.string ⟨#[]⟩]));(.br (k0 != 1) (.br (k1 != 1) o1 (.br (n1 != 0) o2 o1)) (.br (n0 != 0) (.br (k1 != 1) o2 (.br (n1 != 0) o2 o2)) (.br (k1 != 1) o1 (.br (n1 != 0) o2 (.out (.agg #[.int .i64 1,.int .i64 0,.string ⟨#[]⟩]))))))
theorem run (k0 n0:Int) (s0:ByteArray) (k1 n1:Int) (s1:ByteArray):runK 4 [] [] 170 [.v (.agg #[.int .i64 k0,.int .i64 n0,.string s0]),.v (.agg #[.int .i64 k1,.int .i64 n1,.string s1])]=(T k0 n0 s0 k1 n1 s1).eval:=by kernel_rfl
theorem qL (a b:W3):(T a.1 a.2.1 a.2.2 b.1 b.2.1 b.2.2).eval=some (vv (Ref.orV a b)):=by
 unfold T Ref.orV Ref.lgc
 simp only[GT.eval]
 cases a.1 != 1<;>cases a.2.1 != 0<;>cases b.1 != 1<;>cases b.2.1 != 0<;>rfl
def spec:Spec:=fun aa=>match aa with
 |[a,b]=>(vOf a).bind fun x=>(vOf b).bind fun y=>some (.out (vv (Ref.orV x y)))
 |_=>none
theorem qf:qu Tryz.prog La 170 spec:=⟨qE (by kernel_rfl),fun aa t v h e=>by
 unfold spec at h
 split at h
 ·rename_i a b
  obtain⟨x,h1,h⟩:=qi h
  obtain⟨y,h2,h⟩:=qi h
  cases h;cases e
  rw[qN h1,qN h2]
  exact⟨rfl,qR (l:=[]) (L:=[]) (n0:=4) (k:=12) qx qg qd (by simp) (by simp) (by decide) (by simp) rfl ((run _ _ _ _ _ _).trans (qL x y))⟩
 ·cases h⟩
end A170
end
end Go.Proofs.YtaiokpmmjbiajaaGreatDoorDx
