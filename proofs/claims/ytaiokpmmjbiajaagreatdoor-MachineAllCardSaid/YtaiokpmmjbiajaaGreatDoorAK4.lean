/- A part of the proof of this claim. No condition beyond those that each theorem names. -/
import Derived.Test.YtaiokpmmjbiajaaGreatDoorAK3
import Derived.Test.YtaiokpmmjbiajaaGreatDoorAK2
import Derived.Test.YtaiokpmmjbiajaaGreatDoorAK0
import Derived.Test.YtaiokpmmjbiajaaGreatDoorProg
import Derived.KernelRfl
set_option maxRecDepth 1000000
set_option linter.unusedVariables false
set_option linter.unusedSimpArgs false
namespace Go.Proofs.YtaiokpmmjbiajaaGreatDoorDx
section
open Go Go.Proofs
namespace A17L0
abbrev sp:List (FuncId×Spec):=[(15,K1),(113,A113.spec),(112,A112.spec),(114,yC fun t x y=>ve (Ari.wC t x y)),(11,A11m.spec),(97,sp1 fun x=>ve (A75.kn x.1 x.2.1)),(39,A39.spec)]
theorem zZ: ∀p∈sp,qu Tryz.prog La p.1 p.2:=by simpa[sp]using⟨pd,A113.qg,A112.qg,A114.qg,A11m.qg,pL,A39.qg⟩
def qP (e:Int):KX:=⟨[(6,.pointer (some ⟨5,0,none⟩)),(7,.int .i64 e)],[[.int .i64 0,.int .i64 0,.string ⟨#[]⟩]]⟩
def stS (n nr na:Nat) (i:Nat) (st:List W3) (qC:List Value):KX:=A17L0R.stA n nr na st.length i (qm st++qC)
theorem xx (n nr na i:Nat) (l:List W3) (v:W3):A17L0R.stA n nr na (l.length+1) i (qm l++[.int .i64 v.1,.int .i64 v.2.1,.string v.2.2])=stS n nr na i (l++[v]) []:=by
 unfold stS
 rw[A0,←Zw,AO];rfl
open A16L0 (dn vu)
def res (n nr na:Nat) (qC:List Value):(List W3×Nat) ⊕ Int→Ex×KX
 | .inl p=>(.normal,stS n nr na p.2 p.1 qC)
 | .inr e=>(.ret,qP e)
theorem jf (l:List W3):(qm l).all wz=true:=Ap.2 fun x hx=>by
 have:=Ap.1 (qO l) x hx
 cases x<;>first|rfl|cases this
set_option maxHeartbeats 0 in
theorem fV (ops:List O6) (row aggs:List W3) (hl:ops.length≤4096) {i:Nat} (hi:i<ops.length) {st:List W3} {qC:List Value} (hj:qC.all qp=true) (hf:AMac.QK row aggs ops[i] i ops.length st):
  zN A17L0R.cfg sp [] 17 0 (stK 47 5 [(0,zK ops),(1,qm row),(2,qm aggs)] (stS ops.length row.length aggs.length i st qC)) (zv 5 100 47 A17L0R.kp A17L0R.cr)=
  some (res ops.length row.length aggs.length (AMac.qC ops[i].1 st qC) (AMac.step row aggs ops[i] i st)):=by
 unfold stS
 rw[A17L0R.round]
 dsimp only[]
 have h1:decide ((i:Int)<(ops.length:Int))=true:=Al (by omega)
 have h2:=geI i
 have h3:Nat.blt i ops.length=true:=by rw[AB];exact hi
 have h4:(0+i*6)=i*6:=by omega
 have h5:=wrI i (by omega)
 have i1: ∀n:Nat,Int.ofNat n=(n:Int):=fun _=>rfl
 have hsc:(qm st++qC).all qp=true:=by rw[BP,qO,hj];rfl
 have YD:=hf.small
 have big: ∀p:Nat,p≤1024→Nat.ble (p+1) 200000000000000=true∧Nat.ble ((p+1)*32) 200000000000000=true∧Nat.ble p 200000000000000=true∧Nat.ble (p*32) 200000000000000=true:=fun p hp=>⟨by rw[Az];omega,by rw[Az];omega,by rw[Az];omega,by rw[Az];omega⟩
 have len: ∀p:Nat,p≤st.length→Nat.ble (p*3) (qm st++qC).length=true:=fun p hp=>by rw[Az,AO,zh];omega
 have Qa: ∀p:Nat,p≤st.length→(st.take p).length=p:=fun p hp=>by rw[BQ];omega
 have bK: ∀p:Nat,p≤st.length→Nat.ble (p*3) (qm (st.take p)).length=true:=fun p hp=>by rw[Az,zh,Qa p hp];exact Aw _
 have tk2: ∀p:Nat,p≤st.length→((qm (st.take p)).drop 0).take (p*3)=qm (st.take p):=fun p hp=>by rw[AD,AJ (by rw[zh,Qa p hp];exact Aw _)]
 have sc3: ∀(l:List W3) (a b:Int) (c:ByteArray),(qm l++[Value.int .i64 a,.int .i64 b,.string c]).all qp=true:=fun l a b c=>by rw[BP,qO];rfl
 have fin: ∀(p:Nat) (hp:p≤st.length) (j:Nat) (v:W3),A17L0R.stA ops.length row.length aggs.length (p+1) j (qm (st.take p)++[.int .i64 v.1,.int .i64 v.2.1,.string v.2.2])=stS ops.length row.length aggs.length j (st.take p++[v]) []:=fun p hp j v=>by
  have:=xx ops.length row.length aggs.length j (st.take p) v
  rw[Qa p hp]at this;exact this
 have lR: ∀(p:Nat) (hp:p≤st.length) (j:Nat) (v:W3),(bif Nat.beq p 0 then some (Ex.normal,A17L0R.stA ops.length row.length aggs.length 1 j [.int .i64 v.1,.int .i64 v.2.1,.string v.2.2])else some (Ex.normal,A17L0R.stA ops.length row.length aggs.length (p+1) j (qm (st.take p)++[.int .i64 v.1,.int .i64 v.2.1,.string v.2.2])))=some (Ex.normal,stS ops.length row.length aggs.length j (st.take p++[v]) []):=fun p hp j v=>by
  rw[←fin p hp j v]
  cases hb:Nat.beq p 0
  ·rfl
  ·obtain rfl := Am hb
   rfl
 obtain⟨kY,hneed,_,hist,eX,eI,X4⟩:=hf
 simp only[h1,h2,h3,h4,h5,xV ops hi,XU ops hi,YC ops hi,bV ops hi,YR ops hi,aJ ops hi,bp ops hi,Av,Ai,AF,AE,hsc,i1]
 generalize ops[i]=o at*
 obtain⟨k,n,t,vk,vn,vs⟩:=o
 dsimp only[]at kY hneed X4 ⊢
 have w0:IntKind.wrap .i64 ((st.length:Int) - 0)=(st.length:Int):=by rw[kc (by omega) (by omega)];omega
 have om:st.take st.length=st:=Bo
 have t0:=vD st qC (Aw _)
 have b0:=big st.length YD
 have l0:=len st.length (Aw _)
 have l1:=bK st.length (Aw _)
 have k1:=tk2 st.length (Aw _)
 have mS:Nat.ble st.length st.length=true:=by rw[Az];exact Aw _
 have top1:1≤st.length→Nat.blt (st.length - 1) st.length=true∧Nat.ble (st.length - 1) st.length=true:=fun h=>⟨by rw[AB];omega,by rw[Az];omega⟩
 have w1:1≤st.length→IntKind.wrap .i64 ((st.length:Int) - 1)=((st.length - 1:Nat):Int):=fun h=>by rw[kc (by omega) (by omega)];omega
 have giv: ∀v:W3,(bif !A33.okv v.1 v.2.1 v.2.2 then(bif Nat.beq st.length 0 then some (Ex.ret,qP 22)else some (Ex.ret,qP 22))else(bif Nat.beq st.length 0 then some (Ex.normal,A17L0R.stA ops.length row.length aggs.length 1 ((i+1:Nat):Int) [.int .i64 v.1,.int .i64 v.2.1,.string v.2.2])else some (Ex.normal,A17L0R.stA ops.length row.length aggs.length (st.length+1) ((i+1:Nat):Int) (qm (st.take st.length)++[.int .i64 v.1,.int .i64 v.2.1,.string v.2.2]))))=some (res ops.length row.length aggs.length [] (AMac.given v st i)):=fun v=>by
  rw[lR st.length (Aw _) (i+1) v,om]
  unfold AMac.given Ref.chk
  cases A33.okv v.1 v.2.1 v.2.2
  ·cases Nat.beq st.length 0<;>rfl
  ·rfl
 have pt: ∀(p:W3×Int) (q:Nat),q≤st.length→(bif Nat.beq q 0 then(bif p.2 != 0 then some (Ex.ret,qP p.2)else some (Ex.normal,A17L0R.stA ops.length row.length aggs.length 1 ((i+1:Nat):Int) [.int .i64 p.1.1,.int .i64 p.1.2.1,.string p.1.2.2]))else(bif p.2 != 0 then some (Ex.ret,qP p.2)else some (Ex.normal,A17L0R.stA ops.length row.length aggs.length (q+1) ((i+1:Nat):Int) (qm (st.take q)++[.int .i64 p.1.1,.int .i64 p.1.2.1,.string p.1.2.2]))))=some (res ops.length row.length aggs.length [] (AMac.put p (st.take q) i)):=fun p q hq=>by
  have f:=lR q hq (i+1) p.1
  unfold AMac.put
  cases p.2 != 0
  ·exact f
  ·cases Nat.beq q 0<;>rfl
 unfold AMac.step AMac.qC
 dsimp only[]
 cases q1:k==1
 rotate_left
 ·simp only [Ai, w0, dn, mS, Av, Bq, t0, b0.1, b0.2.1, b0.2.2.1, b0.2.2.2, l0, l1, k1, jf, AQ, sc3, AI, AF]
  exact giv (vk,vn,vs)
 cases q2:k==2
 rotate_left
 ·obtain rfl := Ay.1 q2
  have hm:0≤n∧n<row.length:=by
   have:(decide (n≥0)&&decide (n<(row.length:Int)))=true:=kY
   simp only[Ag,As]at this
   omega
  obtain⟨N,rfl⟩:=AG hm.1
  have hN:N<row.length:=by omega
  have a1:Nat.blt N row.length=true:=by rw[AB];exact hN
  have a2:=kC row [] hN
  have a3:=ku row [] hN
  have a4:=kB row [] hN
  have a5:=kN row [] hN
  rw[A0]at a2 a3 a4 a5
  simp only[dn,Av,a1,AQ,a2,a3,a4,a5,Ai,Ah,w0,mS,Bq,t0,b0.1,b0.2.1,b0.2.2.1,b0.2.2.2,l0,l1,k1,jf,sc3,AI,AF]
  exact giv (row.getD N v0)
 cases q9:k==9
 rotate_left
 ·obtain rfl := Ay.1 q9
  have hm:0≤n∧n<aggs.length:=by
   have:(decide (n≥0)&&decide (n<(aggs.length:Int)))=true:=kY
   simp only[Ag,As]at this
   omega
  obtain⟨N,rfl⟩:=AG hm.1
  have hN:N<aggs.length:=by omega
  have a1:Nat.blt N aggs.length=true:=by rw[AB];exact hN
  have a2:=kC aggs [] hN
  have a3:=ku aggs [] hN
  have a4:=kB aggs [] hN
  have a5:=kN aggs [] hN
  rw[A0]at a2 a3 a4 a5
  simp only[dn,Av,a1,AQ,a2,a3,a4,a5,Ai,Ah,w0,mS,Bq,t0,b0.1,b0.2.1,b0.2.2.1,b0.2.2.2,l0,l1,k1,jf,sc3,AI,AF]
  exact giv (aggs.getD N v0)
 cases q3:k==3
 rotate_left
 ·obtain rfl := Ay.1 q3
  have hm:1≤st.length:=by have:(1:Int)≤st.length:=hneed;omega
  have hp:st.length - 1<st.length:=by omega
  have hq:=AV hp
  have t1:=vD st qC hq
  have b1:=big (st.length - 1) (by omega)
  have g2:inR (st.getD (st.length - 1) v0).2.1=true:=AMac.xj hist _
  simp only[w1 hm,dn,Av,(top1 hm).1,(top1 hm).2,AQ,Bq,kC st qC hp,ku st qC hp,kB st qC hp,kN st qC hp,g2,Ai,Ah,AF,AI,t1,b1.1,b1.2.1,b1.2.2.1,b1.2.2.2,len _ hq,bK _ hq,tk2 _ hq,jf,sc3]
  cases eqU t.data.toList [45]
  ·exact lR (st.length - 1) hq (i+1) (Ref.ja (st.getD (st.length - 1) v0))
  ·cases (A79.xk (st.getD (st.length - 1) v0).1 (st.getD (st.length - 1) v0).2.1).2==0<;>exact pt (A79.xk (st.getD (st.length - 1) v0).1 (st.getD (st.length - 1) v0).2.1) (st.length - 1) hq
 cases q4:k==4
 rotate_left
 ·obtain rfl := Ay.1 q4
  have hm:2≤st.length:=by have:(2:Int)≤st.length:=hneed;omega
  have hp:st.length - 1<st.length:=by omega
  have hp2:st.length - 2<st.length:=by omega
  have hq:=AV hp2
  have t1:=vD st qC hq
  have b1:=big (st.length - 2) (by omega)
  have w2:IntKind.wrap .i64 ((st.length:Int) - 2)=((st.length - 2:Nat):Int):=by rw[kc (by omega) (by omega)];omega
  have a1:Nat.blt (st.length - 2) st.length=true:=by rw[AB];omega
  have a2:Nat.ble (st.length - 2) st.length=true:=by rw[Az];omega
  have g1:inR (st.getD (st.length - 2) v0).2.1=true:=AMac.xj hist _
  have g2:inR (st.getD (st.length - 1) v0).2.1=true:=AMac.xj hist _
  simp only[w1 (by omega),w2,dn,Av,(top1 (by omega)).1,(top1 (by omega)).2,a1,a2,AQ,Bq,kC st qC hp,ku st qC hp,kB st qC hp,kN st qC hp,kC st qC hp2,ku st qC hp2,kB st qC hp2,kN st qC hp2,g1,g2,Ai,Ah,AF,AI,t1,b1.1,b1.2.1,b1.2.2.1,b1.2.2.2,len _ hq,bK _ hq,tk2 _ hq,jf,sc3]
  cases (Ari.wC t (st.getD (st.length - 2) v0) (st.getD (st.length - 1) v0)).2==0<;>exact pt (Ari.wC t (st.getD (st.length - 2) v0) (st.getD (st.length - 1) v0)) (st.length - 2) hq
 cases q5:k==5
 rotate_left
 ·obtain rfl := Ay.1 q5
  have hm:1≤st.length:=by have:(1:Int)≤st.length:=hneed;omega
  have hp:st.length - 1<st.length:=by omega
  have hq:=AV hp
  have t1:=vD st qC hq
  have b1:=big (st.length - 1) (by omega)
  have a1:isV (qm st++qC) ((st.length - 1)*3+0) (.i .i64)=true:=by unfold isV;rw[jX st qC hp 0 (by omega)];rfl
  have a2:rdI (qm st++qC) ((st.length - 1)*3+0)=(st.getD (st.length - 1) v0).1:=ku st qC hp
  simp only[a1,a2,w1 hm,dn,Av,(top1 hm).1,(top1 hm).2,AQ,Bq,kC st qC hp,ku st qC hp,kB st qC hp,kN st qC hp,Ai,Ah,AF,AI,t1,b1.1,b1.2.1,b1.2.2.1,b1.2.2.2,len _ hq,bK _ hq,tk2 _ hq,jf,sc3]
  have:=lR (st.length - 1) hq (i+1)
  cases ((st.getD (st.length - 1) v0).1==0)==(n==0)
  ·exact this (1,0,⟨#[]⟩)
  ·exact this (1,1,⟨#[]⟩)
 cases q6:k==6
 rotate_left
 ·obtain rfl := Ay.1 q6
  obtain⟨m1,m2⟩:=AHei.Z2 kY rfl
  obtain⟨N,rfl⟩:=AG m1
  have hm:N≤st.length:=by have:(N:Int)≤st.length:=hneed;omega
  have hp:st.length - N≤st.length:=by omega
  have w3:IntKind.wrap .i64 ((st.length:Int) - (N:Int))=((st.length - N:Nat):Int):=by rw[kc (by omega) (by omega)];omega
  have t1:=vD st qC hp
  have t2:=XT st qC hp
  have b1:=big (st.length - N) (by omega)
  have a1:Nat.ble (st.length - N) st.length=true:=by rw[Az];omega
  have a2:Nat.ble ((st.length - N)*3+(st.length - (st.length - N))*3) (qm st++qC).length=true:=by rw[Az,AO,zh];omega
  have hlen:(st.drop (st.length - N)).length=st.length - (st.length - N):=B5
  have a3:=vu (st.drop (st.length - N)) (by rw[hlen];omega)
  rw[hlen]at a3
  have a4:((st.drop (st.length - N)).all fun v=>inR v.snd.fst)=true:=Ap.2 fun v hv=>hist v (Cy hv)
  have a3':kV (st.length - (st.length - N)) ((st.length - (st.length - N):Nat):Int) (qm (st.drop (st.length - N)))=true:=a3
  simp only[w3,dn,Av,AQ,Bq,t1,t2,a1,a2,a3',a4,zn,qO,Ai,Ah,AF,AE,AI,b1.1,b1.2.1,b1.2.2.1,b1.2.2.2,len _ hp,bK _ hp,tk2 _ hp,jf,sc3]
  have p6:=pt (Fit.zW t (st.drop (st.length - N))) (st.length - N) hp
  cases e0:(Fit.zW t (st.drop (st.length - N))).2==0
  ·exact p6
  ·cases n0 : (N : Int) == 0
   ·exact p6
   ·have hz : N = 0 := by have := Ay.1 n0; omega
    rw[hz,Bq,B6,AMac.Ku]at e0
    cases e0
 cases q10:k==10
 rotate_left
 ·obtain rfl := Ay.1 q10
  have hm:1≤st.length:=by have:(1:Int)≤st.length:=hneed;omega
  have hp:st.length - 1<st.length:=by omega
  have hq:=AV hp
  have t1:=vD st qC hq
  have b1:=big (st.length - 1) (by omega)
  have g2:inR (st.getD (st.length - 1) v0).2.1=true:=AMac.xj hist _
  simp only[w1 hm,dn,Av,(top1 hm).1,(top1 hm).2,AQ,Bq,kC st qC hp,ku st qC hp,kB st qC hp,kN st qC hp,g2,Ai,Ah,AF,AI,t1,b1.1,b1.2.1,b1.2.2.1,b1.2.2.2,len _ hq,bK _ hq,tk2 _ hq,jf,sc3]
  cases (A75.kn (st.getD (st.length - 1) v0).1 (st.getD (st.length - 1) v0).2.1).2==0<;>exact pt (A75.kn (st.getD (st.length - 1) v0).1 (st.getD (st.length - 1) v0).2.1) (st.length - 1) hq
 cases q8:k==8
 ·have h7:k=7:=by
   by_cases h7:k=7
   ·exact h7
   ·have e7 : (k == 7 || k == 8) = false := by rw [q8, Ao.2 h7]; rfl
    unfold Ref.wb at kY
    rw[q1,q2,q9,q3,q4,q5,q6,q10,e7]at kY
    cases kY
  subst h7
  obtain⟨m1,m2⟩:=AHei.xz kY (.inl rfl)
  obtain⟨N,rfl⟩:=AG (show 0≤n by omega)
  rfl
 ·obtain rfl := Ay.1 q8
  obtain⟨m1,m2⟩:=AHei.xz kY (.inr rfl)
  obtain⟨N,rfl⟩:=AG (show 0≤n by omega)
  have hm:1≤st.length:=by have:(1:Int)≤st.length:=hneed;omega
  have hp:st.length - 1<st.length:=by omega
  have eg:qm st++qC=qm (st.take (st.length - 1))++(vC (st.getD (st.length - 1) v0)++qC):=by
   rw[←List.append_assoc]
   congr 1
   have:st=st.take (st.length - 1)++[st.getD (st.length - 1) v0]:=by
    rw[AN,Au hp]
    show st=st.take (st.length - 1)++[st[st.length - 1]]
    rw[List.take_append_getElem hp,Nat.sub_add_cancel hm,Bo]
   conv=>lhs;rw[this]
   rw[yA];rfl
  simp only[show ((8:Int)==7)=false from rfl,w1 hm,dn,Av,(top1 hm).1,(top1 hm).2,AQ,Bq,kC st qC hp,ku st qC hp,kB st qC hp,Ai,Ah,AF,AI]
  have hst: ∀j:Nat,A17L0R.stA ops.length row.length aggs.length (st.length - 1) j (qm st++qC)=stS ops.length row.length aggs.length j (st.take (st.length - 1)) (vC (st.getD (st.length - 1) v0)++qC):=fun j=>by
   unfold stS;rw[Qa _ (AV hp),eg]
  cases A35.tru (st.getD (st.length - 1) v0).1 (st.getD (st.length - 1) v0).2.1
  ·exact Bg (fun z=>some (Ex.normal,z)) (hst N)
  ·exact Bg (fun z=>some (Ex.normal,z)) (hst (i+1))
end A17L0
namespace A17L0
open A16L0 (dn)
def jq (nr na:Nat) (row:List Value):KX:=⟨[(6,.pointer (some ⟨5,0,none⟩)),(8,.slice (some ⟨6,0,none⟩) 1 3)],[[.int .i64 0,.int .i64 0,.string ⟨#[]⟩],row]⟩
theorem eJ (ops:List O6) (row aggs:List W3) {v:W3} {qC:List Value} (hj:qC.all qp=true):
  zN A17L0R.cfg sp [] 17 0 (stK 47 5 [(0,zK ops),(1,qm row),(2,qm aggs)] (stS ops.length row.length aggs.length ops.length [v] qC)) (zv 5 100 47 A17L0R.kp A17L0R.cr)=
  some (.exit 0,jq row.length aggs.length (qm [v]++qC)):=by
 unfold stS
 rw[A17L0R.round]
 dsimp only[]
 have h1:decide ((ops.length:Int)<Int.ofNat ops.length)=false:=An (by show¬(ops.length:Int)<(ops.length:Int);omega)
 have hsc:(qm [v]++qC).all qp=true:=by rw[BP,qO,hj];rfl
 simp only[h1,hsc,Ah,AE,AF,Ai]
 rfl
def ZD (n nr na:Nat) (k:Int):(List W3×Nat) ⊕ Int→Ex×KX
 | .inl p=>(.normal,bif k==7 then A17L0N.stA n nr na p.2 else stS n nr na p.2 p.1 [])
 | .inr e=>(.ret,qP e)
set_option maxHeartbeats 0 in
theorem dM (ops:List O6) (row aggs:List W3) (hl:ops.length≤4096) {i:Nat} (hi:i<ops.length) (hf:AMac.QK row aggs ops[i] i ops.length []):
  zN A17L0N.cfg sp [] 17 0 (stK 47 5 [(0,zK ops),(1,qm row),(2,qm aggs)] (A17L0N.stA ops.length row.length aggs.length i)) (zv 5 100 47 A17L0N.kp A17L0N.cr)=
  some (ZD ops.length row.length aggs.length ops[i].1 (AMac.step row aggs ops[i] i [])):=by
 rw[A17L0N.round]
 dsimp only[]
 have h1:decide ((i:Int)<(ops.length:Int))=true:=Al (by omega)
 have h2:=geI i
 have h3:Nat.blt i ops.length=true:=by rw[AB];exact hi
 have h4:(0+i*6)=i*6:=by omega
 have h5:=wrI i (by omega)
 have i1: ∀n:Nat,Int.ofNat n=(n:Int):=fun _=>rfl
 obtain⟨kY,hneed,_,hist,eX,eI,X4⟩:=hf
 simp only[h1,h2,h3,h4,h5,xV ops hi,XU ops hi,YC ops hi,bV ops hi,YR ops hi,aJ ops hi,bp ops hi,Av,Ai,AF,AE,i1]
 generalize ops[i]=o at*
 obtain⟨k,n,t,vk,vn,vs⟩:=o
 dsimp only[]at kY hneed X4 ⊢
 have giv: ∀(k:Int) (v:W3),(k==7)=false→(bif !A33.okv v.1 v.2.1 v.2.2 then some (Ex.ret,qP 22)else some (.normal,A17L0R.stA ops.length row.length aggs.length 1 ((i+1:Nat):Int) [.int .i64 v.1,.int .i64 v.2.1,.string v.2.2]))=some (ZD ops.length row.length aggs.length k (AMac.given v [] i)):=fun k v hk=>by
  unfold AMac.given Ref.chk
  cases A33.okv v.1 v.2.1 v.2.2
  ·rfl
  ·show _ = some (Ex.normal, bif k == 7 then _ else _)
   rw[hk]
   exact Bg (fun z=>some (Ex.normal,z)) (xx ops.length row.length aggs.length (i+1) [] v)
 unfold AMac.step
 dsimp only[]
 cases q1:k==1
 rotate_left
 ·obtain rfl := Ay.1 q1
  simp only[Ai]
  exact giv 1 (vk,vn,vs) rfl
 cases q2:k==2
 rotate_left
 ·obtain rfl := Ay.1 q2
  have hm:0≤n∧n<row.length:=by
   have:(decide (n≥0)&&decide (n<(row.length:Int)))=true:=kY
   simp only[Ag,As]at this
   omega
  obtain⟨N,rfl⟩:=AG hm.1
  have hN:N<row.length:=by omega
  have a1:Nat.blt N row.length=true:=by rw[AB];exact hN
  have a2:=kC row [] hN
  have a3:=ku row [] hN
  have a4:=kB row [] hN
  have a5:=kN row [] hN
  rw[A0]at a2 a3 a4 a5
  simp only[dn,Av,a1,AQ,a2,a3,a4,a5,Ai,Ah]
  exact giv 2 (row.getD N v0) rfl
 cases q9:k==9
 rotate_left
 ·obtain rfl := Ay.1 q9
  have hm:0≤n∧n<aggs.length:=by
   have:(decide (n≥0)&&decide (n<(aggs.length:Int)))=true:=kY
   simp only[Ag,As]at this
   omega
  obtain⟨N,rfl⟩:=AG hm.1
  have hN:N<aggs.length:=by omega
  have a1:Nat.blt N aggs.length=true:=by rw[AB];exact hN
  have a2:=kC aggs [] hN
  have a3:=ku aggs [] hN
  have a4:=kB aggs [] hN
  have a5:=kN aggs [] hN
  rw[A0]at a2 a3 a4 a5
  simp only[dn,Av,a1,AQ,a2,a3,a4,a5,Ai,Ah]
  exact giv 9 (aggs.getD N v0) rfl
 cases q3:k==3
 rotate_left
 ·obtain rfl := Ay.1 q3
  have:(1:Int)≤0:=hneed
  omega
 cases q4:k==4
 rotate_left
 ·obtain rfl := Ay.1 q4
  have:(2:Int)≤0:=hneed
  omega
 cases q5:k==5
 rotate_left
 ·obtain rfl := Ay.1 q5
  have:(1:Int)≤0:=hneed
  omega
 cases q6:k==6
 rotate_left
 ·obtain rfl := Ay.1 q6
  obtain⟨m1,m2⟩:=AHei.Z2 kY rfl
  have:n≤0:=hneed
  obtain rfl:n=0:=by omega
  have e:AMac.put (Fit.zW t (([]:List W3).drop (([]:List W3).length - (0:Int).toNat))) (([]:List W3).take (([]:List W3).length - (0:Int).toNat)) i= .inr 100:=by
   rw[List.drop_nil,AMac.Ku];rfl
  simp only[Ai,Ah,e]
  rfl
 cases q10:k==10
 rotate_left
 ·obtain rfl := Ay.1 q10
  have:(1:Int)≤0:=hneed
  omega
 cases q8:k==8
 rotate_left
 ·obtain rfl := Ay.1 q8
  have:(1:Int)≤0:=hneed
  omega
 have hk:k=7:=by
  by_cases h7:k=7
  ·exact h7
  ·have e7 : (k == 7 || k == 8) = false := by rw [q8, Ao.2 h7]; rfl
   unfold Ref.wb at kY
   rw[q1,q2,q9,q3,q4,q5,q6,q10,e7]at kY
   cases kY
 subst hk
 obtain⟨m1,m2⟩:=AHei.xz kY (.inl rfl)
 obtain⟨N,rfl⟩:=AG (show 0≤n by omega)
 rfl
section
variable {Step:KX→Ex→KX→Prop} {ops:List O6} {row aggs:List W3} {T:List Int}
theorem Yc (hT: ∀j (hj:j<ops.length),AHei.Ok ops.length row.length aggs.length T j ops[j]) (hT1:T.getD ops.length 0=1) (hr: ∀v∈row,Ari.I v) (ha: ∀v∈aggs,Ari.I v) (ho: ∀o∈ops,Ari.I o.2.2.2)
  (hn: ∀i (hi:i<ops.length) st qC,qC.all qp=true→AMac.QK row aggs ops[i] i ops.length st→Step (stS ops.length row.length aggs.length i st qC) (res ops.length row.length aggs.length (AMac.qC ops[i].1 st qC) (AMac.step row aggs ops[i] i st)).1 (res ops.length row.length aggs.length (AMac.qC ops[i].1 st qC) (AMac.step row aggs ops[i] i st)).2)
  (he: ∀v qC,qC.all qp=true→Step (stS ops.length row.length aggs.length ops.length [v] qC) (.exit 0) (jq row.length aggs.length (qm [v]++qC))):
  ∀(f i:Nat) (st:List W3) (qC:List Value),ops.length≤i+f→qC.all qp=true→AMac.At row aggs ops T i st→match AMac.w9 row aggs ops f i st qC with
   | .inl p=>zI Step (stS ops.length row.length aggs.length i st qC) (.exit 0) (jq row.length aggs.length (qm p.1++p.2))∧p.1.length=1
   | .inr e=>zI Step (stS ops.length row.length aggs.length i st qC) .ret (qP e):=by
 have fin: ∀(i:Nat) (st:List W3) (qC:List Value),i=ops.length→qC.all qp=true→AMac.At row aggs ops T i st→zI Step (stS ops.length row.length aggs.length i st qC) (.exit 0) (jq row.length aggs.length (qm st++qC))∧st.length=1:=fun i st qC h hj hat=>by
  subst h
  have:=hat.len
  rw[hT1]at this
  match st,this with
  |[v],_=>exact⟨.stop (by simp) (he v qC hj),rfl⟩
  |[],h=>cases h
  |_::_::l,h=>rw[AK,AK]at h;omega
 intro f
 induction f with
 |zero=>
  intro i st qC h hj hat
  have:=hat.le
  exact fin i st qC (by omega) hj hat
 |succ f ih=>
  intro i st qC h hj hat
  unfold AMac.w9
  by_cases hi:i<ops.length
  ·rw [Au hi]
   dsimp only[]
   have hf:=hat.j4 hi hT hr ha ho
   have hs:=hn i hi st qC hj hf
   cases e:AMac.step row aggs ops[i] i st with
   |inr x=>rw[e]at hs;exact .stop (by simp[res]) hs
   |inl p=>
    rw[e]at hs
    obtain⟨a,b⟩:=hat.next hi hT hf e
    have:=ih p.2 p.1 (AMac.qC ops[i].1 st qC) (by omega) (AMac.V7 hj) b
    dsimp only[]
    cases e2:AMac.w9 row aggs ops f p.2 p.1 (AMac.qC ops[i].1 st qC)with
    |inl q=>rw[e2]at this;exact⟨.next hs this.1,this.2⟩
    |inr x=>rw[e2]at this;exact .next hs this
  ·have := hat.le
   rw[List.getElem?_eq_none (by omega)]
   exact fin i st qC (by omega) hj hat
theorem WB (hT: ∀j (hj:j<ops.length),AHei.Ok ops.length row.length aggs.length T j ops[j]) (hT1:T.getD ops.length 0=1) (hr: ∀v∈row,Ari.I v) (ha: ∀v∈aggs,Ari.I v) (ho: ∀o∈ops,Ari.I o.2.2.2)
  (hn: ∀i (hi:i<ops.length) st qC,qC.all qp=true→AMac.QK row aggs ops[i] i ops.length st→Step (stS ops.length row.length aggs.length i st qC) (res ops.length row.length aggs.length (AMac.qC ops[i].1 st qC) (AMac.step row aggs ops[i] i st)).1 (res ops.length row.length aggs.length (AMac.qC ops[i].1 st qC) (AMac.step row aggs ops[i] i st)).2)
  (he: ∀v qC,qC.all qp=true→Step (stS ops.length row.length aggs.length ops.length [v] qC) (.exit 0) (jq row.length aggs.length (qm [v]++qC)))
  (h0: ∀i (hi:i<ops.length),AMac.QK row aggs ops[i] i ops.length []→Step (A17L0N.stA ops.length row.length aggs.length i) (ZD ops.length row.length aggs.length ops[i].1 (AMac.step row aggs ops[i] i [])).1 (ZD ops.length row.length aggs.length ops[i].1 (AMac.step row aggs ops[i] i [])).2):
  ∀(f i:Nat),ops.length≤i+f→AMac.At row aggs ops T i []→match AMac.w9 row aggs ops f i [] []with
   | .inl p=>zI Step (A17L0N.stA ops.length row.length aggs.length i) (.exit 0) (jq row.length aggs.length (qm p.1++p.2))∧p.1.length=1
   | .inr e=>zI Step (A17L0N.stA ops.length row.length aggs.length i) .ret (qP e):=by
 have no: ∀i,i=ops.length→AMac.At row aggs ops T i []→False:=fun i h hat=>by
  subst h
  have:=hat.len
  rw[hT1]at this
  cases this
 intro f
 induction f with
 |zero=>
  intro i h hat
  have:=hat.le
  exact(no i (by omega) hat).elim
 |succ f ih=>
  intro i h hat
  unfold AMac.w9
  by_cases hi:i<ops.length
  ·rw [Au hi]
   dsimp only[]
   have hf:=hat.j4 hi hT hr ha ho
   have hs:=h0 i hi hf
   cases e:AMac.step row aggs ops[i] i []with
   |inr x=>rw[e]at hs;exact .stop (by simp[ZD]) hs
   |inl p=>
    rw[e]at hs
    obtain⟨a,b⟩:=hat.next hi hT hf e
    obtain⟨i',hi'⟩: ∃x,p.2=x:=⟨_,rfl⟩
    obtain⟨st',hst⟩: ∃x,p.1=x:=⟨_,rfl⟩
    obtain⟨p1,p2⟩:=p
    subst hi' hst
    dsimp only[]at a b hs ⊢
    unfold ZD at hs
    dsimp only[]at hs
    cases h7:ops[i].1==7
    ·rw [h7] at hs
     have hj:AMac.qC ops[i].1 [] []=[]:=by
      have hm:=hf.may
      have hnd:=hf.qI
      generalize ops[i]=o at*
      obtain⟨k,n,t,v⟩:=o
      dsimp only[]at hm hnd h7 ⊢
      unfold AMac.qC
      cases h8:k==8
      ·simp only[Ah,Bool.cond_self]
      ·obtain rfl := Ay.1 h8
       have:(1:Int)≤0:=hnd
       omega
     rw[hj]
     have:=Yc hT hT1 hr ha ho hn he f p2 p1 [] (by omega) rfl b
     cases e2:AMac.w9 row aggs ops f p2 p1 []with
     |inl q=>rw[e2]at this;exact⟨.next hs this.1,this.2⟩
     |inr x=>rw[e2]at this;exact .next hs this
    ·rw [h7] at hs
     have h7':=Ay.1 h7
     have hp1:p1=[]:=by
      obtain⟨l,_⟩:=AMac.KK hf e
      rw[h7']at l
      have:(p1.length:Int)=0+0:=l
      exact List.eq_nil_of_length_eq_zero (by omega)
     subst hp1
     have hj:AMac.qC ops[i].1 [] []=[]:=by rw[h7'];rfl
     rw[hj]
     have:=ih p2 (by omega) b
     cases e2:AMac.w9 row aggs ops f p2 [] []with
     |inl q=>rw[e2]at this;exact⟨.next hs this.1,this.2⟩
     |inr x=>rw[e2]at this;exact .next hs this
  ·have := hat.le
   exact(no i (by omega) hat).elim
end
def D:KD:=⟨47,5,100,[0,1,2,6,7,8,9],[0,1,2],fun s=>match s.T.get 6 with
 |some (.pointer (some r))=>[(r.block,true)]
 |_=>[],fun x ro=>match x.vs,x.cars,ro with
 |[(0,.slice (some ⟨0,0,none⟩) n 6),(1,.slice (some ⟨1,0,none⟩) nr 3),(2,.slice (some ⟨2,0,none⟩) na 3),(6,.pointer (some ⟨5,0,none⟩)),(7,.int .i64 0),(8,.slice none 0 0),(9,.int .i64 0)],[[.int .i64 0,.int .i64 0,.string ⟨⟨[]⟩⟩]],[(0,cs),(1,rs),(2,as_)]=>
  .qI (AMac.gd n nr na cs rs as_) (.br (AMac.ZT cs rs as_) (.out (.ret,qP (AMac.err cs rs as_))) (.out (.exit 0,jq nr na (AMac.ZY cs rs as_))))
 |_,_,_=> .no⟩
def lp:LpK:=⟨17,5,0,D⟩
theorem qE:zq Tryz.prog La 4 lp:=by
 refine⟨by kernel_rfl,fun c base I hP hn hG hI hIL x ro ex y e=> ?_⟩
 obtain⟨vs,cars⟩:=x
 simp only[lp,D]at e ⊢
 split at e
 ·rename_i n nr na cs rs as_
  obtain⟨g1,g2⟩:=GT.qh e
  obtain⟨ops,row,aggs,rfl,rfl,rfl,rfl,rfl,rfl,ho,hr,ha,hc⟩:=A16L0.mo g1
  obtain⟨hl,T,T0,T1,hT⟩:=AHei.QB hc
  have key:=WB (Step:= @zy (zL base) c base I (qV Tryz.prog 17 0) 47 5 100 [(0,zK ops),(1,qm row),(2,qm aggs)]) hT T1 hr ha ho
   (fun i hi st qC hj hf=>stepT qf qd zZ (by simp) hP hn hG hI hIL (fV ops row aggs hl hi hj hf))
   (fun v qC hj=>stepT qf qd zZ (by simp) hP hn hG hI hIL (eJ ops row aggs hj))
   (fun i hi hf=>stepT qf qd zZ (by simp) hP hn hG hI hIL (dM ops row aggs hl hi hf)) ops.length 0 (by omega) ⟨by omega,by rw[T0];rfl,fun v hv=>absurd hv (AZ)⟩
  unfold AMac.ZT AMac.err AMac.ZY at g2
  rw[zo,zn,zn]at g2
  cases hrun:AMac.w9 row aggs ops ops.length 0 [] []with
  |inl p=>rw[hrun]at key g2;cases g2;exact key.1
  |inr x=>rw[hrun]at key g2;cases g2;exact key
 ·cases e
end A17L0
namespace A17
def T (m0:Nat) (c0:List Value) (m1:Nat) (c1:List Value) (m2:Nat) (c2:List Value):GT Value:=let x1:=AMac.ZY c0 c1 c2;let y1:=(c0.drop 0).take (m0*6);(.br ((Nat.ble (0+(m0*6)) c0.length&&y1.all qp)&&(true&&(true&&true))) (.br (wP m0 (Int.ofNat m0) y1) (.br ((AHei.kK (Int.ofNat m1) (Int.ofNat m2) (opsOf y1)) != 0) (.out (.tuple #[.agg #[.int .i64 0,.int .i64 0,.string ⟨#[]⟩],.int .i64 120])) (.br (true&&(c0.all qp&&(c1.all qp&&(c2.all qp&&true)))) (.br (AMac.gd m0 m1 m2 c0 c1 c2) (.br (AMac.ZT c0 c1 c2) (.out (.tuple #[.agg #[.int .i64 0,.int .i64 0,.string ⟨#[]⟩],.int .i64 (AMac.err c0 c1 c2)])) (.br (isL x1 0 [(.i .i64),(.i .i64),.s]) (.out (.tuple #[.agg #[.int .i64 (rdI x1 0),.int .i64 (rdI x1 1),.string (rdS x1 2)],.int .i64 0])) .no)) .no) .no)) .no) .no)
theorem run (m0:Nat) (c0:List Value) (m1:Nat) (c1:List Value) (m2:Nat) (c2:List Value):runK 4 [(21,A21.spec)] [A17L0.lp] 17 [.sl m0 6 c0,.sl m1 3 c1,.sl m2 3 c2]=(T m0 c0 m1 c1 m2 c2).eval:=by kernel_rfl
theorem qN (ops:List O6) (row aggs:List W3) (hl:ops.length<2199023255552) (hrl:row.length<6000000000000) (hal:aggs.length<6000000000000) (ho: ∀o∈ops,Ari.I o.2.2.2) (hr: ∀v∈row,Ari.I v) (ha: ∀v∈aggs,Ari.I v):
  (T ops.length (zK ops) row.length (qm row) aggs.length (qm aggs)).eval=some (ve (AMac.wB row aggs ops)):=by
 have e1:Nat.ble (0+ops.length*6) (zK ops).length=true:=by rw[Az,je];omega
 have e2:wP ops.length (Int.ofNat ops.length) (zK ops)=true:=jj ops hl
 have e3: ∀n:Nat,n<6000000000000→inR (Int.ofNat n)=true:=fun n h=>Ari.vR.2 (by show -9223372036854775808≤(n:Int)∧(n:Int)<_;omega)
 unfold T
 simp only[A21.Q9,e1,e2,vo,qO,zo,GT.eval,AI,AE,AF,Ai]
 cases hc:AHei.kK (Int.ofNat row.length) (Int.ofNat aggs.length) ops != 0
 rotate_left
 ·have hc' : (AHei.kK (row.length : Int) (aggs.length : Int) ops != 0) = true := hc
  unfold AMac.wB
  rw[hc'];rfl
 have hc0:AHei.kK (row.length:Int) (aggs.length:Int) ops=0:=by
  have:(AHei.kK (row.length:Int) (aggs.length:Int) ops != 0)=false:=hc
  simpa[bne]using this
 have hh:(AHei.kh row.length aggs.length ops).2=true:=by
  unfold AHei.kK at hc0
  cases e:(AHei.kh row.length aggs.length ops).2
  ·rw[e]at hc0;cases hc0
  ·rfl
 have hgd:AMac.gd ops.length row.length aggs.length (zK ops) (qm row) (qm aggs)=true:=by
  unfold AMac.gd
  rw[zo,zn,zn]
  simp only[Ag,Ap]
  exact⟨e2,A16L0.vu row hrl,A16L0.vu aggs hal,ho,hr,ha,by rw[hc0];rfl⟩
 rw[A16.eu hc0]
 simp only[hgd,Ai,Ah]
 unfold AMac.ZT AMac.err AMac.ZY
 rw[zo,zn,zn]
 cases hrun:AMac.w9 row aggs ops ops.length 0 [] []with
 |inr x=>rfl
 |inl p=>
  obtain⟨v,hv⟩:=A16.Xc hh ho hr ha hrun
  dsimp only[]
  rw[hv]
  rfl
def spec:Spec:=fun aa=>match aa with
 |[.sl n 6 cs,.sl nr 3 rs,.sl na 3 as_]=>some (.qI (AMac.gd0 n nr na cs rs as_) (.out (ve (AMac.wB (qj rs) (qj as_) (opsOf cs)))))
 |_=>none
theorem qg:qu Tryz.prog La 17 spec:=⟨qD (by kernel_rfl),fun aa t v h e=>by
 unfold spec at h
 split at h
 ·rename_i n cs nr rs na as_
  cases h
  obtain⟨g1,g2⟩:=GT.qh e
  cases g2
  obtain⟨ops,row,aggs,rfl,rfl,rfl,rfl,rfl,rfl,ho,hr,ha,h1,h2,h3⟩:=A16.Yi g1
  rw[zo,zn,zn]
  exact⟨rfl,qS (n0:=4) (k:=12) qx qf qd (by simpa using A21.qg) (by simpa using A17L0.qE) (by decide) (by simp) rfl ((run _ _ _ _ _ _).trans (qN ops row aggs h1 h2 h3 ho hr ha))⟩
 ·cases h⟩
end A17
namespace A23L0N
noncomputable def cfg:Cfg:=zw Tryz.prog 4 (gpT [(17,tol [6,3,3] A17.spec)]) (ltT 4 [])
def stA (n nr:Nat) (i:Int) (cs:List Value):KX:=⟨[(0,.func (.yield 1) ⟨[.int .i64 (Int.ofNat n)]⟩ ⟨cs⟩),(1,.slice (some ⟨1,0,none⟩) nr 3),(2,.slice none 0 0),(8,.slice none 0 0),(9,.int .i64 i)],[]⟩
def kp:Ex→List Nat
 | .normal=>[0,1,2,8,9]
 | .exit _=>[8]
 | .ret=>[6,7]
def cr:Ex→St→List (Nat×Bool):=fun e s=>match e with
 | .ret=>[]
 |_=>match s.T.get 8 with
  |some (.slice (some p) _ _)=>[(p.block,true)]
  |_=>[]
theorem round (n nr:Nat) (i:Int) (cs:List Value) (rs:List Value):zN cfg [(17,tol [6,3,3] A17.spec)] [] 23 0 (stK 36 104 [(1,rs)] (stA n nr i cs)) (zv 104 100 36 kp cr)=(let y1:=cs.drop (i.toNat*1);let y2:=(rs.drop 0).take (nr*3);let x1:=AMac.wB (qj y2) (qj []) (opsOf (rdC y1 0));(bif decide (i<(Int.ofNat n))then(bif decide (0≤i)then(bif Nat.blt i.toNat n then(bif isV y1 0 .t then(bif(true&&((Nat.ble (0+(nr*3)) rs.length&&y2.all qp)&&(true&&true)))then(bif((Nat.beq (rdZ y1 0) 6&&(rdC y1 0).all qp)&&true)then(bif(AMac.gd0 (rdN y1 0) nr 0 (rdC y1 0) y2 [])then(bif(x1.2 != 0)then(some (.ret,⟨[(6,.slice none 0 0),(7,.int .i64 x1.2)],[]⟩))else(some (.normal,⟨[(0,.func (.yield 1) ⟨[.int .i64 (Int.ofNat n)]⟩ ⟨cs⟩),(1,.slice (some ⟨1,0,none⟩) nr 3),(2,.slice none 0 0),(8,.slice (some ⟨104,0,none⟩) 1 3),(9,.int .i64 (IntKind.wrap .i64 (i+1)))],[[.int .i64 x1.1.1,.int .i64 x1.1.2.1,.string x1.1.2.2]]⟩)))else none)else none)else none)else none)else none)else none)else(some (.exit 0,⟨[(8,.slice none 0 0)],[]⟩)))):=by kernel_rfl
end A23L0N
namespace A23L0R
noncomputable def cfg:Cfg:=zw Tryz.prog 4 (gpT [(17,tol [6,3,3] A17.spec)]) (ltT 4 [])
def stA (n nr k:Nat) (i:Int) (cs row:List Value):KX:=⟨[(0,.func (.yield 1) ⟨[.int .i64 (Int.ofNat n)]⟩ ⟨cs⟩),(1,.slice (some ⟨1,0,none⟩) nr 3),(2,.slice none 0 0),(8,.slice (some ⟨104,0,none⟩) k 3),(9,.int .i64 i)],[row]⟩
def kp:Ex→List Nat
 | .normal=>[0,1,2,8,9]
 | .exit _=>[8]
 | .ret=>[6,7]
def cr:Ex→St→List (Nat×Bool):=fun e s=>match e with
 | .ret=>[]
 |_=>match s.T.get 8 with
  |some (.slice (some p) _ _)=>[(p.block,true)]
  |_=>[]
theorem round (n nr k:Nat) (i:Int) (cs row:List Value) (rs:List Value):zN cfg [(17,tol [6,3,3] A17.spec)] [] 23 0 (stK 36 104 [(1,rs)] (stA n nr k i cs row)) (zv 104 100 36 kp cr)=(let y1:=cs.drop (i.toNat*1);let y3:=(rs.drop 0).take (nr*3);let x1:=AMac.wB (qj y3) (qj []) (opsOf (rdC y1 0));let y2:=((row.drop 0).take (k*3))++[Value.int .i64 x1.1.1,.int .i64 x1.1.2.1,.string x1.1.2.2];(bif decide (i<(Int.ofNat n))then(bif decide (0≤i)then(bif Nat.blt i.toNat n then(bif isV y1 0 .t then(bif(true&&((Nat.ble (0+(nr*3)) rs.length&&y3.all qp)&&(true&&true)))then(bif((Nat.beq (rdZ y1 0) 6&&(rdC y1 0).all qp)&&true)then(bif(AMac.gd0 (rdN y1 0) nr 0 (rdC y1 0) y3 [])then(bif(x1.2 != 0)then(some (.ret,⟨[(6,.slice none 0 0),(7,.int .i64 x1.2)],[]⟩))else(bif Nat.ble (k+1) 200000000000000 then(bif Nat.ble ((k+1)*32) 200000000000000 then(bif Nat.ble (0+(k*3)) row.length then(bif(y2.all qp&&true)then(some (.normal,⟨[(0,.func (.yield 1) ⟨[.int .i64 (Int.ofNat n)]⟩ ⟨cs⟩),(1,.slice (some ⟨1,0,none⟩) nr 3),(2,.slice none 0 0),(8,.slice (some ⟨104,0,none⟩) (k+1) 3),(9,.int .i64 (IntKind.wrap .i64 (i+1)))],[y2]⟩))else none)else none)else none)else none))else none)else none)else none)else none)else none)else none)else(bif(row.all qp&&true)then(some (.exit 0,⟨[(8,.slice (some ⟨104,0,none⟩) k 3)],[row]⟩))else none))):=by kernel_rfl
end A23L0R
namespace A23L0
def st (row:List W3) (l:List (List O6)) (j:Nat):KX:=bif Nat.beq j 0 then A23L0N.stA l.length row.length (j:Int) (l.map kZ)else A23L0R.stA l.length row.length j (j:Int) (l.map kZ) (qm (AAll.acc row l j))
def qP (e:Int):KX:=⟨[(6,.slice none 0 0),(7,.int .i64 e)],[]⟩
def exN:KX:=⟨[(8,.slice none 0 0)],[]⟩
def exR (n:Nat) (row:List Value):KX:=⟨[(8,.slice (some ⟨104,0,none⟩) n 3)],[row]⟩
abbrev sp:List (FuncId×Spec):=[(17,tol [6,3,3] A17.spec)]
theorem zZ: ∀p∈sp,qu Tryz.prog La p.1 p.2:=by simpa[sp]using A17.qg.tol [6,3,3]
theorem fresh {row:List W3} {l:List (List O6)} (hl:l.length<6000000000000) (hr:row.length<6000000000000) (ho: ∀ops∈l,ops.length<2199023255552∧ ∀o∈ops,inR o.2.2.2.2.1=true) (hi: ∀v∈row,inR v.2.1=true) {j:Nat} (hj:j<l.length):
  zN A23L0N.cfg sp [] 23 0 (stK 36 104 [(1,qm row)] (st row l j)) (zv 104 100 36 A23L0N.kp A23L0N.cr)=some (bif AAll.bad row l[j]then(.ret,qP (AMac.wB row [] l[j]).2)else(.normal,st row l (j+1))):=by
 have h1:=ltI hj
 have h2:=geI j
 have h3:=j7 hj
 have h5:=wrI j (by omega)
 have hm:=Bf hj
 have g1:=AAll.fA (ho _ hm).1 hr (ho _ hm).2 hi
 have v0':qj []=[]:=rfl
 have b6:Nat.beq 6 6=true:=rfl
 cases j with
 |zero=>
  have hr:=A23L0N.round l.length row.length ((0:Nat):Int) (l.map kZ) (qm row)
  dsimp only[]at hr
  simp only[h1,h2,h3,h5,AAll.t1 l hj,AAll.t2 l hj,AAll.t3 l hj,AAll.t4 l hj,AAll.r1,AAll.r2,qO,vo,b6,g1,zo,zn,v0',Ai,AI,AE,AF]at hr
  refine hr.trans ?_
  unfold AAll.bad
  cases (AMac.wB row [] l[0]).2 != 0
  ·have e : st row l (0 + 1) = A23L0R.stA l.length row.length 1 ((0 + 1 : Nat) : Int) (l.map kZ) (qm (AAll.acc row l (0 + 1))) := rfl
   rw[e,AAll.Q7 row l hj];rfl
  ·rfl
 |succ j=>
  have hk:=AAll.an row l (AV hj)
  have hr:=A23L0R.round l.length row.length (j+1) ((j+1:Nat):Int) (l.map kZ) (qm (AAll.acc row l (j+1))) (qm row)
  have q1:((qm (AAll.acc row l (j+1))).drop 0).take ((j+1)*3)=qm (AAll.acc row l (j+1)):=by
   have:=AAll.r2 (AAll.acc row l (j+1))
   rwa [hk]at this
  have q2:Nat.ble (j+1+1) 200000000000000=true:=by rw[Az];omega
  have q3:Nat.ble ((j+1+1)*32) 200000000000000=true:=by rw[Az];omega
  have q4:Nat.ble (0+(j+1)*3) (qm (AAll.acc row l (j+1))).length=true:=by rw[Az,zh,hk];omega
  have sc3: ∀(m:List W3) (a b:Int) (c:ByteArray),(qm m++[Value.int .i64 a,.int .i64 b,.string c]).all qp=true:=fun m a b c=>by rw[BP,qO];rfl
  dsimp only[]at hr
  simp only[h1,h2,h3,h5,AAll.t1 l hj,AAll.t2 l hj,AAll.t3 l hj,AAll.t4 l hj,AAll.r1,AAll.r2,qO,vo,b6,g1,zo,zn,v0',q1,q2,q3,q4,sc3,Ai,AI,AE,AF]at hr
  refine hr.trans ?_
  unfold AAll.bad
  cases (AMac.wB row [] l[j+1]).2 != 0
  ·have e : st row l (j + 1 + 1) = A23L0R.stA l.length row.length (j + 1 + 1) ((j + 1 + 1 : Nat) : Int) (l.map kZ) (qm (AAll.acc row l (j + 1 + 1))) := rfl
   rw[e,AAll.Q7 row l hj,←AAll.snoc];rfl
  ·rfl
theorem last (row:List W3) (l:List (List O6)):zN A23L0N.cfg sp [] 23 0 (stK 36 104 [(1,qm row)] (st row l l.length)) (zv 104 100 36 A23L0N.kp A23L0N.cr)=some (bif Nat.beq l.length 0 then(.exit 0,exN)else(.exit 0,exR l.length (qm (l.map (AAll.val row))))):=by
 have h1:=j6 l.length
 cases hl:l.length with
 |zero=>
  have hr:=A23L0N.round l.length row.length (l.length:Int) (l.map kZ) (qm row)
  dsimp only[]at hr
  simp only[h1,Ah]at hr
  have e:st row l 0=A23L0N.stA l.length row.length (l.length:Int) (l.map kZ):=by rw[hl];unfold st;rw[hl];rfl
  rw[e];exact hr
 |succ j=>
  have hr:=A23L0R.round l.length row.length l.length (l.length:Int) (l.map kZ) (qm (AAll.acc row l l.length)) (qm row)
  dsimp only[]at hr
  simp only[h1,Ah,qO,AE,Ai]at hr
  have e:st row l (j+1)=A23L0R.stA l.length row.length l.length (l.length:Int) (l.map kZ) (qm (AAll.acc row l l.length)):=by rw[hl];unfold st;rw[hl];rfl
  rw[e]
  refine hr.trans ?_
  rw[AAll.aF,hl];rfl
def D:KD:=⟨36,104,100,[0,1,2,8,9],[1],fun _=>[],fun x ro=>match x.vs,x.cars,ro with
 |[(0,.func (.yield 1) ⟨[.int .i64 (.ofNat n)]⟩ ⟨cs⟩),(1,.slice (some ⟨1,0,none⟩) nr 3),(2,.slice none 0 0),(8,.slice none 0 0),(9,.int .i64 0)],[],[(1,rs)]=>
  .qI (Z9 n cs&&(kV nr (Int.ofNat nr) rs&&(qj rs).all (fun v=>inR v.2.1))) (.br (AAll.err (qj rs) (xn cs) != 0) (.out (.ret,qP (AAll.err (qj rs) (xn cs)))) (.br (Nat.beq n 0) (.out (.exit 0,exN)) (.out (.exit 0,exR n (AAll.Ya rs cs)))))
 |_,_,_=> .no⟩
def lp:LpK:=⟨23,3,0,D⟩
theorem qE:zq Tryz.prog La 4 lp:=by
 refine⟨by kernel_rfl,fun c base I hP hn hG hI hIL x ro ex y e=> ?_⟩
 obtain⟨vs,cars⟩:=x
 simp only[lp,D]at e ⊢
 split at e
 ·rename_i n cs nr rs
  obtain⟨g1,g2⟩:=GT.qh e
  simp only[Ag,Ap]at g1
  obtain⟨g1,g3,g4⟩:=g1
  obtain⟨h1,h2,h3,h4⟩:=Jf g1
  obtain⟨_,h5,h6,h7⟩:=zM g3
  unfold AAll.Ya at g2
  generalize xn cs=l at h2 h3 h4 g2
  generalize qj rs=row at h6 h7 g4 g2
  subst h2 h3 h6 h7
  have key:=zA (Step:= @zy (zL base) c base I (qV Tryz.prog 23 0) 36 104 100 [(1,qm row)]) (step:=fun(_:Unit) ops=>bif AAll.bad row ops then .inr ((.ret,qP (AMac.wB row [] ops).2):Ex×KX)else .inl ()) (fin:=fun _=>bif Nat.beq l.length 0 then(.exit 0,exN)else(.exit 0,exR l.length (qm (l.map (AAll.val row))))) (st:=fun _ j=>st row l j) (l:=l)
   (fun s=>by cases Nat.beq l.length 0<;>simp) (fun s a r h=>by cases hb:AAll.bad row a<;>rw[hb]at h<;>cases h;simp)
   (fun _ j hj => by
    have hr:=fresh h1 h5 h4 g4 hj
    cases hb:AAll.bad row l[j]<;>rw[hb]at hr
    ·exact stepT qf qd zZ (by simp) hP hn hG hI hIL hr
    ·exact stepT qf qd zZ (by simp) hP hn hG hI hIL hr)
   (fun _ => by
    have hr:=last row l
    cases hb:Nat.beq l.length 0<;>rw[hb]at hr
    ·exact stepT qf qd zZ (by simp) hP hn hG hI hIL hr
    ·exact stepT qf qd zZ (by simp) hP hn hG hI hIL hr) l.length 0 () (by omega)
  rw[AD,AAll.K2 (fun e=>(.ret,qP e)) (bif Nat.beq l.length 0 then(.exit 0,exN)else(.exit 0,exR l.length (qm (l.map (AAll.val row))))) l]at key
  cases he:AAll.err row l != 0<;>rw[he]at key
  ·cases hb:Nat.beq l.length 0<;>rw[hb]at key<;>(rw[GT.eval,he,Ah,GT.eval,hb]at g2;cases g2;exact key)
  ·rw[GT.eval,he]at g2;cases g2;exact key
 ·cases e
end A23L0
namespace A12a
def T (m1:Nat) (c1:List Value):GT Value:=(.br (0 != (Int.ofNat m1)) (.out (.bool false)) (.out (.bool true)))
theorem run (m1:Nat) (c1:List Value):runK 4 [] [] 12 [.nil,.sl m1 3 c1]=(T m1 c1).eval:=by kernel_rfl
end A12a
namespace A12b
def T:GT Value:=(.out (.bool true))
theorem run:runK 4 [] [] 12 [.nil,.nil]=(T).eval:=by kernel_rfl
end A12b
namespace A12L0
noncomputable def cfg:Cfg:=zw Tryz.prog 4 (gpT []) (ltT 4 [])
def stA (n m:Nat) (i:Int):KX:=⟨[(0,.slice (some ⟨0,0,none⟩) n 3),(1,.slice (some ⟨1,0,none⟩) m 3),(5,.int .i64 i)],[]⟩
def kp:Ex→List Nat
 | .normal=>[0,1,5]
 | .exit _=>[]
 | .ret=>[4]
def cr:Ex→St→List (Nat×Bool):=fun _ _=>[]
theorem round (n m:Nat) (i:Int) (c0:List Value) (c1:List Value):zN cfg [] [] 12 0 (stK 26 4 [(0,c0),(1,c1)] (stA n m i)) (zv 4 100 26 kp cr)=(let x1:=0+(i.toNat*3);(bif decide (i<(Int.ofNat n))then(bif decide (0≤i)then(bif Nat.blt i.toNat n then(bif isL c0 x1 [(.i .i64),(.i .i64),.s]then(bif decide (0≤i)then(bif Nat.blt i.toNat m then(bif isL c1 x1 [(.i .i64),(.i .i64),.s]then(bif(!(((rdI c0 x1)==(rdI c1 x1))&&(((rdI c0 (x1+1))==(rdI c1 (x1+1)))&&(eqU (rdS c0 ((x1+1)+1)).data.toList (rdS c1 ((x1+1)+1)).data.toList&&true))))then(some (.ret,⟨[(4,.bool false)],[]⟩))else(some (.normal,⟨[(0,.slice (some ⟨0,0,none⟩) n 3),(1,.slice (some ⟨1,0,none⟩) m 3),(5,.int .i64 (IntKind.wrap .i64 (i+1)))],[]⟩)))else none)else none)else none)else none)else none)else none)else(some (.exit 0,⟨[],[]⟩)))):=by kernel_rfl
def one (a b:W3):Bool:=(a.1==b.1)&&((a.2.1==b.2.1)&&(eqU a.2.2.data.toList b.2.2.data.toList&&true))
def QR:List W3→List W3→Bool
 |[],[]=>true
 |a::l,b::m=>one a b&&QR l m
 |_,_=>false
theorem QQ: ∀l:List UInt8,eqU l l=true
 |[]=>rfl
 |b::l=>by
  rw[eqU,QQ l,AE]
  exact A5 _
theorem eM (a:W3):one a a=true:=by unfold one;rw[B4,B4,QQ];rfl
theorem VH: ∀l:List W3,QR l l=true
 |[]=>rfl
 |a::l=>by rw[QR,eM,VH l];rfl
theorem WZ: ∀(l m:List W3),QR l m=true→ ∃h:l.length=m.length,∀(j:Nat) (hj:j<l.length),one l[j] (m[j]'(h▸hj))=true
 |[],[],_=>⟨rfl,fun j hj=>absurd hj (Cz _)⟩
 |[],_::_,h=>by cases h
 |_::_,[],h=>by cases h
 |a::l,b::m,h=>by
  rw[QR,Ag]at h
  obtain⟨h1,h2⟩:=WZ l m h.2
  refine⟨by rw[AK,AK,h1],fun j hj=> ?_⟩
  cases j with
  |zero=>exact h.1
  |succ j=>exact h2 j (by simpa using hj)
def D:KD:=⟨26,4,100,[0,1,5],[0,1],fun _=>[],fun x ro=>match x.vs,x.cars,ro with
 |[(0,.slice (some ⟨0,0,none⟩) n 3),(1,.slice (some ⟨1,0,none⟩) m 3),(5,.int .i64 0)],[],[(0,c0),(1,c1)]=>
  .qI (kV n (Int.ofNat n) c0&&(kV m (Int.ofNat m) c1&&QR (qj c0) (qj c1))) (.out (.exit 0,⟨[],[]⟩))
 |_,_,_=> .no⟩
def lp:LpK:=⟨12,4,0,D⟩
theorem qE:zq Tryz.prog La 4 lp:=by
 refine⟨by kernel_rfl,fun c base I hP hn hG hI hIL x ro ex y e=> ?_⟩
 obtain⟨vs,cars⟩:=x
 have hsp: ∀p∈([]:List (FuncId×Spec)),qu Tryz.prog La p.1 p.2:=by simp
 simp only[lp,D]at e ⊢
 split at e
 ·rename_i n m c0 c1
  obtain⟨g1,g2⟩:=GT.qh e
  simp only[Ag]at g1
  obtain⟨_,hn2,h4,h5⟩:=zM g1.1
  obtain⟨_,hm2,h6,h7⟩:=zM g1.2.1
  have hs:=g1.2.2
  generalize qj c0=l at h4 h5 hs
  generalize qj c1=l' at h6 h7 hs
  subst h4 h5 h6 h7
  obtain⟨hll,hat⟩:=WZ l l' hs
  have key:=zA (Step:= @zy (zL base) c base I (qV Tryz.prog 12 0) 26 4 100 [(0,qm l),(1,qm l')]) (step:=fun(_:Unit) (_:W3)=> .inl ()) (fin:=fun _=>(.exit 0,⟨[],[]⟩)) (st:=fun _ j=>stA l.length l'.length j) (l:=l) (fun s=>by simp) (fun s a r h=>by cases h) (fun _ j hj=>by
    have hj':j<l'.length:=hll▸hj
    have h1:=ltI hj
    have h2:=geI j
    have h3:=j7 hj
    have h3':Nat.blt ((j:Int)).toNat l'.length=true:=by rw[AB];simpa using hj'
    have h4:(0+((j:Int)).toNat*3)=j*3:=by simp
    have h5:=wrI j (by omega)
    have s0:rdS (qm l) (j*3+1+1)=l[j].2.2:=kE l hj
    have s1:rdS (qm l') (j*3+1+1)=l'[j].2.2:=kE l' hj'
    have h6:=hat j hj
    unfold one at h6
    have hr:=round l.length l'.length (j:Int) (qm l) (qm l')
    dsimp only[]at hr
    simp only[h1,h2,h3,h3',h4,h5,ke l hj,ke l' hj',zU l hj,zT l hj,zU l' hj',zT l' hj',s0,s1,h6,Ai,Bh,Ah]at hr
    exact stepT qf qd hsp (by simp) hP hn hG hI hIL hr) (fun _=>by
    have h1:=j6 l.length
    have hr:=round l.length l'.length (l.length:Int) (qm l) (qm l')
    dsimp only[]at hr
    simp only[h1,Ah]at hr
    exact stepT qf qd hsp (by simp) hP hn hG hI hIL hr) l.length 0 () (by omega)
  rw[AD]at key
  have hf:wE (fun(_:Unit) (_:W3)=>(.inl ():Unit ⊕ (Ex×KX))) (fun _=>(.exit 0,⟨[],[]⟩)) () l=(.exit 0,⟨[],[]⟩):=by
   clear key
   induction l with
   |nil=>rfl
   |cons a l ih=>exact kJ (f:=fun(_:Unit) (_:W3)=>()) (fin:=fun _=>(.exit 0,⟨[],[]⟩)) (a::l) ()
  rw[hf]at key
  cases g2
  exact key
 ·cases e
end A12L0
namespace A12
def T (m0:Nat) (c0:List Value) (m1:Nat) (c1:List Value):GT Value:=let y1:=Int.ofNat m0;let y2:=Int.ofNat m1;(.br (y1 != y2) (.out (.bool false)) (.br (true&&([((0:Nat),c0),((1:Nat),c1)]).all fun p=>p.snd.all qp) (.br ((decide (y1=y1)&&((vA c0)&&(Nat.beq c0.length (m0*3)&&Nat.blt m0 6000000000000)))&&((decide (y2=y2)&&((vA c1)&&(Nat.beq c1.length (m1*3)&&Nat.blt m1 6000000000000)))&&(A12L0.QR (qj c0) (qj c1)))) (.out (.bool true)) .no) .no))
theorem run (m0:Nat) (c0:List Value) (m1:Nat) (c1:List Value):runK 4 [] [A12L0.lp] 12 [.sl m0 3 c0,.sl m1 3 c1]=(T m0 c0 m1 c1).eval:=by kernel_rfl
def spec:Spec:=fun aa=>match aa with
 |[.sl n 3 c0,.sl m 3 c1]=>some (.qI (kV n (Int.ofNat n) c0&&(kV m (Int.ofNat m) c1&&A12L0.QR (qj c0) (qj c1))) (.out (.bool true)))
 |[.nil,.sl m 3 _]=>some (.qI (Nat.beq m 0) (.out (.bool true)))
 |[.nil,.nil]=>some (.out (.bool true))
 |_=>none
theorem qg:qu Tryz.prog La 12 spec:=⟨qD (by kernel_rfl),fun aa t v h e=>by
 unfold spec at h
 split at h
 ·rename_i n c0 m c1
  cases h
  obtain⟨g1,g2⟩:=GT.qh e
  cases g2
  have g0:=g1
  simp only[Ag]at g1
  obtain⟨_,hn,h4,h5⟩:=zM g1.1
  obtain⟨_,hm,h6,h7⟩:=zM g1.2.1
  have hs:=g1.2.2
  obtain⟨hll,_⟩:=A12L0.WZ _ _ hs
  have hnm:n=m:=by rw[←h5,←h7,hll]
  subst hnm
  have e2:(T n c0 n c1).eval=some (.bool true):=by
   have q1:(Int.ofNat n != Int.ofNat n)=false:=by rw[bne_self_eq_false]
   have s0:c0.all qp=true:=by rw[h4];exact qO _
   have s1:c1.all qp=true:=by rw[h6];exact qO _
   unfold kV at g0
   unfold T
   simp only[decide_true,AF]at g0
   simp only[GT.eval,q1,s0,s1,decide_true,AF,A1,BS,AI,Ai,Ah]
   rw[g0];rfl
  exact⟨rfl,qS qx qf qd (by simp) (by simpa using A12L0.qE) (by decide) (by simp) rfl ((run _ _ _ _).trans e2)⟩
 ·rename_i m c1
  cases h
  obtain⟨g1,g2⟩:=GT.qh e
  cases g2
  obtain rfl:=Am g1
  exact⟨rfl,qS qx qf qd (by simp) (by simp) (by decide) (by simp) rfl (A12a.run 0 c1)⟩
 ·cases h; cases e
  exact⟨rfl,qS qx qf qd (by simp) (by simp) (by decide) (by simp) rfl A12b.run⟩
 ·cases h⟩
end A12
namespace A18
def T (m0:Nat) (c0:List Value) (m1:Nat) (c1:List Value) (m2:Nat) (c2:List Value):GT Value:=let y1:=(c1.drop 0).take (m1*3);let y2:=(c2.drop 0).take (m2*3);let y3:=(c0.drop 0).take (m0*6);let x1:=AMac.wB (qj y1) (qj y2) (opsOf y3);(.br ((Int.ofNat m0)==0) (.out (.tuple #[.bool true,.int .i64 0])) (.br ((Nat.ble (0+(m0*6)) c0.length&&y3.all qp)&&((Nat.ble (0+(m1*3)) c1.length&&y1.all qp)&&((Nat.ble (0+(m2*3)) c2.length&&y2.all qp)&&true))) (.br (AMac.gd0 m0 m1 m2 y3 y1 y2) (.br (x1.2==0) (.out (.tuple #[.bool (A35.tru x1.1.1 x1.1.2.1),.int .i64 x1.2])) (.out (.tuple #[.bool false,.int .i64 x1.2]))) .no) .no))
theorem run (m0:Nat) (c0:List Value) (m1:Nat) (c1:List Value) (m2:Nat) (c2:List Value):runK 4 [(16,A16.spec),(35,A35.spec)] [] 18 [.sl m0 6 c0,.sl m1 3 c1,.sl m2 3 c2]=(T m0 c0 m1 c1 m2 c2).eval:=by kernel_rfl
theorem qN (ops:List O6) (row aggs:List W3) (h:AMac.gd0 ops.length row.length aggs.length (zK ops) (qm row) (qm aggs)=true):(T ops.length (zK ops) row.length (qm row) aggs.length (qm aggs)).eval=some (.tuple #[.bool (AMac.Xs row aggs ops).1,.int .i64 (AMac.Xs row aggs ops).2]):=by
 have e1:Nat.ble (0+ops.length*6) (zK ops).length=true:=by rw[Az,je];omega
 have e2: ∀l:List W3,Nat.ble (0+l.length*3) (qm l).length=true:=fun l=>by rw[Az,zh];omega
 have e3: ∀l:List W3,((qm l).drop 0).take (l.length*3)=qm l:=fun l=>by rw[AD,AJ (by rw[zh];exact Aw _)]
 unfold T AMac.Xs
 simp only[A21.Q9,e1,e2,e3,vo,qO,zo,zn,h,GT.eval,AI,AE,Ai]
 cases Int.ofNat ops.length==0
 ·simp only [Ah]
  cases (AMac.wB row aggs ops).2==0<;>rfl
 ·rfl
def spec:Spec:=fun aa=>match aa with
 |[.sl n 6 cs,.sl nr 3 rs,.sl na 3 as_]=>some (.qI (AMac.gd0 n nr na cs rs as_) (.out (.tuple #[.bool (AMac.Xs (qj rs) (qj as_) (opsOf cs)).1,.int .i64 (AMac.Xs (qj rs) (qj as_) (opsOf cs)).2])))
 |_=>none
theorem qg:qu Tryz.prog La 18 spec:=⟨qD (by kernel_rfl),fun aa t v h e=>by
 unfold spec at h
 split at h
 ·rename_i n cs nr rs na as_
  cases h
  obtain⟨g1,g2⟩:=GT.qh e
  cases g2
  obtain⟨ops,row,aggs,rfl,rfl,rfl,rfl,rfl,rfl,ho,hr,ha,h1,h2,h3⟩:=A16.Yi g1
  rw[zo,zn,zn]
  exact⟨rfl,qS (n0:=4) (k:=12) qx qf qd (by simpa using⟨A16.qg,A35.qg⟩) (by simp) (by decide) (by simp) rfl ((run _ _ _ _ _ _).trans (qN ops row aggs g1))⟩
 ·cases h⟩
end A18
namespace A20
def T:GT Value:=(.out (.bool true))
theorem run:runK 4 [(16,fun aa=>A16.spec (nzs [6,3,3] aa)),(18,fun aa=>A18.spec (nzs [6,3,3] aa))] [] 20 []=(T).eval:=by kernel_rfl
def spec:Spec:=fun aa=>match aa with
 |[]=>some (.out (.bool true))
 |_=>none
theorem qg:qu Tryz.prog La 20 spec:=⟨qD (by kernel_rfl),fun aa t v h e=>by
 unfold spec at h
 split at h
 ·cases h; cases e
  exact⟨rfl,qS (n0:=4) (k:=12) qx qf qd (by simpa using⟨A16.qg.nil [6,3,3],A18.qg.nil [6,3,3]⟩) (by simp) (by decide) (by simp) rfl run⟩
 ·cases h⟩
end A20
namespace A7
def T (m0:Nat) (c0:List Value) (m1:Nat) (c1:List Value):GT Value:=let x1:=AAll.err (qj c1) (xn c0);let y8:=AAll.Ya c1 c0;let y2:=(y8.drop 0).take (m0*3);let y1:=Nat.ble (0+(m0*3)) y8.length&&y2.all qp;let y3:=Int.ofNat m0;let y4:=kV m1 (Int.ofNat m1) c1;let y5:=c1.all qp&&true;let y6:=Nat.beq m0 0;let y7:=isL y8 0 [(.i .i64),(.i .i64),.s];let y9:=decide (0<y3);(.br (true&&y5) (.br (((y3==y3)&&(Z9 m0 c0))&&(y4&&(qj c1).all fun v=>inR v.snd.fst)) (.br (x1 != 0) (.br (true&&y5) (.br ((Z9 m0 c0)&&(y4&&(qj c1).all fun v=>inR v.snd.fst)) (.br (x1 != 0) (.br (x1==x1) (.out (.bool true)) (.out (.bool false))) (.br y6 (.br (x1==0) (.out (.bool true)) (.out (.bool false))) (.br (true&&(y1&&true)) (.br y6 (.br (x1==0) (.out (.bool true)) (.out (.bool false))) .no) .no))) .no) .no) (.br y6 (.br (true&&y5) (.br ((Z9 m0 c0)&&(y4&&(qj c1).all fun v=>inR v.snd.fst)) (.br (x1 != 0) (.br (0==x1) (.out (.bool true)) (.out (.bool false))) (.br y6 (.out (.bool true)) (.br (true&&(y1&&true)) (.br y6 (.out (.bool true)) .no) .no))) .no) .no) (.br (true&&y5) (.br ((Z9 m0 c0)&&(y4&&(qj c1).all fun v=>inR v.snd.fst)) (.br (x1 != 0) (.br (y3 != 0) (.out (.bool false)) (.br y9 (.br (Nat.blt 0 m0) (.br y7 .no .no) .no) (.br (0==x1) (.out (.bool true)) (.out (.bool false))))) (.br y6 (.br (y3 != 0) (.out (.bool false)) (.br y9 (.br (Nat.blt 0 m0) (.br y7 .no .no) .no) (.out (.bool true)))) (.br (y1&&(y1&&true)) (.br ((kV m0 y3 y2)&&((kV m0 y3 y2)&&(A12L0.QR (qj y2) (qj y2)))) (.out (.bool true)) .no) .no))) .no) .no))) .no) .no)
theorem run (m0:Nat) (c0:List Value) (m1:Nat) (c1:List Value):runK 4 [(12,A12.spec),(20,A20.spec)] [A22L0.lp,A23L0.lp] 7 [.st m0 1 c0,.sl m1 3 c1]=(T m0 c0 m1 c1).eval:=by kernel_rfl
theorem qN (l:List (List O6)) (row:List W3) (hl:l.length<6000000000000) (hr:row.length<6000000000000) (ho: ∀ops∈l,ops.length<2199023255552∧ ∀o∈ops,inR o.2.2.2.2.1=true) (hi: ∀v∈row,inR v.2.1=true):
  (T l.length (l.map kZ) row.length (qm row)).eval=some (.bool true):=by
 have e1:=ah hl ho
 have e2:kV row.length (Int.ofNat row.length) (qm row)=true:=A16L0.vu row hr
 have e3:(row.all fun v=>inR v.2.1)=true:=Ap.2 hi
 have e4:AAll.Ya (qm row) (l.map kZ)=qm (l.map (AAll.val row)):=by unfold AAll.Ya;rw[KW,zn]
 have hm:(l.map (AAll.val row)).length=l.length:=AM _
 have e5:=AAll.r1 (l.map (AAll.val row))
 have e6:=AAll.r2 (l.map (AAll.val row))
 have e7:=A16L0.vu (l.map (AAll.val row)) (by omega)
 rw[hm]at e5 e6 e7
 unfold T
 simp only[zn,KW,e1,e2,e3,e4,e5,e6,e7,qO,A12L0.VH,GT.eval,B4,AI,AE,AF,Ai]
 cases he:AAll.err row l != 0
 ·have he0 : AAll.err row l = 0 := by simpa [bne] using he
  rw[he0]
  cases hb:Nat.beq l.length 0
  ·rfl
  ·rfl
 ·cases hb:Nat.beq l.length 0<;>rfl
def spec:Spec:=fun aa=>match aa with
 |[.st n 1 cs,.sl m 3 rs]=>some (.qI (Z9 n cs&&(kV m (Int.ofNat m) rs&&(qj rs).all fun v=>inR v.2.1)) (.out (.bool true)))
 |_=>none
theorem qg:qu Tryz.prog La 7 spec:=⟨qD (by kernel_rfl),fun aa t v h e=>by
 unfold spec at h
 split at h
 ·rename_i n cs m rs
  cases h
  obtain⟨g1,g2⟩:=GT.qh e
  cases g2
  simp only[Ag,Ap]at g1
  obtain⟨g1,g3,g4⟩:=g1
  obtain⟨h1,h2,h3,h4⟩:=Jf g1
  obtain⟨_,h5,h6,h7⟩:=zM g3
  generalize xn cs=l at h2 h3 h4
  generalize qj rs=row at h6 h7 g4
  subst h2 h3 h6 h7
  exact⟨rfl,qS (n0:=4) (k:=12) qx qf qd (by simpa using⟨A12.qg,A20.qg⟩) (by simpa using⟨A22L0.qE,A23L0.qE⟩) (by decide) (by simp) rfl ((run _ _ _ _).trans (qN l row h1 h5 h4 g4))⟩
 ·cases h⟩
theorem lJ {l:List (List O6)} {row:List W3} (hl:l.length<6000000000000) (hr:row.length<6000000000000) (ho: ∀ops∈l,ops.length<2199023255552∧ ∀o∈ops,inR o.2.2.2.2.1=true) (hi: ∀v∈row,inR v.2.1=true):
  Jd Tryz.prog La 7 [.st l.length 1 (l.map kZ),.sl row.length 3 (qm row)] (.bool true):=by
 have g:(Z9 l.length (l.map kZ)&&(kV row.length (Int.ofNat row.length) (qm row)&&(qj (qm row)).all fun v=>inR v.2.1))=true:=by
  rw[ah hl ho,A16L0.vu row hr,zn]
  exact Ap.2 hi
 refine(qg.2 _ _ (.bool true) rfl ?_).2
 show (bif _ then _ else _)=_
 rw[g];rfl
end A7
end
end Go.Proofs.YtaiokpmmjbiajaaGreatDoorDx
