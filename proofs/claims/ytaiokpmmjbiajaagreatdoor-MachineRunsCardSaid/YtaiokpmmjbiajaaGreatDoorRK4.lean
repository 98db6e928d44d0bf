/- A part of the proof of this claim. No condition beyond those that each theorem names. -/
import Derived.Test.YtaiokpmmjbiajaaGreatDoorRK0
import Derived.Test.YtaiokpmmjbiajaaGreatDoorRK1
import Derived.Test.YtaiokpmmjbiajaaGreatDoorProg
import Derived.KernelRfl
import Derived.Test.YtaiokpmmjbiajaaGreatDoorRK2
import Derived.Test.YtaiokpmmjbiajaaGreatDoorRK3
namespace Go.Proofs.YtaiokpmmjbiajaaGreatDoorDx
open Go Go.Proofs
set_option linter.unusedVariables false
set_option linter.unusedSimpArgs false
namespace A5
def T (m0:Nat) (c0:List Value) (m1:Nat) (c1:List Value) (m2:Nat) (c2:List Value):GT Value:=let y8:=(c0.drop 0).take (m0*6);let y1:=((y8.drop 0).take (m0*6))++[Value.int .i64 77,.int .i64 0,.string ⟨#[]⟩,.int .i64 0,.int .i64 0,.string ⟨#[]⟩];let y9:=Int.ofNat m0;let y4:=y9.toNat - 0;let y6:=(c1.drop 0).take (m1*3);let y7:=(c2.drop 0).take (m2*3);let y10:=(y1.drop 0).take (y4*6);let x1:=AMac.xN (qj y6) (qj y7) (opsOf y10);let x2:=AMac.xN (qj y6) (qj y7) (opsOf y8);let y3:=(([Value.int .i64 77,.int .i64 0,.string ⟨#[]⟩,.int .i64 0,.int .i64 0,.string ⟨#[]⟩]).drop 0).take 6;let y11:=(y3.drop 0).take (y4*6);let x3:=AMac.xN (qj y6) (qj y7) (opsOf y11);let x4:=AMac.xq (qj y6) (qj y7) (opsOf y8);let x5:=AMac.gd0 m0 m1 m2 y8 y6 y7;let x6:=AMac.gd0 y4 m1 m2 y10 y6 y7;let x7:=AMac.xq (qj y6) (qj y7) (opsOf y10);let x8:=AMac.gd0 y4 m1 m2 y11 y6 y7;let x9:=AMac.xq (qj y6) (qj y7) (opsOf y11);let x10:=0+(y4*6);let x11:=0+(y9.toNat*6);let y2:=(Nat.ble (0+(m1*3)) c1.length&&y6.all qo)&&((Nat.ble (0+(m2*3)) c2.length&&y7.all qo)&&true);let y5:=(Nat.ble (0+(m0*6)) c0.length&&y8.all qo)&&y2;let y12:=(Nat.ble x10 y1.length&&y10.all qo)&&y2;let y13:=decide (0≤y9)&&Nat.ble y9.toNat (m0+1);let y14:=decide (0≤y9)&&Nat.ble y9.toNat 1;let y15:=(Nat.ble x10 6&&y11.all qo)&&y2;(.br (Nat.beq m0 0) (.br y14 (.br y15 (.br x8 (.br y5 (.br x5 (.br y14 (.br y15 (.br x8 (.br y5 (.br x5 (.br ((x3.1.1==x2.1.1)&&((x3.1.2.1==x2.1.2.1)&&(eqU x3.1.2.2.data.toList x2.1.2.2.data.toList&&true))) (.br (x3.2==x2.2) (.br (x9.1==x4.1) (.br (x9.2==x4.2) (.br (Nat.blt y9.toNat 1) (.br (isV y3 (x11+0) (.i .i64)) (.br ((rdI y3 (x11+0))==77) (.out (.bool true)) (.out (.bool false))) .no) .no) (.out (.bool false))) (.out (.bool false))) (.out (.bool false))) (.out (.bool false))) .no) .no) .no) .no) .no) .no) .no) .no) .no) .no) (.br (Nat.ble (0+m0) 140737488355328) (.br (Nat.ble ((0+m0)*64) 140737488355328) (.br (Nat.ble (0+(m0*6)) c0.length) (.br (y8.all wb) (.br (Nat.ble (m0+1) 140737488355328) (.br (Nat.ble ((m0+1)*64) 140737488355328) (.br (Nat.ble (0+(m0*6)) y8.length) (.br y13 (.br y12 (.br x6 (.br y5 (.br x5 (.br y13 (.br y12 (.br x6 (.br y5 (.br x5 (.br ((x1.1.1==x2.1.1)&&((x1.1.2.1==x2.1.2.1)&&(eqU x1.1.2.2.data.toList x2.1.2.2.data.toList&&true))) (.br (x1.2==x2.2) (.br (x7.1==x4.1) (.br (x7.2==x4.2) (.br (Nat.blt y9.toNat (m0+1)) (.br (isV y1 (x11+0) (.i .i64)) (.br ((rdI y1 (x11+0))==77) (.out (.bool true)) (.out (.bool false))) .no) .no) (.out (.bool false))) (.out (.bool false))) (.out (.bool false))) (.out (.bool false))) .no) .no) .no) .no) .no) .no) .no) .no) .no) .no) .no) .no) .no) .no) .no) .no) .no))
set_option maxRecDepth 1000000 in
theorem run (m0:Nat) (c0:List Value) (m1:Nat) (c1:List Value) (m2:Nat) (c2:List Value):runK 4 [(16,fun aa=>A16.spec (nzs [6,3,3] aa)),(17,fun aa=>A17.spec (nzs [6,3,3] aa)),(18,fun aa=>A18.spec (nzs [6,3,3] aa)),(19,fun aa=>A19.spec (nzs [6,3,3] aa)),(20,A20.spec)] [] 5 [.sl m0 6 c0,.sl m1 3 c1,.sl m2 3 c2]=(T m0 c0 m1 c1 m2 c2).eval:=by kernel_rfl
theorem gl (l:List O6):(zu l).all wb=true:=List.all_eq_true.2 fun x hx=>by
 have:=List.all_eq_true.1 (vw l) x hx
 cases x<;>first|rfl|cases this
theorem qL (ops:List O6) (row aggs:List W3) (h:AMac.gd0 ops.length row.length aggs.length (zu ops) (qq row) (qq aggs)=true) (hl:ops.length<2199023255500):(T ops.length (zu ops) row.length (qq row) aggs.length (qq aggs)).eval=some (.bool true):=by
 have e1:Nat.ble (0+ops.length*6) (zu ops).length=true:=by rw[Nat.ble_eq,kK];omega
 have e2: ∀l:List W3,Nat.ble (0+l.length*3) (qq l).length=true:=fun l=>by rw[Nat.ble_eq,zh];omega
 have e3: ∀l:List W3,((qq l).drop 0).take (l.length*3)=qq l:=fun l=>by rw[List.drop_zero,List.take_of_length_le (by rw[zh];exact Nat.le_refl _)]
 have e4:Nat.ble (0+ops.length) 140737488355328=true:=by rw[Nat.ble_eq];omega
 have e5:Nat.ble ((0+ops.length)*64) 140737488355328=true:=by rw[Nat.ble_eq];omega
 have e6:Nat.ble (ops.length+1) 140737488355328=true:=by rw[Nat.ble_eq];omega
 have e7:Nat.ble ((ops.length+1)*64) 140737488355328=true:=by rw[Nat.ble_eq];omega
 have e8:Nat.ble ops.length (ops.length+1)=true:=by rw[Nat.ble_eq];omega
 have e9:Nat.blt ops.length (ops.length+1)=true:=by rw[Nat.blt_eq];omega
 have i1: ∀n:Nat,Int.ofNat n=(n:Int):=fun _=>rfl
 have d1:decide ((0:Int)≤(ops.length:Int))=true:=decide_eq_true (by omega)
 have six: ∀(r:List Value),((zu ops++r).drop 0).take (ops.length*6)=zu ops:=fun r=>by
  rw[List.drop_zero,List.take_append_of_le_length (by rw[kK];exact Nat.le_refl _),List.take_of_length_le (by rw[kK];exact Nat.le_refl _)]
 have s1: ∀(r:List Value),Nat.ble (0+ops.length*6) (zu ops++r).length=true:=fun r=>by rw[Nat.ble_eq,List.length_append,kK];omega
 have n7:nth (zu ops++[Value.int .i64 77,.int .i64 0,.string ⟨#[]⟩,.int .i64 0,.int .i64 0,.string ⟨#[]⟩]) (0+ops.length*6+0)=some (.int .i64 77):=by
  rw[vS,List.getElem?_append_right (by rw[kK];omega),kK,show 0+ops.length*6+0 - ops.length*6=0 by omega];rfl
 have v7:isV (zu ops++[Value.int .i64 77,.int .i64 0,.string ⟨#[]⟩,.int .i64 0,.int .i64 0,.string ⟨#[]⟩]) (0+ops.length*6+0) (.i .i64)=true:=by unfold isV;rw[n7];rfl
 have r7:rdI (zu ops++[Value.int .i64 77,.int .i64 0,.string ⟨#[]⟩,.int .i64 0,.int .i64 0,.string ⟨#[]⟩]) (0+ops.length*6+0)=77:=by unfold rdI;rw[n7]
 have hu: ∀a:List UInt8,eqU a a=true:=Fit.Xo
 unfold T
 cases h0:Nat.beq ops.length 0
 ·simp only[GT.eval,h0,i1,d1,Int.toNat_natCast,Nat.sub_zero,A21.xQ,e1,e2,e3,e4,e5,e6,e7,e8,e9,six,s1,v7,r7,vw,gl,qZ,zy,zn,h,beq_self_eq_true,hu,Bool.and_self,Bool.and_true,cond_true,cond_false]
 ·obtain rfl : ops = [] := List.eq_nil_of_length_eq_zero (Nat.eq_of_beq_eq_true h0)
  have h':AMac.gd0 0 row.length aggs.length [] (qq row) (qq aggs)=true:=h
  have o0:zu []=[]:=rfl
  have o1:opsOf []=[]:=rfl
  simp only[GT.eval,List.length_nil,o0,o1,List.drop_nil,List.take_nil,i1,Int.toNat_natCast,Nat.sub_zero,Nat.zero_mul,List.take_zero,e2,e3,qZ,zn,h',beq_self_eq_true,hu,Bool.and_self,Bool.and_true]
  rfl
def spec:Spec:=fun aa=>match aa with
 |[.sl n 6 cs,.sl nr 3 rs,.sl na 3 as_]=>some (.qI (AMac.gd0 n nr na cs rs as_&&Nat.blt n 2199023255500) (.out (.bool true)))
 |_=>none
theorem qf:qu Tryz.prog La 5 spec:=⟨qE (by kernel_rfl),fun aa t v h e=>by
 unfold spec at h
 split at h
 ·rename_i n cs nr rs na as_
  cases h
  obtain⟨g1,g2⟩:=GT.qh e
  cases g2
  rw[Bool.and_eq_true,Nat.blt_eq]at g1
  obtain⟨g1,g3⟩:=g1
  obtain⟨ops,row,aggs,rfl,rfl,rfl,rfl,rfl,rfl,ho,hr,ha,h1,h2,h3⟩:=A16.KP g1
  exact⟨rfl,qR (n0:=4) (k:=12) qx qg qd (by simpa using⟨A16.qf.nil [6,3,3],A17.qf.nil [6,3,3],A18.qf.nil [6,3,3],A19.qf.nil [6,3,3],A20.qf⟩) (by simp) (by decide) (by simp) rfl ((run _ _ _ _ _ _).trans (qL ops row aggs g1 g3))⟩
 ·cases h⟩
theorem fE {ops:List O6} {row aggs:List W3} (l0:ops.length<2199023255500) (l1:row.length<4398046511104) (l2:aggs.length<4398046511104) (i0: ∀o∈ops,inR o.2.2.2.2.1=true) (i1: ∀v∈row,inR v.2.1=true) (i2: ∀v∈aggs,inR v.2.1=true):
  Je Tryz.prog La 5 [.sl ops.length 6 (zu ops),.sl row.length 3 (qq row),.sl aggs.length 3 (qq aggs)] (.bool true):=by
 have g:(AMac.gd0 ops.length row.length aggs.length (zu ops) (qq row) (qq aggs)&&Nat.blt ops.length 2199023255500)=true:=by
  unfold AMac.gd0
  rw[zy,zn,zn]
  simp only[Bool.and_eq_true,List.all_eq_true,Nat.blt_eq]
  exact⟨⟨jM ops (by omega),A16L0.vU row l1,A16L0.vU aggs l2,i0,i1,i2⟩,l0⟩
 refine(qf.2 _ _ (.bool true) rfl ?_).2
 show (bif _ then _ else _)=_
 rw[g];rfl
end A5
end Go.Proofs.YtaiokpmmjbiajaaGreatDoorDx
