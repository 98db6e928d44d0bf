/- A part of the proof of this claim. No condition beyond those that each theorem names. -/
import Derived.Test.YtaiokpmmjbiajaaGreatDoorAK0
import Derived.Test.YtaiokpmmjbiajaaGreatDoorProg
import Derived.KernelRfl
import Derived.Test.YtaiokpmmjbiajaaGreatDoorAK2
import Derived.Test.YtaiokpmmjbiajaaGreatDoorAK1
import Derived.Test.YtaiokpmmjbiajaaGreatDoorAPLeafx3
import Derived.Test.YtaiokpmmjbiajaaGreatDoorAPLeafx4
set_option maxRecDepth 1000000
set_option linter.unusedVariables false
set_option linter.unusedSimpArgs false
namespace Go.Proofs.YtaiokpmmjbiajaaGreatDoorDx
section
open Go Go.Proofs
namespace A226L0
noncomputable def cfg:Cfg:=zw Tryz.prog 4 (gpT []) (ltT 4 [])
def stA (a:Int) (b:Int) (d:Int) (z:Int) (lo:Int) (hi:Int) (r:Int) (q:Int) (v:Bool) (i:Int):KX:=⟨[(0,.int .i64 a),(1,.int .i64 b),(2,.int .i64 d),(10,.int .u64 z),(16,.int .u64 lo),(17,.int .u64 hi),(18,.int .u64 r),(19,.int .u64 q),(20,.bool v),(21,.int .i64 i)],[]⟩
def qT (a:Int) (b:Int) (d:Int) (q:Int) (v:Bool):KX:=⟨[(0,.int .i64 a),(1,.int .i64 b),(2,.int .i64 d),(19,.int .u64 q),(20,.bool v)],[]⟩
def kp:Ex→List Nat
 | .normal=>[0,1,2,10,16,17,18,19,20,21]
 | .exit _=>[0,1,2,19,20]
 |_=>[]
theorem round (a:Int) (b:Int) (d:Int) (z:Int) (lo:Int) (hi:Int) (r:Int) (q:Int) (v:Bool) (i:Int):zN cfg [] [] 226 0 (stK 146 4 [] (stA a b d z lo hi r q v i)) (zv 4 100 146 kp (fun _ _=>[]))=(let x1:=IntKind.wrap .u64 (Int.ofNat (BitVec.ofInt 64 (IntKind.wrap .u64 (r*2)) ||| BitVec.ofInt 64 (IntKind.wrap .u64 (Int.ofNat (BitVec.ofInt 64 (Int.fdiv lo (2 ^ (min (IntKind.wrap .u64 (IntKind.wrap .i64 (Int.ofNat (BitVec.ofInt 64 i &&& BitVec.ofInt 64 63).toNat))).toNat 64))) &&& BitVec.ofInt 64 1).toNat))).toNat);let x2:=IntKind.wrap .u64 (Int.ofNat (BitVec.ofInt 64 (IntKind.wrap .u64 (r*2)) ||| BitVec.ofInt 64 (IntKind.wrap .u64 (Int.ofNat (BitVec.ofInt 64 (Int.fdiv hi (2 ^ (min (IntKind.wrap .u64 (IntKind.wrap .i64 (i - 64))).toNat 64))) &&& BitVec.ofInt 64 1).toNat))).toNat);let x4:=IntKind.wrap .i64 (i - 1);let x5:=Int.fdiv q 9223372036854775808;let x6:=IntKind.wrap .u64 (q*2);let x3:=IntKind.wrap .u64 (Int.ofNat (BitVec.ofInt 64 x6 ||| BitVec.ofInt 64 1).toNat);let x7:=IntKind.wrap .u64 (x2 - z);let x8:=IntKind.wrap .u64 (x1 - z);(bif decide (i≥0)then(bif(!decide ((IntKind.wrap .u64 (IntKind.wrap .i64 (Int.ofNat (BitVec.ofInt 64 i &&& BitVec.ofInt 64 63).toNat)))<0))then(bif decide (i≥64)then(bif(!decide ((IntKind.wrap .u64 (IntKind.wrap .i64 (i - 64)))<0))then(bif v then(bif decide (x2≥z)then(some (.normal,stA a b d z lo hi x7 x3 true x4))else(some (.normal,stA a b d z lo hi x2 x6 true x4)))else(bif decide (x2≥z)then(some (.normal,stA a b d z lo hi x7 x3 (x5==1) x4))else(some (.normal,stA a b d z lo hi x2 x6 (x5==1) x4))))else none)else(bif v then(bif decide (x1≥z)then(some (.normal,stA a b d z lo hi x8 x3 true x4))else(some (.normal,stA a b d z lo hi x1 x6 true x4)))else(bif decide (x1≥z)then(some (.normal,stA a b d z lo hi x8 x3 (x5==1) x4))else(some (.normal,stA a b d z lo hi x1 x6 (x5==1) x4)))))else none)else(some (.exit 0,qT a b d q v)))
):=by kernel_rfl
def N (hi lo:Int):Int:=hi*18446744073709551616+lo
def st (a b d z lo hi:Int) (j:Nat):KX:=stA a b d z lo hi ((N hi lo / 2 ^ j) % z) (((N hi lo / 2 ^ j) / z) % 18446744073709551616) (decide ((N hi lo / 2 ^ j) / z≥18446744073709551616)) ((j:Int) - 1)
theorem next (a b d:Int) {z lo hi:Int} (h:Ari.OkD z lo hi) {j:Nat} (hj:j<128):
  zN cfg [] [] 226 0 (stK 146 4 [] (st a b d z lo hi (j+1))) (zv 4 100 146 kp (fun _ _=>[]))=some (.normal,st a b d z lo hi j):=by
 obtain⟨z0,z1,l0,l1,h0,h1⟩:=h
 unfold st
 rw[round]
 have hN:0≤N hi lo:=by unfold N;omega
 have hs:=Ari.dD (N:=N hi lo) j
 have cJ:0≤(N hi lo / 2 ^ j) % 2∧(N hi lo / 2 ^ j) % 2≤1:=by omega
 have ht:0≤N hi lo / 2 ^ (j+1):=BI hN (Ck (Ari.yw _))
 obtain⟨d1,d2⟩:=Ari.dv z0 z1 ht cJ
 rw[←hs]at d1 d2
 have ei:(((j+1:Nat):Int) - 1)=(j:Int):=by omega
 have c1:decide ((j:Int)≥0)=true:=Al (by omega)
 have w1:IntKind.wrap .i64 ((j:Int) - 1)=(j:Int) - 1:=kc (by omega) (by omega)
 rw[ei]
 have r0:=Cn (N hi lo / 2 ^ (j+1)) (show z≠0 by omega)
 have r1:=Cb (N hi lo / 2 ^ (j+1)) z0
 have u0:0≤N hi lo / 2 ^ (j+1) / z:=BI ht (Ck z0)
 have e63:IntKind.wrap .i64 (Int.ofNat (BitVec.ofInt 64 (j:Int) &&& BitVec.ofInt 64 63).toNat)=((j % 64:Nat):Int):=by
  rw[Ari.iE 6 (by decide) (by decide) (by omega) (by omega),kc (by show _≤(j:Int) % 2 ^ 6;omega) (by show (j:Int) % 2 ^ 6≤_;omega)]
  show (j:Int) % 64=_
  omega
 have e64:IntKind.wrap .u64 ((j % 64:Nat):Int)=((j % 64:Nat):Int):=Bits.vZ (by omega) (by omega)
 have e65:min (((j % 64:Nat):Int)).toNat 64=j % 64:=by rw[Av];omega
 have c2:decide (((j % 64:Nat):Int)<0)=false:=An (by omega)
 have f1: ∀x:Int,∀k:Nat,Int.fdiv x (2 ^ k)=x / 2 ^ k:=fun x k=>Bz _ (Ck (Ari.yw k))
 have rr:IntKind.wrap .u64 ((N hi lo / 2 ^ (j+1)) % z*2)=(N hi lo / 2 ^ (j+1)) % z*2:=Bits.vZ (by omega) (by omega)
 have ob:=Ari.nK (x:=(N hi lo / 2 ^ (j+1)) % z) r0 cJ (by omega)
 have bb: ∀x:Int,∀k:Nat,0≤x→x<18446744073709551616→IntKind.wrap .u64 (Int.ofNat (BitVec.ofInt 64 (x / 2 ^ k) &&& BitVec.ofInt 64 1).toNat)=(x / 2 ^ k) % 2:=fun x k x0 x1=>by
  have:=Ari.yw k
  have g0:0≤x / 2 ^ k:=BI x0 (by omega)
  have g1:=Int.ediv_le_self (2 ^ k) x0
  exact Bits.wD 1 (by decide) (by decide) g0 (by omega)
 have x6:IntKind.wrap .u64 ((N hi lo / 2 ^ (j+1) / z) % 18446744073709551616*2)=((N hi lo / 2 ^ (j+1) / z) % 9223372036854775808)*2:=by rw[IntKind.wrap_u64];omega
 have oo:=Ari.oG (x:=(N hi lo / 2 ^ (j+1) / z) % 9223372036854775808) (by omega) (by omega)
 have f2: ∀x:Int,Int.fdiv x 9223372036854775808=x / 9223372036854775808:=fun x=>Bz _ (by decide)
 have key: ∀B:Int,B=(N hi lo / 2 ^ j) % 2→True:=fun _ _=>trivial
 have fin: ∀(v w:Bool),(v=decide (N hi lo / 2 ^ (j+1) / z≥18446744073709551616))→(w=bif v then true else(N hi lo / 2 ^ (j+1) / z) % 18446744073709551616 / 9223372036854775808==1)→
   (bif decide ((N hi lo / 2 ^ (j+1)) % z*2+(N hi lo / 2 ^ j) % 2≥z)then(some (Ex.normal,stA a b d z lo hi (IntKind.wrap .u64 ((N hi lo / 2 ^ (j+1)) % z*2+(N hi lo / 2 ^ j) % 2 - z)) ((N hi lo / 2 ^ (j+1) / z) % 9223372036854775808*2+1) w ((j:Int) - 1)))else(some (.normal,stA a b d z lo hi ((N hi lo / 2 ^ (j+1)) % z*2+(N hi lo / 2 ^ j) % 2) ((N hi lo / 2 ^ (j+1) / z) % 9223372036854775808*2) w ((j:Int) - 1))))=
   some (.normal,stA a b d z lo hi ((N hi lo / 2 ^ j) % z) (((N hi lo / 2 ^ j) / z) % 18446744073709551616) (decide ((N hi lo / 2 ^ j) / z≥18446744073709551616)) ((j:Int) - 1)):=by
  intro v w hv hw
  rw[d1,d2]
  generalize (N hi lo / 2 ^ (j+1)) % z=r at*
  generalize N hi lo / 2 ^ (j+1) / z=u at*
  generalize (N hi lo / 2 ^ j) % 2=bt at*
  have hw2:w=decide (u≥9223372036854775808):=by
   rw[hw,hv]
   by_cases g:u≥18446744073709551616
   ·rw[Al g,Al (by omega)];rfl
   ·rw [An g]
    rw[Bool.eq_iff_iff]
    simp only[Ah,Ay,As]
    omega
  by_cases g:z≤2*r+bt
  ·rw [Ax g, Ax g, Al (show r * 2 + bt ≥ z by omega), Bits.vZ (by omega) (by omega), hw2]
   rw[show r*2+bt - z=2*r+bt - z by omega,show u % 9223372036854775808*2+1=(2*u+1) % 18446744073709551616 by omega]
   have:decide (u≥9223372036854775808)=decide (2*u+1≥18446744073709551616):=by rw[decide_eq_decide];omega
   rw[this];rfl
  ·rw [Aq g, Aq g, An (show ¬ r * 2 + bt ≥ z by omega), hw2]
   rw[show r*2+bt=2*r+bt by omega,show u % 9223372036854775808*2=(2*u) % 18446744073709551616 by omega]
   have:decide (u≥9223372036854775808)=decide (2*u≥18446744073709551616):=by rw[decide_eq_decide];omega
   rw[this];rfl
 by_cases h64:64≤j
 ·have c3 : decide ((j : Int) ≥ 64) = true := Al (by omega)
  have w2:IntKind.wrap .i64 ((j:Int) - 64)=((j - 64:Nat):Int):=by rw[kc (by omega) (by omega)];omega
  have w3:IntKind.wrap .u64 ((j - 64:Nat):Int)=((j - 64:Nat):Int):=Bits.vZ (by omega) (by omega)
  have w4:min (((j - 64:Nat):Int)).toNat 64=j - 64:=by rw[Av];omega
  have c4:decide (((j - 64:Nat):Int)<0)=false:=An (by omega)
  have eb:(hi / 2 ^ (j - 64)) % 2=(N hi lo / 2 ^ j) % 2:=by unfold N;rw[Ari.pv l0 l1 j h64]
  simp only[e63,e64,c1,c2,c3,c4,w1,w2,w3,w4,f1,bb hi _ h0 h1,eb,rr,ob,x6,oo,f2,Ai,Bv]
  rw[←fin (decide (N hi lo / 2 ^ (j+1) / z≥18446744073709551616)) _ rfl rfl]
  cases decide (N hi lo / 2 ^ (j+1) / z≥18446744073709551616)<;>rfl
 ·have c3 : decide ((j : Int) ≥ 64) = false := An (by omega)
  have ej:j % 64=j:=by omega
  have eb:(lo / 2 ^ (j % 64)) % 2=(N hi lo / 2 ^ j) % 2:=by unfold N;rw[Ari.ow j (by omega),ej]
  simp only[e63,e64,e65,c1,c2,c3,w1,f1,bb lo _ l0 l1,eb,rr,ob,x6,oo,f2,Ai,Ah,Bv]
  rw[←fin (decide (N hi lo / 2 ^ (j+1) / z≥18446744073709551616)) _ rfl rfl]
  cases decide (N hi lo / 2 ^ (j+1) / z≥18446744073709551616)<;>rfl
theorem last (a b d z lo hi:Int):
  zN cfg [] [] 226 0 (stK 146 4 [] (st a b d z lo hi 0)) (zv 4 100 146 kp (fun _ _=>[]))=some (.exit 0,qT a b d ((N hi lo / z) % 18446744073709551616) (decide (N hi lo / z≥18446744073709551616))):=by
 unfold st
 rw[round]
 have c1:decide (((0:Nat):Int) - 1≥0)=false:=rfl
 have e:N hi lo / 2 ^ 0=N hi lo:=by rw[Int.pow_zero,Int.ediv_one]
 simp only[c1,e,Ah]
noncomputable def D:KD:=⟨146,4,100,[0,1,2,10,16,17,18,19,20,21],[],fun _=>[],fun x ro=>match x.vs,x.cars,ro with
 |[(0,.int .i64 a),(1,.int .i64 b),(2,.int .i64 d),(10,.int .u64 z),(16,.int .u64 lo),(17,.int .u64 hi),(18,.int .u64 0),(19,.int .u64 0),(20,.bool false),(21,.int .i64 127)],[],[]=>
  .qI (Ari.okD z lo hi) (.out (.exit 0,qT a b d (Ari.cW hi lo z) (Ari.Vl hi lo z)))
 |_,_,_=> .no⟩
noncomputable def lp:LpK:=⟨226,12,0,D⟩
theorem qE:zq Tryz.prog La 4 lp:=by
 refine⟨by kernel_rfl,fun c base I hP hn hG hI hIL x ro ex y e=> ?_⟩
 obtain⟨vs,cars⟩:=x
 simp only[lp,D]at e ⊢
 split at e
 ·rename_i a b d z lo hi
  obtain⟨g1,g2⟩:=GT.qh e
  cases g2
  have h:=Ari.bu.1 g1
  have main: ∀j,j≤128→zI (@zy (zL base) c base I (qV Tryz.prog 226 0) 146 4 100 []) (st a b d z lo hi j) (.exit 0) (qT a b d (Ari.cW hi lo z) (Ari.Vl hi lo z)):=by
   intro j
   induction j with
   |zero=>
    intro _
    have e:Ari.Vl hi lo z=decide (N hi lo / z≥18446744073709551616):=by unfold Ari.Vl N;congr 1
    rw[e]
    exact .stop (by simp) (stepT qf qd (by simp) (by simp) hP hn hG hI hIL (last a b d z lo hi))
   |succ j ih=>
    intro hj
    exact .next (stepT qf qd (by simp) (by simp) hP hn hG hI hIL (next a b d h (by omega))) (ih (by omega))
  have m:=main 128 (Aw _)
  have e0:N hi lo / 2 ^ 128=0:=by
   have:=h.h0;have:=h.h1;have:=h.l0;have:=h.l1
   exact Int.ediv_eq_zero_of_lt (by unfold N;omega) (by unfold N;show _<(340282366920938463463374607431768211456:Int);omega)
  unfold st at m
  rw[e0,Int.zero_emod,Int.zero_ediv]at m
  exact m
 ·cases e
end A226L0
namespace A243
def T (a0:Int):GT Value:=let x1:=IntKind.wrap .u64 a0;(.br (decide (a0<0)) (.out (.int .u64 (IntKind.wrap .u64 (0 - x1)))) (.out (.int .u64 x1)))
theorem run (a0:Int):runK 4 [] [] 243 [.v (.int .i64 a0)]=(T a0).eval:=by kernel_rfl
theorem qN (a:Int) (h:inR a=true):(T a).eval=some (.int .u64 (Ari.qG a)):=by
 unfold inR at h
 simp only[Ag,As]at h
 unfold T Ari.qG
 by_cases hn:a<0
 ·have e : IntKind.wrap .u64 (0 - IntKind.wrap .u64 a) = -a := by rw [IntKind.wrap_u64, IntKind.wrap_u64]; omega
  simp only[GT.eval,Al hn,Ai,Ax hn,e]
 ·have e : IntKind.wrap .u64 a = a := by rw [IntKind.wrap_u64]; omega
  simp only[GT.eval,An hn,Ah,Aq hn,e]
def spec:Spec:=fun aa=>match aa with
 |[.v (.int .i64 a)]=>some (.qI (inR a) (.out (.int .u64 (Ari.qG a))))
 |_=>none
theorem qg:qu Tryz.prog La 243 spec:=⟨qD (by kernel_rfl),fun aa t v h e=>by
 unfold spec at h
 split at h
 ·rename_i a
  cases h
  obtain⟨g1,g2⟩:=GT.qh e
  cases g2
  exact⟨rfl,qS (l:=[]) (L:=[]) (n0:=4) (k:=12) qx qf qd (by simp) (by simp) (by decide) (by simp) rfl ((run _).trans (qN _ g1))⟩
 ·cases h⟩
end A243
namespace A226
noncomputable def T (a0:Int) (a1:Int) (a2:Int):GT Value:=let x2:=IntKind.wrap .u64 ((IntKind.wrap .u64 ((Int.fdiv (IntKind.wrap .u64 ((IntKind.wrap .u64 (Int.ofNat (BitVec.ofInt 64 (Ari.qG a0) &&& BitVec.ofInt 64 4294967295).toNat))*(IntKind.wrap .u64 (Int.ofNat (BitVec.ofInt 64 (Ari.qG a1) &&& BitVec.ofInt 64 4294967295).toNat)))) 4294967296)+(IntKind.wrap .u64 (Int.ofNat (BitVec.ofInt 64 (IntKind.wrap .u64 ((IntKind.wrap .u64 (Int.ofNat (BitVec.ofInt 64 (Ari.qG a0) &&& BitVec.ofInt 64 4294967295).toNat))*(Int.fdiv (Ari.qG a1) 4294967296))) &&& BitVec.ofInt 64 4294967295).toNat))))+(IntKind.wrap .u64 (Int.ofNat (BitVec.ofInt 64 (IntKind.wrap .u64 ((Int.fdiv (Ari.qG a0) 4294967296)*(IntKind.wrap .u64 (Int.ofNat (BitVec.ofInt 64 (Ari.qG a1) &&& BitVec.ofInt 64 4294967295).toNat)))) &&& BitVec.ofInt 64 4294967295).toNat)));let x3:=IntKind.wrap .u64 ((IntKind.wrap .u64 ((IntKind.wrap .u64 ((IntKind.wrap .u64 ((Int.fdiv (Ari.qG a0) 4294967296)*(Int.fdiv (Ari.qG a1) 4294967296)))+(Int.fdiv (IntKind.wrap .u64 ((IntKind.wrap .u64 (Int.ofNat (BitVec.ofInt 64 (Ari.qG a0) &&& BitVec.ofInt 64 4294967295).toNat))*(Int.fdiv (Ari.qG a1) 4294967296))) 4294967296)))+(Int.fdiv (IntKind.wrap .u64 ((Int.fdiv (Ari.qG a0) 4294967296)*(IntKind.wrap .u64 (Int.ofNat (BitVec.ofInt 64 (Ari.qG a1) &&& BitVec.ofInt 64 4294967295).toNat)))) 4294967296)))+(Int.fdiv x2 4294967296));let x4:=IntKind.wrap .u64 (Int.ofNat (BitVec.ofInt 64 (IntKind.wrap .u64 (x2*4294967296)) ||| BitVec.ofInt 64 (IntKind.wrap .u64 (Int.ofNat (BitVec.ofInt 64 (IntKind.wrap .u64 ((IntKind.wrap .u64 (Int.ofNat (BitVec.ofInt 64 (Ari.qG a0) &&& BitVec.ofInt 64 4294967295).toNat))*(IntKind.wrap .u64 (Int.ofNat (BitVec.ofInt 64 (Ari.qG a1) &&& BitVec.ofInt 64 4294967295).toNat)))) &&& BitVec.ofInt 64 4294967295).toNat))).toNat);let x1:=Ari.cW x3 x4 (Ari.qG a2);let x5:=IntKind.wrap .i64 (IntKind.wrap .u64 (0 - x1));let x6:=IntKind.wrap .i64 x1;(.br ((inR a0)) (.br ((inR a1)) (.br ((inR a2)) (.br ((Ari.okD (Ari.qG a2) x4 x3)) (.br ((Ari.Vl x3 x4 (Ari.qG a2))) (.out (.tuple ([.int .i64 0,.bool (false)]).toArray)) (.br (decide (x1>9223372036854775808)) (.out (.tuple ([.int .i64 0,.bool (false)]).toArray)) (.br ((x1==9223372036854775808)) (.br ((!(!((!(decide (a0<0)==decide (a1<0)))==decide (a2<0))))) (.out (.tuple ([.int .i64 0,.bool (false)]).toArray)) (.br ((!((!(decide (a0<0)==decide (a1<0)))==decide (a2<0)))) (.out (.tuple ([.int .i64 x5,.bool (true)]).toArray)) (.out (.tuple ([.int .i64 x6,.bool (true)]).toArray)))) (.br ((!((!(decide (a0<0)==decide (a1<0)))==decide (a2<0)))) (.out (.tuple ([.int .i64 x5,.bool (true)]).toArray)) (.out (.tuple ([.int .i64 x6,.bool (true)]).toArray)))))) .no) .no) .no) .no)
theorem run (a0:Int) (a1:Int) (a2:Int):runK 4 [(243,A243.spec)] [A226L0.lp] 226 [.v (.int .i64 a0),.v (.int .i64 a1),.v (.int .i64 a2)]=(T a0 a1 a2).eval:=by kernel_rfl
theorem qN (a b d:Int) (ha:inR a=true) (hb:inR b=true) (hd:inR d=true) (h0:d≠0):(T a b d).eval=some (.tuple #[.int .i64 (Ari.quot a b d).1,.bool (Ari.quot a b d).2]):=by
 have a1:=Ari.jE ha
 have b1:=Ari.jE hb
 have d1:=Ari.jE hd
 have dp:=Ari.size_pos hd h0
 unfold T Ari.quot
 generalize Ari.qG a=x at*
 generalize Ari.qG b=y at*
 generalize Ari.qG d=z at*
 obtain⟨p1,p2,p3,p4,p5⟩:=Ari.nS a1.1 a1.2 b1.1 b1.2 _ _ _ _ _ _ _ rfl rfl rfl rfl rfl rfl rfl
 have m1:=Bits.wD 32 (by decide) (a:=x) (m:=4294967295) (by decide) (by omega) (by omega)
 have m2:=Bits.wD 32 (by decide) (a:=y) (m:=4294967295) (by decide) (by omega) (by omega)
 rw[show (2:Int) ^ 32=4294967296 from rfl]at m1 m2
 have f1: ∀x:Int,Int.fdiv x 4294967296=x / 4294967296:=fun x=>Bz _ (by decide)
 simp only[m1,m2,f1]
 generalize hll:x % 4294967296*(y % 4294967296)=ll at*
 generalize hlh:x % 4294967296*(y / 4294967296)=lh at*
 generalize hhl:x / 4294967296*(y % 4294967296)=hl at*
 generalize hhh:x / 4294967296*(y / 4294967296)=hh at*
 have w1:IntKind.wrap .u64 ll=ll:=Bits.vZ p1.1 p1.2
 have w2:IntKind.wrap .u64 lh=lh:=Bits.vZ p2.1 (by omega)
 have w3:IntKind.wrap .u64 hl=hl:=Bits.vZ p3.1 (by omega)
 have w4:IntKind.wrap .u64 hh=hh:=Bits.vZ p4.1 (by omega)
 have m3:=Bits.wD 32 (by decide) (a:=ll) (m:=4294967295) (by decide) p1.1 p1.2
 have m4:=Bits.wD 32 (by decide) (a:=lh) (m:=4294967295) (by decide) p2.1 (by omega)
 have m5:=Bits.wD 32 (by decide) (a:=hl) (m:=4294967295) (by decide) p3.1 (by omega)
 rw[show (2:Int) ^ 32=4294967296 from rfl]at m3 m4 m5
 simp only[w1,w2,w3,w4,m3,m4,m5]
 have w5:IntKind.wrap .u64 (IntKind.wrap .u64 (ll / 4294967296+lh % 4294967296)+hl % 4294967296)=ll / 4294967296+lh % 4294967296+hl % 4294967296:=by
  rw[IntKind.wrap_u64,IntKind.wrap_u64];omega
 simp only[w5]
 generalize Aa:ll / 4294967296+lh % 4294967296+hl % 4294967296=mid at*
 have uZ:0≤mid∧mid<12884901888:=by omega
 have w6:IntKind.wrap .u64 (mid*4294967296)=(mid % 4294967296)*2 ^ 32:=by
  rw[IntKind.wrap_u64,show (2:Int) ^ 32=4294967296 from rfl];omega
 have w7:=Bits.W4 32 (x:=mid % 4294967296) (b:=ll % 4294967296) (by omega) (by omega) (by rw[show (2:Int) ^ 32=4294967296 from rfl];omega) (by rw[show (2:Int) ^ 32=4294967296 from rfl];omega)
 have w8:IntKind.wrap .u64 (IntKind.wrap .u64 (IntKind.wrap .u64 (hh+lh / 4294967296)+hl / 4294967296)+mid / 4294967296)=hh+lh / 4294967296+hl / 4294967296+mid / 4294967296:=by
  simp only[IntKind.wrap_u64];omega
 simp only[w6,w7,w8]
 rw[show (2:Int) ^ 32=4294967296 from rfl]
 have hN:(hh+lh / 4294967296+hl / 4294967296+mid / 4294967296)*18446744073709551616+(mid % 4294967296*4294967296+ll % 4294967296)=x*y:=by omega
 have hok:Ari.okD z (mid % 4294967296*4294967296+ll % 4294967296) (hh+lh / 4294967296+hl / 4294967296+mid / 4294967296)=true:=Ari.bu.2 ⟨dp,d1.2,by omega,by omega,by omega,by omega⟩
 have hov:Ari.Vl (hh+lh / 4294967296+hl / 4294967296+mid / 4294967296) (mid % 4294967296*4294967296+ll % 4294967296) z=decide (x*y / z≥18446744073709551616):=by
  unfold Ari.Vl;rw[hN];congr 1
 have pN:Ari.cW (hh+lh / 4294967296+hl / 4294967296+mid / 4294967296) (mid % 4294967296*4294967296+ll % 4294967296) z=(x*y / z) % 18446744073709551616:=by
  unfold Ari.cW;rw[hN]
 have q0:0≤x*y / z:=BI (BG a1.1 b1.1) (Ck dp)
 simp only[GT.eval,ha,hb,hd,hok,hov,pN,Ai]
 have hbl:(!((!(decide (a<0)==decide (b<0)))==decide (d<0)))=Ari.below a b d:=rfl
 rw[hbl]
 generalize Ari.below a b d=bl
 generalize x*y / z=q at*
 by_cases h1:q≥18446744073709551616
 ·rw[Al h1,Al (show q>9223372036854775808 by omega)];rfl
 rw[An h1,show q % 18446744073709551616=q by omega]
 have v1:IntKind.wrap .i64 (IntKind.wrap .u64 (0 - q))=IntKind.wrap .i64 (-q):=by rw[IntKind.wrap_u64,IntKind.wrap_i64,IntKind.wrap_i64];omega
 rw[v1]
 by_cases h2:q>9223372036854775808
 ·rw[Al h2];rfl
 rw[An h2]
 have v2:IntKind.wrap .i64 (-q)= -q:=by rw[IntKind.wrap_i64];omega
 rw[v2]
 cases h3:q==9223372036854775808
 ·have := Ao.1 h3
  have v3:IntKind.wrap .i64 q=q:=by rw[IntKind.wrap_i64];omega
  rw[v3]
  cases bl<;>rfl
 ·cases bl<;>rfl
def spec:Spec:=fun aa=>match aa with
 |[.v (.int .i64 a),.v (.int .i64 b),.v (.int .i64 d)]=>some (.qI (inR a&&(inR b&&(inR d&& !(d==0)))) (.out (.tuple #[.int .i64 (Ari.quot a b d).1,.bool (Ari.quot a b d).2])))
 |_=>none
theorem qg:qu Tryz.prog La 226 spec:=⟨qD (by kernel_rfl),fun aa t v h e=>by
 unfold spec at h
 split at h
 ·rename_i a b d
  cases h
  obtain⟨g1,g2⟩:=GT.qh e
  cases g2
  simp only[Ag,Bm,Ao]at g1
  obtain⟨g1,g2,g3,g4⟩:=g1
  exact⟨rfl,qS (n0:=4) (k:=12) qx qf qd (by simpa using A243.qg) (by simpa using A226L0.qE) (by decide) (by simp) rfl ((run _ _ _).trans (qN _ _ _ g1 g2 g3 g4))⟩
 ·cases h⟩
end A226
namespace WL
def T (k0 n0:Int) (s0:ByteArray) (k1 n1:Int) (s1:ByteArray):GT Value:=let x1:=Ari.quot n0 n1 1;let x2:=Ari.quot n0 n1 10000;let o1:GT Value:=(.out (.tuple #[.agg #[.int .i64 0,.int .i64 0,.string ⟨#[]⟩],.int .i64 20]));let y1:=(inR n0)&&((inR n1)&&true);let o2:GT Value:=(.br y1 (.br (!x1.2) o1 (.out (.tuple #[.agg #[.int .i64 3,.int .i64 x1.1,.string ⟨#[]⟩],.int .i64 0]))) .no);let o3:GT Value:=(.br (k0==3) (.br (k1==3) (.br y1 (.br (!x2.2) o1 (.out (.tuple #[.agg #[.int .i64 3,.int .i64 x2.1,.string ⟨#[]⟩],.int .i64 0]))) .no) o2) o2);let o4:GT Value:=(.br y1 (.br (!x1.2) o1 (.out (.tuple #[.agg #[.int .i64 2,.int .i64 x1.1,.string ⟨#[]⟩],.int .i64 0]))) .no);let y2:=Ref.zD k0 k1 n1 false;(.br (y2.2) (.out (.tuple #[.agg #[.int .i64 0,.int .i64 0,.string ⟨#[]⟩],.int .i64 y2.1])) (.br (k0==3) o3 (.br (k1==3) o3 (.br (k0==3) (.br (k1==3) (.br y1 (.br (!x2.2) o1 (.out (.tuple #[.agg #[.int .i64 2,.int .i64 x2.1,.string ⟨#[]⟩],.int .i64 0]))) .no) o4) o4))))
theorem run (k0 n0:Int) (s0:ByteArray) (k1 n1:Int) (s1:ByteArray):runK 4 [(149,A149.spec),(226,A226.spec)] [] 200 [.v (.agg #[.int .i64 k0,.int .i64 n0,.string s0]),.v (.agg #[.int .i64 k1,.int .i64 n1,.string s1])]=(T k0 n0 s0 k1 n1 s1).eval:=by kernel_rfl
theorem qN (a b:W3) (ha:inR a.2.1=true) (hb:inR b.2.1=true):(T a.1 a.2.1 a.2.2 b.1 b.2.1 b.2.2).eval=some (ve (Ari.Kw a b)):=by
 obtain⟨k,n,s⟩:=a
 obtain⟨k',n',s'⟩:=b
 dsimp only[]at ha hb ⊢
 unfold T Ari.Kw
 simp only[GT.eval,ha,hb]
 generalize Ari.quot n n' 10000=q at*
 generalize Ari.quot n n' 1=q' at*
 obtain⟨q1,q2⟩:=q
 obtain⟨q3,q4⟩:=q'
 unfold Ari.ofV
 cases (Ref.zD k k' n' false).2<;>cases k==3<;>cases k'==3<;>cases q2<;>cases q4<;>rfl
def spec:Spec:=fun aa=>match aa with
 |[a,b]=>(vOf a).bind fun x=>(vOf b).bind fun y=>some (.qI (inR x.2.1&&inR y.2.1) (.out (ve (Ari.Kw x y))))
 |_=>none
theorem qg:qu Tryz.prog La 200 spec:=⟨qD (by kernel_rfl),fun aa t v h e=>by
 unfold spec at h
 split at h
 ·rename_i a b
  obtain⟨x,h1,h⟩:=qi h
  obtain⟨y,h2,h⟩:=qi h
  cases h
  obtain⟨g1,g2⟩:=GT.qh e
  cases g2
  rw[Ag]at g1
  rw[qM h1,qM h2]
  exact⟨rfl,qS (n0:=4) (k:=12) qx qf qd (by simpa using⟨A149.qg,A226.qg⟩) (by simp) (by decide) (by simp) rfl ((run _ _ _ _ _ _).trans (qN x y g1.1 g1.2))⟩
 ·cases h⟩
end WL
namespace A201
def T (k0 n0:Int) (s0:ByteArray) (k1 n1:Int) (s1:ByteArray):GT Value:=let y1:=Ref.zO k1 n1;let y2:=Ref.zO k0 n0;let x1:=Ari.quot y2.1 10000 y1.1;let o1:GT Value:=(.out (.tuple #[.agg #[.int .i64 0,.int .i64 0,.string ⟨#[]⟩],.int .i64 20]));let o2:GT Value:=(.br (y2.2) (.br (!y1.2) o1 (.br ((inR y2.1)&&(true&&((inR y1.1)&&(!(y1.1==0))))) (.br (!x1.2) o1 (.out (.tuple #[.agg #[.int .i64 3,.int .i64 x1.1,.string ⟨#[]⟩],.int .i64 0]))) .no)) o1);let y3:=Ref.zD k0 k1 n1 true;let y4:=Ari.quot n0 1 n1;(.br (y3.2) (.out (.tuple #[.agg #[.int .i64 0,.int .i64 0,.string ⟨#[]⟩],.int .i64 y3.1])) (.br (k0==2) (.br (k1==2) (.br ((inR n0)&&(true&&((inR n1)&&(!(n1==0))))) (.br (!y4.2) o1 (.out (.tuple #[.agg #[.int .i64 2,.int .i64 y4.1,.string ⟨#[]⟩],.int .i64 0]))) .no) o2) o2))
theorem run (k0 n0:Int) (s0:ByteArray) (k1 n1:Int) (s1:ByteArray):runK 4 [(149,A149.spec),(150,Ka.spec),(226,A226.spec)] [] 201 [.v (.agg #[.int .i64 k0,.int .i64 n0,.string s0]),.v (.agg #[.int .i64 k1,.int .i64 n1,.string s1])]=(T k0 n0 s0 k1 n1 s1).eval:=by kernel_rfl
theorem qN (a b:W3) (ha:inR a.2.1=true) (hb:inR b.2.1=true):(T a.1 a.2.1 a.2.2 b.1 b.2.1 b.2.2).eval=some (ve (Ari.Va a b)):=by
 obtain⟨k,n,s⟩:=a
 obtain⟨k',n',s'⟩:=b
 dsimp only[]at ha hb ⊢
 unfold T Ari.Va
 simp only[GT.eval,ha,hb]
 cases hf:(Ref.zD k k' n' true).2
 rotate_left
 ·rfl
 have hn:=Ari.KE hf
 have hd:=Ari.K9 (k:=k') hn
 have i1:=Ari.Wt (k:=k) ha
 have i2:=Ari.Wt (k:=k') hb
 have hn0:(n'==0)=false:=Ao.2 hn
 have hd0:(Ref.zO k' n').2=true→((Ref.zO k' n').1==0)=false:=fun h=>Ao.2 (hd h)
 simp only[hn0,Ah,Bv,AI,Ai,AF]
 generalize Ref.zO k n=p at*
 generalize Ref.zO k' n'=q at*
 obtain⟨x,ox⟩:=p
 obtain⟨y,oy⟩:=q
 dsimp only[]at hd0 i1 i2 ⊢
 generalize Ari.quot x 10000 y=u at*
 generalize Ari.quot n 1 n'=v at*
 obtain⟨u1,u2⟩:=u
 obtain⟨v1,v2⟩:=v
 unfold Ari.ofV
 cases ox<;>cases oy<;>(try simp only[i1 rfl])<;>(try simp only[i2 rfl,hd0 rfl])<;>(cases k==2<;>cases k'==2<;>cases u2<;>cases v2<;>rfl)
def spec:Spec:=fun aa=>match aa with
 |[a,b]=>(vOf a).bind fun x=>(vOf b).bind fun y=>some (.qI (inR x.2.1&&inR y.2.1) (.out (ve (Ari.Va x y))))
 |_=>none
theorem qg:qu Tryz.prog La 201 spec:=⟨qD (by kernel_rfl),fun aa t v h e=>by
 unfold spec at h
 split at h
 ·rename_i a b
  obtain⟨x,h1,h⟩:=qi h
  obtain⟨y,h2,h⟩:=qi h
  cases h
  obtain⟨g1,g2⟩:=GT.qh e
  cases g2
  rw[Ag]at g1
  rw[qM h1,qM h2]
  exact⟨rfl,qS (n0:=4) (k:=12) qx qf qd (by simpa using⟨A149.qg,Ka.qg,A226.qg⟩) (by simp) (by decide) (by simp) rfl ((run _ _ _ _ _ _).trans (qN x y g1.1 g1.2))⟩
 ·cases h⟩
end A201
namespace A168
def T (s0:ByteArray) (k1 n1:Int) (s1:ByteArray) (k2 n2:Int) (s2:ByteArray):GT Value:=let x1:=Ari.j8 Ari.VF (k1,(n1,s1)) (k2,(n2,s2));let x2:=Ari.j8 Ari.VB (k1,(n1,s1)) (k2,(n2,s2));let x3:=Ari.Kw (k1,(n1,s1)) (k2,(n2,s2));let x4:=Ari.Z6 (k1,(n1,s1)) (k2,(n2,s2));let x5:=Ari.Va (k1,(n1,s1)) (k2,(n2,s2));let y1:=(inR n1)&&(inR n2);(.br (eqU s0.data.toList [43]) (.br y1 (.out (.tuple #[.agg #[.int .i64 x2.1.1,.int .i64 x2.1.2.1,.string x2.1.2.2],.int .i64 x2.2])) .no) (.br (eqU s0.data.toList [45]) (.br y1 (.out (.tuple #[.agg #[.int .i64 x1.1.1,.int .i64 x1.1.2.1,.string x1.1.2.2],.int .i64 x1.2])) .no) (.br (eqU s0.data.toList [42]) (.br y1 (.out (.tuple #[.agg #[.int .i64 x3.1.1,.int .i64 x3.1.2.1,.string x3.1.2.2],.int .i64 x3.2])) .no) (.br (eqU s0.data.toList [47]) (.br y1 (.out (.tuple #[.agg #[.int .i64 x5.1.1,.int .i64 x5.1.2.1,.string x5.1.2.2],.int .i64 x5.2])) .no) (.br y1 (.out (.tuple #[.agg #[.int .i64 x4.1.1,.int .i64 x4.1.2.1,.string x4.1.2.2],.int .i64 x4.2])) .no)))))
theorem run (s0:ByteArray) (k1 n1:Int) (s1:ByteArray) (k2 n2:Int) (s2:ByteArray):runK 4 [(198,sp2 fun x y=>ve (Ari.j8 Ari.VB x y)),(199,sp2 fun x y=>ve (Ari.j8 Ari.VF x y)),(200,WL.spec),(201,A201.spec),(202,sp2 fun x y=>ve (Ari.Z6 x y))] [] 168 [.v (.string s0),.v (.agg #[.int .i64 k1,.int .i64 n1,.string s1]),.v (.agg #[.int .i64 k2,.int .i64 n2,.string s2])]=(T s0 k1 n1 s1 k2 n2 s2).eval:=by kernel_rfl
theorem qN (t:ByteArray) (a b:W3) (ha:inR a.2.1=true) (hb:inR b.2.1=true):(T t a.1 a.2.1 a.2.2 b.1 b.2.1 b.2.2).eval=some (ve (Ari.xQ t a b)):=by
 unfold T Ari.xQ
 simp only[GT.eval,ha,hb]
 cases eqU t.data.toList [43]<;>cases eqU t.data.toList [45]<;>cases eqU t.data.toList [42]<;>cases eqU t.data.toList [47]<;>rfl
theorem qg:qu Tryz.prog La 168 (yC fun t x y=>ve (Ari.xQ t x y)):=⟨qD (by kernel_rfl),fun aa t v h e=>by
 unfold yC at h
 split at h
 ·rename_i s a b
  obtain⟨x,h1,h⟩:=qi h
  obtain⟨y,h2,h⟩:=qi h
  cases h
  obtain⟨g1,g2⟩:=GT.qh e
  cases g2
  rw[Ag]at g1
  rw[qM h1,qM h2]
  exact⟨rfl,qS (n0:=4) (k:=12) qx qf qd (by simpa using⟨nU,ni,WL.qg,A201.qg,mW⟩) (by simp) (by decide) (by simp) rfl ((run _ _ _ _ _ _ _).trans (qN s x y g1.1 g1.2))⟩
 ·cases h⟩
end A168
namespace A112
def T (k0 n0:Int) (s0:ByteArray):GT Value:=let o1:GT Value:=(.out (.agg #[.int .i64 1,.int .i64 0,.string ⟨#[]⟩]));let o2:GT Value:=(.br (k0 != 1) o1 (.br (n0 != 0) o1 (.out (.agg #[.int .i64 1,.int .i64 1,.string ⟨#[]⟩]))));(.br (k0 != 1) (.out (.agg #[.int .i64 0,.int .i64 0,.string ⟨#[]⟩])) (.br (n0 != 0) o2 o2))
theorem run (k0 n0:Int) (s0:ByteArray):runK 4 [] [] 112 [.v (.agg #[.int .i64 k0,.int .i64 n0,.string s0])]=(T k0 n0 s0).eval:=by kernel_rfl
theorem qN (a:W3):(T a.1 a.2.1 a.2.2).eval=some (vv (Ref.ja a)):=by
 unfold T Ref.ja Ref.lgc
 simp only[GT.eval]
 cases a.1 != 1<;>cases a.2.1 != 0<;>rfl
def spec:Spec:=fun aa=>match aa with
 |[a]=>(vOf a).bind fun x=>some (.out (vv (Ref.ja x)))
 |_=>none
theorem qg:qu Tryz.prog La 112 spec:=⟨qD (by kernel_rfl),fun aa t v h e=>by
 unfold spec at h
 split at h
 ·rename_i a
  obtain⟨x,h1,h⟩:=qi h
  cases h;cases e
  rw[qM h1]
  exact⟨rfl,qS (l:=[]) (L:=[]) (n0:=4) (k:=12) qx qf qd (by simp) (by simp) (by decide) (by simp) rfl ((run _ _ _).trans (qN x))⟩
 ·cases h⟩
end A112
namespace A169
def T (k0 n0:Int) (s0:ByteArray) (k1 n1:Int) (s1:ByteArray):GT Value:=let o1:GT Value:=(.out (.agg #[.int .i64 0,.int .i64 0,.string ⟨#[]⟩]));let o2:GT Value:=(.out (.agg #[.int .i64 1,.int .i64 0,.string ⟨#[]⟩]));(.br (k0 != 1) (.br (k1 != 1) o1 (.br (n1 != 0) o1 o2)) (.br (n0 != 0) (.br (k1 != 1) o1 (.br (n1 != 0) (.out (.agg #[.int .i64 1,.int .i64 1,.string ⟨#[]⟩])) o2)) (.br (k1 != 1) o2 (.br (n1 != 0) o2 o2))))
theorem run (k0 n0:Int) (s0:ByteArray) (k1 n1:Int) (s1:ByteArray):runK 4 [] [] 169 [.v (.agg #[.int .i64 k0,.int .i64 n0,.string s0]),.v (.agg #[.int .i64 k1,.int .i64 n1,.string s1])]=(T k0 n0 s0 k1 n1 s1).eval:=by kernel_rfl
theorem qN (a b:W3):(T a.1 a.2.1 a.2.2 b.1 b.2.1 b.2.2).eval=some (vv (Ref.Jc a b)):=by
 unfold T Ref.Jc Ref.lgc
 simp only[GT.eval]
 cases a.1 != 1<;>cases a.2.1 != 0<;>cases b.1 != 1<;>cases b.2.1 != 0<;>rfl
def spec:Spec:=fun aa=>match aa with
 |[a,b]=>(vOf a).bind fun x=>(vOf b).bind fun y=>some (.out (vv (Ref.Jc x y)))
 |_=>none
theorem qg:qu Tryz.prog La 169 spec:=⟨qD (by kernel_rfl),fun aa t v h e=>by
 unfold spec at h
 split at h
 ·rename_i a b
  obtain⟨x,h1,h⟩:=qi h
  obtain⟨y,h2,h⟩:=qi h
  cases h;cases e
  rw[qM h1,qM h2]
  exact⟨rfl,qS (l:=[]) (L:=[]) (n0:=4) (k:=12) qx qf qd (by simp) (by simp) (by decide) (by simp) rfl ((run _ _ _ _ _ _).trans (qN x y))⟩
 ·cases h⟩
end A169
namespace A170
def T (k0 n0:Int) (s0:ByteArray) (k1 n1:Int) (s1:ByteArray):GT Value:=let o1:GT Value:=(.out (.agg #[.int .i64 0,.int .i64 0,.string ⟨#[]⟩]));let o2:GT Value:=(.out (.agg #[.int .i64 1,.int .i64 1,.string ⟨#[]⟩]));(.br (k0 != 1) (.br (k1 != 1) o1 (.br (n1 != 0) o2 o1)) (.br (n0 != 0) (.br (k1 != 1) o2 (.br (n1 != 0) o2 o2)) (.br (k1 != 1) o1 (.br (n1 != 0) o2 (.out (.agg #[.int .i64 1,.int .i64 0,.string ⟨#[]⟩]))))))
theorem run (k0 n0:Int) (s0:ByteArray) (k1 n1:Int) (s1:ByteArray):runK 4 [] [] 170 [.v (.agg #[.int .i64 k0,.int .i64 n0,.string s0]),.v (.agg #[.int .i64 k1,.int .i64 n1,.string s1])]=(T k0 n0 s0 k1 n1 s1).eval:=by kernel_rfl
theorem qN (a b:W3):(T a.1 a.2.1 a.2.2 b.1 b.2.1 b.2.2).eval=some (vv (Ref.orV a b)):=by
 unfold T Ref.orV Ref.lgc
 simp only[GT.eval]
 cases a.1 != 1<;>cases a.2.1 != 0<;>cases b.1 != 1<;>cases b.2.1 != 0<;>rfl
def spec:Spec:=fun aa=>match aa with
 |[a,b]=>(vOf a).bind fun x=>(vOf b).bind fun y=>some (.out (vv (Ref.orV x y)))
 |_=>none
theorem qg:qu Tryz.prog La 170 spec:=⟨qD (by kernel_rfl),fun aa t v h e=>by
 unfold spec at h
 split at h
 ·rename_i a b
  obtain⟨x,h1,h⟩:=qi h
  obtain⟨y,h2,h⟩:=qi h
  cases h;cases e
  rw[qM h1,qM h2]
  exact⟨rfl,qS (l:=[]) (L:=[]) (n0:=4) (k:=12) qx qf qd (by simp) (by simp) (by decide) (by simp) rfl ((run _ _ _ _ _ _).trans (qN x y))⟩
 ·cases h⟩
end A170
namespace A114
def T (s0:ByteArray) (k1 n1:Int) (s1:ByteArray) (k2 n2:Int) (s2:ByteArray):GT Value:=let x1:=Ari.xQ s0 (k1,(n1,s1)) (k2,(n2,s2));let x2:=A76.compare k1 n1 s1 k2 n2 s2;let y4:=(inR n1)&&(inR n2);let o1:GT Value:=(.br y4 (.out (.tuple #[.agg #[.int .i64 x1.1.1,.int .i64 x1.1.2.1,.string x1.1.2.2],.int .i64 x1.2])) .no);let o2:GT Value:=(.out (.tuple #[.agg #[.int .i64 1,.int .i64 1,.string ⟨#[]⟩],.int .i64 0]));let o3:GT Value:=(.out (.tuple #[.agg #[.int .i64 1,.int .i64 0,.string ⟨#[]⟩],.int .i64 0]));let y5:=Ref.X5 (k1,(n1,s1)) (k2,(n2,s2));let y6:=Ref.W0 (k1,(n1,s1)) (k2,(n2,s2));let y1:=Ref.ja (y5,(y6,⟨#[]⟩));let y2:=Ref.Jc (k1,(n1,s1)) (k2,(n2,s2));let y3:=Ref.orV (k1,(n1,s1)) (k2,(n2,s2));(.br (eqU s0.data.toList [43]) o1 (.br (eqU s0.data.toList [45]) o1 (.br (eqU s0.data.toList [42]) o1 (.br (eqU s0.data.toList [47]) o1 (.br (eqU s0.data.toList [37]) o1 (.br (eqU s0.data.toList [61]) (.br y4 (.out (.tuple #[.agg #[.int .i64 y5,.int .i64 y6,.string ⟨#[]⟩],.int .i64 0])) .no) (.br (eqU s0.data.toList [33,61]) (.br y4 (.out (.tuple #[.agg #[.int .i64 y1.1,.int .i64 y1.2.1,.string y1.2.2],.int .i64 0])) .no) (.br (eqU s0.data.toList [97,110,100]) (.out (.tuple #[.agg #[.int .i64 y2.1,.int .i64 y2.2.1,.string y2.2.2],.int .i64 0])) (.br (eqU s0.data.toList [111,114]) (.out (.tuple #[.agg #[.int .i64 y3.1,.int .i64 y3.2.1,.string y3.2.2],.int .i64 0])) (.br y4 (.br (!x2.2) (.out (.tuple #[.agg #[.int .i64 0,.int .i64 0,.string ⟨#[]⟩],.int .i64 0])) (.br (eqU s0.data.toList [60]) (.br (decide (x2.1<0)) o2 o3) (.br (eqU s0.data.toList [60,61]) (.br (decide (x2.1≤0)) o2 o3) (.br (eqU s0.data.toList [62]) (.br (decide (x2.1>0)) o2 o3) (.br (decide (x2.1≥0)) o2 o3))))) .no))))))))))
theorem run (s0:ByteArray) (k1 n1:Int) (s1:ByteArray) (k2 n2:Int) (s2:ByteArray):runK 4 [(168,yC fun t x y=>ve (Ari.xQ t x y)),(40,sp2 Ref.eqW),(112,A112.spec),(169,A169.spec),(170,A170.spec),(95,sp2 Ref.sa)] [] 114 [.v (.string s0),.v (.agg #[.int .i64 k1,.int .i64 n1,.string s1]),.v (.agg #[.int .i64 k2,.int .i64 n2,.string s2])]=(T s0 k1 n1 s1 k2 n2 s2).eval:=by kernel_rfl
theorem qN (t:ByteArray) (a b:W3) (ha:inR a.2.1=true) (hb:inR b.2.1=true):(T t a.1 a.2.1 a.2.2 b.1 b.2.1 b.2.2).eval=some (ve (Ari.wC t a b)):=by
 unfold T Ari.wC Ari.xQ
 simp only[GT.eval,ha,hb]
 cases eqU t.data.toList [43]
 rotate_left
 ·rfl
 cases eqU t.data.toList [45]
 rotate_left
 ·rfl
 cases eqU t.data.toList [42]
 rotate_left
 ·rfl
 cases eqU t.data.toList [47]
 rotate_left
 ·rfl
 cases eqU t.data.toList [37]
 rotate_left
 ·rfl
 cases eqU t.data.toList [61]
 rotate_left
 ·rfl
 cases eqU t.data.toList [33,61]
 rotate_left
 ·rfl
 cases eqU t.data.toList [97,110,100]
 rotate_left
 ·rfl
 cases eqU t.data.toList [111,114]
 rotate_left
 ·rfl
 unfold Ref.XK Ref.yi
 cases (A76.compare a.1 a.2.1 a.2.2 b.1 b.2.1 b.2.2).2
 ·rfl
 cases eqU t.data.toList [60]
 ·cases eqU t.data.toList [60, 61]
  ·cases eqU t.data.toList [62]
   ·cases decide ((A76.compare a.1 a.2.1 a.2.2 b.1 b.2.1 b.2.2).1≥0)<;>rfl
   ·cases decide ((A76.compare a.1 a.2.1 a.2.2 b.1 b.2.1 b.2.2).1>0)<;>rfl
  ·cases decide ((A76.compare a.1 a.2.1 a.2.2 b.1 b.2.1 b.2.2).1≤0)<;>rfl
 ·cases decide ((A76.compare a.1 a.2.1 a.2.2 b.1 b.2.1 b.2.2).1<0)<;>rfl
theorem qg:qu Tryz.prog La 114 (yC fun t x y=>ve (Ari.wC t x y)):=⟨qD (by kernel_rfl),fun aa t v h e=>by
 unfold yC at h
 split at h
 ·rename_i s a b
  obtain⟨x,h1,h⟩:=qi h
  obtain⟨y,h2,h⟩:=qi h
  cases h
  obtain⟨g1,g2⟩:=GT.qh e
  cases g2
  rw[Ag]at g1
  rw[qM h1,qM h2]
  exact⟨rfl,qS (n0:=4) (k:=12) qx qf qd (by simpa using⟨A168.qg,tK,A112.qg,A169.qg,A170.qg,pF⟩) (by simp) (by decide) (by simp) rfl ((run _ _ _ _ _ _ _).trans (qN s x y g1.1 g1.2))⟩
 ·cases h⟩
end A114
namespace A113
def T (k0 n0:Int) (s0:ByteArray):GT Value:=let y1:=Ref.zD k0 k0 n0 false;(.br (y1.2) (.out (.tuple #[.agg #[.int .i64 0,.int .i64 0,.string ⟨#[]⟩],.int .i64 y1.1])) (.br (!(n0 != (-9223372036854775808))) (.out (.tuple #[.agg #[.int .i64 0,.int .i64 0,.string ⟨#[]⟩],.int .i64 20])) (.out (.tuple #[.agg #[.int .i64 k0,.int .i64 (IntKind.wrap .i64 (0 - n0)),.string ⟨#[]⟩],.int .i64 0]))))
theorem run (k0 n0:Int) (s0:ByteArray):runK 4 [(149,A149.spec)] [] 113 [.v (.agg #[.int .i64 k0,.int .i64 n0,.string s0])]=(T k0 n0 s0).eval:=by kernel_rfl
theorem qN (a:W3) (ha:inR a.2.1=true):(T a.1 a.2.1 a.2.2).eval=some (ve (A79.xk a.1 a.2.1)):=by
 obtain⟨k,n,s⟩:=a
 have h:=Ari.vR.1 ha
 dsimp only at h
 unfold T Ref.zD A79.xk
 dsimp only[]
 simp only[GT.eval]
 have e:(n=IntKind.wrap .i64 (0 - n)∧n≠0)↔n= -9223372036854775808:=by rw[IntKind.wrap_i64];omega
 have e2:(n != -9223372036854775808)= !decide (n= -9223372036854775808):=by
  by_cases hn:n= -9223372036854775808
  ·subst hn;rfl
  ·rw[An hn];exact B8.2 hn
 rw[e2]
 simp only[e]
 rcases Ari.kinds k with rfl|rfl|rfl|⟨g1,g2,g3,g4,g5⟩
 ·rfl
 ·by_cases hn : n = -9223372036854775808
  ·subst hn;rfl
  ·simp only[An hn,Aq hn];rfl
 ·by_cases hn : n = -9223372036854775808
  ·subst hn;rfl
  ·simp only[An hn,Aq hn];rfl
 ·have h0 := Ao.1 g2
  have h2:=Ao.1 g3
  have h3:=Ao.1 g4
  rw[g1,Aq h0,Aq (by rintro(h|h);exact h2 h;exact h3 h)];rfl
def spec:Spec:=fun aa=>match aa with
 |[a]=>(vOf a).bind fun x=>some (.qI (inR x.2.1) (.out (ve (A79.xk x.1 x.2.1))))
 |_=>none
theorem qg:qu Tryz.prog La 113 spec:=⟨qD (by kernel_rfl),fun aa t v h e=>by
 unfold spec at h
 split at h
 ·rename_i a
  obtain⟨x,h1,h⟩:=qi h
  cases h
  obtain⟨g1,g2⟩:=GT.qh e
  cases g2
  rw[qM h1]
  exact⟨rfl,qS (n0:=4) (k:=12) qx qf qd (by simpa using A149.qg) (by simp) (by decide) (by simp) rfl ((run _ _ _).trans (qN x g1))⟩
 ·cases h⟩
end A113
end
end Go.Proofs.YtaiokpmmjbiajaaGreatDoorDx
section
namespace Go.Proofs.YtaiokpmmjbiajaaGreatDoorDx.ShowR
open Go Go.Proofs
set_option maxRecDepth 4000
open Go.RowKit Go.Proofs.YtaiokpmmjbiajaaGreatDoor.PLeaf Go.Proofs.YtaiokpmmjbiajaaGreatDoorW.PrintWords
open Go.Proofs.YtaiokpmmjbiajaaGreatDoor.Pure (okB YM kinds toList_nil xg QM)
open Go.WideShapes (bytes_inj)
theorem wS {u:Nat} (h:10≤u):Lib.decDigits u=Lib.decDigits (u / 10)++[UInt8.ofNat (48+u % 10)]:=by
 conv=>lhs;rw[Lib.decDigits]
 rw[dif_neg (by omega)]
theorem wK {u:Nat} (h:u<10):Lib.decDigits u=[UInt8.ofNat (48+u)]:=by rw[Lib.decDigits,dif_pos h]
theorem gS {n:Int} (h0:0≤n) (h1:n<18446744073709551616):IntKind.u64.wrap n=n:=by rw[IntKind.wrap_u64];omega
theorem VU (n:Nat) (h:n<18446744073709551616):strOfNums [(IntKind.u64.wrap (48+(Int.tmod (n:Int) 10))) % 256]=⟨#[UInt8.ofNat (48+n % 10)]⟩:=by
 have e:Int.tmod (n:Int) 10=((n % 10:Nat):Int):=by rw[BM (by omega)];omega
 rw[e,gS (by omega) (by omega)]
 unfold strOfNums
 have:((48+((n % 10:Nat):Int)) % 256).toNat=48+n % 10:=by omega
 simp only[List.map,this]
theorem ZI (n:Nat) (h:n<18446744073709551616):IntKind.u64.wrap (Int.tdiv (n:Int) 10)=((n / 10:Nat):Int):=by
 have e:Int.tdiv (n:Int) 10=((n / 10:Nat):Int):=by rw[Bn (by omega)];omega
 rw[e,gS (by omega) (by omega)]
theorem ZP: ∀(j k n:Nat) (out:ByteArray),n<10 ^ j→n<18446744073709551616→j<k→out.size+j≤4000000000→
  qk.l0 k (n:Int) out=some ⟨((if n=0 then[]else Lib.decDigits n)++out.data.toList).toArray⟩
 |0,0,_,_,_,_,h,_=>absurd h (Nat.lt_irrefl 0)
 |0,k+1,n,out,h,_,_,_=>by
  obtain rfl:n=0:=by simpa using h
  rw[qk.l0,Aq (by omega)]
  simp
 |j+1,0,_,_,_,_,h,_=>absurd h (Cz _)
 |j+1,k+1,n,out,h,hn,hk,hs=>by
  rw[qk.l0]
  by_cases h0:n=0
  ·subst h0
   rw[Aq (by omega)]
   simp
  ·have hsz : (strOfNums [(IntKind.u64.wrap (48 + (Int.tmod (n : Int) 10))) % 256]).size = 1 := strOfNums_size _
   have rK:((strOfNums [(IntKind.u64.wrap (48+(Int.tmod (n:Int) 10))) % 256])++out).data.toList=UInt8.ofNat (48+n % 10)::out.data.toList:=by
    rw[VU n hn];simp
   rw[Ax (by omega),Ar,Ax (by omega),ZI n hn]
   have h10:n / 10<10 ^ j:=by rw[CD]at h;omega
   rw[ZP j k (n / 10) _ h10 (by omega) (by omega) (by rw[Bj];omega),rK,Aq h0]
   by_cases h1:n<10
   ·rw [Ax (by omega), wK h1]
    have:n % 10=n:=by omega
    simp[this]
   ·rw [Aq (by omega), wS (u := n) (by omega)]
    simp
theorem xw (n k:Nat) (h:n<18446744073709551616) (hk:20<k):qk.f k (n:Int)=some ⟨(Lib.decDigits n).toArray⟩:=by
 unfold qk.f
 rw[ZI n h,VU n h,ZP 20 k (n / 10) _ (by omega) (by omega) hk (by simp[ByteArray.size])]
 by_cases h1:n<10
 ·rw [Ax (by omega), wK h1]
  have:n % 10=n:=by omega
  simp[this]
 ·rw[Aq (by omega),wS (u:=n) (by omega)]
theorem W6 (n:Nat) (h:n<18446744073709551616):(Lib.decDigits n).length≤20:=by
 have: ∀(j n:Nat),n<10 ^ (j+1)→(Lib.decDigits n).length≤j+1:=by
  intro j
  induction j with
  |zero=>intro n h;rw[wK (by simpa using h)];simp
  |succ j ih=>
   intro n h
   by_cases h1:n<10
   ·rw[wK h1];simp
   ·rw [wS (by omega)]
    have:=ih (n / 10) (by rw[CD]at h;omega)
    simp;omega
 exact this 19 n (by omega)
theorem cB (n:Int) (k:Nat) (h:(Lit.int .i64 n).wf=true) (hk:20<k):qU.f k n=some ⟨(Lib.itoa n).toArray⟩:=by
 have hw: -9223372036854775808≤n∧n≤9223372036854775807:=(Lit.wf_int_iff .i64 n).1 h
 unfold qU.f
 by_cases hn:n<0
 ·have e : IntKind.u64.wrap (-(IntKind.u64.wrap n)) = ((n.natAbs : Nat) : Int) := by rw [IntKind.wrap_u64, IntKind.wrap_u64]; omega
  have hl:=W6 n.natAbs (by omega)
  rw[Ax hn,e,xw n.natAbs k (by omega) hk,Ar,Ax (by simp[ByteArray.size];omega)]
  unfold Lib.itoa
  rw[Ax hn]
  exact Bg some (bytes_inj (by simp))
 ·have e : IntKind.u64.wrap n = ((n.toNat : Nat) : Int) := by rw [IntKind.wrap_u64]; omega
  have hl:=W6 n.toNat (by omega)
  rw[Aq hn,e,xw n.toNat k (by omega) hk,Ar,Ax (by simp[ByteArray.size];omega)]
  unfold Lib.itoa
  rw[Aq hn]
  exact Bg some (bytes_inj (by simp))
def pad (r:Nat):List UInt8:=Lib.repeatL [48] (4 - (Lib.decDigits r).length)++Lib.decDigits r
def fr (l:List UInt8):List UInt8:=if Lib.trimRightB l 48=[]then[48]else Lib.trimRightB l 48
theorem iC (r:Nat):qA.cN r=fr (pad r):=rfl
theorem fq (r:Nat) (h:r<10000):pad r=[UInt8.ofNat (48+r / 1000),UInt8.ofNat (48+r / 100 % 10),UInt8.ofNat (48+r / 10 % 10),UInt8.ofNat (48+r % 10)]:=by
 unfold pad
 by_cases h1:r<10
 ·have e1 : r / 1000 = 0 := by omega
  have e2:r / 100 % 10=0:=by omega
  have e3:r / 10 % 10=0:=by omega
  have e4:r % 10=r:=by omega
  rw[wK h1,e1,e2,e3,e4]
  simp[Lib.repeatL]
 by_cases h2:r<100
 ·have e1 : r / 1000 = 0 := by omega
  have e2:r / 100 % 10=0:=by omega
  have e3:r / 10 % 10=r / 10:=by omega
  rw[wS (by omega),wK (by omega),e1,e2,e3]
  simp[Lib.repeatL]
 by_cases h3:r<1000
 ·have e1 : r / 1000 = 0 := by omega
  have e2:r / 100 % 10=r / 10 / 10:=by omega
  rw[wS (by omega),wS (u:=r / 10) (by omega),wK (u:=r / 10 / 10) (by omega),e1,e2]
  simp[Lib.repeatL]
 ·have e1 : r / 1000 = r / 10 / 10 / 10 := by omega
  have e2:r / 100 % 10=r / 10 / 10 % 10:=by omega
  rw[wS (by omega),wS (u:=r / 10) (by omega),wS (u:=r / 10 / 10) (by omega),wK (u:=r / 10 / 10 / 10) (by omega),e1,e2]
  simp[Lib.repeatL]
theorem gq (r:Nat) (h:r<10000):Lib.decDigits (r+10000)=49::pad r:=by
 rw[fq r h,wS (by omega),wS (u:=(r+10000) / 10) (by omega),wS (u:=(r+10000) / 10 / 10) (by omega),wS (u:=(r+10000) / 10 / 10 / 10) (by omega),wK (u:=(r+10000) / 10 / 10 / 10 / 10) (by omega)]
 have e0:(r+10000) / 10 / 10 / 10 / 10=1:=by omega
 have e1:(r+10000) / 10 / 10 / 10 % 10=r / 1000:=by omega
 have e2:(r+10000) / 10 / 10 % 10=r / 100 % 10:=by omega
 have e3:(r+10000) / 10 % 10=r / 10 % 10:=by omega
 have e4:(r+10000) % 10=r % 10:=by omega
 rw[e0,e1,e2,e3,e4]
 rfl
theorem KC (l:List UInt8) (x:UInt8) (h:x≠48):Lib.trimRightB (l++[x]) 48=l++[x]:=by
 unfold Lib.trimRightB
 simp[List.dropWhile,h]
theorem YF (l:List UInt8):Lib.trimRightB (l++[48]) 48=Lib.trimRightB l 48:=by
 unfold Lib.trimRightB
 simp[List.dropWhile]
theorem fI (q:Nat) (hq:q<18446744073709551616 / 10000) (u:Int) (hu:IntKind.u64.wrap (Int.tdiv u 10000)=(q:Int)) (sg:ByteArray) (hsg:sg.size≤1):
  ∀(j k:Nat) (l:List UInt8),l.length=j+1→j<10→22+j<k→
  ql.l0 k u sg ⟨l.toArray⟩=some ⟨(sg.data.toList++Lib.decDigits q++[46]++fr l).toArray⟩:=by
 intro j
 induction j with
 |zero=>
  intro k l hl _ hk
  obtain⟨x,rfl⟩: ∃x,l=[x]:=by
   match l,hl with
   |[x],_=>exact⟨x,rfl⟩
  have hf:fr [x]=[x]:=by
   unfold fr
   by_cases hx:x=48
   ·subst hx;rfl
   ·have := KC [] x hx
    simp at this
    rw[this];simp
  have hlen:=W6 q (by omega)
  have hQ:(⟨(Lib.decDigits q).toArray⟩:ByteArray).size=(Lib.decDigits q).length:=by simp[ByteArray.size]
  have nZ:(⟨#[46]⟩:ByteArray).size=1:=rfl
  have hL:(⟨[x].toArray⟩:ByteArray).size=1:=rfl
  obtain⟨k,rfl⟩: ∃k',k=k'+1:=⟨k - 1,by omega⟩
  rw[ql.l0,Aq (by simp[ByteArray.size]),hu,xw q k (by omega) (by omega),Ar]
  rw[Ax (by rw[hQ];omega),Ax (by rw[Bj,hQ];omega),Ax (by rw[Bj,Bj,hQ,nZ,hL];omega),hf]
  exact Bg some (bytes_inj (by simp))
 |succ j ih=>
  intro k l hl hj hk
  have hne:l≠[]:=fun e=>by subst e;simp at hl
  obtain⟨l',x,rfl⟩: ∃l' x,l=l'++[x]:=⟨l.dropLast,l.getLast hne,(List.dropLast_concat_getLast hne).symm⟩
  have hl':l'.length=j+1:=by simpa using hl
  have hsz:(⟨(l'++[x]).toArray⟩:ByteArray).size=j+2:=by simp[ByteArray.size,hl']
  have hlen:=W6 q (by omega)
  have hQ:(⟨(Lib.decDigits q).toArray⟩:ByteArray).size=(Lib.decDigits q).length:=by simp[ByteArray.size]
  have nZ:(⟨#[46]⟩:ByteArray).size=1:=rfl
  have hL:=hsz
  obtain⟨k,rfl⟩: ∃k',k=k'+1:=⟨k - 1,by omega⟩
  have hbt:bt ⟨(l'++[x]).toArray⟩ ((j:Int)+1)=x.toNat:=by
   unfold bt
   have e:((j:Int)+1).toNat=j+1:=by omega
   rw[dif_pos (by rw[hsz];omega)]
   simp only[e]
   have:(⟨(l'++[x]).toArray⟩:ByteArray)[j+1]'(by rw[hsz];omega)=x:=by
    show (l'++[x]).toArray[j+1]'_=x
    simp[←hl']
   rw[this]
  have hex:(⟨(l'++[x]).toArray⟩:ByteArray).extract 0 ((j:Int)+1).toNat=⟨l'.toArray⟩:=by
   have e:((j:Int)+1).toNat=j+1:=by omega
   rw[e]
   apply bytes_inj
   simp[←hl']
  have hw:wrap64 (((⟨(l'++[x]).toArray⟩:ByteArray).size:Int) - 1)=(j:Int)+1:=by rw[hsz];unfold wrap64;omega
  rw[ql.l0,hw,Ax (by rw[hsz];omega),Ax (by omega),Ax (by rw[hsz];omega),hbt]
  by_cases hx:x=48
  ·subst hx
   rw[Ax (by rfl),Ax (by rw[hsz];omega),hex,ih k l' hl' (by omega) (by omega)]
   unfold fr
   rw[YF]
  ·have hx' : ¬ (x.toNat : Int) = 48 := fun e => hx (Cm.1 (show x.toNat = 48 by omega))
   have hf:fr (l'++[x])=l'++[x]:=by unfold fr;rw[KC _ _ hx];simp
   rw[Aq hx',hu,xw q k (by omega) (by omega),Ar]
   rw[Ax (by rw[hQ];omega),Ax (by rw[Bj,hQ];omega),Ax (by rw[Bj,Bj,hQ,nZ,hL];omega),hf]
   exact Bg some (bytes_inj (by simp))
theorem mF (m:Nat) (hm:m≤9223372036854775808) (sg:ByteArray) (hsg:sg.size≤1) (k:Nat) (hk:40<k):
  ql.j0 k (m:Int) sg=some ⟨(sg.data.toList++Lib.decDigits (m / 10000)++[46]++qA.cN (m % 10000)).toArray⟩:=by
 obtain⟨k,rfl⟩: ∃k',k=k'+1:=⟨k - 1,by omega⟩
 have e1:Int.tmod (m:Int) 10000=((m % 10000:Nat):Int):=by rw[BM (by omega)];omega
 have e2:IntKind.u64.wrap (Int.tdiv (m:Int) 10000)=((m / 10000:Nat):Int):=by
  rw[Bn (by omega),gS (by omega) (by omega)];omega
 have e3:IntKind.u64.wrap (((m % 10000:Nat):Int)+10000)=((m % 10000+10000:Nat):Int):=by rw[gS (by omega) (by omega)];omega
 have hp:=fq (m % 10000) (by omega)
 have hpl:(pad (m % 10000)).length=4:=by rw[hp];rfl
 rw[ql.j0,e1,e3,xw _ k (by omega) (by omega),Ar,gq _ (by omega)]
 rw[Ax (by simp[ByteArray.size];omega)]
 have hex:(⟨(49::pad (m % 10000)).toArray⟩:ByteArray).extract 1 (⟨(49::pad (m % 10000)).toArray⟩:ByteArray).size=⟨(pad (m % 10000)).toArray⟩:=by
  apply bytes_inj
  simp[ByteArray.size,hpl,AJ]
 rw[hex,fI (m / 10000) (by omega) _ e2 sg hsg 3 k _ hpl (by omega) (by omega),iC]
theorem jo (n:Int) (k:Nat) (h:(Lit.int .i64 n).wf=true) (hk:40<k):ql.f k n=some ⟨(qA.text n).toArray⟩:=by
 have hw: -9223372036854775808≤n∧n≤9223372036854775807:=(Lit.wf_int_iff .i64 n).1 h
 unfold ql.f qA.text
 by_cases hn:n<0
 ·have e : IntKind.u64.wrap (-(IntKind.u64.wrap n)) = ((n.natAbs : Nat) : Int) := by rw [IntKind.wrap_u64, IntKind.wrap_u64]; omega
  rw[Ax hn,e,mF n.natAbs (by omega) _ (by simp[ByteArray.size]) k hk,Ax hn]
 ·have e : IntKind.u64.wrap n = ((n.natAbs : Nat) : Int) := by rw [IntKind.wrap_u64]; omega
  rw[Aq hn,e,mF n.natAbs (by omega) _ (by simp[ByteArray.size]) k hk,Aq hn]
theorem bO (s:ByteArray) (hs:s.size≤1024) (a b:Int): ∀(f k i:Nat) (out:ByteArray),s.size - i=f→i≤s.size→f<k→out.size+2*f≤1000000→
  qB.l0 k out (i:Int) a b s=some ⟨(out.data.toList++vQ (s.data.toList.drop i)++[39]).toArray⟩:=by
 intro f
 induction f with
 |zero=>
  intro k i out hf hi hk ho
  obtain⟨k,rfl⟩: ∃k',k=k'+1:=⟨k - 1,by omega⟩
  rw[qB.l0,Aq (by omega),Ax (by omega),List.drop_of_length_le (by rw[zY];omega)]
  exact Bg some (bytes_inj (by simp[vQ]))
 |succ f ih=>
  intro k i out hf hi hk ho
  obtain⟨k,rfl⟩: ∃k',k=k'+1:=⟨k - 1,by omega⟩
  have hlt:i<s.data.toList.length:=by rw[zY];omega
  have hd:s.data.toList.drop i=s.data.toList[i]::s.data.toList.drop (i+1):=A8 hlt
  have hbt:bt s (i:Int)=(s.data.toList[i].toNat:Int):=by
   unfold bt
   rw[dif_pos (by omega)]
   rfl
  have hw:wrap64 ((i:Int)+1)=((i+1:Nat):Int):=by unfold wrap64;omega
  have hex:(s.extract ((i:Int)).toNat (((i+1:Nat):Int)).toNat).data.toList=[s.data.toList[i]]:=by
   simp[List.take_one,hd]
  have hes:(s.extract ((i:Int)).toNat (((i+1:Nat):Int)).toNat).size=1:=by rw[←zY,hex];rfl
  have hq1:(⟨#[39]⟩:ByteArray).size=1:=rfl
  rw[qB.l0,Ax (by omega),Ax (by omega),hbt,hw,hd]
  by_cases hb:s.data.toList[i]=39
  ·rw [Ax (by rw [hb]; rfl), Ax (by omega), Ax (by omega), Ax (by omega), Ax (by rw [Bj, hes, hq1]; omega)]
   rw[ih k (i+1) _ (by omega) (by omega) (by omega) (by rw[Bj,Bj,hes,hq1];omega)]
   rw[vQ,Ax hb]
   refine Bg some (bytes_inj ?_)
   simp only[Cu,B3,hex,hb]
   simp
  ·have hb' : ¬ (s.data.toList[i].toNat : Int) = 39 := fun e => hb (Cm.1 (show s.data.toList[i].toNat = 39 by omega))
   rw[Aq hb',Ax (by omega),Ax (by omega),Ax (by rw[hes];omega)]
   rw[ih k (i+1) _ (by omega) (by omega) (by omega) (by rw[Bj,hes];omega)]
   rw[vQ,Aq hb]
   refine Bg some (bytes_inj ?_)
   simp only[Cu,B3,hex]
   simp
def bB (k n:Int) (s:ByteArray):List UInt8:=
 if okB k n s=false then[]
 else if k=0 then[110,117,108,108]else if k=1 then(if n=1 then[116,114,117,101]else[102,97,108,115,101])
 else if k=2 then Lib.itoa n else if k=3 then qA.text n else[39]++vQ s.data.toList++[39]
theorem fp (j:Nat) (k n:Int) (s:ByteArray) (hn:(Lit.int .i64 n).wf=true):qB.f (9301+j) k n s=some ⟨(bB k n s).toArray⟩:=by
 unfold qB.f bB
 rw[YM j k n s,Ar]
 cases ho:okB k n s
 ·simp
 ·simp only [if_true]
  rcases kinds k with rfl|rfl|rfl|rfl|rfl|⟨h0,h1,h2,h3,h4⟩
  ·rfl
  ·by_cases h:n=1<;>simp[h]
  ·simp[cB n (9301+j) hn (by omega)]
  ·simp[jo n (9301+j) hn (by omega)]
  ·have hsz : s.size ≤ 1024 := by simp [okB] at ho; exact ho.1.2
   have h:=bO s hsz 4 n s.size (9301+j) 0 ⟨#[39]⟩ (by omega) (by omega) (by omega) (by have s1:(⟨#[39]⟩:ByteArray).size=1:=rfl;rw[s1];omega)
   rw[Aq (by decide),Aq (by decide),Aq (by decide),Aq (by decide)]
   simpa using h
  ·simp[okB,h0,h1,h2,h3,h4]at ho
theorem gn (k n:Int) (s:ByteArray):bB k n s=Fit.aO k n s:=by
 unfold bB Fit.aO
 rw[da]
 cases ho:A33.okv k n s
 ·rfl
 ·simp only [Bh, Ah, Bool.true_eq_false, if_false]
  have hd: ∀a b:Int,(a==b)=decide (a=b):=fun a b=>by
   by_cases h:a=b
   ·rw[Al h,Ay.2 h]
   ·rw[An h,Ao.2 h]
  simp only[hd,wV]
  by_cases h0:k=0
  ·simp[h0]
  by_cases h1:k=1
  ·by_cases h:n=1<;>simp[h1,h]
  by_cases h2:k=2
  ·simp[h2]
  by_cases h3:k=3
  ·simp[h3];rfl
  ·simp[h0,h1,h2,h3]
end Go.Proofs.YtaiokpmmjbiajaaGreatDoorDx.ShowR
namespace Go.Proofs.YtaiokpmmjbiajaaGreatDoorDx
open Go Go.Proofs
open Go.Proofs.YtaiokpmmjbiajaaGreatDoor.PLeaf
def YK:Spec:=fun aa=>match aa with
 |[a]=>(vOf a).bind fun x=>some (.qI (inR x.2.1) (.out (.string (Fit.yf x.1 x.2.1 x.2.2))))
 |_=>none
theorem tA:qu Tryz.prog La 45 YK:=vG (by kernel_rfl) fun aa t v h e=>by
 unfold YK at h
 split at h
 ·rename_i a
  obtain⟨⟨k0,n0,s0⟩,h1,h⟩:=qi h
  cases h
  obtain⟨g1,g2⟩:=GT.qh e
  cases g2
  rw[qM h1]
  unfold inR at g1
  simp only[Ag,As]at g1
  refine⟨[.agg #[.int .i64 k0,.int .i64 n0,.string s0]],rfl,rfl,fun W hW=>qB.calls 9301 k0 n0 s0 (Fit.yf k0 n0 s0) W ?_⟩
  have:=ShowR.fp 0 k0 n0 s0 ((Lit.wf_int_iff .i64 n0).2 ⟨g1.1,by show n0≤9223372036854775807;omega⟩)
  rw[ShowR.gn]at this
  exact this
 ·cases h
def Jw:Spec:=fun aa=>match aa with
 |[.v (.string s),.v (.int .u8 a),.v (.int .u8 b)]=>some (.qI (Nat.ble s.data.toList.length 9223372036854775807&&(decide (0≤a)&&(decide (a≤200)&&(decide (0≤b)&&decide (b≤200))))) (.out (.string (Ref.js a b s))))
 |_=>none
theorem sq:qu Tryz.prog La 103 Jw:=vG (by kernel_rfl) fun aa t v h e=>by
 unfold Jw at h
 split at h
 ·rename_i s a b
  cases h
  obtain⟨g1,g2⟩:=GT.qh e
  cases g2
  simp only[Ag,As,Az,vP]at g1
  refine⟨[.string s,.int .u8 a,.int .u8 b],rfl,rfl,fun W hW=>qz.calls s a b (Ref.js a b s) W ?_⟩
  unfold qz.f
  rw[Ax g1.1,Ax g1.2.1,Ax g1.2.2.1,Ax g1.2.2.2.1,Ax g1.2.2.2.2]
  rfl
 ·cases h
end Go.Proofs.YtaiokpmmjbiajaaGreatDoorDx
end
namespace Go.Proofs.YtaiokpmmjbiajaaGreatDoorDx
section
open Go Go.Proofs
namespace A38L0
noncomputable def cfg:Cfg:=zw Tryz.prog 4 (gpT []) (ltT 4 [])
def stA (nm:ByteArray) (n:Nat) (r:Int) (e:Int) (i:Int):KX:=⟨[(0,.string nm),(1,.slice (some ⟨1,0,none⟩) n 1),(4,.int .i64 r),(5,.int .i64 e),(6,.int .i64 (Int.ofNat n)),(7,.int .i64 i)],[]⟩
def qT (nm:ByteArray) (n:Nat) (r:Int) (e:Int):KX:=⟨[(0,.string nm),(1,.slice (some ⟨1,0,none⟩) n 1),(4,.int .i64 r),(5,.int .i64 e),(6,.int .i64 (Int.ofNat n))],[]⟩
def qP (r:Int) (e:Int):KX:=⟨[(4,.int .i64 r),(5,.int .i64 e)],[]⟩
def kp:Ex→List Nat
 | .normal=>[0,1,4,5,6,7]
 | .exit _=>[0,1,4,5,6]
 | .ret=>[4,5]
theorem round (nm:ByteArray) (n:Nat) (r:Int) (e:Int) (i:Int) (cs:List Value):zN cfg [] [] 38 0 (stK 158 4 [(1,cs)] (stA nm n r e i)) (zv 4 100 158 kp (fun _ _=>[]))=(let x1:=0+(i.toNat*1);(bif decide (i<(Int.ofNat n))then(bif decide (0≤i)then(bif Nat.blt i.toNat n then(bif isV cs x1 (.i .i64)then(bif decide ((rdI cs x1)≥0)then(bif(!decide ((rdI cs x1)≤4))then(some (.ret,qP 0 100))else(some (.normal,stA nm n r e (IntKind.wrap .i64 (i+1)))))else(some (.ret,qP 0 100)))else none)else none)else none)else(some (.exit 0,qT nm n r e)))
):=by kernel_rfl
def km (p:ByteArray×Int×Int) (k:Int):(ByteArray×Int×Int) ⊕ (Ex×KX):=bif A14L0.bad k then .inr (.ret,qP 0 100)else .inl p
def D:KD:=⟨158,4,100,[0,1,4,5,6,7],[1],fun _=>[],fun x ro=>match x.vs,x.cars,ro with
 |[(0,.string nm),(1,.slice (some ⟨1,0,none⟩) n 1),(4,.int .i64 r),(5,.int .i64 e),(6,.int .i64 m),(7,.int .i64 0)],[],[(1,cs)]=>
  .qI (wm n m cs) (.br ((cs.map vH).any A14L0.bad) (.out (.ret,qP 0 100)) (.out (.exit 0,qT nm n r e)))
 |_,_,_=> .no⟩
def lp:LpK:=⟨38,3,0,D⟩
theorem qE:zq Tryz.prog La 4 lp:=by
 refine⟨by kernel_rfl,fun c base I hP hn hG hI hIL x ro ex y e=> ?_⟩
 obtain⟨vs,cars⟩:=x
 simp only[lp,D]at e ⊢
 split at e
 ·rename_i nm n r e0 m cs
  obtain⟨g1,g2⟩:=GT.qh e
  obtain⟨rfl,hn2,l,rfl,h4,rfl⟩:=vV g1
  have key:=zA (Step:= @zy (zL base) c base I (qV Tryz.prog 38 0) 158 4 100 [(1,ints .i64 l)]) (step:=km) (fin:=fun p=>(.exit 0,qT p.1 l.length p.2.1 p.2.2)) (st:=fun p j=>stA p.1 l.length p.2.1 p.2.2 j) (l:=l) (fun s=>by simp) (fun s a r h=>by
    unfold km at h
    cases hb:A14L0.bad a<;>rw[hb]at h<;>cases h;simp) (fun p j hj=>by
    have h1:=ltI hj
    have h2:=geI j
    have h3:=j7 hj
    have h4:(0+((j:Int)).toNat*1)=j:=by simp
    have h5:=wrI j (by omega)
    have hr:=round p.1 l.length p.2.1 p.2.2 j (ints .i64 l)
    dsimp only[]at hr
    simp only[h1,h2,h3,h4,h5,vF _ l hj,wN _ l hj,Ai]at hr
    unfold km A14L0.bad
    generalize l[j]=k at hr ⊢
    by_cases c1:k<0
    ·simp only [An (show ¬ k ≥ 0 by omega), Ah] at hr
     rw[Al c1]
     exact stepT qf qd (by simp) (by simp) hP hn hG hI hIL hr
    ·simp only [Al (show k ≥ 0 by omega), Ai] at hr
     rw[An c1]
     by_cases c2:k>4
     ·simp only [An (show ¬ k ≤ 4 by omega), Bv, Ai] at hr
      rw[Al c2]
      exact stepT qf qd (by simp) (by simp) hP hn hG hI hIL hr
     ·simp only [Al (show k ≤ 4 by omega), Bh, Ah] at hr
      rw[An c2]
      exact stepT qf qd (by simp) (by simp) hP hn hG hI hIL hr) (fun p=>by
    have h1:=j6 l.length
    have hr:=round p.1 l.length p.2.1 p.2.2 l.length (ints .i64 l)
    simp only[h1,Ah]at hr
    exact stepT qf qd (by simp) (by simp) hP hn hG hI hIL hr) l.length 0 (nm,r,e0) (by omega)
  rw[AD]at key
  unfold km at key
  rw[xK]at key
  rw[h4]at g2
  cases hb:l.any A14L0.bad with
  |true=>rw[hb]at key g2;cases g2;exact key
  |false=>rw[hb]at key g2;cases g2;exact key
 ·cases e
end A38L0
namespace A38L1
noncomputable def cfg:Cfg:=zw Tryz.prog 4 (gpT []) (ltT 4 [])
def stA (n:Nat) (r:Int) (e:Int) (ok:Bool) (o:Int) (i:Int):KX:=⟨[(1,.slice (some ⟨1,0,none⟩) n 1),(4,.int .i64 r),(5,.int .i64 e),(6,.int .i64 (Int.ofNat n)),(8,.bool ok),(9,.int .i64 o),(10,.int .i64 i)],[]⟩
def qT (r:Int) (e:Int) (ok:Bool) (o:Int):KX:=⟨[(4,.int .i64 r),(5,.int .i64 e),(8,.bool ok),(9,.int .i64 o)],[]⟩
def kp:Ex→List Nat
 | .normal=>[1,4,5,6,8,9,10]
 | .exit _=>[4,5,8,9]
 |_=>[]
theorem round (n:Nat) (r:Int) (e:Int) (ok:Bool) (o:Int) (i:Int) (cs:List Value):zN cfg [] [] 38 1 (stK 158 104 [(1,cs)] (stA n r e ok o i)) (zv 104 100 158 kp (fun _ _=>[]))=(let x1:=IntKind.wrap .i64 (i+1);let x2:=0+(i.toNat*1);(bif decide (i<(Int.ofNat n))then(bif ok then(bif decide (0≤i)then(bif Nat.blt i.toNat n then(bif isV cs x2 (.i .i64)then(bif((rdI cs x2)==0)then(some (.normal,stA n r e true o x1))else(some (.normal,stA n r e ((rdI cs x2)==4) o x1)))else none)else none)else none)else(some (.normal,stA n r e false o x1)))else(some (.exit 3,qT r e ok o)))
):=by kernel_rfl
def D:KD:=⟨158,104,100,[1,4,5,6,8,9,10],[1],fun _=>[],fun x ro=>match x.vs,x.cars,ro with
 |[(1,.slice (some ⟨1,0,none⟩) n 1),(4,.int .i64 r),(5,.int .i64 e),(6,.int .i64 m),(8,.bool ok),(9,.int .i64 o),(10,.int .i64 0)],[],[(1,cs)]=>
  .qI (wm n m cs) (.out (.exit 3,qT r e ((cs.map vH).foldl (fun b k=>b&&A14L1.ok1 k) ok) o))
 |_,_,_=> .no⟩
def lp:LpK:=⟨38,28,1,D⟩
theorem qE:zq Tryz.prog La 4 lp:=by
 refine⟨by kernel_rfl,fun c base I hP hn hG hI hIL x ro ex y e=> ?_⟩
 obtain⟨vs,cars⟩:=x
 simp only[lp,D]at e ⊢
 split at e
 ·rename_i n r e0 m ok o cs
  obtain⟨g1,g2⟩:=GT.qh e
  obtain⟨rfl,hn2,l,rfl,h4,rfl⟩:=vV g1
  have key:=zA (Step:= @zy (zL base) c base I (qV Tryz.prog 38 1) 158 104 100 [(1,ints .i64 l)]) (step:=fun b k=> .inl (b&&A14L1.ok1 k)) (fin:=fun b=>(.exit 3,qT r e0 b o)) (st:=fun b j=>stA l.length r e0 b o j) (l:=l) (fun s=>by simp) (fun s a r h=>by cases h) (fun b j hj=>by
    have h1:=ltI hj
    have h2:=geI j
    have h3:=j7 hj
    have h4:(0+((j:Int)).toNat*1)=j:=by simp
    have h5:=wrI j (by omega)
    have hr:=round l.length r e0 b o j (ints .i64 l)
    simp only[h1,h2,h3,h4,h5,vF _ l hj,wN _ l hj,Ai]at hr
    refine stepT qf qd (by simp) (by simp) hP hn hG hI hIL (hr.trans ?_)
    unfold A14L1.ok1
    cases b<;>cases e1:(l[j]==0)<;>cases e2:(l[j]==4)<;>simp[e1,e2]) (fun b=>by
    have h1:=j6 l.length
    have hr:=round l.length r e0 b o l.length (ints .i64 l)
    simp only[h1,Ah]at hr
    exact stepT qf qd (by simp) (by simp) hP hn hG hI hIL hr) l.length 0 ok (by omega)
  rw[AD,kJ]at key
  cases g2
  rw[h4]
  exact key
 ·cases e
end A38L1
namespace A91L0
noncomputable def cfg:Cfg:=zw Tryz.prog 4 (gpT []) (ltT 4 [])
def stA (n:Nat) (r:Int) (b:Bool) (o:Int) (i:Int):KX:=⟨[(0,.slice (some ⟨0,0,none⟩) n 1),(2,.int .i64 r),(3,.bool b),(4,.int .i64 o),(5,.int .i64 i)],[]⟩
def qT (o:Int):KX:=⟨[(4,.int .i64 o)],[]⟩
def qP (r:Int) (b:Bool):KX:=⟨[(2,.int .i64 r),(3,.bool b)],[]⟩
def kp:Ex→List Nat
 | .normal=>[0,2,3,4,5]
 | .exit _=>[4]
 | .ret=>[2,3]
theorem round (n:Nat) (r:Int) (b:Bool) (o:Int) (i:Int) (cs:List Value):zN cfg [] [] 91 0 (stK 44 4 [(0,cs)] (stA n r b o i)) (zv 4 100 44 kp (fun _ _=>[]))=(let x1:=0+(i.toNat*1);let x2:=IntKind.wrap .i64 (i+1);(bif decide (i<(Int.ofNat n))then(bif decide (0≤i)then(bif Nat.blt i.toNat n then(bif isV cs x1 (.i .i64)then(bif((rdI cs x1)==0)then(some (.normal,stA n r b o x2))else(bif decide (0≤i)then(bif Nat.blt i.toNat n then(bif isV cs x1 (.i .i64)then(bif((rdI cs x1)==o)then(some (.normal,stA n r b o x2))else(bif(o==0)then(bif decide (0≤i)then(bif Nat.blt i.toNat n then(bif isV cs x1 (.i .i64)then(some (.normal,stA n r b (rdI cs x1) x2))else none)else none)else none)else(bif(o==0)then(bif decide (0≤i)then(bif Nat.blt i.toNat n then(bif isV cs x1 (.i .i64)then(bif((rdI cs x1)==0)then(some (.normal,stA n r b 3 x2))else(bif((rdI cs x1)==2)then(some (.normal,stA n r b 3 x2))else(bif((rdI cs x1)==3)then(some (.normal,stA n r b 3 x2))else(some (.ret,qP 0 false)))))else none)else none)else none)else(bif(o==2)then(bif decide (0≤i)then(bif Nat.blt i.toNat n then(bif isV cs x1 (.i .i64)then(bif((rdI cs x1)==0)then(some (.normal,stA n r b 3 x2))else(bif((rdI cs x1)==2)then(some (.normal,stA n r b 3 x2))else(bif((rdI cs x1)==3)then(some (.normal,stA n r b 3 x2))else(some (.ret,qP 0 false)))))else none)else none)else none)else(bif(o==3)then(bif decide (0≤i)then(bif Nat.blt i.toNat n then(bif isV cs x1 (.i .i64)then(bif((rdI cs x1)==0)then(some (.normal,stA n r b 3 x2))else(bif((rdI cs x1)==2)then(some (.normal,stA n r b 3 x2))else(bif((rdI cs x1)==3)then(some (.normal,stA n r b 3 x2))else(some (.ret,qP 0 false)))))else none)else none)else none)else(some (.ret,qP 0 false)))))))else none)else none)else none))else none)else none)else none)else(some (.exit 0,qT o)))
):=by kernel_rfl
def km (p:Int×Int×Bool) (k:Int):(Int×Int×Bool) ⊕ (Ex×KX):=match Ref.K5 k p.1 with
 |some o=> .inl (o,p.2)
 |none=> .inr (.ret,qP 0 false)
theorem ak: ∀(l:List Int) (p:Int×Int×Bool),wE km (fun p=>(.exit 0,qT p.1)) p l=match Ref.ra p.1 l with
  |some o=>(.exit 0,qT o)
  |none=>(.ret,qP 0 false)
 |[],p=>rfl
 |k::l,p=>by
  rw[wE,Ref.ra]
  unfold km
  cases h:Ref.K5 k p.1 with
  |none=>rfl
  |some o=>exact ak l (o,p.2)
def raB (o:Int) (l:List Int):Bool:=(Ref.ra o l).isSome
def raO (o:Int) (l:List Int):Int:=(Ref.ra o l).getD 0
def D:KD:=⟨44,4,100,[0,2,3,4,5],[0],fun _=>[],fun x ro=>match x.vs,x.cars,ro with
 |[(0,.slice (some ⟨0,0,none⟩) n 1),(2,.int .i64 r),(3,.bool b),(4,.int .i64 o),(5,.int .i64 0)],[],[(0,cs)]=>
  .qI (wm n (Int.ofNat n) cs) (.br (raB o (cs.map vH)) (.out (.exit 0,qT (raO o (cs.map vH)))) (.out (.ret,qP 0 false)))
 |_,_,_=> .no⟩
def lp:LpK:=⟨91,3,0,D⟩
theorem qE:zq Tryz.prog La 4 lp:=by
 refine⟨by kernel_rfl,fun c base I hP hn hG hI hIL x ro ex y e=> ?_⟩
 obtain⟨vs,cars⟩:=x
 simp only[lp,D]at e ⊢
 split at e
 ·rename_i n r b o cs
  obtain⟨g1,g2⟩:=GT.qh e
  obtain⟨_,hn2,l,rfl,h4,rfl⟩:=vV g1
  have key:=zA (Step:= @zy (zL base) c base I (qV Tryz.prog 91 0) 44 4 100 [(0,ints .i64 l)]) (step:=km) (fin:=fun p=>(.exit 0,qT p.1)) (st:=fun p j=>stA l.length p.2.1 p.2.2 p.1 j) (l:=l) (fun s=>by simp) (fun s a r h=>by
    unfold km at h
    split at h<;>cases h;simp) (fun p j hj=>by
    have h1:=ltI hj
    have h2:=geI j
    have h3:=j7 hj
    have h4:(0+((j:Int)).toNat*1)=j:=by simp
    have h5:=wrI j (by omega)
    obtain⟨o,r,b⟩:=p
    have hr:=round l.length r b o j (ints .i64 l)
    dsimp only[]at hr
    simp only[h1,h2,h3,h4,h5,vF _ l hj,wN _ l hj,Ai]at hr
    unfold km Ref.K5 Ref.Kb
    dsimp only[]
    cases e0:l[j]==0
    ·simp only [e0, Ah, Bb] at hr ⊢
     cases e1:l[j]==o
     ·simp only [e1, Ah] at hr ⊢
      cases e2:o==0
      ·simp only [e2, Ah, Bb] at hr ⊢
       cases e3:o==2<;>cases e4:o==3<;>cases e5:l[j]==2<;>cases e6:l[j]==3<;>simp only[e3,e4,e5,e6,Ai,Ah]at hr<;>exact stepT qf qd (by simp) (by simp) hP hn hG hI hIL hr
      ·simp only [e2, Ai] at hr ⊢
       exact stepT qf qd (by simp) (by simp) hP hn hG hI hIL hr
     ·simp only [e1, Ai] at hr ⊢
      exact stepT qf qd (by simp) (by simp) hP hn hG hI hIL hr
    ·simp only [e0, Ai, B2] at hr ⊢
     exact stepT qf qd (by simp) (by simp) hP hn hG hI hIL hr) (fun p=>by
    have h1:=j6 l.length
    have hr:=round l.length p.2.1 p.2.2 p.1 l.length (ints .i64 l)
    simp only[h1,Ah]at hr
    exact stepT qf qd (by simp) (by simp) hP hn hG hI hIL hr) l.length 0 (o,r,b) (by omega)
  rw[AD,ak]at key
  rw[h4]at g2
  cases hb:Ref.ra o l with
  |none=>
   unfold raB raO at g2
   rw[hb]at key g2;cases g2;exact key
  |some q=>
   unfold raB raO at g2
   rw[hb]at key g2;cases g2;exact key
 ·cases e
end A91L0
namespace A91
def T (m0:Nat) (c0:List Value):GT Value:=(.br (true&&([((0:Nat),c0)]).all fun p=>p.snd.all qp) (.br (wm m0 (Int.ofNat m0) c0) (.br (A91L0.raB 0 (c0.map vH)) (.out (.tuple #[.int .i64 (A91L0.raO 0 (c0.map vH)),.bool true])) (.out (.tuple #[.int .i64 0,.bool false]))) .no) .no)
theorem run (m0:Nat) (c0:List Value):runK 4 [] [A91L0.lp] 91 [.sl m0 1 c0]=(T m0 c0).eval:=by kernel_rfl
def two (p:Int×Bool):Value:= .tuple #[.int .i64 p.1,.bool p.2]
theorem qN (l:List Int) (hl:l.length<4611686018427387904):(T l.length (ints .i64 l)).eval=some (two (Ref.zV l)):=by
 have g:=xP hl
 unfold T Ref.zV two A91L0.raB A91L0.raO
 simp only[g,jG,qZ,GT.eval,AF,AE,Ai,A1,BS]
 cases Ref.ra 0 l<;>rfl
def spec:Spec:=fun aa=>match aa with
 |[.sl n 1 cs]=>some (.qI (wm n (Int.ofNat n) cs) (.out (two (Ref.zV (cs.map vH)))))
 |[.nil]=>some (.out (two (0,true)))
 |_=>none
theorem runN:runK 4 [] [] 91 [.nil]=some (two (0,true)):=by kernel_rfl
theorem qg:qu Tryz.prog La 91 spec:=⟨qD (by kernel_rfl),fun aa t v h e=>by
 unfold spec at h
 split at h
 ·rename_i n cs
  cases h
  obtain⟨g1,g2⟩:=GT.qh e
  cases g2
  obtain⟨_,hn,l,rfl,h4,rfl⟩:=vV g1
  rw[h4]
  exact⟨rfl,qS qx qf qd (by simp) (by simpa using A91L0.qE) (by decide) (by simp) rfl ((run _ _).trans (qN _ hn))⟩
 ·cases h; cases e
  exact⟨rfl,qS qx qf qd (by simp) (by simp) (by decide) (by simp) rfl runN⟩
 ·cases h⟩
end A91
namespace A38n
def T (s0:ByteArray):GT Value:=let o1:GT Value:=(.out (.tuple #[.int .i64 0,.int .i64 100]));(.br (eqU s0.data.toList [97,98,115]) o1 (.br (eqU s0.data.toList [99,101,105,108]) o1 (.br (eqU s0.data.toList [102,108,111,111,114]) o1 (.br (eqU s0.data.toList [114,111,117,110,100]) o1 (.br (eqU s0.data.toList [115,105,103,110]) o1 (.br (eqU s0.data.toList [116,111,105,110,116]) o1 (.br (eqU s0.data.toList [116,111,100,101,99]) o1 (.br (eqU s0.data.toList [99,111,97,108,101,115,99,101]) o1 (.br (eqU s0.data.toList [103,114,101,97,116,101,115,116]) o1 (.br (eqU s0.data.toList [108,101,97,115,116]) o1 (.br (eqU s0.data.toList [99,111,110,99,97,116]) o1 (.br (eqU s0.data.toList [108,101,110,103,116,104]) o1 (.br (eqU s0.data.toList [108,111,119,101,114]) o1 (.br (eqU s0.data.toList [116,114,105,109]) o1 (.br (eqU s0.data.toList [117,112,112,101,114]) o1 (.br (eqU s0.data.toList [110,117,108,108,105,102]) o1 (.br (eqU s0.data.toList [115,117,98,115,116,114]) o1 (.br (eqU s0.data.toList [116,111,116,101,120,116]) o1 o1))))))))))))))))))
theorem run (s0:ByteArray):runK 4 [(91,A91.spec)] [] 38 [.v (.string s0),.nil]=(T s0).eval:=by kernel_rfl
end A38n
namespace A38
def T (s0:ByteArray) (m1:Nat) (c1:List Value):GT Value:=let o1:GT Value:=(.out (.tuple #[.int .i64 0,.int .i64 100]));let o2:GT Value:=(.out (.tuple #[.int .i64 (rdI c1 0),.int .i64 0]));let y2:=isV c1 0 (.i .i64);let y4:=Nat.blt 0 m1;let o3:GT Value:=(.br y4 (.br y2 o2 .no) .no);let o4:GT Value:=(.out (.tuple #[.int .i64 2,.int .i64 0]));let y1:=Int.ofNat m1;let y5:=(rdI c1 0)==0;let y7:=!((rdI c1 0)==3);let y8:=(rdI c1 0)==2;let o5:GT Value:=(.br (y1==1) (.br y4 (.br y2 (.br y5 o4 (.br y8 o4 (.br y7 o1 o4))) .no) .no) o1);let o6:GT Value:=(.out (.tuple #[.int .i64 3,.int .i64 0]));let y6:=(c1.drop 0).take (m1*1);let y3:=Ref.zV (y6.map vH);let o7:GT Value:=(.br (([((fun(cs:List Value)=>((0+m1*1).ble cs.length&&(List.take (m1*1) (List.drop 0 cs)).all qp,AA.sl m1 1 (List.take (m1*1) (List.drop 0 cs)))) c1)]).all fun x=>x.fst) (.br (wm m1 y1 y6) (.br (y3.2) (.br (!decide (y1≥1)) o1 (.out (.tuple #[.int .i64 y3.1,.int .i64 0]))) o1) .no) .no);let o8:GT Value:=(.out (.tuple #[.int .i64 4,.int .i64 0]));let y9:=(rdI c1 0)==4;let o9:GT Value:=(.br (y1==1) (.br y4 (.br y2 (.br y5 o8 (.br (!y9) o1 o8)) .no) .no) o1);let o10:GT Value:=(.br (Nat.blt 2 m1) (.br (isV c1 2 (.i .i64)) (.br ((rdI c1 2)==0) o8 (.br (!((rdI c1 2)==2)) o1 o8)) .no) .no);let o11:GT Value:=(.br (Nat.blt 1 m1) (.br (isV c1 1 (.i .i64)) (.br ((rdI c1 1)==0) o10 (.br ((rdI c1 1)==2) o10 o1)) .no) .no);(.br (true&&([((1:Nat),c1)]).all fun p=>p.snd.all qp) (.br (wm m1 y1 c1) (.br ((List.map vH c1).any A14L0.bad) o1 (.br (eqU s0.data.toList [97,98,115]) (.br (y1==1) (.br y4 (.br y2 (.br y5 o3 (.br y8 o3 (.br y4 (.br y2 (.br y7 o1 o2) .no) .no))) .no) .no) o1) (.br (eqU s0.data.toList [99,101,105,108]) o5 (.br (eqU s0.data.toList [102,108,111,111,114]) o5 (.br (eqU s0.data.toList [114,111,117,110,100]) o5 (.br (eqU s0.data.toList [115,105,103,110]) o5 (.br (eqU s0.data.toList [116,111,105,110,116]) o5 (.br (eqU s0.data.toList [116,111,100,101,99]) (.br (y1==1) (.br y4 (.br y2 (.br y5 o6 (.br y8 o6 (.br y7 o1 o6))) .no) .no) o1) (.br (eqU s0.data.toList [99,111,97,108,101,115,99,101]) o7 (.br (eqU s0.data.toList [103,114,101,97,116,101,115,116]) o7 (.br (eqU s0.data.toList [108,101,97,115,116]) o7 (.br (eqU s0.data.toList [99,111,110,99,97,116]) (.br (true&&([((1:Nat),c1)]).all fun p=>p.snd.all qp) (.br (wm m1 y1 c1) (.br (!(List.foldl (fun b k=>b&&A14L1.ok1 k) (decide (Int.ofNat m1≥1)) (List.map vH c1))) o1 o8) .no) .no) (.br (eqU s0.data.toList [108,101,110,103,116,104]) (.br (y1==1) (.br y4 (.br y2 (.br y5 o4 (.br (!y9) o1 o4)) .no) .no) o1) (.br (eqU s0.data.toList [108,111,119,101,114]) o9 (.br (eqU s0.data.toList [116,114,105,109]) o9 (.br (eqU s0.data.toList [117,112,112,101,114]) o9 (.br (eqU s0.data.toList [110,117,108,108,105,102]) (.br (([((fun(cs:List Value)=>((0+m1*1).ble cs.length&&(List.take (m1*1) (List.drop 0 cs)).all qp,AA.sl m1 1 (List.take (m1*1) (List.drop 0 cs)))) c1)]).all fun x=>x.fst) (.br (wm m1 y1 y6) (.br (y3.2) (.br (y1==2) (.br y4 (.br y2 (.br (!(y1==2)) o1 o2) .no) .no) (.br (!(y1==2)) o1 (.out (.tuple #[.int .i64 0,.int .i64 0])))) o1) .no) .no) (.br (eqU s0.data.toList [115,117,98,115,116,114]) (.br (y1==3) (.br y4 (.br y2 (.br y5 o11 (.br y9 o11 o1)) .no) .no) o1) (.br (eqU s0.data.toList [116,111,116,101,120,116]) (.br (!(y1==1)) o1 o8) o1))))))))))))))))))) .no) .no)
theorem run (s0:ByteArray) (m1:Nat) (c1:List Value):runK 4 [(91,A91.spec)] [A38L0.lp,A38L1.lp] 38 [.v (.string s0),.sl m1 1 c1]=(T s0 m1 c1).eval:=by kernel_rfl
theorem vU (n k:Nat) (h:n<k):(Int.ofNat k==Int.ofNat n)=false:=Ao.2 fun e=>by have:=Cl e;omega
set_option maxHeartbeats 0 in
theorem qN (s:ByteArray) (l:List Int) (hl:l.length<4611686018427387904):(T s l.length (ints .i64 l)).eval=some (Fit.two (Ref.jw s l)):=by
 have g:=xP hl
 have a3:((ints .i64 l).drop 0).take (l.length*1)=ints .i64 l:=by rw[AD,BY];exact AJ (by rw[zH];exact Aw _)
 have a5:(0+l.length*1).ble l.length=true:=by rw[Az];omega
 unfold T Ref.jw
 simp only[g,a3,a5,jG,qZ,zH,GT.eval,AF,AE,Ai,A1,BS]
 cases hb:l.any A14L0.bad
 rotate_left
 ·rfl
 simp only[Ah]
 clear hb g a3 a5
 cases n0:eqU s.data.toList [97,98,115]
 rotate_left
 ·simp only [Ai]
  match l with
  |[]=>rfl
  |[a]=>
   show (bif a==0 then _ else bif a==2 then _ else bif !(a==3)then _ else _)=some (Fit.two (Fit.rP (a==0||(a==2||a==3)) _))
   cases a==0<;>cases a==2<;>cases a==3<;>rfl
  |a::b::r=>
   have e:(Int.ofNat (a::b::r).length==1)=false:=vU 1 _ (by simp)
   rw[e];rfl
 simp only[Ah]
 cases n1:eqU s.data.toList [99,101,105,108]
 rotate_left
 ·simp only [Ai]
  match l with
  |[]=>rfl
  |[a]=>
   show (bif a==0 then _ else bif a==2 then _ else bif !(a==3)then _ else _)=some (Fit.two (Fit.rP (a==0||(a==2||a==3)) _))
   cases a==0<;>cases a==2<;>cases a==3<;>rfl
  |a::b::r=>
   have e:(Int.ofNat (a::b::r).length==1)=false:=vU 1 _ (by simp)
   rw[e];rfl
 simp only[Ah]
 cases n2:eqU s.data.toList [102,108,111,111,114]
 rotate_left
 ·simp only [Ai]
  match l with
  |[]=>rfl
  |[a]=>
   show (bif a==0 then _ else bif a==2 then _ else bif !(a==3)then _ else _)=some (Fit.two (Fit.rP (a==0||(a==2||a==3)) _))
   cases a==0<;>cases a==2<;>cases a==3<;>rfl
  |a::b::r=>
   have e:(Int.ofNat (a::b::r).length==1)=false:=vU 1 _ (by simp)
   rw[e];rfl
 simp only[Ah]
 cases n3:eqU s.data.toList [114,111,117,110,100]
 rotate_left
 ·simp only [Ai]
  match l with
  |[]=>rfl
  |[a]=>
   show (bif a==0 then _ else bif a==2 then _ else bif !(a==3)then _ else _)=some (Fit.two (Fit.rP (a==0||(a==2||a==3)) _))
   cases a==0<;>cases a==2<;>cases a==3<;>rfl
  |a::b::r=>
   have e:(Int.ofNat (a::b::r).length==1)=false:=vU 1 _ (by simp)
   rw[e];rfl
 simp only[Ah]
 cases n4:eqU s.data.toList [115,105,103,110]
 rotate_left
 ·simp only [Ai]
  match l with
  |[]=>rfl
  |[a]=>
   show (bif a==0 then _ else bif a==2 then _ else bif !(a==3)then _ else _)=some (Fit.two (Fit.rP (a==0||(a==2||a==3)) _))
   cases a==0<;>cases a==2<;>cases a==3<;>rfl
  |a::b::r=>
   have e:(Int.ofNat (a::b::r).length==1)=false:=vU 1 _ (by simp)
   rw[e];rfl
 simp only[Ah]
 cases n5:eqU s.data.toList [116,111,105,110,116]
 rotate_left
 ·simp only [Ai]
  match l with
  |[]=>rfl
  |[a]=>
   show (bif a==0 then _ else bif a==2 then _ else bif !(a==3)then _ else _)=some (Fit.two (Fit.rP (a==0||(a==2||a==3)) _))
   cases a==0<;>cases a==2<;>cases a==3<;>rfl
  |a::b::r=>
   have e:(Int.ofNat (a::b::r).length==1)=false:=vU 1 _ (by simp)
   rw[e];rfl
 simp only[Ah]
 cases n6:eqU s.data.toList [116,111,100,101,99]
 rotate_left
 ·simp only [Ai]
  match l with
  |[]=>rfl
  |[a]=>
   show (bif a==0 then _ else bif a==2 then _ else bif !(a==3)then _ else _)=some (Fit.two (Fit.rP (a==0||(a==2||a==3)) _))
   cases a==0<;>cases a==2<;>cases a==3<;>rfl
  |a::b::r=>
   have e:(Int.ofNat (a::b::r).length==1)=false:=vU 1 _ (by simp)
   rw[e];rfl
 simp only[Ah]
 cases n7:eqU s.data.toList [99,111,97,108,101,115,99,101]
 rotate_left
 ·simp only [Ai]
  generalize Ref.zV l=p
  cases p.2<;>cases decide (Int.ofNat l.length≥1)<;>rfl
 simp only[Ah]
 cases n8:eqU s.data.toList [103,114,101,97,116,101,115,116]
 rotate_left
 ·simp only [Ai]
  generalize Ref.zV l=p
  cases p.2<;>cases decide (Int.ofNat l.length≥1)<;>rfl
 simp only[Ah]
 cases n9:eqU s.data.toList [108,101,97,115,116]
 rotate_left
 ·simp only [Ai]
  generalize Ref.zV l=p
  cases p.2<;>cases decide (Int.ofNat l.length≥1)<;>rfl
 simp only[Ah]
 cases n10:eqU s.data.toList [99,111,110,99,97,116]
 rotate_left
 ·simp only [Ai]
  generalize List.foldl (fun b k=>b&&A14L1.ok1 k) (decide (Int.ofNat l.length≥1)) l=b
  cases b<;>rfl
 simp only[Ah]
 cases n11:eqU s.data.toList [108,101,110,103,116,104]
 rotate_left
 ·simp only [Ai]
  match l with
  |[]=>rfl
  |[a]=>
   show (bif a==0 then _ else bif !(a==4)then _ else _)=some (Fit.two (Fit.rP (a==0||a==4) _))
   cases a==0<;>cases a==4<;>rfl
  |a::b::r=>
   have e:(Int.ofNat (a::b::r).length==1)=false:=vU 1 _ (by simp)
   rw[e];rfl
 simp only[Ah]
 cases n12:eqU s.data.toList [108,111,119,101,114]
 rotate_left
 ·simp only [Ai]
  match l with
  |[]=>rfl
  |[a]=>
   show (bif a==0 then _ else bif !(a==4)then _ else _)=some (Fit.two (Fit.rP (a==0||a==4) _))
   cases a==0<;>cases a==4<;>rfl
  |a::b::r=>
   have e:(Int.ofNat (a::b::r).length==1)=false:=vU 1 _ (by simp)
   rw[e];rfl
 simp only[Ah]
 cases n13:eqU s.data.toList [116,114,105,109]
 rotate_left
 ·simp only [Ai]
  match l with
  |[]=>rfl
  |[a]=>
   show (bif a==0 then _ else bif !(a==4)then _ else _)=some (Fit.two (Fit.rP (a==0||a==4) _))
   cases a==0<;>cases a==4<;>rfl
  |a::b::r=>
   have e:(Int.ofNat (a::b::r).length==1)=false:=vU 1 _ (by simp)
   rw[e];rfl
 simp only[Ah]
 cases n14:eqU s.data.toList [117,112,112,101,114]
 rotate_left
 ·simp only [Ai]
  match l with
  |[]=>rfl
  |[a]=>
   show (bif a==0 then _ else bif !(a==4)then _ else _)=some (Fit.two (Fit.rP (a==0||a==4) _))
   cases a==0<;>cases a==4<;>rfl
  |a::b::r=>
   have e:(Int.ofNat (a::b::r).length==1)=false:=vU 1 _ (by simp)
   rw[e];rfl
 simp only[Ah]
 cases n15:eqU s.data.toList [110,117,108,108,105,102]
 rotate_left
 ·simp only [Ai]
  generalize Ref.zV l=p
  match l with
  |[]=>cases p.2<;>rfl
  |[a]=>cases p.2<;>rfl
  |[a,b]=>cases p.2<;>rfl
  |a::b::c::r=>
   have e:(Int.ofNat (a::b::c::r).length==2)=false:=vU 2 _ (by simp)
   rw[e]
   cases p.2<;>rfl
 simp only[Ah]
 cases n16:eqU s.data.toList [115,117,98,115,116,114]
 rotate_left
 ·simp only [Ai]
  match l with
  |[]=>rfl
  |[a]=>rfl
  |[a,b]=>rfl
  |[a,b,c]=>
   show (bif a==0 then(bif b==0 then(bif c==0 then _ else bif !(c==2)then _ else _)else bif b==2 then(bif c==0 then _ else bif !(c==2)then _ else _)else _)else bif a==4 then(bif b==0 then(bif c==0 then _ else bif !(c==2)then _ else _)else bif b==2 then(bif c==0 then _ else bif !(c==2)then _ else _)else _)else _)=some (Fit.two (Fit.rP ((a==0||a==4)&&((b==0||b==2)&&(c==0||c==2))) _))
   cases a==0<;>cases a==4<;>cases b==0<;>cases b==2<;>cases c==0<;>cases c==2<;>rfl
  |a::b::c::d::r=>
   have e:(Int.ofNat (a::b::c::d::r).length==3)=false:=vU 3 _ (by simp)
   rw[e];rfl
 simp only[Ah]
 cases n17:eqU s.data.toList [116,111,116,101,120,116]
 rotate_left
 ·simp only [Ai]
  cases Int.ofNat l.length==1<;>rfl
 rfl
def spec:Spec:=fun aa=>match aa with
 |[.v (.string s),.sl n 1 cs]=>some (.qI (wm n (Int.ofNat n) cs) (.out (Fit.two (Ref.jw s (cs.map vH)))))
 |[.v (.string s),.nil]=>some (.out (Fit.two (0,100)))
 |_=>none
theorem eO (s:ByteArray):(A38n.T s).eval=some (Fit.two (0,100)):=by
 unfold A38n.T
 simp only[GT.eval,A14.same]
 rfl
theorem qg:qu Tryz.prog La 38 spec:=⟨qD (by kernel_rfl),fun aa t v h e=>by
 unfold spec at h
 split at h
 ·rename_i s n cs
  cases h
  obtain⟨g1,g2⟩:=GT.qh e
  cases g2
  obtain⟨_,hn,l,rfl,h4,rfl⟩:=vV g1
  rw[h4]
  exact⟨rfl,qS qx qf qd (by simpa using A91.qg) (by simpa using⟨A38L0.qE,A38L1.qE⟩) (by decide) (by simp) rfl ((run _ _ _).trans (qN _ _ hn))⟩
 ·cases h; cases e
  exact⟨rfl,qS qx qf qd (by simpa using A91.qg) (by simp) (by decide) (by simp) rfl ((A38n.run _).trans (eO _))⟩
 ·cases h⟩
end A38
namespace A42L0
noncomputable def cfg:Cfg:=zw Tryz.prog 4 (gpT [(95,A95.spec)]) (ltT 4 [])
def stA (nm:ByteArray) (n:Nat) (i kb nb:Int) (sb:ByteArray):KX:=⟨[(0,.string nm),(1,.slice (some ⟨1,0,none⟩) n 3),(4,.pointer (some ⟨4,0,none⟩)),(5,.pointer (some ⟨6,0,none⟩)),(6,.int .i64 i)],[[.int .i64 kb,.int .i64 nb,.string sb]]⟩
def kp:Ex→List Nat
 | .normal=>[0,1,4,5,6]
 | .exit _=>[4,5]
 |_=>[]
def cr:Ex→St→List (Nat×Bool):=fun _ s=>[(6,true)]
theorem round (nm:ByteArray) (n:Nat) (i kb nb:Int) (sb:ByteArray) (cs:List Value):zN cfg [(95,A95.spec)] [] 42 0 (stK 55 6 [(1,cs)] (stA nm n i kb nb sb)) (zv 6 100 55 kp cr)=(let x1:=0+(i.toNat*3);let x2:=IntKind.wrap .i64 (i+1);let x3:=rdS cs ((x1+1)+1);let o1:Option (Ex×KX):=(bif decide (0≤i)then(bif Nat.blt i.toNat n then(bif isL cs x1 [(.i .i64),(.i .i64),.s]then(some (.normal,⟨[(0,.string nm),(1,.slice (some ⟨1,0,none⟩) n 3),(4,.pointer (some ⟨4,0,none⟩)),(5,.pointer (some ⟨6,0,none⟩)),(6,.int .i64 x2)],[[.int .i64 (rdI cs x1),.int .i64 (rdI cs (x1+1)),.string x3]]⟩))else none)else none)else none);let o2:Option (Ex×KX):=(some (.normal,⟨[(0,.string nm),(1,.slice (some ⟨1,0,none⟩) n 3),(4,.pointer (some ⟨4,0,none⟩)),(5,.pointer (some ⟨6,0,none⟩)),(6,.int .i64 x2)],[[.int .i64 kb,.int .i64 nb,.string sb]]⟩));let o3:Option (Ex×KX):=(bif eqU nm.data.toList [108,101,97,115,116]then(bif decide ((Ref.zB (rdI cs x1) (rdI cs (x1+1)) x3 kb nb sb).1<0)then o1 else o2)else o2);(bif decide (i<(Int.ofNat n))then(bif decide (0≤i)then(bif Nat.blt i.toNat n then(bif isL cs x1 [(.i .i64),(.i .i64),.s]then(bif eqU nm.data.toList [99,111,97,108,101,115,99,101]then(bif(kb==0)then o1 else o2)else(bif eqU nm.data.toList [103,114,101,97,116,101,115,116]then(bif decide ((Ref.zB (rdI cs x1) (rdI cs (x1+1)) x3 kb nb sb).1>0)then o1 else o3)else o3))else none)else none)else none)else(some (.exit 0,⟨[(4,.pointer (some ⟨4,0,none⟩)),(5,.pointer (some ⟨6,0,none⟩))],[[.int .i64 kb,.int .i64 nb,.string sb]]⟩)))):=by kernel_rfl
def upd (nm:ByteArray) (b v:W3):W3:=bif Ref.jv nm b v then v else b
def stV (nm:ByteArray) (n:Nat) (i:Int) (b:W3):KX:=stA nm n i b.1 b.2.1 b.2.2
def stE (b:W3):KX:=⟨[(4,.pointer (some ⟨4,0,none⟩)),(5,.pointer (some ⟨6,0,none⟩))],[[.int .i64 b.1,.int .i64 b.2.1,.string b.2.2]]⟩
def jk (nm:ByteArray) (k n:Int) (s:ByteArray) (l:List W3):W3:=l.tail.foldl (upd nm) (k,n,s)
def D:KD:=⟨55,6,100,[0,1,4,5,6],[1],fun _=>[(5,true)],fun x ro=>match x.vs,x.cars,ro with
 |[(0,.string nm),(1,.slice (some ⟨1,0,none⟩) n 3),(4,.pointer (some ⟨4,0,none⟩)),(5,.pointer (some ⟨6,0,none⟩)),(6,.int .i64 1)],[[.int .i64 kb,.int .i64 nb,.string sb]],[(1,cs)]=>
  .qI (kV n (Int.ofNat n) cs&&Nat.blt 0 n) (.out (.exit 0,stE (jk nm kb nb sb (qj cs))))
 |_,_,_=> .no⟩
def lp:LpK:=⟨42,3,0,D⟩
theorem zZ: ∀p∈[((95:FuncId),A95.spec)],qu Tryz.prog La p.1 p.2:=by simpa using A95.qg
theorem next (nm:ByteArray) (l:List W3) (hn:l.length<6000000000000) (p:W3) {j:Nat} (hj:j<l.length):
  zN cfg [(95,A95.spec)] [] 42 0 (stK 55 6 [(1,qm l)] (stV nm l.length j p)) (zv 6 100 55 kp cr)=
  some (.normal,stV nm l.length ((j+1:Nat):Int) (upd nm p l[j])):=by
 have h1:=ltI hj
 have h2:=geI j
 have h3:=j7 hj
 have h4:(0+((j:Int)).toNat*3)=j*3:=by simp
 have h5:=wrI j (by omega)
 have hs:rdS (qm l) (j*3+1+1)=l[j].2.2:=kE l hj
 unfold stV
 rw[round]
 dsimp only[]
 simp only[h1,h2,h3,h4,h5,ke l hj,zU l hj,zT l hj,hs,Ai]
 generalize l[j]=v
 unfold upd Ref.jv
 obtain⟨kb,nb,sb⟩:=p
 dsimp only[]
 generalize eqU nm.data.toList [99,111,97,108,101,115,99,101]=q
 generalize eqU nm.data.toList [103,114,101,97,116,101,115,116]=g
 generalize eqU nm.data.toList [108,101,97,115,116]=m
 generalize (Ref.zB v.1 v.2.1 v.2.2 kb nb sb).1=c1
 cases q<;>cases (kb==0)<;>cases g<;>cases m<;>cases decide (c1>0)<;>cases decide (c1<0)<;>rfl
theorem qE:zq Tryz.prog La 4 lp:=by
 refine⟨by kernel_rfl,fun c base I hP hn hG hI hIL x ro ex y e=> ?_⟩
 obtain⟨vs,cars⟩:=x
 simp only[lp,D]at e ⊢
 split at e
 ·rename_i nm n kb nb sb cs
  obtain⟨g1,g2⟩:=GT.qh e
  simp only[Ag]at g1
  obtain⟨_,hn2,h4,h5⟩:=zM g1.1
  have h0:=g1.2
  generalize qj cs=l at h4 h5 g2
  subst h4 h5
  rw[AB]at h0
  have hlen:l.tail.length+1=l.length:=by cases l with
   |nil=>cases h0
   |cons v l=>simp
  have key:=zA (Step:= @zy (zL base) c base I (qV Tryz.prog 42 0) 55 6 100 [(1,qm l)]) (step:=fun p v=> .inl (upd nm p v)) (fin:=fun p=>(.exit 0,stE p)) (st:=fun p j=>stV nm l.length ((j+1:Nat):Int) p) (l:=l.tail) (fun s=>by simp) (fun s a r h=>by cases h) (fun p j hj=>by
    have hr:=next nm l hn2 p (j:=j+1) (by omega)
    have et:l[j+1]'(by omega)=l.tail[j]:=by simp
    rw[et]at hr
    exact stepT qf qd zZ (by simp) hP hn hG hI hIL hr) (fun p=>by
    have h1:decide (((l.tail.length+1:Nat):Int)<Int.ofNat l.length)=false:=An (by show¬((l.tail.length+1:Nat):Int)<(l.length:Int);omega)
    have hr:=round nm l.length ((l.tail.length+1:Nat):Int) p.1 p.2.1 p.2.2 (qm l)
    dsimp only[]at hr
    simp only[h1,Ah]at hr
    exact stepT qf qd zZ (by simp) hP hn hG hI hIL hr) l.tail.length 0 (kb,nb,sb) (by omega)
  rw[AD,kJ]at key
  cases g2
  exact key
 ·cases e
end A42L0
namespace A42
def T (s0:ByteArray) (m1:Nat) (c1:List Value):GT Value:=let x1:=A42L0.jk s0 (rdI c1 0) (rdI c1 1) (rdS c1 2) (qj c1);(.br (Nat.blt 0 m1) (.br (isL c1 0 [(.i .i64),(.i .i64),.s]) (.br (true&&([((1:Nat),c1)]).all fun p=>p.snd.all qp) (.br ((decide ((Int.ofNat m1)=(Int.ofNat m1))&&((vA c1)&&(Nat.beq c1.length (m1*3)&&Nat.blt m1 6000000000000)))&&Nat.blt 0 m1) (.out (.agg #[.int .i64 x1.1,.int .i64 x1.2.1,.string x1.2.2])) .no) .no) .no) .no)
theorem run (s0:ByteArray) (m1:Nat) (c1:List Value):runK 4 [(95,A95.spec)] [A42L0.lp] 42 [.v (.string s0),.sl m1 3 c1]=(T s0 m1 c1).eval:=by kernel_rfl
theorem qN (s:ByteArray) (l:List W3) (hl:l.length<6000000000000) (h0:Nat.blt 0 l.length=true):(T s l.length (qm l)).eval=some (vv (Ref.wM s l)):=by
 have g:Nat.blt l.length 6000000000000=true:=by rw[AB];exact hl
 have h0':0<l.length:=by rwa [AB]at h0
 have q0:rdI (qm l) 0=(l.headD v0).1:=by have:=zU l h0';rw[A37.at0 l h0']at this;exact this
 have q1:rdI (qm l) 1=(l.headD v0).2.1:=by have:=zT l h0';rw[A37.at0 l h0']at this;exact this
 have q2:rdS (qm l) 2=(l.headD v0).2.2:=by have:=kE l h0';rw[A37.at0 l h0']at this;exact this
 have q3:isL (qm l) 0 [.i .i64,.i .i64,.s]=true:=ke l h0'
 unfold T
 simp only[g,h0,q0,q1,q2,q3,vy,zh,qO,zn,A5,decide_true,AI,GT.eval,Ai,A1,BS]
 rfl
def spec:Spec:=fun aa=>match aa with
 |[.v (.string s),.sl n 3 cs]=>some (.qI (kV n (Int.ofNat n) cs&&Nat.blt 0 n) (.out (vv (Ref.wM s (qj cs)))))
 |[.v (.string _),.nil]=>some .no
 |_=>none
theorem qg:qu Tryz.prog La 42 spec:=⟨qD (by kernel_rfl),fun aa t v h e=>by
 unfold spec at h
 split at h
 ·rename_i s n cs
  cases h
  obtain⟨g1,g2⟩:=GT.qh e
  cases g2
  simp only[Ag]at g1
  obtain⟨_,hn,h4,h5⟩:=zM g1.1
  have h0:=g1.2
  generalize qj cs=l at h4 h5
  subst h4 h5
  exact⟨rfl,qS qx qf qd (by simpa using A95.qg) (by simpa using A42L0.qE) (by decide) (by simp) rfl ((run _ _ _).trans (qN _ _ hn h0))⟩
 ·cases h;cases e
 ·cases h⟩
end A42
namespace A43
def T (s0:ByteArray) (k1 n1:Int) (s1:ByteArray):GT Value:=let x1:=IntKind.wrap .i64 (Int.tdiv n1 10000);let x2:=Int.tmod n1 10000;let x3:=IntKind.wrap .i64 (x1+1);let x4:=IntKind.wrap .i64 (x1 - 1);let x5:=IntKind.wrap .i64 (0 - n1);let o1:GT Value:=(.out (.tuple #[.agg #[.int .i64 2,.int .i64 x4,.string ⟨#[]⟩],.int .i64 0]));let o2:GT Value:=(.out (.tuple #[.agg #[.int .i64 2,.int .i64 x1,.string ⟨#[]⟩],.int .i64 0]));let o3:GT Value:=(.out (.tuple #[.agg #[.int .i64 2,.int .i64 x3,.string ⟨#[]⟩],.int .i64 0]));let y1:=Ref.ki k1 n1;let y2:=decide (x2≤(-5000));(.br (eqU s0.data.toList [97,98,115]) (.br (n1==(-9223372036854775808)) (.out (.tuple #[.agg #[.int .i64 0,.int .i64 0,.string ⟨#[]⟩],.int .i64 20])) (.out (.tuple #[.agg #[.int .i64 k1,.int .i64 (if x5>n1 then x5 else n1),.string ⟨#[]⟩],.int .i64 0]))) (.br (eqU s0.data.toList [115,105,103,110]) (.br (decide (n1<0)) (.out (.tuple #[.agg #[.int .i64 2,.int .i64 (-1),.string ⟨#[]⟩],.int .i64 0])) (.br (decide (n1>0)) (.out (.tuple #[.agg #[.int .i64 2,.int .i64 1,.string ⟨#[]⟩],.int .i64 0])) (.out (.tuple #[.agg #[.int .i64 2,.int .i64 0,.string ⟨#[]⟩],.int .i64 0])))) (.br (eqU s0.data.toList [116,111,100,101,99]) (.out (.tuple #[.agg #[.int .i64 y1.1.1,.int .i64 y1.1.2.1,.string y1.1.2.2],.int .i64 y1.2])) (.br (k1==2) (.out (.tuple #[.agg #[.int .i64 k1,.int .i64 n1,.string s1],.int .i64 0])) (.br (eqU s0.data.toList [102,108,111,111,114]) (.br (decide (x2<0)) o1 o2) (.br (eqU s0.data.toList [99,101,105,108]) (.br (decide (x2>0)) o3 o2) (.br (eqU s0.data.toList [114,111,117,110,100]) (.br (decide (x2≥5000)) (.br y2 (.out (.tuple #[.agg #[.int .i64 2,.int .i64 (IntKind.wrap .i64 (x3 - 1)),.string ⟨#[]⟩],.int .i64 0])) o3) (.br y2 o1 o2)) o2)))))))
theorem run (s0:ByteArray) (k1 n1:Int) (s1:ByteArray):runK 4 [(97,A97.spec)] [] 43 [.v (.string s0),.v (.agg #[.int .i64 k1,.int .i64 n1,.string s1])]=(T s0 k1 n1 s1).eval:=by kernel_rfl
theorem qN (s:ByteArray) (v:W3):(T s v.1 v.2.1 v.2.2).eval=some (ve (Ref.kR s v)):=by
 unfold Ref.kR Ref.kl T
 dsimp only[]
 simp only[GT.eval]
 cases n0:eqU s.data.toList [97,98,115]
 rotate_left
 ·cases v.2.1== -9223372036854775808<;>rfl
 simp only[Ah]
 cases n1:eqU s.data.toList [115,105,103,110]
 rotate_left
 ·unfold Fit.Kv
  cases decide (v.2.1<0)<;>cases decide (v.2.1>0)<;>rfl
 simp only[Ah]
 cases n2:eqU s.data.toList [116,111,100,101,99]
 rotate_left
 ·rfl
 simp only[Ah]
 cases v.1==2
 rotate_left
 ·rfl
 simp only[Ah]
 cases n3:eqU s.data.toList [102,108,111,111,114]
 rotate_left
 ·cases decide (Int.tmod v.2.1 10000<0)<;>rfl
 simp only[Ah]
 cases n4:eqU s.data.toList [99,101,105,108]
 rotate_left
 ·cases decide (Int.tmod v.2.1 10000>0)<;>rfl
 simp only[Ah]
 cases n5:eqU s.data.toList [114,111,117,110,100]
 rotate_left
 ·cases decide (Int.tmod v.2.1 10000≥5000)<;>cases decide (Int.tmod v.2.1 10000≤ -5000)<;>rfl
 rfl
def spec:Spec:=fun aa=>match aa with
 |[.v (.string s),a]=>(vOf a).bind fun x=>some (.out (ve (Ref.kR s x)))
 |_=>none
theorem qg:qu Tryz.prog La 43 spec:=⟨qD (by kernel_rfl),fun aa t v h e=>by
 unfold spec at h
 split at h
 ·rename_i s a
  obtain⟨x,h1,h⟩:=qi h
  cases h;cases e
  rw[qM h1]
  exact⟨rfl,qS (l:=[(97,A97.spec)]) (L:=[]) (n0:=4) (k:=12) qx qf qd (by simpa using A97.qg) (by simp) (by decide) (by simp) rfl ((run _ _ _ _).trans (qN _ _))⟩
 ·cases h⟩
end A43
namespace A46L0
noncomputable def cfg:Cfg:=zw Tryz.prog 4 (gpT []) (ltT 4 [])
def box:List Value:=[.int .i64 0,.int .i64 0,.string ⟨#[]⟩]
def stN (n:Nat) (e i:Int):KX:=⟨[(1,.slice (some ⟨1,0,none⟩) n 3),(4,.pointer (some ⟨5,0,none⟩)),(5,.int .i64 e),(7,.slice none 0 0),(8,.int .i64 i)],[box]⟩
def stR (n:Nat) (e i:Int) (k:Nat) (row:List Value):KX:=⟨[(1,.slice (some ⟨1,0,none⟩) n 3),(4,.pointer (some ⟨5,0,none⟩)),(5,.int .i64 e),(7,.slice (some ⟨6,0,none⟩) k 1),(8,.int .i64 i)],[box,row]⟩
def qP:KX:=⟨[(4,.pointer (some ⟨5,0,none⟩)),(5,.int .i64 20)],[box]⟩
def exN (e:Int):KX:=⟨[(4,.pointer (some ⟨5,0,none⟩)),(5,.int .i64 e),(7,.slice none 0 0)],[box]⟩
def exR (e:Int) (k:Nat) (row:List Value):KX:=⟨[(4,.pointer (some ⟨5,0,none⟩)),(5,.int .i64 e),(7,.slice (some ⟨6,0,none⟩) k 1)],[box,row]⟩
def kp:Ex→List Nat
 | .normal=>[1,4,5,7,8]
 | .exit _=>[4,5,7]
 | .ret=>[4,5]
def cr:Ex→St→List (Nat×Bool):=fun ex s=>match ex,s.T.get 7 with
 | .ret,_=>[(5,true)]
 |_,some (.slice (some p) _ _)=>[(5,true),(p.block,true)]
 |_,_=>[(5,true)]
theorem vw (n:Nat) (e i:Int) (cs:List Value):zN cfg [] [] 46 0 (stK 131 5 [(1,cs)] (stN n e i)) (zv 5 100 131 kp cr)=(let y2:=(0+(i.toNat*3))+2;let x1:=rdS cs y2;let y1:=x1.data.toList;let x2:=0+y1.length;let x3:=IntKind.wrap .i64 (i+1);(bif decide (i<(Int.ofNat n))then(bif decide (0≤i)then(bif Nat.blt i.toNat n then(bif isV cs y2 .s then(bif Nat.beq y1.length 0 then(some (.normal,stN n e x3))else(bif Nat.ble x2 200000000000000 then(bif Nat.ble (x2*1) 200000000000000 then(bif(y1.map fun b=>Value.int IntKind.u8 ↑b.toNat).all wz then(bif decide ((Int.ofNat y1.length)>1024)then(some (.ret,qP))else(bif(y1.map fun b=>Value.int IntKind.u8 ↑b.toNat).all qp&&true then(some (.normal,⟨[(1,.slice (some ⟨1,0,none⟩) n 3),(4,.pointer (some ⟨5,0,none⟩)),(5,.int .i64 e),(7,.slice (some ⟨6,0,none⟩) y1.length 1),(8,.int .i64 x3)],[[.int .i64 0,.int .i64 0,.string ⟨#[]⟩],(y1.map fun b=>Value.int IntKind.u8 ↑b.toNat)]⟩))else none))else none)else none)else none))else none)else none)else none)else(some (.exit 1,exN e)))):=by kernel_rfl
theorem kl (n:Nat) (e i:Int) (k:Nat) (row:List Value) (cs:List Value):zN cfg [] [] 46 0 (stK 131 5 [(1,cs)] (stR n e i k row)) (zv 5 100 131 kp cr)=(let y4:=(0+(i.toNat*3))+2;let x1:=rdS cs y4;let x2:=IntKind.wrap .i64 (i+1);let y1:=x1.data.toList;let y2:=k+y1.length;let y3:=(row.drop 0).take (k*1);(bif decide (i<(Int.ofNat n))then(bif decide (0≤i)then(bif Nat.blt i.toNat n then(bif isV cs y4 .s then(bif Nat.beq y1.length 0 then(bif decide ((Int.ofNat k)>1024)then(some (.ret,qP))else(bif row.all qp&&true then(some (.normal,stR n e x2 k row))else none))else(bif Nat.ble y2 200000000000000 then(bif Nat.ble (y2*1) 200000000000000 then(bif(y1.map fun b=>Value.int IntKind.u8 ↑b.toNat).all wz then(bif Nat.ble (0+(k*1)) row.length then(bif decide ((Int.ofNat y2)>1024)then(some (.ret,qP))else(bif(y3++(y1.map fun b=>Value.int IntKind.u8 ↑b.toNat)).all qp&&true then(some (.normal,stR n e x2 y2 (y3++(y1.map fun b=>Value.int IntKind.u8 ↑b.toNat))))else none))else none)else none)else none)else none))else none)else none)else none)else(bif row.all qp&&true then(some (.exit 1,exR e k row))else none))):=by kernel_rfl
def _root_.Go.Proofs.YtaiokpmmjbiajaaGreatDoorDx.Ref.Jz (l:List W3):Bool:=(Ref.ZH [] l).isNone
def _root_.Go.Proofs.YtaiokpmmjbiajaaGreatDoorDx.Ref.Zu (l:List W3):List UInt8:=(Ref.ZH [] l).getD []
def bv (l:List UInt8):List Value:=l.map fun b=>Value.int IntKind.u8 ↑b.toNat
theorem Ki (l:List UInt8):(bv l).all qp=true:=by
 rw[Ap]
 intro x hx
 obtain⟨y,_,rfl⟩:=Bk.1 hx
 rfl
theorem nG (l:List UInt8):(bv l).all wz=true:=by
 rw[Ap]
 intro x hx
 obtain⟨y,_,rfl⟩:=Bk.1 hx
 rfl
theorem WM (l:List UInt8):(bv l).length=l.length:=AM _
theorem rf (l:List UInt8):(bv l).all ep=true:=by
 rw[Ap]
 intro x hx
 obtain⟨y,_,rfl⟩:=Bk.1 hx
 rfl
theorem nD (l:List UInt8):u8L (bv l)=⟨l.toArray⟩:=by
 unfold u8L bv
 rw[List.map_map]
 have:(Yx ∘ fun b:UInt8=>Value.int IntKind.u8 (b.toNat:Int))=id:=by
  funext b
  show UInt8.ofNat ((b.toNat:Int)).toNat=b
  simp
 rw[this,List.map_id]
def st (n:Nat) (acc:List UInt8) (j:Nat):KX:=bif Nat.beq acc.length 0 then stN n 0 j else stR n 0 j acc.length (bv acc)
def fin (acc:List UInt8):KX:=bif Nat.beq acc.length 0 then exN 0 else exR 0 acc.length (bv acc)
def res:Option (List UInt8)→Ex×KX
 |none=>(.ret,qP)
 |some acc=>(.exit 1,fin acc)
theorem chain {Step:KX→Ex→KX→Prop} (l:List W3) (hn:l.length<6000000000000) (hs: ∀v∈l,v.2.2.data.toList.length≤1000000)
  (hN: ∀(i:Int) ex y,zN cfg [] [] 46 0 (stK 131 5 [(1,qm l)] (stN l.length 0 i)) (zv 5 100 131 kp cr)=some (ex,y)→Step (stN l.length 0 i) ex y)
  (hR: ∀(i:Int) (k:Nat) (row:List Value) ex y,zN cfg [] [] 46 0 (stK 131 5 [(1,qm l)] (stR l.length 0 i k row)) (zv 5 100 131 kp cr)=some (ex,y)→Step (stR l.length 0 i k row) ex y):
  ∀(k j:Nat) (acc:List UInt8),j+k=l.length→acc.length≤1024→zI Step (st l.length acc j) (res (Ref.ZH acc (l.drop j))).1 (res (Ref.ZH acc (l.drop j))).2:=by
 intro k
 induction k with
 |zero=>
  intro j acc h ha
  obtain rfl:j=l.length:=by omega
  have h1:=j6 l.length
  rw[B6]
  show zI Step _ (.exit 1) (fin acc)
  unfold st fin
  cases hb:Nat.beq acc.length 0
  ·exact .stop (by simp) (hR _ _ _ _ _ (by rw[kl];dsimp only[];simp only[h1,Ki,AE];rfl))
  ·exact .stop (by simp) (hN _ _ _ (by rw[vw];dsimp only[];simp only[h1];rfl))
 |succ k ih=>
  intro j acc h ha
  have hj:j<l.length:=by omega
  have h1:=ltI hj
  have h2:=geI j
  have h3:=j7 hj
  have h4:(0+((j:Int)).toNat*3)=j*3:=by simp
  have h5:=wrI j (by omega)
  have h6:rdS (qm l) (j*3+2)=l[j].2.2:=kE l hj
  have h7:isV (qm l) (j*3+2) .s=true:=by unfold isV;rw[k6 2 (by omega) l hj];rfl
  have hsz:=hs l[j] (Bf hj)
  rw[A8 hj,Ref.ZH]
  generalize l[j].2.2=t at h6 hsz ⊢
  have oe: ∀y:List UInt8,(y.map fun b=>Value.int IntKind.u8 ↑b.toNat).all wz=true:=nG
  have se: ∀y:List UInt8,(y.map fun b=>Value.int IntKind.u8 ↑b.toNat).all qp=true:=Ki
  have hgt: ∀m:Nat,decide ((Int.ofNat m)>1024)=decide (m>1024):=fun m=>by
   by_cases h:m>1024
   ·rw[Al h,Al (by show (m:Int)>1024;omega)]
   ·rw[An h,An (by show¬(m:Int)>1024;omega)]
  have hL:(acc++t.data.toList).length=acc.length+t.data.toList.length:=AO
  cases ha0:acc with
  |nil=>
   subst ha0
   have e1:st l.length ([]:List UInt8) j=stN l.length 0 j:=rfl
   rw[e1,Bl]
   have hr:=vw l.length 0 (j:Int) (qm l)
   dsimp only[]at hr
   simp only[h1,h2,h3,h4,h5,h6,h7,Ai,oe,se,hgt,AE]at hr
   cases hx:t.data.toList with
   |nil=>
    rw[hx]at hr
    rw[Aq (by simp)]
    exact .next (hN _ _ _ hr) (ih (j+1) [] (by omega) (by simp))
   |cons b r=>
    rw[←hx]
    have q0:Nat.beq t.data.toList.length 0=false:=by rw[hx];rfl
    have q1:Nat.ble (0+t.data.toList.length) 200000000000000=true:=by rw[Az];omega
    have q2:Nat.ble ((0+t.data.toList.length)*1) 200000000000000=true:=by rw[Az];omega
    simp only[q0,q1,q2,Ai,Ah]at hr
    by_cases hg:t.data.toList.length>1024
    ·rw [Ax hg]
     rw[Al hg]at hr
     exact .stop (by simp[res]) (hN _ _ _ hr)
    ·rw [Aq hg]
     rw[An hg]at hr
     have e2:st l.length t.data.toList (j+1)=stR l.length 0 ((j+1:Nat):Int) t.data.toList.length (bv t.data.toList):=by unfold st;rw[q0];rfl
     have hi:=ih (j+1) t.data.toList (by omega) (by omega)
     rw[e2]at hi
     exact .next (hN _ _ _ hr) hi
  |cons c a=>
   rw[←ha0]
   have q0:Nat.beq acc.length 0=false:=by rw[ha0];rfl
   have e1:st l.length acc j=stR l.length 0 j acc.length (bv acc):=by unfold st;rw[q0];rfl
   rw[e1]
   have hr:=kl l.length 0 (j:Int) acc.length (bv acc) (qm l)
   have w1:((bv acc).drop 0).take (acc.length*1)=bv acc:=by rw[AD,BY,AJ (by rw[WM];exact Aw _)]
   dsimp only[]at hr
   have q3:Nat.ble (0+acc.length*1) (bv acc).length=true:=by rw[Az,WM];omega
   have sb:(bv acc++t.data.toList.map fun b=>Value.int IntKind.u8 ↑b.toNat).all qp=true:=by rw[BP,Ki,se];rfl
   have eb:(bv acc++t.data.toList.map fun b=>Value.int IntKind.u8 ↑b.toNat)=bv (acc++t.data.toList):=by unfold bv;rw[BH]
   simp only[h1,h2,h3,h4,h5,h6,h7,Ai,oe,hgt,AE,w1,q3,sb,Ki]at hr
   have q0':Nat.beq (acc++t.data.toList).length 0=false:=by rw[ha0];rfl
   have e2:st l.length (acc++t.data.toList) (j+1)=stR l.length 0 ((j+1:Nat):Int) (acc.length+t.data.toList.length) (bv (acc++t.data.toList)):=by unfold st;rw[q0',hL];rfl
   rw[hL]
   cases hb:Nat.beq t.data.toList.length 0 with
   |true=>
    have hx:t.data.toList=[]:=AP.1 (Am hb)
    have hxl:t.data.toList.length=0:=Am hb
    rw[hb]at hr
    simp only[Ai]at hr
    rw[Aq (by omega)]
    rw[An (by omega)]at hr
    have hi:=ih (j+1) (acc++t.data.toList) (by omega) (by omega)
    rw[e2]at hi
    rw[hxl]at hi
    rw[hx,A0]at hi ⊢
    exact .next (hR _ _ _ _ _ hr) hi
   |false=>
    have q1:Nat.ble (acc.length+t.data.toList.length) 200000000000000=true:=by rw[Az];omega
    have q2:Nat.ble ((acc.length+t.data.toList.length)*1) 200000000000000=true:=by rw[Az];omega
    rw[hb]at hr
    simp only[q1,q2,Ai,Ah,eb]at hr
    by_cases hg:acc.length+t.data.toList.length>1024
    ·rw [Ax hg]
     rw[Al hg]at hr
     exact .stop (by simp[res]) (hR _ _ _ _ _ hr)
    ·rw [Aq hg]
     rw[An hg]at hr
     have hi:=ih (j+1) (acc++t.data.toList) (by omega) (by omega)
     rw[e2]at hi
     exact .next (hR _ _ _ _ _ hr) hi
def D:KD:=⟨131,5,100,[1,4,5,7,8],[1],fun _=>[(4,true)],fun x ro=>match x.vs,x.cars,ro with
 |[(1,.slice (some ⟨1,0,none⟩) n 3),(4,.pointer (some ⟨5,0,none⟩)),(5,.int .i64 0),(7,.slice none 0 0),(8,.int .i64 0)],[[.int .i64 0,.int .i64 0,.string z]],[(1,cs)]=>
  .qI (Nat.beq z.data.toList.length 0) (.qI (kV n (Int.ofNat n) cs&&(qj cs).all A37L0.jn) (.br (Ref.Jz (qj cs)) (.out (.ret,qP)) (.br (Nat.beq (Ref.Zu (qj cs)).length 0) (.out (.exit 1,exN 0)) (.out (.exit 1,exR 0 (Ref.Zu (qj cs)).length (bv (Ref.Zu (qj cs))))))))
 |_,_,_=> .no⟩
def lp:LpK:=⟨46,6,0,D⟩
theorem qE:zq Tryz.prog La 4 lp:=by
 refine⟨by kernel_rfl,fun c base I hP hn hG hI hIL x ro ex y e=> ?_⟩
 obtain⟨vs,cars⟩:=x
 simp only[lp,D]at e ⊢
 split at e
 ·rename_i n z cs
  obtain⟨g0,e⟩:=GT.qh e
  obtain⟨g1,g2⟩:=GT.qh e
  have hz:z=⟨#[]⟩:=ByteArray.ext (Array.toList_inj.1 (AP.1 (Am g0)))
  subst hz
  simp only[Ag]at g1
  obtain⟨_,hn2,h4,h5⟩:=zM g1.1
  have hsh:=g1.2
  generalize qj cs=l at h4 h5 g2 hsh
  subst h4 h5
  have hsp: ∀p∈([]:List (FuncId×Spec)),qu Tryz.prog La p.1 p.2:=by simp
  have key:=chain (Step:= @zy (zL base) c base I (qV Tryz.prog 46 0) 131 5 100 [(1,qm l)]) l hn2 (fun v hv=>by
   have:=Ap.1 hsh v hv
   unfold A37L0.jn at this
   rw[Az]at this
   omega) (fun i ex y h=>stepT qf qd hsp (by simp) hP hn hG hI hIL h) (fun i k row ex y h=>stepT qf qd hsp (by simp) hP hn hG hI hIL h) l.length 0 [] (by omega) (by simp)
  rw[AD]at key
  have e0:st l.length [] 0=stN l.length 0 (0:Int):=rfl
  rw[e0]at key
  unfold Ref.Jz Ref.Zu at g2
  cases hc:Ref.ZH [] l with
  |none=>rw[hc]at g2 key;cases g2;exact key
  |some out=>
   rw[hc]at g2 key
   rw[GT.eval]at g2
   simp only[Option.isNone,Option.getD_some,Ah]at g2
   dsimp only[res,fin]at key
   cases hb:Nat.beq out.length 0 with
   |true=>rw[GT.eval,hb]at g2;cases g2;rw[hb]at key;exact key
   |false=>rw[GT.eval,hb]at g2;cases g2;rw[hb]at key;exact key
 ·cases e
end A46L0
namespace A46L1
noncomputable def cfg:Cfg:=zw Tryz.prog 4 (gpT []) (ltT 4 [])
def stA (s:ByteArray):KX:=⟨[(4,.pointer (some ⟨5,0,none⟩)),(5,.int .i64 0),(6,.string s)],[[.int .i64 0,.int .i64 0,.string ⟨#[]⟩]]⟩
def kp:Ex→List Nat
 | .normal=>[4,5,6]
 | .exit _=>[4,5,6]
 |_=>[]
def cr:Ex→St→List (Nat×Bool):=fun _ _=>[(5,true)]
theorem round (s:ByteArray):zN cfg [] [] 46 1 (stK 131 5 [] (stA s)) (zv 5 100 131 kp cr)=(let y1:=s.data.toList;bif(!eqU s.data.toList [])then(bif Nat.blt 0 y1.length then(bif((Int.ofNat (y1.getD 0 0).toNat)==32)then(bif(true&&Nat.ble 1 y1.length)then(some (.normal,stA ⟨((y1.take y1.length).drop 1).toArray⟩))else none)else(some (.exit 3,stA s)))else none)else(some (.exit 3,stA s))):=by kernel_rfl
theorem rq (b:UInt8):(Int.ofNat b.toNat==32)=(b==32):=by
 cases h:b==32
 ·have : b ≠ 32 := fun e => by rw [e] at h; cases h
  exact Ao.2 fun e=>this (Cm.1 (Cl e))
 ·rw[eq_of_beq h];rfl
theorem back (s:ByteArray) {l:List UInt8} (h:s.data.toList=l):s=⟨l.toArray⟩:=by subst h;rfl
theorem chain {Step:KX→Ex→KX→Prop} (hA: ∀(s:ByteArray) ex y,zN cfg [] [] 46 1 (stK 131 5 [] (stA s)) (zv 5 100 131 kp cr)=some (ex,y)→Step (stA s) ex y):
  ∀(l:List UInt8),zI Step (stA ⟨l.toArray⟩) (.exit 3) (stA ⟨(Lib.trimLeftB l 32).toArray⟩)
 |[]=> .stop (by simp) (hA _ _ _ (by rw[round];rfl))
 |b::l=>by
  have hr:=round ⟨(b::l).toArray⟩
  have q0:(!eqU (b::l) [])=true:=rfl
  have q1:Nat.blt 0 (b::l).length=true:=rfl
  have q2:(true&&Nat.ble 1 (b::l).length)=true:=rfl
  have q3:(b::l).getD 0 0=b:=rfl
  simp only[q0,q1,q2,q3,rq,Ai,Bo,BE,AD]at hr
  unfold Lib.trimLeftB
  rw[Bu]
  cases hb:b==32
  ·rw [hb] at hr
   exact .stop (by simp) (hA _ _ _ hr)
  ·rw [hb] at hr
   exact .next (hA _ _ _ hr) (chain hA l)
def D:KD:=⟨131,5,100,[4,5,6],[],fun _=>[(4,true)],fun x ro=>match x.vs,x.cars,ro with
 |[(4,.pointer (some ⟨5,0,none⟩)),(5,.int .i64 0),(6,.string s)],[[.int .i64 0,.int .i64 0,.string z]],[]=>
  .qI (Nat.beq z.data.toList.length 0) (.out (.exit 3,stA ⟨(Lib.trimLeftB s.data.toList 32).toArray⟩))
 |_,_,_=> .no⟩
def lp:LpK:=⟨46,19,1,D⟩
theorem qE:zq Tryz.prog La 4 lp:=by
 refine⟨by kernel_rfl,fun c base I hP hn hG hI hIL x ro ex y e=> ?_⟩
 obtain⟨vs,cars⟩:=x
 simp only[lp,D]at e ⊢
 split at e
 ·rename_i s z
  obtain⟨g0,e⟩:=GT.qh e
  have hz:z=⟨#[]⟩:=back z (AP.1 (Am g0))
  subst hz
  have hsp: ∀p∈([]:List (FuncId×Spec)),qu Tryz.prog La p.1 p.2:=by simp
  have key:=chain (Step:= @zy (zL base) c base I (qV Tryz.prog 46 1) 131 5 100 []) (fun s ex y h=>stepT qf qd hsp (by simp) hP hn hG hI hIL h) s.data.toList
  cases e
  exact key
 ·cases e
end A46L1
namespace A46L2
noncomputable def cfg:Cfg:=zw Tryz.prog 4 (gpT []) (ltT 4 [])
def stA (s:ByteArray):KX:=⟨[(4,.pointer (some ⟨105,0,none⟩)),(5,.int .i64 0),(6,.string s)],[[.int .i64 0,.int .i64 0,.string ⟨#[]⟩]]⟩
def kp:Ex→List Nat
 | .normal=>[4,5,6]
 | .exit _=>[4,5,6]
 |_=>[]
def cr:Ex→St→List (Nat×Bool):=fun _ _=>[(105,true)]
theorem round (s:ByteArray):zN cfg [] [] 46 2 (stK 131 105 [] (stA s)) (zv 105 100 131 kp cr)=(let y1:=s.data.toList;let x1:=IntKind.wrap .i64 ((Int.ofNat y1.length) - 1);(bif(!eqU s.data.toList [])then(bif decide (0≤x1)then(bif Nat.blt x1.toNat y1.length then(bif((Int.ofNat (y1.getD x1.toNat 0).toNat)==32)then(bif(decide (0≤x1)&&Nat.ble x1.toNat y1.length)then(some (.normal,stA ⟨((y1.take x1.toNat).drop 0).toArray⟩))else none)else(some (.exit 5,stA s)))else none)else none)else(some (.exit 5,stA s)))):=by kernel_rfl
theorem chain {Step:KX→Ex→KX→Prop} (hA: ∀(s:ByteArray) ex y,zN cfg [] [] 46 2 (stK 131 105 [] (stA s)) (zv 105 100 131 kp cr)=some (ex,y)→Step (stA s) ex y):
  ∀(l:List UInt8),l.length<1000000→zI Step (stA ⟨l.reverse.toArray⟩) (.exit 5) (stA ⟨(l.dropWhile (· ==32)).reverse.toArray⟩)
 |[],_=> .stop (by simp) (hA _ _ _ (by rw[round];rfl))
 |b::l,hl=>by
  have hr:=round ⟨(l.reverse++[b]).toArray⟩
  have q:(l.reverse++[b]).length=l.length+1:=by simp
  rw[AK]at hl
  have qw:IntKind.wrap .i64 ((Int.ofNat (l.length+1)) - 1)=(l.length:Int):=by
   rw[show (Int.ofNat (l.length+1)) - 1=(l.length:Int)by show ((l.length+1:Nat):Int) - 1=_;omega]
   exact kc (by omega) (by omega)
  have q0:(!eqU (l.reverse++[b]) [])=true:=by
   cases h:l.reverse++[b]with
   |nil=>rw[h]at q;cases q
   |cons _ _=>rfl
  have q1:Nat.blt ((l.length:Int)).toNat (l.length+1)=true:=by rw[AB,Av];omega
  have q2:decide ((0:Int)≤(l.length:Int))=true:=Al (by omega)
  have q4:Nat.ble ((l.length:Int)).toNat (l.length+1)=true:=by rw[Az,Av];omega
  have q3:(l.reverse++[b]).getD ((l.length:Int)).toNat 0=b:=by
   rw[Av,AN,By (by simp)]
   simp
  have q5:(l.reverse++[b]).take ((l.length:Int)).toNat=l.reverse:=by
   rw[Av,Cx (by simp),AJ (by simp)]
  dsimp only[]at hr
  simp only[q,qw,q0,q1,q2,q3,q4,q5,A46L1.rq,Ai,AI,AD]at hr
  rw[Bu,CH]
  cases hb:b==32
  ·rw [hb] at hr
   simp only[BJ,if_false,CH]
   exact .stop (by simp) (hA _ _ _ hr)
  ·rw [hb] at hr
   exact .next (hA _ _ _ hr) (chain hA l (by omega))
def D:KD:=⟨131,105,100,[4,5,6],[],fun _=>[(5,true)],fun x ro=>match x.vs,x.cars,ro with
 |[(4,.pointer (some ⟨105,0,none⟩)),(5,.int .i64 0),(6,.string s)],[[.int .i64 0,.int .i64 0,.string z]],[]=>
  .qI (Nat.beq z.data.toList.length 0) (.qI (Nat.blt s.data.toList.length 1000000) (.out (.exit 5,stA ⟨(Lib.trimRightB s.data.toList 32).toArray⟩)))
 |_,_,_=> .no⟩
def lp:LpK:=⟨46,21,2,D⟩
theorem qE:zq Tryz.prog La 4 lp:=by
 refine⟨by kernel_rfl,fun c base I hP hn hG hI hIL x ro ex y e=> ?_⟩
 obtain⟨vs,cars⟩:=x
 simp only[lp,D]at e ⊢
 split at e
 ·rename_i s z
  obtain⟨g0,e1⟩:=GT.qh e
  obtain⟨g1,e2⟩:=GT.qh e1
  have hz:z=⟨#[]⟩:=A46L1.back z (AP.1 (Am g0))
  subst hz
  rw[AB]at g1
  have hsp: ∀p∈([]:List (FuncId×Spec)),qu Tryz.prog La p.1 p.2:=by simp
  have key:=chain (Step:= @zy (zL base) c base I (qV Tryz.prog 46 2) 131 105 100 []) (fun s ex y h=>stepT qf qd hsp (by simp) hP hn hG hI hIL h) s.data.toList.reverse (by rw[List.length_reverse];exact g1)
  rw[List.reverse_reverse]at key
  cases e2
  exact key
 ·cases e
end A46L2
namespace A102L1
noncomputable def cfg:Cfg:=zw Tryz.prog 4 (gpT []) (ltT 4 [])
def stA (s:ByteArray) (i:Int):KX:=⟨[(0,.string s),(3,.slice none 0 0),(4,.int .i64 i)],[]⟩
def kp:Ex→List Nat
 | .normal=>[0,3,4]
 | .exit _=>[0,3,4]
 |_=>[]
def cr:Ex→St→List (Nat×Bool):=fun _ s=>[]
theorem round (s:ByteArray) (i:Int):zN cfg [] [] 102 1 (stK 35 5 [] (stA s i)) (zv 5 100 35 kp cr)=(let o1:Option (Ex×KX):=(some (.exit 2,⟨[(0,.string s),(3,.slice none 0 0),(4,.int .i64 i)],[]⟩));(bif decide (i<(Int.ofNat (s.data.toList).length))then(bif decide (0≤i)then(bif Nat.blt i.toNat (s.data.toList).length then(bif decide ((Int.ofNat ((s.data.toList).getD i.toNat 0).toNat)≥128)then(bif decide (0≤i)then(bif Nat.blt i.toNat (s.data.toList).length then(bif decide ((Int.ofNat ((s.data.toList).getD i.toNat 0).toNat)<192)then(some (.normal,⟨[(0,.string s),(3,.slice none 0 0),(4,.int .i64 (IntKind.wrap .i64 (i+1)))],[]⟩))else o1)else none)else none)else o1)else none)else none)else o1)):=by kernel_rfl
theorem chain (s:ByteArray) (st:Int→KX) (hs:s.data.toList.length<4611686018427387904) {Step:KX→Ex→KX→Prop} (h: ∀(i:Int) ex y,(bif decide (i<(Int.ofNat ((s).data.toList).length))then(bif decide (0≤i)then(bif Nat.blt (i).toNat ((s).data.toList).length then(bif decide ((Int.ofNat ((((s).data.toList).getD (i).toNat 0)).toNat)≥128)then(bif decide (0≤i)then(bif Nat.blt (i).toNat ((s).data.toList).length then(bif decide ((Int.ofNat ((((s).data.toList).getD (i).toNat 0)).toNat)<192)then(some (Ex.normal,st (IntKind.wrap .i64 (i+1))))else(some (.exit 2,st i)))else none)else none)else(some (.exit 2,st i)))else none)else none)else(some (.exit 2,st i)))=some (ex,y)→Step (st i) ex y):
  ∀(r:List UInt8) (i:Nat),s.data.toList.drop i=r→i≤s.data.toList.length→zI Step (st i) (.exit 2) (st ((i+(r.takeWhile Ref.kj).length:Nat):Int))
 |[],i,hr,hi=>by
  have hle:s.data.toList.length≤i:=List.drop_eq_nil_iff.1 hr
  have h1:decide ((i:Int)<Int.ofNat s.data.toList.length)=false:=An (by show¬(i:Int)<(s.data.toList.length:Int);omega)
  exact .stop (by simp) (h i _ _ (by rw[h1];rfl))
 |b::r,i,hr,hi=>by
  have hlt:i<s.data.toList.length:=by
   rcases Nat.lt_or_ge i s.data.toList.length with h|h
   ·exact h
   ·rw[List.drop_eq_nil_iff.2 h]at hr;cases hr
  have hd:=A8 hlt
  rw[hr]at hd
  obtain⟨hb,hr2⟩:=BD hd
  have h1:decide ((i:Int)<Int.ofNat s.data.toList.length)=true:=Al (by show (i:Int)<(s.data.toList.length:Int);omega)
  have h2:=geI i
  have h3:Nat.blt ((i:Int)).toNat s.data.toList.length=true:=by rw[AB];simpa using hlt
  have h4:s.data.toList.getD ((i:Int)).toNat 0=b:=by rw[Av,AN,Au hlt,←hb];rfl
  have h5:=wrI i (by omega)
  have hh:=h i
  simp only[h1,h2,h3,h4,h5,Ai]at hh
  rw[List.takeWhile_cons]
  by_cases c1:128≤b.toNat
  ·have e1 : decide (Int.ofNat b.toNat ≥ 128) = true := Al (by show (b.toNat : Int) ≥ 128; omega)
   by_cases c2:b.toNat<192
   ·have e2 : decide (Int.ofNat b.toNat < 192) = true := Al (by show (b.toNat : Int) < 192; omega)
    have hc:Ref.kj b=true:=by unfold Ref.kj;rw[Al c1,Al c2];rfl
    rw[hc,Ax rfl,AK]
    have ih:=chain s st hs h r (i+1) hr2.symm (by omega)
    rw[show i+((r.takeWhile Ref.kj).length+1)=i+1+(r.takeWhile Ref.kj).length by omega]
    exact .next (hh _ _ (by rw[e1,e2];rfl)) ih
   ·have e2 : decide (Int.ofNat b.toNat < 192) = false := An (by show ¬ (b.toNat : Int) < 192; omega)
    have hc:Ref.kj b=false:=by unfold Ref.kj;rw[An c2];simp
    rw[hc,Aq (by simp)]
    exact .stop (by simp) (hh _ _ (by rw[e1,e2];rfl))
  ·have e1 : decide (Int.ofNat b.toNat ≥ 128) = false := An (by show ¬ (b.toNat : Int) ≥ 128; omega)
   have hc:Ref.kj b=false:=by unfold Ref.kj;rw[An c1];rfl
   rw[hc,Aq (by simp)]
   exact .stop (by simp) (hh _ _ (by rw[e1];rfl))
def len (s:ByteArray):Int:=Int.ofNat (1+((s.data.toList.drop 1).takeWhile Ref.kj).length)
def D:KD:=⟨35,5,100,[0,3,4],[],fun _=>[],fun x ro=>match x.vs,x.cars,ro with
 |[(0,.string s),(3,.slice none 0 0),(4,.int .i64 1)],[],[]=> .qI (Nat.blt 0 s.data.toList.length&&Nat.blt s.data.toList.length 4611686018427387904) (.out (.exit 2,stA s (len s)))
 |_,_,_=> .no⟩
def lp:LpK:=⟨102,4,1,D⟩
theorem qE:zq Tryz.prog La 4 lp:=by
 refine⟨by kernel_rfl,fun c base I hP hn hG hI hIL x ro ex y e=> ?_⟩
 obtain⟨vs,cars⟩:=x
 simp only[lp,D]at e ⊢
 split at e
 ·rename_i s
  obtain⟨g1,g2⟩:=GT.qh e
  simp only[Ag,AB]at g1
  cases g2
  exact chain s (fun i=>stA s i) g1.2 (Step:= @zy (zL base) c base I (qV Tryz.prog 102 1) 35 5 100 []) (fun i ex y hh=>stepT qf qd (by simp) (by simp) hP hn hG hI hIL ((round s i).trans hh)) _ 1 rfl (by omega)
 ·cases e
end A102L1
namespace A102L1b
noncomputable def cfg:Cfg:=zw Tryz.prog 4 (gpT []) (ltT 4 [])
def stA (s:ByteArray) (k:Nat) (i:Int):KX:=⟨[(0,.string s),(3,.slice (some ⟨5,0,none⟩) k 1),(4,.int .i64 i)],[]⟩
def kp:Ex→List Nat
 | .normal=>[0,3,4]
 | .exit _=>[0,3,4]
 |_=>[]
def cr:Ex→St→List (Nat×Bool):=fun _ s=>[]
theorem round (s:ByteArray) (k:Nat) (i:Int):zN cfg [] [] 102 1 (stK 35 6 [] (stA s k i)) (zv 6 100 35 kp cr)=(let o1:Option (Ex×KX):=(some (.exit 2,⟨[(0,.string s),(3,.slice (some ⟨5,0,none⟩) k 1),(4,.int .i64 i)],[]⟩));(bif decide (i<(Int.ofNat (s.data.toList).length))then(bif decide (0≤i)then(bif Nat.blt i.toNat (s.data.toList).length then(bif decide ((Int.ofNat ((s.data.toList).getD i.toNat 0).toNat)≥128)then(bif decide (0≤i)then(bif Nat.blt i.toNat (s.data.toList).length then(bif decide ((Int.ofNat ((s.data.toList).getD i.toNat 0).toNat)<192)then(some (.normal,⟨[(0,.string s),(3,.slice (some ⟨5,0,none⟩) k 1),(4,.int .i64 (IntKind.wrap .i64 (i+1)))],[]⟩))else o1)else none)else none)else o1)else none)else none)else o1)):=by kernel_rfl
def len (s:ByteArray):Int:=Int.ofNat (1+((s.data.toList.drop 1).takeWhile Ref.kj).length)
def D:KD:=⟨35,6,100,[0,3,4],[],fun _=>[],fun x ro=>match x.vs,x.cars,ro with
 |[(0,.string s),(3,.slice (some ⟨5,0,none⟩) k 1),(4,.int .i64 1)],[],[]=> .qI (Nat.blt 0 s.data.toList.length&&Nat.blt s.data.toList.length 4611686018427387904) (.out (.exit 2,stA s k (len s)))
 |_,_,_=> .no⟩
def lp:LpK:=⟨102,4,1,D⟩
theorem qE:zq Tryz.prog La 4 lp:=by
 refine⟨by kernel_rfl,fun c base I hP hn hG hI hIL x ro ex y e=> ?_⟩
 obtain⟨vs,cars⟩:=x
 simp only[lp,D]at e ⊢
 split at e
 ·rename_i s k
  obtain⟨g1,g2⟩:=GT.qh e
  simp only[Ag,AB]at g1
  cases g2
  exact A102L1.chain s (fun i=>stA s k i) g1.2 (Step:= @zy (zL base) c base I (qV Tryz.prog 102 1) 35 6 100 []) (fun i ex y hh=>stepT qf qd (by simp) (by simp) hP hn hG hI hIL ((round s k i).trans hh)) _ 1 rfl (by omega)
 ·cases e
end A102L1b
namespace A102L0
def L:List LpK:=[A102L1.lp,A102L1b.lp]
noncomputable def cfg:Cfg:=zw Tryz.prog 4 (gpT []) (ltT 4 [A102L1.lp,A102L1b.lp])
def stN (s:ByteArray):KX:=⟨[(0,.string s),(3,.slice none 0 0)],[]⟩
def stR (s:ByteArray) (k:Nat) (row:List Value):KX:=⟨[(0,.string s),(3,.slice (some ⟨5,0,none⟩) k 1)],[row]⟩
def exN:KX:=⟨[(3,.slice none 0 0)],[]⟩
def exR (k:Nat) (row:List Value):KX:=⟨[(3,.slice (some ⟨5,0,none⟩) k 1)],[row]⟩
def kp:Ex→List Nat
 | .normal=>[0,3]
 |_=>[3]
def cr:Ex→St→List (Nat×Bool):=fun _ s=>match s.T.get 3 with
 |some (.slice (some p) _ _)=>[(p.block,true)]
 |_=>[]
def rest (s:ByteArray):ByteArray:=⟨((s.data.toList.take s.data.toList.length).drop (A102L1.len s).toNat).toArray⟩
def head (s:ByteArray):ByteArray:=⟨((s.data.toList.take (A102L1.len s).toNat).drop 0).toArray⟩
theorem vw (s:ByteArray):wy cfg (gpT []) (vL cfg (gpT []) (ltT 4 [A102L1.lp,A102L1b.lp]) 12) (ltT 4 [A102L1.lp,A102L1b.lp] 102) false 1000 (qV Tryz.prog 102 0) (stK 35 5 [] (stN s)) (zv 5 300 35 kp cr)=
 (bif(!eqU (s).data.toList [])then(bif(Nat.blt 0 ((s).data.toList).length&&Nat.blt ((s).data.toList).length 4611686018427387904)then(bif(decide (0≤(A102L1.len s))&&Nat.ble ((A102L1.len s)).toNat ((s).data.toList).length)then(bif(decide (0≤(A102L1.len s))&&Nat.ble ((A102L1.len s)).toNat ((s).data.toList).length)then(some (.normal,stR (rest s) 1 [.string (head s)]))else none)else none)else none)else(some (.exit 0,exN))):=by kernel_rfl
theorem kl (s:ByteArray) (k:Nat) (row:List Value):wy cfg (gpT []) (vL cfg (gpT []) (ltT 4 [A102L1.lp,A102L1b.lp]) 12) (ltT 4 [A102L1.lp,A102L1b.lp] 102) false 1000 (qV Tryz.prog 102 0) (stK 35 5 [] (stR s k row)) (zv 5 300 35 kp cr)=
 (let r2:=((row.drop 0).take (k*1))++[.string (head s)];bif(!eqU (s).data.toList [])then(bif(Nat.blt 0 ((s).data.toList).length&&Nat.blt ((s).data.toList).length 4611686018427387904)then(bif(decide (0≤(A102L1.len s))&&Nat.ble ((A102L1.len s)).toNat ((s).data.toList).length)then(bif Nat.ble (k+1) 200000000000000 then(bif Nat.ble ((k+1)*16) 200000000000000 then(bif Nat.ble (0+(k*1)) (row).length then(bif(decide (0≤(A102L1.len s))&&Nat.ble ((A102L1.len s)).toNat ((s).data.toList).length)then(bif r2.all qp&&true then(some (.normal,stR (rest s) (k+1) r2))else none)else none)else none)else none)else none)else none)else none)else(bif row.all qp&&true then(some (.exit 0,exR k row))else none)):=by kernel_rfl
theorem bE (p:UInt8→Bool): ∀l:List UInt8,l.take (l.takeWhile p).length=l.takeWhile p∧l.drop (l.takeWhile p).length=l.dropWhile p
 |[]=>⟨rfl,rfl⟩
 |x::l=>by
  obtain⟨a,b⟩:=bE p l
  rw[List.takeWhile_cons,Bu]
  cases p x
  ·exact⟨rfl,rfl⟩
  ·simp only [if_true, AK, Ci, BE, a, b]
   exact⟨trivial,trivial⟩
theorem V8 (p:UInt8→Bool): ∀l:List UInt8,(l.dropWhile p).length≤l.length
 |[]=>Aw _
 |x::l=>by
  rw[Bu]
  have:=V8 p l
  cases p x
  ·exact Aw _
  ·simp only[if_true,AK];omega
theorem mh (p:UInt8→Bool): ∀l:List UInt8,(l.takeWhile p).length≤l.length
 |[]=>Aw _
 |x::l=>by
  rw[List.takeWhile_cons]
  have:=mh p l
  cases p x
  ·simp
  ·simp only[if_true,AK];omega
theorem fuel: ∀(n m:Nat) (l:List UInt8),l.length≤n→l.length≤m→Ref.vN n l=Ref.vN m l
 |0,m,l,h1,h2=>by
  have:l=[]:=AP.1 (by omega)
  subst this
  cases m<;>rfl
 |n+1,0,l,h1,h2=>by
  have:l=[]:=AP.1 (by omega)
  subst this;rfl
 |n+1,m+1,[],h1,h2=>rfl
 |n+1,m+1,b::l,h1,h2=>by
  rw[Ref.vN,Ref.vN]
  have:=V8 Ref.kj l
  simp only[AK]at h1 h2
  rw[fuel n m _ (by omega) (by omega)]
theorem Xt (b:UInt8) (l:List UInt8):Ref.pieces (b::l)=(b::l.takeWhile Ref.kj)::Ref.pieces (l.dropWhile Ref.kj):=by
 unfold Ref.pieces
 show Ref.vN (l.length+1) (b::l)=_
 rw[Ref.vN,fuel l.length (l.dropWhile Ref.kj).length _ (V8 _ _) (Aw _)]
def str (b:List UInt8):Value:= .string ⟨b.toArray⟩
def strs (l:List (List UInt8)):List Value:=l.map str
theorem yX (l:List (List UInt8)):(strs l).all qp=true:=by
 rw[Ap]
 intro x hx
 obtain⟨y,_,rfl⟩:=Bk.1 hx
 rfl
theorem Vr (l:List (List UInt8)):(strs l).length=l.length:=AM _
def st (acc:List (List UInt8)) (s:ByteArray):KX:=bif Nat.beq acc.length 0 then stN s else stR s acc.length (strs acc)
def fin (l:List (List UInt8)):KX:=bif Nat.beq l.length 0 then exN else exR l.length (strs l)
theorem parts {s:ByteArray} {b:UInt8} {l:List UInt8} (h:s.data.toList=b::l):(rest s).data.toList=l.dropWhile Ref.kj∧head s=⟨(b::l.takeWhile Ref.kj).toArray⟩∧(A102L1.len s).toNat≤s.data.toList.length∧0≤A102L1.len s:=by
 obtain⟨t1,t2⟩:=bE Ref.kj l
 have hl:(A102L1.len s).toNat=(l.takeWhile Ref.kj).length+1:=by
  unfold A102L1.len
  rw[h]
  show (1+(l.takeWhile Ref.kj).length)=_
  omega
 have:=mh Ref.kj l
 refine⟨?_,?_,by rw[hl,h,AK];omega,by unfold A102L1.len;exact Int.natCast_nonneg _⟩
 ·unfold rest
  rw[Bt,Bo,hl,h,BE,t2]
 ·unfold head
  rw[AD,hl,h,Ci,t1]
theorem chain {Step:KX→Ex→KX→Prop} (hN: ∀(s:ByteArray) ex y,wy cfg (gpT []) (vL cfg (gpT []) (ltT 4 [A102L1.lp,A102L1b.lp]) 12) (ltT 4 [A102L1.lp,A102L1b.lp] 102) false 1000 (qV Tryz.prog 102 0) (stK 35 5 [] (stN s)) (zv 5 300 35 kp cr)=some (ex,y)→Step (stN s) ex y)
  (hR: ∀(s:ByteArray) (k:Nat) (row:List Value) ex y,wy cfg (gpT []) (vL cfg (gpT []) (ltT 4 [A102L1.lp,A102L1b.lp]) 12) (ltT 4 [A102L1.lp,A102L1b.lp] 102) false 1000 (qV Tryz.prog 102 0) (stK 35 5 [] (stR s k row)) (zv 5 300 35 kp cr)=some (ex,y)→Step (stR s k row) ex y):
  ∀(n:Nat) (s:ByteArray) (acc:List (List UInt8)),s.data.toList.length≤n→acc.length+n≤1000000→zI Step (st acc s) (.exit 0) (fin (acc++Ref.pieces s.data.toList)):=by
 intro n
 induction n with
 |zero=>
  intro s acc hs tq
  have he:s.data.toList=[]:=AP.1 (by omega)
  have hp:Ref.pieces s.data.toList=[]:=by rw[he];rfl
  rw[hp,A0]
  unfold st fin
  cases hb:Nat.beq acc.length 0
  ·exact .stop (by simp) (hR s _ _ _ _ (by rw[kl];simp only[he,yX];rfl))
  ·exact .stop (by simp) (hN s _ _ (by rw[vw];simp only[he];rfl))
 |succ n ih=>
  intro s acc hs tq
  cases hsl:s.data.toList with
  |nil=>
   have hp:Ref.pieces ([]:List UInt8)=[]:=rfl
   rw[hp,A0]
   unfold st fin
   cases hb:Nat.beq acc.length 0
   ·exact .stop (by simp) (hR s _ _ _ _ (by rw[kl];simp only[hsl,yX];rfl))
   ·exact .stop (by simp) (hN s _ _ (by rw[vw];simp only[hsl];rfl))
  |cons b l=>
   obtain⟨p1,p2,p3,p4⟩:=parts hsl
   rw[Xt]
   have hne:(!eqU (b::l) [])=true:=rfl
   have q1:Nat.blt 0 (b::l).length=true:=rfl
   rw[hsl,AK]at hs
   have q2:Nat.blt (b::l).length 4611686018427387904=true:=by rw[AB,AK];omega
   rw[hsl]at p3
   have q3:Nat.ble (A102L1.len s).toNat (b::l).length=true:=by rw[Az];exact p3
   have q4:decide (0≤A102L1.len s)=true:=Al p4
   have hdl:=V8 Ref.kj l
   have key:Step (st acc s) .normal (st (acc++[b::l.takeWhile Ref.kj]) (rest s)):=by
    unfold st
    have e1:Nat.beq (acc++[b::l.takeWhile Ref.kj]).length 0=false:=by rw[AO];rfl
    rw[e1]
    cases hb:Nat.beq acc.length 0
    ·refine hR s _ _ _ _ ?_
     rw[kl]
     have w1:((strs acc).drop 0).take (acc.length*1)++[Value.string (head s)]=strs (acc++[b::l.takeWhile Ref.kj]):=by
      rw[AD,BY,AJ (by rw[Vr];exact Aw _),p2]
      unfold strs
      rw[BH];rfl
     have w2:Nat.ble (acc.length+1) 200000000000000=true:=by rw[Az];omega
     have w3:Nat.ble ((acc.length+1)*16) 200000000000000=true:=by rw[Az];omega
     have w4:Nat.ble (0+acc.length*1) (strs acc).length=true:=by rw[Az,Vr];omega
     dsimp only[]
     simp only[hsl,hne,q1,q2,q3,q4,w1,w2,w3,w4,yX,AI,Ai,Ah,AO,List.length_singleton]
    ·have : acc = [] := AP.1 (Am hb)
     subst this
     refine hN s _ _ ?_
     rw[vw]
     simp only[hsl,hne,q1,q2,q3,q4,p2,AI,Ai,Ah]
     rfl
   have ih':=ih (rest s) (acc++[b::l.takeWhile Ref.kj]) (by rw[p1];omega) (by rw[AO];simp;omega)
   rw[p1,CI]at ih'
   exact .next key ih'
def D:KD:=⟨35,5,300,[0,3],[],fun _=>[],fun x ro=>match x.vs,x.cars,ro with
 |[(0,.string s),(3,.slice none 0 0)],[],[]=> .qI (Nat.ble s.data.toList.length 1000000) (.br (Nat.beq (Ref.pieces s.data.toList).length 0) (.out (.exit 0,exN)) (.out (.exit 0,exR (Ref.pieces s.data.toList).length (strs (Ref.pieces s.data.toList)))))
 |_,_,_=> .no⟩
def lp:LpK:=⟨102,2,0,D⟩
theorem qE:zq Tryz.prog La 4 lp:=by
 refine⟨by kernel_rfl,fun c base I hP hn hG hI hIL x ro ex y e=> ?_⟩
 obtain⟨vs,cars⟩:=x
 simp only[lp,D]at e ⊢
 split at e
 ·rename_i s
  obtain⟨g1,g2⟩:=GT.qh e
  rw[Az]at g1
  have hsp: ∀p∈([]:List (FuncId×Spec)),qu Tryz.prog La p.1 p.2:=by simp
  have hL: ∀p∈[A102L1.lp,A102L1b.lp],zq Tryz.prog La 4 p:=by simpa using⟨A102L1.qE,A102L1b.qE⟩
  have key:=chain (Step:= @zy (zL base) c base I (qV Tryz.prog 102 0) 35 5 300 []) (fun s ex y h=>mO qf qd hsp hL hP hn hG hI hIL (f:=102) (i:=0) (by kernel_rfl) (by kernel_rfl) h) (fun s k row ex y h=>mO qf qd hsp hL hP hn hG hI hIL (f:=102) (i:=0) (by kernel_rfl) (by kernel_rfl) h) s.data.toList.length s [] (Aw _) (by simpa using g1)
  rw[Bl]at key
  have e0:st [] s=stN s:=rfl
  rw[e0]at key
  unfold fin at key
  cases hb:Nat.beq (Ref.pieces s.data.toList).length 0 with
  |true=>rw[GT.eval,hb]at g2;cases g2;rw[hb]at key;exact key
  |false=>rw[GT.eval,hb]at g2;cases g2;rw[hb]at key;exact key
 ·cases e
end A102L0
namespace A46L3
noncomputable def cfg:Cfg:=zw Tryz.prog 4 (gpT []) (ltT 4 [])
def stN:KX:=⟨[(4,.pointer (some ⟨305,0,none⟩)),(5,.int .i64 0),(9,.slice none 0 0),(10,.int .i64 0),(11,.int .i64 0),(12,.string ⟨#[]⟩),(13,.int .i64 0)],[[.int .i64 0,.int .i64 0,.string ⟨#[]⟩]]⟩
def exA (s:ByteArray):KX:=⟨[(4,.pointer (some ⟨305,0,none⟩)),(5,.int .i64 0),(12,.string s)],[[.int .i64 0,.int .i64 0,.string ⟨#[]⟩]]⟩
def stA (f m i:Int) (s:ByteArray) (k:Nat) (row:List Value):KX:=⟨[(4,.pointer (some ⟨305,0,none⟩)),(5,.int .i64 0),(9,.slice (some ⟨306,0,none⟩) k 1),(10,.int .i64 f),(11,.int .i64 m),(12,.string s),(13,.int .i64 i)],[[.int .i64 0,.int .i64 0,.string ⟨#[]⟩],row]⟩
def kp:Ex→List Nat
 | .normal=>[4,5,9,10,11,12,13]
 | .exit _=>[4,5,12]
 |_=>[]
def cr:Ex→St→List (Nat×Bool):=fun ex s=>match ex,s.T.get 9 with
 | .normal,some (.slice (some p) _ _)=>[(305,true),(p.block,true)]
 |_,_=>[(305,true)]
theorem kl (f m i:Int) (s:ByteArray) (k:Nat) (row:List Value):zN cfg [] [] 46 3 (stK 131 305 [] (stA f m i s k row)) (zv 305 100 131 kp cr)=(let x1:=0+(i.toNat*1);(bif decide (i<(IntKind.wrap .i64 (f+m)))then(bif decide (0≤i)then(bif Nat.blt i.toNat k then(bif isV row x1 .s then(bif Nat.ble ((s.data.toList).length+((rdS row x1).data.toList).length) 9223372036854775807 then(bif row.all qp&&true then(some (.normal,⟨[(4,.pointer (some ⟨305,0,none⟩)),(5,.int .i64 0),(9,.slice (some ⟨306,0,none⟩) k 1),(10,.int .i64 f),(11,.int .i64 m),(12,.string ⟨(s.data.toList++(rdS row x1).data.toList).toArray⟩),(13,.int .i64 (IntKind.wrap .i64 (i+1)))],[[.int .i64 0,.int .i64 0,.string ⟨#[]⟩],row]⟩))else none)else none)else none)else none)else none)else(some (.exit 7,⟨[(4,.pointer (some ⟨305,0,none⟩)),(5,.int .i64 0),(12,.string s)],[[.int .i64 0,.int .i64 0,.string ⟨#[]⟩]]⟩)))):=by kernel_rfl
theorem vw:zN cfg [] [] 46 3 (stK 131 305 [] stN) (zv 305 100 131 kp cr)=some (.exit 7,exA ⟨#[]⟩):=by kernel_rfl
def sB:Value→List UInt8
 | .string b=>b.data.toList
 |_=>[]
def isS:Value→Bool
 | .string _=>true
 |_=>false
def join (f m:Nat) (row:List Value):List UInt8:=((row.drop f).take m).flatMap sB
theorem eR {row:List Value} (h:row.all isS=true):row.all qp=true:=by
 rw[Ap]at h ⊢
 intro x hx
 have:=h x hx
 cases x<;>first|rfl|cases this
theorem lu (l:List (List UInt8)):(A102L0.strs l).flatMap sB=l.flatten:=by
 induction l with
 |nil=>rfl
 |cons x l ih=>
  show sB (A102L0.str x)++(A102L0.strs l).flatMap sB=x++l.flatten
  rw[ih];rfl
theorem dq (l:List (List UInt8)):(A102L0.strs l).all isS=true:=by
 rw[Ap]
 intro x hx
 obtain⟨y,_,rfl⟩:=Bk.1 hx
 rfl
theorem V6 (f m:Nat) (l:List (List UInt8)):join f m (A102L0.strs l)=((l.drop f).take m).flatten:=by
 unfold join
 rw[←lu]
 unfold A102L0.strs
 rw[List.map_take,List.map_drop]
theorem chain {Step:KX→Ex→KX→Prop} (f m:Nat) (row:List Value) (hk:f+m≤row.length) (hk2:row.length≤1000000) (hs:row.all isS=true)
  (hA: ∀(i:Int) (s:ByteArray) ex y,zN cfg [] [] 46 3 (stK 131 305 [] (stA f m i s row.length row)) (zv 305 100 131 kp cr)=some (ex,y)→Step (stA f m i s row.length row) ex y):
  ∀(r j:Nat) (acc:List UInt8),j+r=f+m→acc.length+(join j r row).length≤4611686018427387904→zI Step (stA f m j ⟨acc.toArray⟩ row.length row) (.exit 7) (exA ⟨(acc++join j r row).toArray⟩):=by
 have hw:IntKind.wrap .i64 ((f:Int)+m)=((f+m:Nat):Int):=by rw[kc (by omega) (by omega)];omega
 intro r
 induction r with
 |zero=>
  intro j acc h hl
  have h1:decide ((j:Int)<((f+m:Nat):Int))=false:=An (by omega)
  have hr:=kl f m j ⟨acc.toArray⟩ row.length row
  dsimp only[]at hr
  simp only[hw,h1,Ah]at hr
  have e:join j 0 row=[]:=by unfold join;rw[CE];rfl
  rw[e,A0]
  exact .stop (by simp) (hA _ _ _ _ hr)
 |succ r ih=>
  intro j acc h hl
  have hj:j<row.length:=by omega
  have h1:decide ((j:Int)<((f+m:Nat):Int))=true:=Al (by omega)
  have h2:decide ((0:Int)≤(j:Int))=true:=Al (by omega)
  have h3:Nat.blt ((j:Int)).toNat row.length=true:=by rw[AB,Av];exact hj
  have h4:0+((j:Int)).toNat*1=j:=by rw[Av];omega
  have hx:=Ap.1 hs row[j] (Bf hj)
  obtain⟨t,ht⟩: ∃t,row[j]= .string t:=by
   cases hv:row[j]<;>rw[hv]at hx<;>first|exact⟨_,rfl⟩|cases hx
  have h5:isV row j .s=true:=by unfold isV;rw[vM,Au hj,ht]
  have h6:rdS row j=t:=by unfold rdS;rw[vM,Au hj,ht]
  have hjn:join j (r+1) row=t.data.toList++join (j+1) r row:=by
   unfold join
   rw[A8 hj,Ci,Cf,ht];rfl
  rw[hjn,AO]at hl
  have h7:Nat.ble (acc.length+t.data.toList.length) 9223372036854775807=true:=by rw[Az];omega
  have h8:IntKind.wrap .i64 ((j:Int)+1)=((j+1:Nat):Int):=by rw[kc (by omega) (by omega)];omega
  have hr:=kl f m j ⟨acc.toArray⟩ row.length row
  dsimp only[]at hr
  simp only[hw,h1,h2,h3,h4,h5,h6,h7,h8,eR hs,AI,Ai]at hr
  rw[hjn,←List.append_assoc]
  exact .next (hA _ _ _ _ hr) (ih (j+1) (acc++t.data.toList) (by omega) (by rw[AO];omega))
def D:KD:=⟨131,305,100,[4,5,9,10,11,12,13],[],fun s=>match s.T.get 9 with
 |some (.slice (some p) _ _)=>[(4,true),(p.block,true)]
 |_=>[(4,true)],fun x ro=>match x.vs,x.cars,ro with
 |[(4,.pointer (some ⟨305,0,none⟩)),(5,.int .i64 0),(9,.slice none 0 0),(10,.int .i64 f),(11,.int .i64 m),(12,.string s),(13,.int .i64 i)],[[.int .i64 0,.int .i64 0,.string z]],[]=>
  .qI (Nat.beq z.data.toList.length 0&&Nat.beq s.data.toList.length 0) (.qI (decide (f=0)&&(decide (m=0)&&decide (i=0))) (.out (.exit 7,exA ⟨#[]⟩)))
 |[(4,.pointer (some ⟨305,0,none⟩)),(5,.int .i64 0),(9,.slice (some ⟨306,0,none⟩) k 1),(10,.int .i64 f),(11,.int .i64 m),(12,.string s),(13,.int .i64 i)],[[.int .i64 0,.int .i64 0,.string z],row],[]=>
  .qI (Nat.beq z.data.toList.length 0&&Nat.beq s.data.toList.length 0) (.qI (decide (0≤f)&&(decide (0≤m)&&decide (i=f))) (.qI (Nat.ble (f.toNat+m.toNat) k&&(Nat.beq k row.length&&(Nat.ble k 1000000&&(row.all isS&&Nat.ble (join f.toNat m.toNat row).length 1000000)))) (.out (.exit 7,exA ⟨(join f.toNat m.toNat row).toArray⟩))))
 |_,_,_=> .no⟩
def lp:LpK:=⟨46,29,3,D⟩
theorem qE:zq Tryz.prog La 4 lp:=by
 refine⟨by kernel_rfl,fun c base I hP hn hG hI hIL x ro ex y e=> ?_⟩
 obtain⟨vs,cars⟩:=x
 have hsp: ∀p∈([]:List (FuncId×Spec)),qu Tryz.prog La p.1 p.2:=by simp
 simp only[lp,D]at e ⊢
 split at e
 ·rename_i f m s i z
  obtain⟨g0,e1⟩:=GT.qh e
  obtain⟨g1,e2⟩:=GT.qh e1
  simp only[Ag,As]at g0 g1
  have hz:z=⟨#[]⟩:=A46L1.back z (AP.1 (Am g0.1))
  have hs:s=⟨#[]⟩:=A46L1.back s (AP.1 (Am g0.2))
  obtain⟨hf,hm,hi⟩:=g1
  subst hz hs hf hm hi
  cases e2
  exact .stop (by simp) (stepT qf qd hsp (by simp) hP hn hG hI hIL vw)
 ·rename_i k f m s i z row
  obtain⟨g0,e1⟩:=GT.qh e
  obtain⟨g1,e2⟩:=GT.qh e1
  obtain⟨g2,e3⟩:=GT.qh e2
  simp only[Ag,As]at g0 g1 g2
  have hz:z=⟨#[]⟩:=A46L1.back z (AP.1 (Am g0.1))
  have hs:s=⟨#[]⟩:=A46L1.back s (AP.1 (Am g0.2))
  obtain⟨hf,hm,hi⟩:=g1
  obtain⟨q1,q2,q3,q4,q5⟩:=g2
  have hk:=Am q2
  subst hk
  rw[Az]at q1 q3 q5
  obtain⟨f',rfl⟩:=AG hf
  obtain⟨m',rfl⟩:=AG hm
  rw[Av,Av]at q1 q5 e3
  subst hz hs hi
  have key:=chain (Step:= @zy (zL base) c base I (qV Tryz.prog 46 3) 131 305 100 []) f' m' row q1 q3 q4 (fun i s ex y h=>stepT qf qd hsp (by simp) hP hn hG hI hIL h) m' f' [] rfl (by show 0+_≤_;omega)
  rw[Bl]at key
  cases e3
  exact key
 ·cases e
end A46L3
namespace A46
def T (s0:ByteArray) (m1:Nat) (c1:List Value):GT Value:=let y1:=Ref.pieces (rdS c1 2).data.toList;let y2:=Int.ofNat y1.length;let y7:=if y2<(rdI c1 4)then y2 else(rdI c1 4);let x1:=if y7>0 then y7 else 0;let y9:=IntKind.wrap .i64 (y2 - x1);let x2:=if y9<(rdI c1 7)then y9 else(rdI c1 7);let y8:=if 0<(rdI c1 4)then 0 else(rdI c1 4);let x3:=if y8>0 then y8 else 0;let x5:=Go.Lib.trimLeftB (rdS c1 2).data.toList (32:UInt8);let y3:=Ref.Zu (qj c1);let x6:=A46L0.bv y3;let y12:=IntKind.wrap .i64 (0 - x3);let x7:=if y12<(rdI c1 7)then y12 else(rdI c1 7);let x8:=A102L0.strs y1;let x9:=Go.Lib.trimRightB x5 (32:UInt8);let x10:=if x2>0 then x2 else 0;let x4:=A46L3.join x1.toNat x10.toNat x8;let o1:GT Value:=(.out (.tuple #[.agg #[.int .i64 0,.int .i64 0,.string ⟨#[]⟩],.int .i64 20]));let o2:GT Value:=(.out (.tuple #[.agg #[.int .i64 4,.int .i64 0,.string ⟨#[]⟩],.int .i64 0]));let y13:=(rdS c1 2).data.toList;let y4:=Nat.ble y13.length 9223372036854775807&&true;let y5:=(x6.drop 0).take y3.length;let y6:=Nat.ble y13.length 1000000;let y10:=Ref.js 65 97 (rdS c1 2);let y11:=Ref.js 97 65 (rdS c1 2);let y14:=Nat.beq y1.length 0;let y15:=isV c1 4 (.i .i64);let y16:=isV c1 7 (.i .i64);(.br (Nat.blt 0 m1) (.br (isV c1 2 .s) (.br (eqU s0.data.toList [99,111,110,99,97,116]) (.br (true&&([((1:Nat),c1)]).all fun p=>p.snd.all qp) (.br ((decide ((Int.ofNat m1)=(Int.ofNat m1))&&((vA c1)&&(Nat.beq c1.length (m1*3)&&Nat.blt m1 6000000000000)))&&(qj c1).all A37L0.jn) (.br (Ref.Jz (qj c1)) o1 (.br (Nat.beq y3.length 0) o2 (.br (Nat.ble (0+y3.length) x6.length) (.br (y5.all ep) (.br (decide ((Int.ofNat (y5.map Yx).length)>1024)) o1 (.out (.tuple #[.agg #[.int .i64 4,.int .i64 0,.string ⟨(y5.map Yx).toArray⟩],.int .i64 0]))) .no) .no))) .no) .no) (.br (eqU s0.data.toList [108,101,110,103,116,104]) (.br y6 (.br y14 (.out (.tuple #[.agg #[.int .i64 2,.int .i64 0,.string ⟨#[]⟩],.int .i64 0])) (.out (.tuple #[.agg #[.int .i64 2,.int .i64 y2,.string ⟨#[]⟩],.int .i64 0]))) .no) (.br (eqU s0.data.toList [108,111,119,101,114]) (.br y4 (.br (decide ((Int.ofNat (y10.data.toList).length)>1024)) o1 (.out (.tuple #[.agg #[.int .i64 4,.int .i64 0,.string y10],.int .i64 0]))) .no) (.br (eqU s0.data.toList [117,112,112,101,114]) (.br y4 (.br (decide ((Int.ofNat (y11.data.toList).length)>1024)) o1 (.out (.tuple #[.agg #[.int .i64 4,.int .i64 0,.string y11],.int .i64 0]))) .no) (.br (eqU s0.data.toList [116,114,105,109]) (.br (Nat.blt x5.length 1000000) (.br (decide ((Int.ofNat x9.length)>1024)) o1 (.out (.tuple #[.agg #[.int .i64 4,.int .i64 0,.string ⟨(x9).toArray⟩],.int .i64 0]))) .no) (.br y6 (.br y14 (.br (Nat.blt 1 m1) (.br y15 (.br (Nat.blt 2 m1) (.br y16 (.br (decide (x3=0)&&(decide ((if x7>0 then x7 else 0)=0)&&decide (x3=0))) o2 .no) .no) .no) .no) .no) (.br (Nat.blt 1 m1) (.br y15 (.br (Nat.blt 2 m1) (.br y16 (.br (x8.all qp&&true&&true) (.br (decide (0≤x1)&&(decide (0≤x10)&&decide (x1=x1))) (.br (Nat.ble (x1.toNat+x10.toNat) y1.length&&(Nat.beq y1.length x8.length&&(Nat.ble y1.length 1000000&&(x8.all A46L3.isS&&Nat.ble x4.length 1000000)))) (.br (decide ((Int.ofNat x4.length)>1024)) o1 (.out (.tuple #[.agg #[.int .i64 4,.int .i64 0,.string ⟨(x4).toArray⟩],.int .i64 0]))) .no) .no) .no) .no) .no) .no) .no)) .no)))))) .no) .no)
theorem run (s0:ByteArray) (m1:Nat) (c1:List Value):runK 4 [(103,Jw)] [A46L0.lp,A46L1.lp,A46L2.lp,A46L3.lp,A102L0.lp] 46 [.v (.string s0),.sl m1 3 c1]=(T s0 m1 c1).eval:=by kernel_rfl
theorem ZO: ∀(n:Nat) (l:List UInt8),(Ref.vN n l).length≤n
 |0,_=>Aw _
 |_+1,[]=>Cq _
 |n+1,b::l=>by rw[Ref.vN,AK];have:=ZO n (l.dropWhile Ref.kj);omega
theorem QI: ∀(n:Nat) (l:List UInt8),l.length≤n→(Ref.vN n l).flatten=l
 |0,l,h=>by
  have:l=[]:=AP.1 (by omega)
  subst this;rfl
 |n+1,[],_=>rfl
 |n+1,b::l,h=>by
  have h2:=A102L0.V8 Ref.kj l
  rw[AK]at h
  rw[Ref.vN,List.flatten_cons,QI n _ (by omega),Bp,List.takeWhile_append_dropWhile]
theorem join_le (t:List UInt8) (f m:Nat):(A46L3.join f m (A102L0.strs (Ref.pieces t))).length≤t.length:=by
 rw[A46L3.V6]
 have h1:=Bg (fun p=>(List.flatten p).length) (Cs f (Ref.pieces t))
 have h2:=Bg (fun p=>(List.flatten p).length) (Cs m ((Ref.pieces t).drop f))
 simp only[List.flatten_append,AO]at h1 h2
 have e:(Ref.pieces t).flatten=t:=QI _ _ (Aw _)
 rw[e]at h1
 omega
theorem so (l:List UInt8):(A46L0.bv l).map Yx=l:=by
 have h:=A46L0.nD l
 unfold u8L at h
 have:=Bg Array.toList (ByteArray.mk.inj h)
 rwa [Bt,Bt]at this
theorem gZ (P:List (List UInt8)) (a:Int):(if(if(Int.ofNat P.length)<a then(Int.ofNat P.length)else a)>0 then(if(Int.ofNat P.length)<a then(Int.ofNat P.length)else a)else 0)=Ref.kT P a:=by
 unfold Ref.kT
 show (if(if((P.length:Nat):Int)<a then((P.length:Nat):Int)else a)>0 then(if((P.length:Nat):Int)<a then((P.length:Nat):Int)else a)else 0)=max 0 (min a ((P.length:Nat):Int))
 split<;>split<;>omega
theorem mU (P:List (List UInt8)) (hP:P.length≤1000000) (a b:Int):(if(if(IntKind.wrap .i64 ((Int.ofNat P.length) - Ref.kT P a))<b then(IntKind.wrap .i64 ((Int.ofNat P.length) - Ref.kT P a))else b)>0 then(if(IntKind.wrap .i64 ((Int.ofNat P.length) - Ref.kT P a))<b then(IntKind.wrap .i64 ((Int.ofNat P.length) - Ref.kT P a))else b)else 0)=Ref.Ke P a b:=by
 have h1:0≤Ref.kT P a∧Ref.kT P a≤(P.length:Int):=by
  unfold Ref.kT
  show 0≤max 0 (min a ((P.length:Nat):Int))∧max 0 (min a ((P.length:Nat):Int))≤_
  omega
 have hw:IntKind.wrap .i64 ((Int.ofNat P.length) - Ref.kT P a)=(P.length:Int) - Ref.kT P a:=kc (by show _≤((P.length:Nat):Int) - _;omega) (by show ((P.length:Nat):Int) - _≤_;omega)
 rw[hw]
 unfold Ref.Ke
 show _=max 0 (min b (((P.length:Nat):Int) - Ref.kT P a))
 generalize Ref.kT P a=f at*
 split<;>split<;>omega
theorem z3 (a:Int):(if(if 0<a then 0 else a)>0 then(if 0<a then 0 else a)else 0)=0:=by
 split<;>omega
def guard (s:ByteArray) (l:List W3):Bool:=l.all A37L0.jn&&(Nat.blt 0 l.length&&(eqU s.data.toList [99,111,110,99,97,116]||(eqU s.data.toList [108,101,110,103,116,104]||(eqU s.data.toList [108,111,119,101,114]||(eqU s.data.toList [117,112,112,101,114]||(eqU s.data.toList [116,114,105,109]||Nat.blt 2 l.length))))))
theorem r8 (l:List UInt8):(Lib.trimLeftB l 32).length≤l.length:=A102L0.V8 _ l
set_option maxHeartbeats 0 in
theorem qN (s:ByteArray) (l:List W3) (hl:l.length<6000000000000) (hg:guard s l=true):(T s l.length (qm l)).eval=some (ve (Ref.xc s l)):=by
 unfold guard at hg
 simp only[Ag]at hg
 obtain⟨hsh,h0,h3⟩:=hg
 have h0':0<l.length:=by rwa [AB]at h0
 have hs1: ∀v∈l,v.2.2.data.toList.length≤1024:=fun v hv=>AW (Ap.1 hsh v hv)
 have hv:=hs1 _ (A37.head_mem l h0')
 have q2:rdS (qm l) 2=(l.headD v0).2.2:=by have:=kE l h0';rw[A37.at0 l h0']at this;exact this
 have d0:isV (qm l) 2 .s=true:=by have:=k6 2 (by omega) l h0';unfold isV;rw[show (2:Nat)=0*3+2 from rfl,this];rfl
 have e1:Nat.ble (l.headD v0).2.2.data.toList.length 1000000=true:=by rw[Az];omega
 have e2:Nat.ble (l.headD v0).2.2.data.toList.length 9223372036854775807=true:=by rw[Az];omega
 have e3:Nat.blt (Lib.trimLeftB (l.headD v0).2.2.data.toList 32).length 1000000=true:=by have:=r8 (l.headD v0).2.2.data.toList;rw[AB];omega
 have a1:(true&&[((1:Nat),qm l)].all fun p=>p.2.all qp)=true:=by simp[qO]
 have g:Nat.blt l.length 6000000000000=true:=by rw[AB];exact hl
 have u1: ∀o:List UInt8,((A46L0.bv o).drop 0).take o.length=A46L0.bv o:=fun o=>by rw[AD,AJ (by rw[A46L0.WM];exact Aw _)]
 have u2: ∀o:List UInt8,Nat.ble (0+o.length) o.length=true:=fun o=>by rw[Az];omega
 unfold T
 dsimp only[]at a1 ⊢
 simp only[a1,g,q2,d0,e1,e2,e3,h0,u1,u2,so,A46L0.rf,A46L0.WM,vy,zh,A5,decide_true,AI,zn,hsh,GT.eval,AE,Ai]
 unfold Ref.xc
 dsimp only[]
 generalize ht:(l.headD v0).2.2=t at*
 cases n0:eqU s.data.toList [99,111,110,99,97,116]
 rotate_left
 ·simp only [Ai]
  unfold Ref.Zg Ref.Jz Ref.Zu
  cases hc:Ref.ZH [] l with
  |none=>rfl
  |some o=>
   simp only[Option.isNone,Option.getD_some,Ah]
   cases ho:Nat.beq o.length 0
   ·have := A37.vI ⟨o.toArray⟩
    rw[Bt]at this
    exact this
   ·have : o = [] := AP.1 (Am ho)
    subst this;rfl
 cases n1:eqU s.data.toList [108,101,110,103,116,104]
 rotate_left
 ·simp only [Ai, Ah]
  cases ho:Nat.beq (Ref.pieces t.data.toList).length 0
  ·rfl
  ·rw[Am ho];rfl
 cases n2:eqU s.data.toList [108,111,119,101,114]
 rotate_left
 ·exact A37.vI _
 cases n3:eqU s.data.toList [117,112,112,101,114]
 rotate_left
 ·exact A37.vI _
 cases n4:eqU s.data.toList [116,114,105,109]
 rotate_left
 ·have := A37.vI ⟨(Ref.aR t.data.toList).toArray⟩
  rw[Bt]at this
  exact this
 rw[n0,n1,n2,n3,n4]at h3
 have k2:2<l.length:=by
  have:Nat.blt 2 l.length=true:=h3
  rwa [AB]at this
 have k1:1<l.length:=by omega
 have b1:Nat.blt 1 l.length=true:=by rw[AB];exact k1
 have b2:Nat.blt 2 l.length=true:=by rw[AB];exact k2
 have c1:rdI (qm l) 4=(l.getD 1 v0).2.1:=by have:=zT l k1;rw[A37.atj l 1 k1]at this;exact this
 have c2:rdI (qm l) 7=(l.getD 2 v0).2.1:=by have:=zT l k2;rw[A37.atj l 2 k2]at this;exact this
 have d1:isV (qm l) 4 (.i .i64)=true:=by have:=k6 1 (by omega) l k1;unfold isV;rw[show (4:Nat)=1*3+1 from rfl,this];rfl
 have d2:isV (qm l) 7 (.i .i64)=true:=by have:=k6 1 (by omega) l k2;unfold isV;rw[show (7:Nat)=2*3+1 from rfl,this];rfl
 have pl:(Ref.pieces t.data.toList).length≤1000000:=by
  have:=ZO t.data.toList.length t.data.toList
  unfold Ref.pieces
  omega
 simp only[b1,b2,c1,c2,d1,d2,Ai,Ah]
 generalize (l.getD 1 v0).2.1=a
 generalize (l.getD 2 v0).2.1=b
 have fin:=A37.vI ⟨(Ref.jz t a b).toArray⟩
 rw[Bt]at fin
 cases ho:Nat.beq (Ref.pieces t.data.toList).length 0
 ·simp only [Ah]
  rw[gZ,mU _ pl]
  have f0:0≤Ref.kT (Ref.pieces t.data.toList) a∧Ref.kT (Ref.pieces t.data.toList) a≤((Ref.pieces t.data.toList).length:Int):=by
   unfold Ref.kT
   show 0≤max 0 (min a (((Ref.pieces t.data.toList).length:Nat):Int))∧max 0 (min a (((Ref.pieces t.data.toList).length:Nat):Int))≤_
   omega
  have f1:0≤Ref.Ke (Ref.pieces t.data.toList) a b∧Ref.kT (Ref.pieces t.data.toList) a+Ref.Ke (Ref.pieces t.data.toList) a b≤((Ref.pieces t.data.toList).length:Int):=by
   unfold Ref.Ke
   show 0≤max 0 (min b ((((Ref.pieces t.data.toList).length:Nat):Int) - Ref.kT (Ref.pieces t.data.toList) a))∧Ref.kT (Ref.pieces t.data.toList) a+max 0 (min b ((((Ref.pieces t.data.toList).length:Nat):Int) - Ref.kT (Ref.pieces t.data.toList) a))≤_
   omega
  have w1:Nat.ble ((Ref.kT (Ref.pieces t.data.toList) a).toNat+(Ref.Ke (Ref.pieces t.data.toList) a b).toNat) (Ref.pieces t.data.toList).length=true:=by rw[Az];omega
  have w2:Nat.ble (Ref.pieces t.data.toList).length 1000000=true:=by rw[Az];exact pl
  have w3:Nat.ble (A46L3.join (Ref.kT (Ref.pieces t.data.toList) a).toNat (Ref.Ke (Ref.pieces t.data.toList) a b).toNat (A102L0.strs (Ref.pieces t.data.toList))).length 1000000=true:=by
   have:=join_le t.data.toList (Ref.kT (Ref.pieces t.data.toList) a).toNat (Ref.Ke (Ref.pieces t.data.toList) a b).toNat
   rw[Az];omega
  have w4:A46L3.join (Ref.kT (Ref.pieces t.data.toList) a).toNat (Ref.Ke (Ref.pieces t.data.toList) a b).toNat (A102L0.strs (Ref.pieces t.data.toList))=Ref.jz t a b:=by rw[A46L3.V6];rfl
  simp only[w1,w2,w3,A46L3.dq,A102L0.yX,A102L0.Vr,A5,Al f0.1,Al f1.1,AI,Ai]
  rw[w4]
  exact fin
 ·have hp : Ref.pieces t.data.toList = [] := AP.1 (Am ho)
  have hs:Ref.jz t a b=[]:=by unfold Ref.jz;rw[hp,List.drop_nil,List.take_nil];rfl
  rw[hs]
  have hx:(if(if(IntKind.wrap .i64 (0 - 0))<b then(IntKind.wrap .i64 (0 - 0))else b)>0 then(if(IntKind.wrap .i64 (0 - 0))<b then(IntKind.wrap .i64 (0 - 0))else b)else 0)=0:=z3 b
  simp only[z3,hx,decide_true,AI,Ai]
  rfl
def spec:Spec:=fun aa=>match aa with
 |[.v (.string s),.sl n 3 cs]=>some (.qI (kV n (Int.ofNat n) cs&&guard s (qj cs)) (.out (ve (Ref.xc s (qj cs)))))
 |_=>none
theorem qg:qu Tryz.prog La 46 spec:=⟨qD (by kernel_rfl),fun aa t v h e=>by
 unfold spec at h
 split at h
 ·rename_i s n cs
  cases h
  obtain⟨g1,g2⟩:=GT.qh e
  cases g2
  simp only[Ag]at g1
  obtain⟨_,hn,h4,h5⟩:=zM g1.1
  have hg:=g1.2
  generalize qj cs=l at h4 h5 hg
  subst h4 h5
  exact⟨rfl,qS qx qf qd (by simpa using sq) (by simpa using⟨A46L0.qE,A46L1.qE,A46L2.qE,A46L3.qE,A102L0.qE⟩) (by decide) (by simp) rfl ((run _ _ _).trans (qN _ _ hn hg))⟩
 ·cases h⟩
end A46
namespace A11L0
noncomputable def cfg:Cfg:=zw Tryz.prog 4 (gpT []) (ltT 4 [])
def stN (nm:ByteArray) (n:Nat) (i:Int):KX:=⟨[(0,.string nm),(1,.slice (some ⟨1,0,none⟩) n 3),(4,.pointer (some ⟨4,0,none⟩)),(5,.int .i64 0),(6,.slice none 0 0),(7,.int .i64 i)],[]⟩
def stR (nm:ByteArray) (n:Nat) (i:Int) (k:Nat) (row:List Value):KX:=⟨[(0,.string nm),(1,.slice (some ⟨1,0,none⟩) n 3),(4,.pointer (some ⟨4,0,none⟩)),(5,.int .i64 0),(6,.slice (some ⟨5,0,none⟩) k 1),(7,.int .i64 i)],[row]⟩
def exN (nm:ByteArray) (n:Nat):KX:=⟨[(0,.string nm),(1,.slice (some ⟨1,0,none⟩) n 3),(4,.pointer (some ⟨4,0,none⟩)),(5,.int .i64 0),(6,.slice none 0 0)],[]⟩
def exR (nm:ByteArray) (n:Nat) (k:Nat) (row:List Value):KX:=⟨[(0,.string nm),(1,.slice (some ⟨1,0,none⟩) n 3),(4,.pointer (some ⟨4,0,none⟩)),(5,.int .i64 0),(6,.slice (some ⟨5,0,none⟩) k 1)],[row]⟩
def kp:Ex→List Nat
 | .normal=>[0,1,4,5,6,7]
 |_=>[0,1,4,5,6]
def cr:Ex→St→List (Nat×Bool):=fun _ s=>match s.T.get 6 with
 |some (.slice (some p) _ _)=>[(p.block,true)]
 |_=>[]
theorem vw (nm:ByteArray) (n:Nat) (i:Int) (cs:List Value):zN cfg [] [] 11 0 (stK 137 5 [(1,cs)] (stN nm n i)) (zv 5 100 137 kp cr)=
 (bif decide (i<(Int.ofNat n))then(bif decide (0≤i)then(bif Nat.blt (i).toNat n then(bif isV cs (0+((i).toNat*3)) (.i .i64)then(some (.normal,stR nm n (IntKind.wrap .i64 (i+1)) 1 [.int .i64 (rdI cs (0+((i).toNat*3)))]))else none)else none)else none)else(some (.exit 0,exN nm n))):=by kernel_rfl
theorem kl (nm:ByteArray) (n:Nat) (i:Int) (k:Nat) (row:List Value) (cs:List Value):zN cfg [] [] 11 0 (stK 137 5 [(1,cs)] (stR nm n i k row)) (zv 5 100 137 kp cr)=
 (let r2:=(((row).drop 0).take (k*1))++[.int .i64 (rdI cs (0+((i).toNat*3)))];bif decide (i<(Int.ofNat n))then(bif decide (0≤i)then(bif Nat.blt (i).toNat n then(bif isV cs (0+((i).toNat*3)) (.i .i64)then(bif Nat.ble (k+1) 200000000000000 then(bif Nat.ble ((k+1)*8) 200000000000000 then(bif Nat.ble (0+(k*1)) (row).length then(bif r2.all qp&&true then(some (.normal,stR nm n (IntKind.wrap .i64 (i+1)) (k+1) r2))else none)else none)else none)else none)else none)else none)else none)else(bif row.all qp&&true then(some (.exit 0,exR nm n k row))else none)):=by kernel_rfl
def row (l:List W3) (j:Nat):List Int:=(l.take j).map (·.1)
theorem vJ (l:List W3) {j:Nat} (h:j<l.length):row l (j+1)=row l j++[l[j].1]:=by
 unfold row
 rw[←List.take_append_getElem h,BH];rfl
theorem xf (l:List W3) {j:Nat} (h:j≤l.length):(row l j).length=j:=by
 unfold row
 rw[AM,BQ];omega
theorem cY (l:List W3) {j:Nat} (h:j<l.length):isV (qm l) (j*3) (.i .i64)=true:=by
 have:=k6 0 (by omega) l h
 unfold isV
 rw[show j*3=j*3+0 from rfl,this];rfl
def st (nm:ByteArray) (n:Nat) (l:List W3) (j:Nat):KX:=bif Nat.beq j 0 then stN nm n j else stR nm n j j (ints .i64 (row l j))
def fin (nm:ByteArray) (n:Nat) (l:List W3):KX:=bif Nat.beq n 0 then exN nm n else exR nm n n (ints .i64 (l.map (·.1)))
def oa (l:List W3):List Value:=ints .i64 (l.map (·.1))
def D:KD:=⟨137,5,100,[0,1,4,5,6,7],[1],fun _=>[],fun x ro=>match x.vs,x.cars,ro with
 |[(0,.string nm),(1,.slice (some ⟨1,0,none⟩) n 3),(4,.pointer (some ⟨4,0,none⟩)),(5,.int .i64 0),(6,.slice none 0 0),(7,.int .i64 0)],[],[(1,cs)]=>
  .qI (kV n (Int.ofNat n) cs) (.br (Nat.beq n 0) (.out (.exit 0,exN nm n)) (.out (.exit 0,exR nm n n (oa (qj cs)))))
 |_,_,_=> .no⟩
def lp:LpK:=⟨11,3,0,D⟩
theorem qE:zq Tryz.prog La 4 lp:=by
 refine⟨by kernel_rfl,fun c base I hP hn hG hI hIL x ro ex y e=> ?_⟩
 obtain⟨vs,cars⟩:=x
 simp only[lp,D]at e ⊢
 split at e
 ·rename_i nm n cs
  obtain⟨g1,g2⟩:=GT.qh e
  obtain⟨_,hn2,h4,h5⟩:=zM g1
  generalize qj cs=l at h4 h5 g2
  subst h4 h5
  have key:=zA (Step:= @zy (zL base) c base I (qV Tryz.prog 11 0) 137 5 100 [(1,qm l)]) (step:=fun(_:Unit) (_:W3)=> .inl ()) (fin:=fun _=>(.exit 0,fin nm l.length l)) (st:=fun _ j=>st nm l.length l j) (l:=l) (fun s=>by simp) (fun s a r h=>by cases h) (fun _ j hj=>by
    have h1:=ltI hj
    have h2:=geI j
    have h3:=j7 hj
    have h4:(0+((j:Int)).toNat*3)=j*3:=by simp
    have h5:=wrI j (by omega)
    show @zy (zL base) c base I (qV Tryz.prog 11 0) 137 5 100 [(1,qm l)] (st nm l.length l j) .normal (st nm l.length l (j+1))
    cases j with
    |zero=>
     have hr:=vw nm l.length ((0:Nat):Int) (qm l)
     simp only[h1,h2,h3,h4,h5,cY l hj,zU l hj,Ai]at hr
     have e1:st nm l.length l 0=stN nm l.length ((0:Nat):Int):=rfl
     have e2:st nm l.length l (0+1)=stR nm l.length ((0+1:Nat):Int) 1 [.int .i64 l[0].1]:=by
      show stR nm l.length ((0+1:Nat):Int) (0+1) (ints .i64 (row l (0+1)))=_
      rw[vJ l hj];rfl
     rw[e1,e2]
     exact stepT qf qd (by simp) (by simp) hP hn hG hI hIL hr
    |succ j=>
     have hk:=xf l (AV hj)
     have hr:=kl nm l.length ((j+1:Nat):Int) (j+1) (ints .i64 (row l (j+1))) (qm l)
     have q1:((ints .i64 (row l (j+1))).drop 0).take ((j+1)*1)++[.int .i64 (l[j+1]).1]=ints .i64 (row l (j+1+1)):=by
      rw[AD,BY,AJ (by rw[zH,hk];exact Aw _),vJ l hj]
      unfold ints
      rw[BH];rfl
     have q2:Nat.ble (j+1+1) 200000000000000=true:=by rw[Az];omega
     have q3:Nat.ble ((j+1+1)*8) 200000000000000=true:=by rw[Az];omega
     have q4:Nat.ble (0+(j+1)*1) (ints .i64 (row l (j+1))).length=true:=by rw[Az,zH,hk];omega
     simp only[h1,h2,h3,h4,h5,cY l hj,zU l hj,q1,q2,q3,q4,qZ,AE,Ai]at hr
     have e1:st nm l.length l (j+1)=stR nm l.length ((j+1:Nat):Int) (j+1) (ints .i64 (row l (j+1))):=rfl
     have e2:st nm l.length l (j+1+1)=stR nm l.length ((j+1+1:Nat):Int) (j+1+1) (ints .i64 (row l (j+1+1))):=rfl
     rw[e1,e2]
     exact stepT qf qd (by simp) (by simp) hP hn hG hI hIL hr) (fun _=>by
    have h1:=j6 l.length
    show @zy (zL base) c base I (qV Tryz.prog 11 0) 137 5 100 [(1,qm l)] (st nm l.length l l.length) (.exit 0) (fin nm l.length l)
    cases hl:l.length with
    |zero=>
     have hr:=vw nm l.length (l.length:Int) (qm l)
     simp only[h1,Ah]at hr
     rw[hl]at hr
     exact stepT qf qd (by simp) (by simp) hP hn hG hI hIL hr
    |succ j=>
     have hr:=kl nm l.length (l.length:Int) l.length (ints .i64 (row l l.length)) (qm l)
     simp only[h1,Ah,qZ,AE,Ai]at hr
     have e3:row l l.length=l.map (·.1):=by unfold row;rw[Bo]
     rw[hl]at hr e3
     have e1:st nm (j+1) l (j+1)=stR nm (j+1) ((j+1:Nat):Int) (j+1) (ints .i64 (row l (j+1))):=rfl
     have e2:fin nm (j+1) l=exR nm (j+1) (j+1) (ints .i64 (l.map (·.1))):=rfl
     rw[e1,e2,←e3]
     exact stepT qf qd (by simp) (by simp) hP hn hG hI hIL hr) l.length 0 () (by omega)
  rw[AD,kJ]at key
  cases hb:Nat.beq l.length 0 with
  |true=>rw[GT.eval,hb]at g2;cases g2;unfold fin at key;rw[hb]at key;exact key
  |false=>rw[GT.eval,hb]at g2;cases g2;unfold fin at key;rw[hb]at key;exact key
 ·cases e
end A11L0
namespace A11L1
noncomputable def cfg:Cfg:=zw Tryz.prog 4 (gpT [(15,K1)]) (ltT 4 [])
def stA (nm:ByteArray) (n:Nat) (e kind:Int) (e2:Int) (sm:Bool) (i:Int):KX:=⟨[(0,.string nm),(1,.slice (some ⟨1,0,none⟩) n 3),(4,.pointer (some ⟨105,0,none⟩)),(5,.int .i64 e),(8,.int .i64 kind),(9,.int .i64 e2),(10,.bool sm),(11,.int .i64 i)],[[.int .i64 0,.int .i64 0,.string ⟨#[]⟩]]⟩
def kp:Ex→List Nat
 | .normal=>[0,1,4,5,8,9,10,11]
 | .exit _=>[0,1,4,5,8,10]
 | .ret=>[4,5]
def cr:Ex→St→List (Nat×Bool):=fun _ s=>[(105,true)]
theorem round (nm:ByteArray) (n:Nat) (e kind:Int) (e2:Int) (sm:Bool) (i:Int) (cs:List Value):zN cfg [(15,K1)] [] 11 1 (stK 137 105 [(1,cs)] (stA nm n e kind e2 sm i)) (zv 105 100 137 kp cr)=(let x1:=0+(i.toNat*3);let x2:=IntKind.wrap .i64 (i+1);let y1:=[[.int .i64 0,.int .i64 0,.string ⟨#[]⟩]];(bif decide (i<(Int.ofNat n))then(bif decide (0≤i)then(bif Nat.blt i.toNat n then(bif isL cs x1 [(.i .i64),(.i .i64),.s]then(bif(!(A33.okv (rdI cs x1) (rdI cs (x1+1)) (rdS cs ((x1+1)+1))))then(some (.ret,⟨[(4,.pointer (some ⟨105,0,none⟩)),(5,.int .i64 22)],y1⟩))else(bif sm then(some (.normal,⟨[(0,.string nm),(1,.slice (some ⟨1,0,none⟩) n 3),(4,.pointer (some ⟨105,0,none⟩)),(5,.int .i64 e),(8,.int .i64 kind),(9,.int .i64 e2),(10,.bool true),(11,.int .i64 x2)],y1⟩))else(bif decide (0≤i)then(bif Nat.blt i.toNat n then(bif isV cs (x1+0) (.i .i64)then(some (.normal,⟨[(0,.string nm),(1,.slice (some ⟨1,0,none⟩) n 3),(4,.pointer (some ⟨105,0,none⟩)),(5,.int .i64 e),(8,.int .i64 kind),(9,.int .i64 e2),(10,.bool ((rdI cs (x1+0))==0)),(11,.int .i64 x2)],y1⟩))else none)else none)else none)))else none)else none)else none)else(some (.exit 2,⟨[(0,.string nm),(1,.slice (some ⟨1,0,none⟩) n 3),(4,.pointer (some ⟨105,0,none⟩)),(5,.int .i64 e),(8,.int .i64 kind),(10,.bool sm)],y1⟩)))):=by kernel_rfl
def stV (nm:ByteArray) (n:Nat) (e kind e2:Int) (sm:Bool) (i:Int):KX:=stA nm n e kind e2 sm i
def qP:KX:=⟨[(4,.pointer (some ⟨105,0,none⟩)),(5,.int .i64 22)],[[.int .i64 0,.int .i64 0,.string ⟨#[]⟩]]⟩
def stE (nm:ByteArray) (n:Nat) (e kind:Int) (sm:Bool):KX:=⟨[(0,.string nm),(1,.slice (some ⟨1,0,none⟩) n 3),(4,.pointer (some ⟨105,0,none⟩)),(5,.int .i64 e),(8,.int .i64 kind),(10,.bool sm)],[[.int .i64 0,.int .i64 0,.string ⟨#[]⟩]]⟩
def km (sm:Bool) (v:W3):Bool ⊕ (Ex×KX):=bif A10L1.bad v then .inr (.ret,qP)else .inl (sm||v.1==0)
theorem JK (f:Bool→Ex×KX): ∀(l:List W3) (sm:Bool),wE km f sm l=bif l.any A10L1.bad then(.ret,qP)else f (sm||(l.map (·.1)).any (· ==0))
 |[],sm=>by rw[wE];simp
 |v::l,sm=>by
  rw[wE]
  unfold km
  rw[BX,BR,BX]
  cases h:A10L1.bad v
  ·simp only [Ah, Bb]
   rw[←Bool.or_assoc]
   exact JK f l _
  ·rfl
def D:KD:=⟨137,105,100,[0,1,4,5,8,9,10,11],[1],fun _=>[(4,true)],fun x ro=>match x.vs,x.cars,ro with
 |[(0,.string nm),(1,.slice (some ⟨1,0,none⟩) n 3),(4,.pointer (some ⟨105,0,none⟩)),(5,.int .i64 e),(8,.int .i64 kind),(9,.int .i64 e2),(10,.bool sm),(11,.int .i64 0)],[[.int .i64 0,.int .i64 0,.string ⟨⟨[]⟩⟩]],[(1,cs)]=>
  .qI (kV n (Int.ofNat n) cs) (.br ((qj cs).any A10L1.bad) (.out (.ret,qP)) (.out (.exit 2,stE nm n e kind (sm||((qj cs).map (·.1)).any (· ==0)))))
 |_,_,_=> .no⟩
def lp:LpK:=⟨11,11,1,D⟩
theorem zZ: ∀p∈[((15:FuncId),K1)],qu Tryz.prog La p.1 p.2:=by simpa using pd
theorem qE:zq Tryz.prog La 4 lp:=by
 refine⟨by kernel_rfl,fun c base I hP hn hG hI hIL x ro ex y e=> ?_⟩
 obtain⟨vs,cars⟩:=x
 simp only[lp,D]at e ⊢
 split at e
 ·rename_i nm n e0 kind e2 sm cs
  obtain⟨g1,g2⟩:=GT.qh e
  obtain⟨_,hn2,h4,h5⟩:=zM g1
  generalize qj cs=l at h4 h5 g2
  subst h4 h5
  have key:=zA (Step:= @zy (zL base) c base I (qV Tryz.prog 11 1) 137 105 100 [(1,qm l)]) (step:=km) (fin:=fun sm=>(.exit 2,stE nm l.length e0 kind sm)) (st:=fun sm j=>stV nm l.length e0 kind e2 sm j) (l:=l) (fun s=>by simp) (fun s a r h=>by
    unfold km at h
    cases hb:A10L1.bad a<;>rw[hb]at h<;>cases h;simp[qP]) (fun sm j hj=>by
    have h1:=ltI hj
    have h2:=geI j
    have h3:=j7 hj
    have h4:(0+((j:Int)).toNat*3)=j*3:=by simp
    have h5:=wrI j (by omega)
    have hs:rdS (qm l) (j*3+1+1)=l[j].2.2:=kE l hj
    have hv:isV (qm l) (j*3+0) (.i .i64)=true:=by
     have:=k6 0 (by omega) l hj
     unfold isV;rw[this];rfl
    have hr0:rdI (qm l) (j*3+0)=l[j].1:=zU l hj
    have hr:=round nm l.length e0 kind e2 sm j (qm l)
    dsimp only[]at hr
    simp only[h1,h2,h3,h4,h5,ke l hj,zU l hj,zT l hj,hs,hv,hr0,Ai]at hr
    unfold km A10L1.bad
    cases hb:A33.okv l[j].1 l[j].2.1 l[j].2.2
    ·rw [hb] at hr
     exact stepT qf qd zZ (by simp) hP hn hG hI hIL hr
    ·rw [hb] at hr
     simp only[Bh,Ah]at hr ⊢
     cases sm
     ·exact stepT qf qd zZ (by simp) hP hn hG hI hIL hr
     ·exact stepT qf qd zZ (by simp) hP hn hG hI hIL hr) (fun sm=>by
    have h1:=j6 l.length
    have hr:=round nm l.length e0 kind e2 sm l.length (qm l)
    dsimp only[]at hr
    simp only[h1,Ah]at hr
    exact stepT qf qd zZ (by simp) hP hn hG hI hIL hr) l.length 0 sm (by omega)
  rw[AD,JK]at key
  cases hb:l.any A10L1.bad with
  |true=>rw[hb]at key;rw[GT.eval,hb]at g2;cases g2;exact key
  |false=>rw[hb]at key;rw[GT.eval,hb]at g2;cases g2;exact key
 ·cases e
end A11L1
namespace A41L0
noncomputable def cfg:Cfg:=zw Tryz.prog 4 (gpT [(97,A97.spec)]) (ltT 4 [])
def stN (n:Nat) (kind i:Int):KX:=⟨[(0,.slice (some ⟨1,0,none⟩) n 3),(1,.int .i64 kind),(4,.slice none 0 0),(5,.int .i64 0),(6,.slice none 0 0),(7,.int .i64 i)],[]⟩
def stR (n:Nat) (kind i:Int) (k:Nat) (row:List Value):KX:=⟨[(0,.slice (some ⟨1,0,none⟩) n 3),(1,.int .i64 kind),(4,.slice none 0 0),(5,.int .i64 0),(6,.slice (some ⟨205,0,none⟩) k 3),(7,.int .i64 i)],[row]⟩
def qP (e:Int):KX:=⟨[(4,.slice none 0 0),(5,.int .i64 e)],[]⟩
def exN:KX:=⟨[(6,.slice none 0 0)],[]⟩
def exR (k:Nat) (row:List Value):KX:=⟨[(6,.slice (some ⟨205,0,none⟩) k 3)],[row]⟩
def kp:Ex→List Nat
 | .normal=>[0,1,4,5,6,7]
 | .exit _=>[6]
 | .ret=>[4,5]
def cr:Ex→St→List (Nat×Bool):=fun ex s=>match ex,s.T.get 6 with
 | .ret,_=>[]
 |_,some (.slice (some p) _ _)=>[(p.block,true)]
 |_,_=>[]
theorem vw (n:Nat) (kind i:Int) (cs:List Value):zN cfg [(97,A97.spec)] [] 41 0 (stK 37 205 [(1,cs)] (stN n kind i)) (zv 205 100 37 kp cr)=
 (let x1:=0+((i).toNat*3);let x2:=IntKind.wrap .i64 (i+1);let d:=Ref.ki (rdI cs x1) (rdI cs (x1+1));(bif decide (i<(Int.ofNat n))then(bif decide (0≤i)then(bif Nat.blt (i).toNat n then(bif isL cs x1 [(.i .i64),(.i .i64),.s]then(bif(kind==3)then(bif(d.2 != 0)then(some (.ret,qP d.2))else(some (.normal,stR n kind x2 1 [.int .i64 d.1.1,.int .i64 d.1.2.1,.string d.1.2.2])))else(some (.normal,stR n kind x2 1 [.int .i64 (rdI cs x1),.int .i64 (rdI cs (x1+1)),.string (rdS cs ((x1+1)+1))])))else none)else none)else none)else(some (.exit 0,exN)))):=by kernel_rfl
theorem kl (n:Nat) (kind i:Int) (k:Nat) (row:List Value) (cs:List Value):zN cfg [(97,A97.spec)] [] 41 0 (stK 37 205 [(1,cs)] (stR n kind i k row)) (zv 205 100 37 kp cr)=
 (let x1:=0+((i).toNat*3);let x2:=IntKind.wrap .i64 (i+1);let d:=Ref.ki (rdI cs x1) (rdI cs (x1+1));let r1:=((row.drop 0).take (k*3))++[.int .i64 d.1.1,.int .i64 d.1.2.1,.string d.1.2.2];let r2:=((row.drop 0).take (k*3))++[.int .i64 (rdI cs x1),.int .i64 (rdI cs (x1+1)),.string (rdS cs ((x1+1)+1))];(bif decide (i<(Int.ofNat n))then(bif decide (0≤i)then(bif Nat.blt (i).toNat n then(bif isL cs x1 [(.i .i64),(.i .i64),.s]then(bif(kind==3)then(bif(d.2 != 0)then(some (.ret,qP d.2))else(bif Nat.ble (k+1) 200000000000000 then(bif Nat.ble ((k+1)*32) 200000000000000 then(bif Nat.ble (0+(k*3)) (row).length then(bif r1.all qp&&true then(some (.normal,stR n kind x2 (k+1) r1))else none)else none)else none)else none))else(bif Nat.ble (k+1) 200000000000000 then(bif Nat.ble ((k+1)*32) 200000000000000 then(bif Nat.ble (0+(k*3)) (row).length then(bif r2.all qp&&true then(some (.normal,stR n kind x2 (k+1) r2))else none)else none)else none)else none))else none)else none)else none)else(bif row.all qp&&true then(some (.exit 0,exR k row))else none))):=by kernel_rfl
def conv (kind:Int) (v:W3):W3:=bif kind==3 then(Ref.ki v.1 v.2.1).1 else v
def err (kind:Int) (v:W3):Int:=bif kind==3 then(Ref.ki v.1 v.2.1).2 else 0
def first (kind:Int):List W3→Int
 |[]=>0
 |v::l=>bif err kind v != 0 then err kind v else first kind l
def row (kind:Int) (l:List W3) (j:Nat):List W3:=(l.take j).map (conv kind)
theorem vJ (kind:Int) (l:List W3) {j:Nat} (h:j<l.length):row kind l (j+1)=row kind l j++[conv kind l[j]]:=by
 unfold row
 rw[←List.take_append_getElem h,BH];rfl
theorem xf (kind:Int) (l:List W3) {j:Nat} (h:j≤l.length):(row kind l j).length=j:=by
 unfold row
 rw[AM,BQ];omega
theorem gD (a b:List W3):qm (a++b)=qm a++qm b:=by unfold qm;exact List.flatMap_append
def st (n:Nat) (kind:Int) (l:List W3) (j:Nat):KX:=bif Nat.beq j 0 then stN n kind j else stR n kind j j (qm (row kind l j))
def fin (n:Nat) (kind:Int) (l:List W3):KX:=bif Nat.beq n 0 then exN else exR n (qm (l.map (conv kind)))
def km (kind:Int) (u:Unit) (v:W3):Unit ⊕ (Ex×KX):=bif err kind v != 0 then .inr (.ret,qP (err kind v))else .inl ()
theorem Kr (kind:Int) (f:Ex×KX): ∀l:List W3,wE (km kind) (fun _=>f) () l=bif first kind l != 0 then(.ret,qP (first kind l))else f
 |[]=>rfl
 |v::l=>by
  rw[wE,first]
  unfold km
  cases h:err kind v != 0
  ·exact Kr kind f l
  ·simp only[Ai,h]
def iG (kind:Int) (l:List W3):List Value:=qm (l.map (conv kind))
def D:KD:=⟨37,205,100,[0,1,4,5,6,7],[1],fun _=>[],fun x ro=>match x.vs,x.cars,ro with
 |[(0,.slice (some ⟨1,0,none⟩) n 3),(1,.int .i64 kind),(4,.slice none 0 0),(5,.int .i64 0),(6,.slice none 0 0),(7,.int .i64 0)],[],[(1,cs)]=>
  .qI (kV n (Int.ofNat n) cs) (.br (first kind (qj cs) != 0) (.out (.ret,qP (first kind (qj cs)))) (.br (Nat.beq n 0) (.out (.exit 0,exN)) (.out (.exit 0,exR n (iG kind (qj cs))))))
 |_,_,_=> .no⟩
def lp:LpK:=⟨41,3,0,D⟩
theorem zZ: ∀p∈[((97:FuncId),A97.spec)],qu Tryz.prog La p.1 p.2:=by simpa using A97.qg
theorem qE:zq Tryz.prog La 4 lp:=by
 refine⟨by kernel_rfl,fun c base I hP hn hG hI hIL x ro ex y e=> ?_⟩
 obtain⟨vs,cars⟩:=x
 simp only[lp,D]at e ⊢
 split at e
 ·rename_i n kind cs
  obtain⟨g1,g2⟩:=GT.qh e
  obtain⟨_,hn2,h4,h5⟩:=zM g1
  generalize qj cs=l at h4 h5 g2
  subst h4 h5
  have key:=zA (Step:= @zy (zL base) c base I (qV Tryz.prog 41 0) 37 205 100 [(1,qm l)]) (step:=km kind) (fin:=fun _=>(.exit 0,fin l.length kind l)) (st:=fun _ j=>st l.length kind l j) (l:=l) (fun s=>by simp) (fun s a r h=>by
    unfold km at h
    cases hb:err kind a != 0<;>rw[hb]at h<;>cases h;simp) (fun _ j hj=>by
    have h1:=ltI hj
    have h2:=geI j
    have h3:=j7 hj
    have h4:(0+((j:Int)).toNat*3)=j*3:=by simp
    have h5:=wrI j (by omega)
    have hs:rdS (qm l) (j*3+1+1)=l[j].2.2:=kE l hj
    have hc: ∀v:W3,qm [v]=[.int .i64 v.1,.int .i64 v.2.1,.string v.2.2]:=fun v=>rfl
    cases j with
    |zero=>
     have hr:=vw l.length kind ((0:Nat):Int) (qm l)
     dsimp only[]at hr
     simp only[h1,h2,h3,h4,h5,ke l hj,zU l hj,zT l hj,hs,Ai]at hr
     have e1:st l.length kind l 0=stN l.length kind ((0:Nat):Int):=rfl
     have e2:st l.length kind l (0+1)=stR l.length kind ((0+1:Nat):Int) 1 (qm [conv kind l[0]]):=by
      show stR l.length kind ((0+1:Nat):Int) (0+1) (qm (row kind l (0+1)))=_
      rw[vJ kind l hj];rfl
     rw[e1,e2]
     unfold km err conv
     cases hk:kind==3
     ·rw [hk] at hr
      exact stepT qf qd zZ (by simp) hP hn hG hI hIL hr
     ·rw [hk] at hr
      simp only[Ai]at hr ⊢
      cases hd:(Ref.ki l[0].1 l[0].2.1).2 != 0
      ·rw [hd] at hr
       exact stepT qf qd zZ (by simp) hP hn hG hI hIL hr
      ·rw [hd] at hr
       exact stepT qf qd zZ (by simp) hP hn hG hI hIL hr
    |succ j=>
     have hk:=xf kind l (AV hj)
     have hr:=kl l.length kind ((j+1:Nat):Int) (j+1) (qm (row kind l (j+1))) (qm l)
     dsimp only[]at hr
     have q1: ∀v:W3,((qm (row kind l (j+1))).drop 0).take ((j+1)*3)++[.int .i64 v.1,.int .i64 v.2.1,.string v.2.2]=qm (row kind l (j+1)++[v]):=fun v=>by
      rw[AD,AJ (by rw[zh,hk];exact Aw _),gD];rfl
     have q2:Nat.ble (j+1+1) 200000000000000=true:=by rw[Az];omega
     have q3:Nat.ble ((j+1+1)*32) 200000000000000=true:=by rw[Az];omega
     have q4:Nat.ble (0+(j+1)*3) (qm (row kind l (j+1))).length=true:=by rw[Az,zh,hk];omega
     simp only[h1,h2,h3,h4,h5,ke l hj,zU l hj,zT l hj,hs,q1,q2,q3,q4,qO,AE,Ai]at hr
     have e1:st l.length kind l (j+1)=stR l.length kind ((j+1:Nat):Int) (j+1) (qm (row kind l (j+1))):=rfl
     have e2:st l.length kind l (j+1+1)=stR l.length kind ((j+1+1:Nat):Int) (j+1+1) (qm (row kind l (j+1)++[conv kind l[j+1]])):=by
      show stR l.length kind ((j+1+1:Nat):Int) (j+1+1) (qm (row kind l (j+1+1)))=_
      rw[vJ kind l hj]
     rw[e1,e2]
     unfold km err
     have ec:conv kind l[j+1]=bif kind==3 then(Ref.ki l[j+1].1 l[j+1].2.1).1 else l[j+1]:=rfl
     rw[ec]
     cases hk:kind==3
     ·rw [hk] at hr
      exact stepT qf qd zZ (by simp) hP hn hG hI hIL (hr.trans (by rw[Ah,Ah]))
     ·rw [hk] at hr
      simp only[Ai]at hr ⊢
      cases hd:(Ref.ki l[j+1].1 l[j+1].2.1).2 != 0
      ·rw [hd] at hr
       exact stepT qf qd zZ (by simp) hP hn hG hI hIL hr
      ·rw [hd] at hr
       exact stepT qf qd zZ (by simp) hP hn hG hI hIL hr) (fun _=>by
    have h1:=j6 l.length
    show @zy (zL base) c base I (qV Tryz.prog 41 0) 37 205 100 [(1,qm l)] (st l.length kind l l.length) (.exit 0) (fin l.length kind l)
    cases hl:l.length with
    |zero=>
     have hr:=vw l.length kind (l.length:Int) (qm l)
     dsimp only[]at hr
     simp only[h1,Ah]at hr
     rw[hl]at hr
     exact stepT qf qd zZ (by simp) hP hn hG hI hIL hr
    |succ j=>
     have hr:=kl l.length kind (l.length:Int) l.length (qm (row kind l l.length)) (qm l)
     dsimp only[]at hr
     simp only[h1,Ah,qO,AE,Ai]at hr
     have e3:row kind l l.length=l.map (conv kind):=by unfold row;rw[Bo]
     rw[hl]at hr e3
     have e1:st (j+1) kind l (j+1)=stR (j+1) kind ((j+1:Nat):Int) (j+1) (qm (row kind l (j+1))):=rfl
     have e2:fin (j+1) kind l=exR (j+1) (qm (l.map (conv kind))):=rfl
     rw[e1,e2,←e3]
     exact stepT qf qd zZ (by simp) hP hn hG hI hIL hr) l.length 0 () (by omega)
  rw[AD,Kr]at key
  cases hf:first kind l != 0 with
  |true=>rw[GT.eval,hf]at g2;cases g2;rw[hf]at key;exact key
  |false=>
   rw[hf]at key
   rw[GT.eval,hf]at g2
   simp only[Ah]at g2 key
   cases hb:Nat.beq l.length 0 with
   |true=>rw[GT.eval,hb]at g2;cases g2;unfold fin at key;rw[hb]at key;exact key
   |false=>rw[GT.eval,hb]at g2;cases g2;unfold fin at key;rw[hb]at key;exact key
 ·cases e
end A41L0
namespace A11
def T (s0:ByteArray) (m1:Nat) (c1:List Value):GT Value:=let x3:=(rdI c1 0,rdI c1 1,rdS c1 2);let x5:=A11L0.oa (qj c1);let x1:=A41L0.iG (Ref.jw s0 (List.map vH (List.take (m1*1) (List.drop 0 x5)))).fst (qj c1);let y9:=(x5.drop 0).take (m1*1);let y2:=Ref.jw s0 (y9.map vH);let x2:=A41L0.first y2.1 (qj c1);let x4:=A41L0.iG y2.1 (qj c1);let x6:=A46.guard s0 (qj (List.take (m1*3) (List.drop 0 c1)));let x7:=(rdI c1 3,rdI c1 4,rdS c1 5);let y10:=[(.i .i64),(.i .i64),.s];let y3:=isL c1 0 y10;let y6:=Nat.blt 0 m1;let o1:GT Value:=(.br y6 (.br y3 (.out (.tuple #[.agg #[.int .i64 (rdI c1 0),.int .i64 (rdI c1 1),.string (rdS c1 2)],.int .i64 0])) .no) .no);let o2:GT Value:=(.out (.tuple #[.agg #[.int .i64 0,.int .i64 0,.string ⟨#[]⟩],.int .i64 0]));let y4:=Int.ofNat m1;let y1:=decide (y4=y4)&&((vA c1)&&(Nat.beq c1.length (m1*3)&&Nat.blt m1 6000000000000));let o3:GT Value:=(.br (true&&([((1:Nat),c1)]).all fun p=>p.snd.all qp) (.br y1 (.br (x2 != 0) (.br (x2 != 0) (.out (.tuple #[.agg #[.int .i64 0,.int .i64 0,.string ⟨#[]⟩],.int .i64 x2])) .no) (.br (Nat.beq m1 0) .no (.br (([(true,AA.v (.string s0)),((fun(cs:List Value)=>((0+m1*3).ble cs.length&&(List.take (m1*3) (List.drop 0 cs)).all qp,AA.sl m1 3 (List.take (m1*3) (List.drop 0 cs)))) x1)]).all fun x=>x.fst) (.br ((decide (y4=y4)&&((vA (List.take (m1*3) (List.drop 0 x1)))&&(Nat.beq ((x4.drop 0).take (m1*3)).length (m1*3)&&Nat.blt m1 6000000000000)))&&Nat.blt 0 m1) (.out (.tuple #[.agg #[.int .i64 (Ref.wM s0 (qj (List.take (m1*3) (List.drop 0 x1)))).1,.int .i64 (Ref.wM s0 (qj (List.take (m1*3) (List.drop 0 x1)))).2.1,.string (Ref.wM s0 (qj (List.take (m1*3) (List.drop 0 x1)))).2.2],.int .i64 0])) .no) .no))) .no) .no);let y5:=Ref.kR s0 x3;let o4:GT Value:=(.br y6 (.br y3 (.out (.tuple #[.agg #[.int .i64 y5.1.1,.int .i64 y5.1.2.1,.string y5.1.2.2],.int .i64 y5.2])) .no) .no);let y7:=Fit.yf (rdI c1 0) (rdI c1 1) (rdS c1 2);let y8:=[99,111,97,108,101,115,99,101];let o5:GT Value:=(.br (eqU s0.data.toList y8) o3 (.br (eqU s0.data.toList [103,114,101,97,116,101,115,116]) o3 (.br (eqU s0.data.toList [108,101,97,115,116]) o3 (.br (eqU s0.data.toList [97,98,115]) o4 (.br (eqU s0.data.toList [99,101,105,108]) o4 (.br (eqU s0.data.toList [102,108,111,111,114]) o4 (.br (eqU s0.data.toList [114,111,117,110,100]) o4 (.br (eqU s0.data.toList [115,105,103,110]) o4 (.br (eqU s0.data.toList [116,111,100,101,99]) o4 (.br (eqU s0.data.toList [116,111,105,110,116]) o4 (.br (eqU s0.data.toList [116,111,116,101,120,116]) (.br y6 (.br (isV c1 0 (.i .i64)) (.br ((rdI c1 0)==4) o1 (.br y6 (.br y3 (.br (inR (rdI c1 1)) (.br (decide ((Int.ofNat (y7.data.toList).length)>1024)) (.out (.tuple #[.agg #[.int .i64 0,.int .i64 0,.string ⟨#[]⟩],.int .i64 20])) (.out (.tuple #[.agg #[.int .i64 4,.int .i64 0,.string y7],.int .i64 0]))) .no) .no) .no)) .no) .no) (.br (([(true,AA.v (.string s0)),((fun(cs:List Value)=>((0+m1*3).ble cs.length&&(List.take (m1*3) (List.drop 0 cs)).all qp,AA.sl m1 3 (List.take (m1*3) (List.drop 0 cs)))) c1)]).all fun x=>x.fst) (.br ((decide (y4=y4)&&((vA (List.take (m1*3) (List.drop 0 c1)))&&(Nat.beq ((c1.drop 0).take (m1*3)).length (m1*3)&&Nat.blt m1 6000000000000)))&&x6) (.out (.tuple #[.agg #[.int .i64 (Ref.xc s0 (qj (List.take (m1*3) (List.drop 0 c1)))).1.1,.int .i64 (Ref.xc s0 (qj (List.take (m1*3) (List.drop 0 c1)))).1.2.1,.string (Ref.xc s0 (qj (List.take (m1*3) (List.drop 0 c1)))).1.2.2],.int .i64 (Ref.xc s0 (qj (List.take (m1*3) (List.drop 0 c1)))).2])) .no) .no))))))))))));(.br (true&&([((1:Nat),c1)]).all fun p=>p.snd.all qp) (.br y1 (.br (Nat.beq m1 0) (.out (.tuple #[.agg #[.int .i64 0,.int .i64 0,.string ⟨#[]⟩],.int .i64 100])) (.br (([(true,AA.v (.string s0)),((fun(cs:List Value)=>((0+m1*1).ble cs.length&&(List.take (m1*1) (List.drop 0 cs)).all qp,AA.sl m1 1 (List.take (m1*1) (List.drop 0 cs)))) x5)]).all fun x=>x.fst) (.br (wm m1 y4 y9) (.br (y2.2 != 0) (.out (.tuple #[.agg #[.int .i64 0,.int .i64 0,.string ⟨#[]⟩],.int .i64 y2.2])) (.br (true&&([((1:Nat),c1)]).all fun p=>p.snd.all qp) (.br y1 (.br ((qj c1).any A10L1.bad) (.out (.tuple #[.agg #[.int .i64 0,.int .i64 0,.string ⟨#[]⟩],.int .i64 22])) (.br (eqU s0.data.toList [110,117,108,108,105,102]) (.br y6 (.br y3 (.br (Nat.blt 1 m1) (.br (isL c1 3 y10) (.br ((A40.eqK x3 x7) != 1) o1 (.br ((A40.eqN x3 x7) != 0) o2 o1)) .no) .no) .no) .no) (.br (false||((List.map (fun(x:W3)=>x.fst) (qj c1)).any fun x=>x==0)) (.br (!eqU s0.data.toList y8) o2 o5) o5))) .no) .no)) .no) .no)) .no) .no)
theorem run (s0:ByteArray) (m1:Nat) (c1:List Value):runK 4 [(15,K1),(38,A38.spec),(40,A40.spec),(42,A42.spec),(43,A43.spec),(45,YK),(46,A46.spec),(97,A97.spec)] [A11L0.lp,A11L1.lp,A41L0.lp] 11 [.v (.string s0),.sl m1 3 c1]=(T s0 m1 c1).eval:=by kernel_rfl
open Fit
theorem Wk: ∀l:List W3,A41L0.first 3 l=(Ref.kP l).2
 |[]=>rfl
 |v::l=>by
  rw[A41L0.first,Ref.kP,Wk l]
  show (bif(Ref.ki v.1 v.2.1).2 != 0 then(Ref.ki v.1 v.2.1).2 else(Ref.kP l).2)=_
  by_cases h:(Ref.ki v.1 v.2.1).2=0
  ·rw [Aq (by simpa using h), h]
   by_cases h2:(Ref.kP l).2=0
   ·rw[Aq (by simpa using h2),h2];rfl
   ·rw[Ax h2];rfl
  ·rw [Ax h]
   have:((Ref.ki v.1 v.2.1).2 != 0)=true:=B8.2 h
   rw[this];rfl
theorem aM: ∀l:List W3,(Ref.kP l).2=0→l.map (A41L0.conv 3)=(Ref.kP l).1
 |[],_=>rfl
 |v::l,h=>by
  rw[Ref.kP]at h ⊢
  by_cases h1:(Ref.ki v.1 v.2.1).2=0
  ·rw [Aq (by simpa using h1)] at h ⊢
   by_cases h2:(Ref.kP l).2=0
   ·rw [Aq (by simpa using h2)] at h ⊢
    rw[BR,aM l h2];rfl
   ·rw[Ax h2]at h;exact absurd h h2
  ·rw[Ax h1]at h;exact absurd h h1
theorem Ky {k:Int} (h:(k==3)=false): ∀l:List W3,A41L0.first k l=0
 |[]=>rfl
 |v::l=>by
  rw[A41L0.first,Ky h l]
  unfold A41L0.err
  rw[h];rfl
theorem dE {k:Int} (h:(k==3)=false) (l:List W3):l.map (A41L0.conv k)=l:=by
 have:A41L0.conv k=id:=by
  funext v
  unfold A41L0.conv
  rw[h];rfl
 rw[this,List.map_id]
theorem jk (s:ByteArray) (k:Int) (l:List W3):(bif A41L0.first k l != 0 then(v0,A41L0.first k l)else(Ref.wM s (l.map (A41L0.conv k)),0))=Ref.yr s k l:=by
 unfold Ref.yr
 cases h:k==3
 ·rw[Ky h,dE h];rfl
 ·obtain rfl : k = 3 := eq_of_beq h
  rw[Wk]
  cases h2:(Ref.kP l).2 != 0
  ·rw[aM l (bne_eq_false_iff_eq.1 h2)];rfl
  ·rfl
theorem gz {x:Option Value} (s:ByteArray) (k:Int) (l:List W3) (h:x=some (ve (bif A41L0.first k l != 0 then(v0,A41L0.first k l)else(Ref.wM s (l.map (A41L0.conv k)),0)))):x=some (ve (Ref.yr s k l)):=by rw[h,jk]
theorem xI {s:ByteArray} {l:List W3} (h:(Ref.jw s (l.map (·.1))).2=0):0<l.length:=by
 rw[Ref.Q4]at h
 exact A10.xI h
theorem KH {s:ByteArray} {l:List W3} (hk:(Ref.jw s (l.map (·.1))).2=0) (hb:l.any A10L1.bad=false) (h: ∀t∈([[110,117,108,108,105,102],[99,111,97,108,101,115,99,101],[103,114,101,97,116,101,115,116],[108,101,97,115,116],[116,111,116,101,120,116],[97,98,115],[99,101,105,108],[102,108,111,111,114],[114,111,117,110,100],[115,105,103,110],[116,111,100,101,99],[116,111,105,110,116]]:List (List UInt8)),eqU s.data.toList t=false):A46.guard s l=true:=by
 unfold A46.guard
 have h1:l.all A37L0.jn=true:=Ap.2 fun v hv=>A10.JH (YB hb v hv)
 have h2:Nat.blt 0 l.length=true:=by rw[AB];exact xI hk
 rw[h1,h2]
 rw[Ref.Q4]at hk
 simp only[AX,AZ,or_false,forall_eq_or_imp,forall_eq]at h
 obtain⟨p1,p2,p3,p4,p5,p6,p7,p8,p9,p10,p11,p12⟩:=h
 cases q1:eqU s.data.toList [99,111,110,99,97,116]
 rotate_left
 ·rfl
 cases q2:eqU s.data.toList [108,101,110,103,116,104]
 rotate_left
 ·rfl
 cases q3:eqU s.data.toList [108,111,119,101,114]
 rotate_left
 ·rfl
 cases q4:eqU s.data.toList [117,112,112,101,114]
 rotate_left
 ·rfl
 cases q5:eqU s.data.toList [116,114,105,109]
 rotate_left
 ·rfl
 unfold kA at hk
 rw[p1,p2,p3,p4,p5,p6,p7,p8,p9,p10,p11,p12,q1,q2,q3,q4,q5]at hk
 simp only[Ah]at hk
 cases hb:(l.map (·.1)).any A14L0.bad
 rotate_left
 ·rw[hb]at hk;cases hk
 rw[hb]at hk
 simp only[Ah]at hk
 cases q6:eqU s.data.toList [115,117,98,115,116,114]
 ·rw[q6]at hk;cases hk
 ·rw [q6] at hk
  obtain⟨a,b,c,e,_⟩:=YE (rP0 hk).1
  have:=Bg List.length e
  rw[AM]at this
  have:Nat.blt 2 l.length=true:=by rw[this];rfl
  rw[this];rfl
set_option maxHeartbeats 0 in
theorem qN (s:ByteArray) (l:List W3) (hl:l.length<6000000000000) (hin:l.all (fun v=>inR v.2.1)=true):(T s l.length (qm l)).eval=some (ve (Ref.yT s l)):=by
 cases hb0:Nat.beq l.length 0
 rotate_left
 ·have : l = [] := AP.1 (Am hb0)
  subst this
  unfold Ref.yT
  rw[List.map_nil,Ref.Q4,A10.yx];rfl
 have h0:0<l.length:=by
  cases l with
  |nil=>cases hb0
  |cons v l=>simp
 have g:Nat.blt l.length 6000000000000=true:=by rw[AB];exact hl
 have gs:=qO l
 have g2:=xP (l:=l.map (·.1)) (by rw[AM];omega)
 rw[AM]at g2
 have a1:(true&&[((1:Nat),qm l)].all fun p=>p.2.all qp)=true:=by simp[qO]
 have a3:((ints .i64 (l.map (·.1))).drop 0).take (l.length*1)=ints .i64 (l.map (·.1)):=by rw[AD,BY];exact AJ (by rw[zH,AM];exact Aw _)
 have a4:((qm l).drop 0).take (l.length*3)=qm l:=by rw[AD];exact AJ (by rw[zh];exact Aw _)
 have a7: ∀k:Int,((qm (l.map (A41L0.conv k))).drop 0).take (l.length*3)=qm (l.map (A41L0.conv k)):=fun k=>by rw[AD];exact AJ (by rw[zh,AM];exact Aw _)
 have a5:(0+l.length*1).ble l.length=true:=by rw[Az];omega
 have a6:(0+l.length*3).ble (l.length*3)=true:=by rw[Az];omega
 have r0:A11L0.oa l=ints .i64 (l.map (·.1)):=rfl
 have r1: ∀k,A41L0.iG k l=qm (l.map (A41L0.conv k)):=fun _=>rfl
 have b0:Nat.blt 0 l.length=true:=by rw[AB];exact h0
 have q0:rdI (qm l) 0=(l.headD v0).1:=by have:=zU l h0;rw[A37.at0 l h0]at this;exact this
 have q1:rdI (qm l) 1=(l.headD v0).2.1:=by have:=zT l h0;rw[A37.at0 l h0]at this;exact this
 have q2:rdS (qm l) 2=(l.headD v0).2.2:=by have:=kE l h0;rw[A37.at0 l h0]at this;exact this
 have q3:isL (qm l) 0 [.i .i64,.i .i64,.s]=true:=ke l h0
 have q4:isV (qm l) 0 (.i .i64)=true:=A11L0.cY l h0
 have q5:inR (l.headD v0).2.1=true:=Ap.1 hin _ (A37.head_mem l h0)
 unfold T
 dsimp only[]at a1 ⊢
 simp only[hb0,b0,q0,q1,q2,q3,q4,q5,r0,r1,a1,a3,a4,a5,a6,a7,g,gs,g2,vy,zh,zH,AM,A5,decide_true,AI,zn,jG,qZ,qO,GT.eval,AF,AE,Bb,Ai,Ah,A1,BS]
 unfold Ref.yT
 generalize hK:(Ref.jw s (l.map (·.1))).1=K
 cases hk:(Ref.jw s (l.map (·.1))).2 != 0
 rotate_left
 ·rfl
 have hk:=bne_eq_false_iff_eq.1 hk
 simp only[Ah]
 cases gy:l.any A10L1.bad
 rotate_left
 ·rfl
 simp only[Ah]
 cases n2:eqU s.data.toList [110,117,108,108,105,102]
 rotate_left
 ·obtain rfl := zR n2
  have k1:1<l.length:=A10.ZJ (by rw[←Ref.Q4];exact hk)
  have t0:rdI (qm l) 3=(l.getD 1 v0).1:=by have:=zU l k1;rw[A37.atj l 1 k1]at this;exact this
  have t1:rdI (qm l) 4=(l.getD 1 v0).2.1:=by have:=zT l k1;rw[A37.atj l 1 k1]at this;exact this
  have t2:rdS (qm l) 5=(l.getD 1 v0).2.2:=by have:=kE l k1;rw[A37.atj l 1 k1]at this;exact this
  have t3:isL (qm l) 3 [.i .i64,.i .i64,.s]=true:=ke l k1
  have b1:Nat.blt 1 l.length=true:=by rw[AB];exact k1
  simp only[t0,t1,t2,t3,b1,Ai]
  generalize l.headD v0=v
  generalize l.getD 1 v0=u
  unfold A40.eqK A40.eqN Ref.same A35.tru
  dsimp only
  cases v.1==0||u.1==0
  ·cases (Ref.zB v.1 v.2.1 v.2.2 u.1 u.2.1 u.2.2).2&&(Ref.zB v.1 v.2.1 v.2.2 u.1 u.2.1 u.2.2).1==0<;>rfl
  ·rfl
 simp only[Ah]
 cases n1:eqU s.data.toList [99,111,97,108,101,115,99,101]
 rotate_left
 ·simp only [Bh, Ch, Ah, Ai]
  refine gz s K l ?_
  cases (l.map (·.1)).any (· ==0)<;>cases A41L0.first K l != 0<;>rfl
 simp only[Bv,AE,Ai,Ah]
 cases hz:(l.map (·.1)).any (· ==0)
 rotate_left
 ·rfl
 simp only[Ah]
 cases n3:eqU s.data.toList [103,114,101,97,116,101,115,116]
 rotate_left
 ·simp only [Ai]
  refine gz s K l ?_
  cases A41L0.first K l != 0<;>rfl
 cases n4:eqU s.data.toList [108,101,97,115,116]
 rotate_left
 ·simp only [Ai, Ah]
  refine gz s K l ?_
  cases A41L0.first K l != 0<;>rfl
 cases Vn:eqU s.data.toList [97,98,115]
 rotate_left
 ·rfl
 cases Qm:eqU s.data.toList [99,101,105,108]
 rotate_left
 ·rfl
 cases xZ:eqU s.data.toList [102,108,111,111,114]
 rotate_left
 ·rfl
 cases yb:eqU s.data.toList [114,111,117,110,100]
 rotate_left
 ·rfl
 cases Qw:eqU s.data.toList [115,105,103,110]
 rotate_left
 ·rfl
 cases xU:eqU s.data.toList [116,111,100,101,99]
 rotate_left
 ·rfl
 cases xO:eqU s.data.toList [116,111,105,110,116]
 rotate_left
 ·rfl
 cases n5:eqU s.data.toList [116,111,116,101,120,116]
 rotate_left
 ·cases (l.headD v0).1 == 4
  ·exact A37.vI _
  ·rfl
 rw[KH hk gy (by
  simp only[AX,AZ,or_false,forall_eq_or_imp,forall_eq]
  exact⟨n2,n1,n3,n4,n5,Vn,Qm,xZ,yb,Qw,xU,xO⟩)]
 rfl
def spec:Spec:=fun aa=>match aa with
 |[.v (.string s),.sl n 3 cs]=>some (.qI (kV n (Int.ofNat n) cs&&(qj cs).all (fun v=>inR v.2.1)) (.out (ve (Ref.yT s (qj cs)))))
 |_=>none
theorem qg:qu Tryz.prog La 11 spec:=⟨qD (by kernel_rfl),fun aa t v h e=>by
 unfold spec at h
 split at h
 ·rename_i s n cs
  cases h
  obtain⟨g1,g2⟩:=GT.qh e
  cases g2
  simp only[Ag]at g1
  obtain⟨_,hn,h4,h5⟩:=zM g1.1
  have hin:=g1.2
  generalize qj cs=l at h4 h5 hin
  subst h4 h5
  exact⟨rfl,qS qx qf qd (by simpa using⟨pd,A38.qg,A40.qg,A42.qg,A43.qg,tA,A46.qg,A97.qg⟩) (by simpa using⟨A11L0.qE,A11L1.qE,A41L0.qE⟩) (by decide) (by simp) rfl ((run _ _ _).trans (qN _ _ hn hin))⟩
 ·cases h⟩
end A11
namespace A11n
theorem run (s0:ByteArray):runK 4 [(38,A38.spec)] [] 11 [.v (.string s0),.nil]=some (ve (v0,100)):=by kernel_rfl
def spec:Spec:=fun aa=>match aa with
 |[.v (.string s),.nil]=>some (.out (ve (v0,100)))
 |_=>none
theorem qg:qu Tryz.prog La 11 spec:=⟨qD (by kernel_rfl),fun aa t v h e=>by
 unfold spec at h
 split at h
 ·rename_i s
  cases h;cases e
  exact⟨rfl,qS qx qf qd (by simpa using A38.qg) (by simp) (by decide) (by simp) rfl (run s)⟩
 ·cases h⟩
end A11n
namespace A11m
def spec:Spec:=fun aa=>match aa with
 |[.v (.string s),.sl n 3 cs]=>some (.qI (kV n (Int.ofNat n) cs&&(qj cs).all (fun v=>inR v.2.1)) (.out (ve (Fit.zW s (qj cs)))))
 |[.v (.string s),.nil]=>some (.out (ve (v0,100)))
 |_=>none
theorem qg:qu Tryz.prog La 11 spec:=⟨qD (by kernel_rfl),fun aa t v e1 e2=>by
 unfold spec at e1
 split at e1
 ·rename_i s n cs
  cases e1
  obtain⟨g1,g2⟩:=GT.qh e2
  cases g2
  have g:=g1
  rw[Ag]at g
  refine A11.qg.2 [.v (.string s),.sl n 3 cs] _ _ rfl ?_
  rw[←Ref.lA s (qj cs) (fun v hv=>Ap.1 g.2 v hv)]
  show (bif _ then _ else _)=_
  rw[g1];rfl
 ·rename_i s
  cases e1
  exact A11n.qg.2 [.v (.string s),.nil] _ _ rfl e2
 ·cases e1⟩
end A11m
namespace A39
def T (k0 n0:Int) (s0:ByteArray):GT Value:=(.br (k0 != 1) (.out (.bool false)) (.br (n0 != 0) (.out (.bool true)) (.out (.bool false))))
theorem run (k0 n0:Int) (s0:ByteArray):runK 4 [] [] 39 [.v (.agg #[.int .i64 k0,.int .i64 n0,.string s0])]=(T k0 n0 s0).eval:=by kernel_rfl
theorem qN (k n:Int) (s:ByteArray):(T k n s).eval=some (.bool (A35.tru k n)):=by
 unfold A35.tru
 cases h:k==1<;>cases h2:n==0<;>simp[T,GT.eval,bne,h,h2]
def spec:Spec:=fun aa=>match aa with
 |[a]=>(vOf a).bind fun x=>some (.out (.bool (A35.tru x.1 x.2.1)))
 |_=>none
theorem qg:qu Tryz.prog La 39 spec:=⟨qD (by kernel_rfl),fun aa t v h e=>by
 unfold spec at h
 split at h
 ·rename_i a
  obtain⟨⟨k0,n0,s0⟩,h1,h⟩:=qi h
  cases h;cases e
  rw[qM h1]
  exact⟨rfl,qS (l:=[]) (L:=[]) (n0:=4) (k:=12) qx qf qd (by simp) (by simp) (by decide) (by simp) rfl ((run k0 n0 s0).trans (qN _ _ _))⟩
 ·cases h⟩
end A39
namespace A17L0N
noncomputable def cfg:Cfg:=zw Tryz.prog 4 (gpT [(15,K1),(113,A113.spec),(112,A112.spec),(114,yC fun t x y=>ve (Ari.wC t x y)),(11,A11m.spec),(97,sp1 fun x=>ve (A75.kn x.1 x.2.1)),(39,A39.spec)]) (ltT 4 [])
def stA (n nr na:Nat) (i:Int):KX:=⟨[(0,.slice (some ⟨0,0,none⟩) n 6),(1,.slice (some ⟨1,0,none⟩) nr 3),(2,.slice (some ⟨2,0,none⟩) na 3),(6,.pointer (some ⟨5,0,none⟩)),(7,.int .i64 0),(8,.slice none 0 0),(9,.int .i64 i)],[[.int .i64 0,.int .i64 0,.string ⟨#[]⟩]]⟩
def kp:Ex→List Nat
 | .normal=>[0,1,2,6,7,8,9]
 | .exit _=>[6,8]
 | .ret=>[6,7]
def cr:Ex→St→List (Nat×Bool):=fun e s=>match s.T.get 6 with
 |some (.pointer (some r))=>(match e with
  | .ret=>[(r.block,true)]
  |_=>match s.T.get 8 with
   |some (.slice (some q) _ _)=>[(r.block,true),(q.block,true)]
   |_=>[(r.block,true)])
 |_=>[]
theorem round (n nr na:Nat) (i:Int) (cs:List Value) (rs:List Value) (as_:List Value):zN cfg [(15,K1),(113,A113.spec),(112,A112.spec),(114,yC fun t x y=>ve (Ari.wC t x y)),(11,A11m.spec),(97,sp1 fun x=>ve (A75.kn x.1 x.2.1)),(39,A39.spec)] [] 17 0 (stK 47 5 [(0,cs),(1,rs),(2,as_)] (stA n nr na i)) (zv 5 100 47 kp cr)=(let x2:=0+(i.toNat*6);let x1:=rdI cs (x2+1);let x3:=0+(x1.toNat*3);let x4:=IntKind.wrap .i64 (0 - x1);let x5:=IntKind.wrap .i64 (i+1);let x6:=rdS cs (((((x2+1)+1)+1)+1)+1);let x7:=rdI cs ((((x2+1)+1)+1)+1);let x8:=rdI cs (((x2+1)+1)+1);let x9:=rdS as_ ((x3+1)+1);let x10:=rdS rs ((x3+1)+1);let o1:Option (Ex×KX):=(some (.ret,⟨[(6,.pointer (some ⟨5,0,none⟩)),(7,.int .i64 22)],[[.int .i64 0,.int .i64 0,.string ⟨#[]⟩]]⟩));(bif decide (i<(Int.ofNat n))then(bif decide (0≤i)then(bif Nat.blt i.toNat n then(bif isL cs x2 [(.i .i64),(.i .i64),.s,(.i .i64),(.i .i64),.s]then(bif((rdI cs x2)==1)then(bif(!(A33.okv x8 x7 x6))then o1 else(some (.normal,⟨[(0,.slice (some ⟨0,0,none⟩) n 6),(1,.slice (some ⟨1,0,none⟩) nr 3),(2,.slice (some ⟨2,0,none⟩) na 3),(6,.pointer (some ⟨5,0,none⟩)),(7,.int .i64 0),(8,.slice (some ⟨6,0,none⟩) 1 3),(9,.int .i64 x5)],[[.int .i64 0,.int .i64 0,.string ⟨#[]⟩],[.int .i64 x8,.int .i64 x7,.string x6]]⟩)))else(bif((rdI cs x2)==2)then(bif decide (0≤x1)then(bif Nat.blt x1.toNat nr then(bif isL rs x3 [(.i .i64),(.i .i64),.s]then(bif(!(A33.okv (rdI rs x3) (rdI rs (x3+1)) x10))then o1 else(some (.normal,⟨[(0,.slice (some ⟨0,0,none⟩) n 6),(1,.slice (some ⟨1,0,none⟩) nr 3),(2,.slice (some ⟨2,0,none⟩) na 3),(6,.pointer (some ⟨5,0,none⟩)),(7,.int .i64 0),(8,.slice (some ⟨6,0,none⟩) 1 3),(9,.int .i64 x5)],[[.int .i64 0,.int .i64 0,.string ⟨#[]⟩],[.int .i64 (rdI rs x3),.int .i64 (rdI rs (x3+1)),.string x10]]⟩)))else none)else none)else none)else(bif((rdI cs x2)==9)then(bif decide (0≤x1)then(bif Nat.blt x1.toNat na then(bif isL as_ x3 [(.i .i64),(.i .i64),.s]then(bif(!(A33.okv (rdI as_ x3) (rdI as_ (x3+1)) x9))then o1 else(some (.normal,⟨[(0,.slice (some ⟨0,0,none⟩) n 6),(1,.slice (some ⟨1,0,none⟩) nr 3),(2,.slice (some ⟨2,0,none⟩) na 3),(6,.pointer (some ⟨5,0,none⟩)),(7,.int .i64 0),(8,.slice (some ⟨6,0,none⟩) 1 3),(9,.int .i64 x5)],[[.int .i64 0,.int .i64 0,.string ⟨#[]⟩],[.int .i64 (rdI as_ x3),.int .i64 (rdI as_ (x3+1)),.string x9]]⟩)))else none)else none)else none)else(bif((rdI cs x2)==3)then none else(bif((rdI cs x2)==4)then none else(bif((rdI cs x2)==5)then none else(bif((rdI cs x2)==6)then(bif(decide (0≤x4)&&Nat.ble x4.toNat 0)then(bif(decide (0≤x4)&&Nat.ble x4.toNat 0)then(some (.ret,⟨[(6,.pointer (some ⟨5,0,none⟩)),(7,.int .i64 100)],[[.int .i64 0,.int .i64 0,.string ⟨#[]⟩]]⟩))else none)else none)else(bif((rdI cs x2)==10)then none else(bif((rdI cs x2)==7)then(some (.normal,⟨[(0,.slice (some ⟨0,0,none⟩) n 6),(1,.slice (some ⟨1,0,none⟩) nr 3),(2,.slice (some ⟨2,0,none⟩) na 3),(6,.pointer (some ⟨5,0,none⟩)),(7,.int .i64 0),(8,.slice none 0 0),(9,.int .i64 x1)],[[.int .i64 0,.int .i64 0,.string ⟨#[]⟩]]⟩))else(bif((rdI cs x2)==8)then none else(some (.normal,⟨[(0,.slice (some ⟨0,0,none⟩) n 6),(1,.slice (some ⟨1,0,none⟩) nr 3),(2,.slice (some ⟨2,0,none⟩) na 3),(6,.pointer (some ⟨5,0,none⟩)),(7,.int .i64 0),(8,.slice (some ⟨6,0,none⟩) 1 3),(9,.int .i64 x5)],[[.int .i64 0,.int .i64 0,.string ⟨#[]⟩],[.int .i64 0,.int .i64 0,.string ⟨#[]⟩]]⟩))))))))))))else none)else none)else none)else(some (.exit 0,⟨[(6,.pointer (some ⟨5,0,none⟩)),(8,.slice none 0 0)],[[.int .i64 0,.int .i64 0,.string ⟨#[]⟩]]⟩)))):=by kernel_rfl
end A17L0N
namespace A17L0R
noncomputable def cfg:Cfg:=zw Tryz.prog 4 (gpT [(15,K1),(113,A113.spec),(112,A112.spec),(114,yC fun t x y=>ve (Ari.wC t x y)),(11,A11m.spec),(97,sp1 fun x=>ve (A75.kn x.1 x.2.1)),(39,A39.spec)]) (ltT 4 [])
def stA (n nr na k:Nat) (i:Int) (row:List Value):KX:=⟨[(0,.slice (some ⟨0,0,none⟩) n 6),(1,.slice (some ⟨1,0,none⟩) nr 3),(2,.slice (some ⟨2,0,none⟩) na 3),(6,.pointer (some ⟨5,0,none⟩)),(7,.int .i64 0),(8,.slice (some ⟨6,0,none⟩) k 3),(9,.int .i64 i)],[[.int .i64 0,.int .i64 0,.string ⟨#[]⟩],row]⟩
def kp:Ex→List Nat
 | .normal=>[0,1,2,6,7,8,9]
 | .exit _=>[6,8]
 | .ret=>[6,7]
def cr:Ex→St→List (Nat×Bool):=fun e s=>match s.T.get 6 with
 |some (.pointer (some r))=>(match e with
  | .ret=>[(r.block,true)]
  |_=>match s.T.get 8 with
   |some (.slice (some q) _ _)=>[(r.block,true),(q.block,true)]
   |_=>[(r.block,true)])
 |_=>[]
theorem round (n nr na k:Nat) (i:Int) (row:List Value) (cs:List Value) (rs:List Value) (as_:List Value):zN cfg [(15,K1),(113,A113.spec),(112,A112.spec),(114,yC fun t x y=>ve (Ari.wC t x y)),(11,A11m.spec),(97,sp1 fun x=>ve (A75.kn x.1 x.2.1)),(39,A39.spec)] [] 17 0 (stK 47 5 [(0,cs),(1,rs),(2,as_)] (stA n nr na k i row)) (zv 5 100 47 kp cr)=(let x3:=IntKind.wrap .i64 ((Int.ofNat k) - 1);let x4:=IntKind.wrap .i64 ((Int.ofNat k) - 0);let x5:=0+(x3.toNat*3);let x6:=0+(i.toNat*6);let x2:=IntKind.wrap .i64 ((Int.ofNat k) - (rdI cs (x6+1)));let x7:=IntKind.wrap .i64 ((Int.ofNat k) - 2);let x10:=0+(x2.toNat*3);let x11:=rdS cs ((x6+1)+1);let x12:=0+((rdI cs (x6+1)).toNat*3);let x13:=IntKind.wrap .i64 (i+1);let x14:=0+((x4.toNat - 0)*3);let x15:=0+((x3.toNat - 0)*3);let x16:=0+(x4.toNat - 0);let x17:=0+(x3.toNat - 0);let x18:=rdI row (x5+1);let x8:=A79.xk (rdI row x5) x18;let x9:=A75.kn (rdI row x5) x18;let x19:=0+((x2.toNat - 0)*3);let x20:=rdS row ((x5+1)+1);let x21:=0+(x2.toNat - 0);let x22:=rdS cs (((((x6+1)+1)+1)+1)+1);let x23:=rdI cs ((((x6+1)+1)+1)+1);let x24:=rdI cs (((x6+1)+1)+1);let x25:=0+((x7.toNat - 0)*3);let x26:=rdS as_ ((x12+1)+1);let x27:=rdS rs ((x12+1)+1);let x28:=0+(x7.toNat - 0);let x29:=rdI as_ (x12+1);let x30:=rdI rs (x12+1);let x31:=0+(x7.toNat*3);let x1:=Ari.wC x11 ((rdI row x31),((rdI row (x31+1)),(rdS row ((x31+1)+1)))) ((rdI row x5),(x18,x20));let o1:Option (Ex×KX):=(bif(decide (0≤x2)&&Nat.ble x2.toNat k)then(bif Nat.beq (x2.toNat - 0) 0 then(bif((Fit.zW x11 (qj ((row.drop x10).take ((k - x2.toNat)*3)))).2 != 0)then(some (.ret,⟨[(6,.pointer (some ⟨5,0,none⟩)),(7,.int .i64 (Fit.zW x11 (qj ((row.drop x10).take ((k - x2.toNat)*3)))).2)],[[.int .i64 0,.int .i64 0,.string ⟨#[]⟩]]⟩))else(some (.normal,⟨[(0,.slice (some ⟨0,0,none⟩) n 6),(1,.slice (some ⟨1,0,none⟩) nr 3),(2,.slice (some ⟨2,0,none⟩) na 3),(6,.pointer (some ⟨5,0,none⟩)),(7,.int .i64 0),(8,.slice (some ⟨6,0,none⟩) 1 3),(9,.int .i64 x13)],[[.int .i64 0,.int .i64 0,.string ⟨#[]⟩],[.int .i64 (Fit.zW x11 (qj ((row.drop x10).take ((k - x2.toNat)*3)))).1.1,.int .i64 (Fit.zW x11 (qj ((row.drop x10).take ((k - x2.toNat)*3)))).1.2.1,.string (Fit.zW x11 (qj ((row.drop x10).take ((k - x2.toNat)*3)))).1.2.2]]⟩)))else(bif Nat.ble x21 200000000000000 then(bif Nat.ble (x21*32) 200000000000000 then(bif Nat.ble x19 row.length then(bif((row.drop 0).take ((x2.toNat - 0)*3)).all wz then(bif Nat.ble ((x2.toNat - 0)+1) 200000000000000 then(bif Nat.ble (((x2.toNat - 0)+1)*32) 200000000000000 then(bif Nat.ble x19 ((row.drop 0).take ((x2.toNat - 0)*3)).length then(bif((Fit.zW x11 (qj ((row.drop x10).take ((k - x2.toNat)*3)))).2 != 0)then(some (.ret,⟨[(6,.pointer (some ⟨5,0,none⟩)),(7,.int .i64 (Fit.zW x11 (qj ((row.drop x10).take ((k - x2.toNat)*3)))).2)],[[.int .i64 0,.int .i64 0,.string ⟨#[]⟩]]⟩))else(bif(true&&((((((row.drop 0).take ((x2.toNat - 0)*3)).drop 0).take ((x2.toNat - 0)*3))++[Value.int .i64 (Fit.zW x11 (qj ((row.drop x10).take ((k - x2.toNat)*3)))).1.1,.int .i64 (Fit.zW x11 (qj ((row.drop x10).take ((k - x2.toNat)*3)))).1.2.1,.string (Fit.zW x11 (qj ((row.drop x10).take ((k - x2.toNat)*3)))).1.2.2]).all qp&&true))then(some (.normal,⟨[(0,.slice (some ⟨0,0,none⟩) n 6),(1,.slice (some ⟨1,0,none⟩) nr 3),(2,.slice (some ⟨2,0,none⟩) na 3),(6,.pointer (some ⟨5,0,none⟩)),(7,.int .i64 0),(8,.slice (some ⟨6,0,none⟩) ((x2.toNat - 0)+1) 3),(9,.int .i64 x13)],[[.int .i64 0,.int .i64 0,.string ⟨#[]⟩],(((((row.drop 0).take ((x2.toNat - 0)*3)).drop 0).take ((x2.toNat - 0)*3))++[Value.int .i64 (Fit.zW x11 (qj ((row.drop x10).take ((k - x2.toNat)*3)))).1.1,.int .i64 (Fit.zW x11 (qj ((row.drop x10).take ((k - x2.toNat)*3)))).1.2.1,.string (Fit.zW x11 (qj ((row.drop x10).take ((k - x2.toNat)*3)))).1.2.2])]⟩))else none))else none)else none)else none)else none)else none)else none)else none))else none);let o2:Option (Ex×KX):=(bif(decide (0≤x7)&&Nat.ble x7.toNat k)then(bif Nat.beq (x7.toNat - 0) 0 then(bif(x1.2 != 0)then(some (.ret,⟨[(6,.pointer (some ⟨5,0,none⟩)),(7,.int .i64 x1.2)],[[.int .i64 0,.int .i64 0,.string ⟨#[]⟩]]⟩))else(some (.normal,⟨[(0,.slice (some ⟨0,0,none⟩) n 6),(1,.slice (some ⟨1,0,none⟩) nr 3),(2,.slice (some ⟨2,0,none⟩) na 3),(6,.pointer (some ⟨5,0,none⟩)),(7,.int .i64 0),(8,.slice (some ⟨6,0,none⟩) 1 3),(9,.int .i64 x13)],[[.int .i64 0,.int .i64 0,.string ⟨#[]⟩],[.int .i64 x1.1.1,.int .i64 x1.1.2.1,.string x1.1.2.2]]⟩)))else(bif Nat.ble x28 200000000000000 then(bif Nat.ble (x28*32) 200000000000000 then(bif Nat.ble x25 row.length then(bif((row.drop 0).take ((x7.toNat - 0)*3)).all wz then(bif Nat.ble ((x7.toNat - 0)+1) 200000000000000 then(bif Nat.ble (((x7.toNat - 0)+1)*32) 200000000000000 then(bif Nat.ble x25 ((row.drop 0).take ((x7.toNat - 0)*3)).length then(bif(x1.2 != 0)then(some (.ret,⟨[(6,.pointer (some ⟨5,0,none⟩)),(7,.int .i64 x1.2)],[[.int .i64 0,.int .i64 0,.string ⟨#[]⟩]]⟩))else(bif(true&&((((((row.drop 0).take ((x7.toNat - 0)*3)).drop 0).take ((x7.toNat - 0)*3))++[Value.int .i64 x1.1.1,.int .i64 x1.1.2.1,.string x1.1.2.2]).all qp&&true))then(some (.normal,⟨[(0,.slice (some ⟨0,0,none⟩) n 6),(1,.slice (some ⟨1,0,none⟩) nr 3),(2,.slice (some ⟨2,0,none⟩) na 3),(6,.pointer (some ⟨5,0,none⟩)),(7,.int .i64 0),(8,.slice (some ⟨6,0,none⟩) ((x7.toNat - 0)+1) 3),(9,.int .i64 x13)],[[.int .i64 0,.int .i64 0,.string ⟨#[]⟩],(((((row.drop 0).take ((x7.toNat - 0)*3)).drop 0).take ((x7.toNat - 0)*3))++[Value.int .i64 x1.1.1,.int .i64 x1.1.2.1,.string x1.1.2.2])]⟩))else none))else none)else none)else none)else none)else none)else none)else none))else none);let o3:Option (Ex×KX):=(bif(decide (0≤x3)&&Nat.ble x3.toNat k)then(bif Nat.beq (x3.toNat - 0) 0 then(bif(x9.2 != 0)then(some (.ret,⟨[(6,.pointer (some ⟨5,0,none⟩)),(7,.int .i64 x9.2)],[[.int .i64 0,.int .i64 0,.string ⟨#[]⟩]]⟩))else(some (.normal,⟨[(0,.slice (some ⟨0,0,none⟩) n 6),(1,.slice (some ⟨1,0,none⟩) nr 3),(2,.slice (some ⟨2,0,none⟩) na 3),(6,.pointer (some ⟨5,0,none⟩)),(7,.int .i64 0),(8,.slice (some ⟨6,0,none⟩) 1 3),(9,.int .i64 x13)],[[.int .i64 0,.int .i64 0,.string ⟨#[]⟩],[.int .i64 x9.1.1,.int .i64 x9.1.2.1,.string x9.1.2.2]]⟩)))else(bif Nat.ble x17 200000000000000 then(bif Nat.ble (x17*32) 200000000000000 then(bif Nat.ble x15 row.length then(bif((row.drop 0).take ((x3.toNat - 0)*3)).all wz then(bif Nat.ble ((x3.toNat - 0)+1) 200000000000000 then(bif Nat.ble (((x3.toNat - 0)+1)*32) 200000000000000 then(bif Nat.ble x15 ((row.drop 0).take ((x3.toNat - 0)*3)).length then(bif(x9.2 != 0)then(some (.ret,⟨[(6,.pointer (some ⟨5,0,none⟩)),(7,.int .i64 x9.2)],[[.int .i64 0,.int .i64 0,.string ⟨#[]⟩]]⟩))else(bif(true&&((((((row.drop 0).take ((x3.toNat - 0)*3)).drop 0).take ((x3.toNat - 0)*3))++[Value.int .i64 x9.1.1,.int .i64 x9.1.2.1,.string x9.1.2.2]).all qp&&true))then(some (.normal,⟨[(0,.slice (some ⟨0,0,none⟩) n 6),(1,.slice (some ⟨1,0,none⟩) nr 3),(2,.slice (some ⟨2,0,none⟩) na 3),(6,.pointer (some ⟨5,0,none⟩)),(7,.int .i64 0),(8,.slice (some ⟨6,0,none⟩) ((x3.toNat - 0)+1) 3),(9,.int .i64 x13)],[[.int .i64 0,.int .i64 0,.string ⟨#[]⟩],(((((row.drop 0).take ((x3.toNat - 0)*3)).drop 0).take ((x3.toNat - 0)*3))++[Value.int .i64 x9.1.1,.int .i64 x9.1.2.1,.string x9.1.2.2])]⟩))else none))else none)else none)else none)else none)else none)else none)else none))else none);let o4:Option (Ex×KX):=(bif(decide (0≤x3)&&Nat.ble x3.toNat k)then(bif Nat.beq (x3.toNat - 0) 0 then(bif(x8.2 != 0)then(some (.ret,⟨[(6,.pointer (some ⟨5,0,none⟩)),(7,.int .i64 x8.2)],[[.int .i64 0,.int .i64 0,.string ⟨#[]⟩]]⟩))else(some (.normal,⟨[(0,.slice (some ⟨0,0,none⟩) n 6),(1,.slice (some ⟨1,0,none⟩) nr 3),(2,.slice (some ⟨2,0,none⟩) na 3),(6,.pointer (some ⟨5,0,none⟩)),(7,.int .i64 0),(8,.slice (some ⟨6,0,none⟩) 1 3),(9,.int .i64 x13)],[[.int .i64 0,.int .i64 0,.string ⟨#[]⟩],[.int .i64 x8.1.1,.int .i64 x8.1.2.1,.string x8.1.2.2]]⟩)))else(bif Nat.ble x17 200000000000000 then(bif Nat.ble (x17*32) 200000000000000 then(bif Nat.ble x15 row.length then(bif((row.drop 0).take ((x3.toNat - 0)*3)).all wz then(bif Nat.ble ((x3.toNat - 0)+1) 200000000000000 then(bif Nat.ble (((x3.toNat - 0)+1)*32) 200000000000000 then(bif Nat.ble x15 ((row.drop 0).take ((x3.toNat - 0)*3)).length then(bif(x8.2 != 0)then(some (.ret,⟨[(6,.pointer (some ⟨5,0,none⟩)),(7,.int .i64 x8.2)],[[.int .i64 0,.int .i64 0,.string ⟨#[]⟩]]⟩))else(bif(true&&((((((row.drop 0).take ((x3.toNat - 0)*3)).drop 0).take ((x3.toNat - 0)*3))++[Value.int .i64 x8.1.1,.int .i64 x8.1.2.1,.string x8.1.2.2]).all qp&&true))then(some (.normal,⟨[(0,.slice (some ⟨0,0,none⟩) n 6),(1,.slice (some ⟨1,0,none⟩) nr 3),(2,.slice (some ⟨2,0,none⟩) na 3),(6,.pointer (some ⟨5,0,none⟩)),(7,.int .i64 0),(8,.slice (some ⟨6,0,none⟩) ((x3.toNat - 0)+1) 3),(9,.int .i64 x13)],[[.int .i64 0,.int .i64 0,.string ⟨#[]⟩],(((((row.drop 0).take ((x3.toNat - 0)*3)).drop 0).take ((x3.toNat - 0)*3))++[Value.int .i64 x8.1.1,.int .i64 x8.1.2.1,.string x8.1.2.2])]⟩))else none))else none)else none)else none)else none)else none)else none)else none))else none);let o6:Option (Ex×KX):=(some (.ret,⟨[(6,.pointer (some ⟨5,0,none⟩)),(7,.int .i64 22)],[[.int .i64 0,.int .i64 0,.string ⟨#[]⟩]]⟩));let o5:Option (Ex×KX):=(bif(decide (0≤x4)&&Nat.ble x4.toNat k)then(bif Nat.beq (x4.toNat - 0) 0 then o6 else(bif Nat.ble x16 200000000000000 then(bif Nat.ble (x16*32) 200000000000000 then(bif Nat.ble x14 row.length then(bif((row.drop 0).take ((x4.toNat - 0)*3)).all wz then(bif Nat.ble ((x4.toNat - 0)+1) 200000000000000 then(bif Nat.ble (((x4.toNat - 0)+1)*32) 200000000000000 then(bif Nat.ble x14 ((row.drop 0).take ((x4.toNat - 0)*3)).length then o6 else none)else none)else none)else none)else none)else none)else none))else none);(bif decide (i<(Int.ofNat n))then(bif decide (0≤i)then(bif Nat.blt i.toNat n then(bif isL cs x6 [(.i .i64),(.i .i64),.s,(.i .i64),(.i .i64),.s]then(bif((rdI cs x6)==1)then(bif(!(A33.okv x24 x23 x22))then o5 else(bif(decide (0≤x4)&&Nat.ble x4.toNat k)then(bif Nat.beq (x4.toNat - 0) 0 then(some (.normal,⟨[(0,.slice (some ⟨0,0,none⟩) n 6),(1,.slice (some ⟨1,0,none⟩) nr 3),(2,.slice (some ⟨2,0,none⟩) na 3),(6,.pointer (some ⟨5,0,none⟩)),(7,.int .i64 0),(8,.slice (some ⟨6,0,none⟩) 1 3),(9,.int .i64 x13)],[[.int .i64 0,.int .i64 0,.string ⟨#[]⟩],[.int .i64 x24,.int .i64 x23,.string x22]]⟩))else(bif Nat.ble x16 200000000000000 then(bif Nat.ble (x16*32) 200000000000000 then(bif Nat.ble x14 row.length then(bif((row.drop 0).take ((x4.toNat - 0)*3)).all wz then(bif Nat.ble ((x4.toNat - 0)+1) 200000000000000 then(bif Nat.ble (((x4.toNat - 0)+1)*32) 200000000000000 then(bif Nat.ble x14 ((row.drop 0).take ((x4.toNat - 0)*3)).length then(bif(true&&((((((row.drop 0).take ((x4.toNat - 0)*3)).drop 0).take ((x4.toNat - 0)*3))++[Value.int .i64 x24,.int .i64 x23,.string x22]).all qp&&true))then(some (.normal,⟨[(0,.slice (some ⟨0,0,none⟩) n 6),(1,.slice (some ⟨1,0,none⟩) nr 3),(2,.slice (some ⟨2,0,none⟩) na 3),(6,.pointer (some ⟨5,0,none⟩)),(7,.int .i64 0),(8,.slice (some ⟨6,0,none⟩) ((x4.toNat - 0)+1) 3),(9,.int .i64 x13)],[[.int .i64 0,.int .i64 0,.string ⟨#[]⟩],(((((row.drop 0).take ((x4.toNat - 0)*3)).drop 0).take ((x4.toNat - 0)*3))++[Value.int .i64 x24,.int .i64 x23,.string x22])]⟩))else none)else none)else none)else none)else none)else none)else none)else none))else none))else(bif((rdI cs x6)==2)then(bif decide (0≤(rdI cs (x6+1)))then(bif Nat.blt (rdI cs (x6+1)).toNat nr then(bif isL rs x12 [(.i .i64),(.i .i64),.s]then(bif(!(A33.okv (rdI rs x12) x30 x27))then o5 else(bif(decide (0≤x4)&&Nat.ble x4.toNat k)then(bif Nat.beq (x4.toNat - 0) 0 then(some (.normal,⟨[(0,.slice (some ⟨0,0,none⟩) n 6),(1,.slice (some ⟨1,0,none⟩) nr 3),(2,.slice (some ⟨2,0,none⟩) na 3),(6,.pointer (some ⟨5,0,none⟩)),(7,.int .i64 0),(8,.slice (some ⟨6,0,none⟩) 1 3),(9,.int .i64 x13)],[[.int .i64 0,.int .i64 0,.string ⟨#[]⟩],[.int .i64 (rdI rs x12),.int .i64 x30,.string x27]]⟩))else(bif Nat.ble x16 200000000000000 then(bif Nat.ble (x16*32) 200000000000000 then(bif Nat.ble x14 row.length then(bif((row.drop 0).take ((x4.toNat - 0)*3)).all wz then(bif Nat.ble ((x4.toNat - 0)+1) 200000000000000 then(bif Nat.ble (((x4.toNat - 0)+1)*32) 200000000000000 then(bif Nat.ble x14 ((row.drop 0).take ((x4.toNat - 0)*3)).length then(bif(true&&((((((row.drop 0).take ((x4.toNat - 0)*3)).drop 0).take ((x4.toNat - 0)*3))++[Value.int .i64 (rdI rs x12),.int .i64 x30,.string x27]).all qp&&true))then(some (.normal,⟨[(0,.slice (some ⟨0,0,none⟩) n 6),(1,.slice (some ⟨1,0,none⟩) nr 3),(2,.slice (some ⟨2,0,none⟩) na 3),(6,.pointer (some ⟨5,0,none⟩)),(7,.int .i64 0),(8,.slice (some ⟨6,0,none⟩) ((x4.toNat - 0)+1) 3),(9,.int .i64 x13)],[[.int .i64 0,.int .i64 0,.string ⟨#[]⟩],(((((row.drop 0).take ((x4.toNat - 0)*3)).drop 0).take ((x4.toNat - 0)*3))++[Value.int .i64 (rdI rs x12),.int .i64 x30,.string x27])]⟩))else none)else none)else none)else none)else none)else none)else none)else none))else none))else none)else none)else none)else(bif((rdI cs x6)==9)then(bif decide (0≤(rdI cs (x6+1)))then(bif Nat.blt (rdI cs (x6+1)).toNat na then(bif isL as_ x12 [(.i .i64),(.i .i64),.s]then(bif(!(A33.okv (rdI as_ x12) x29 x26))then o5 else(bif(decide (0≤x4)&&Nat.ble x4.toNat k)then(bif Nat.beq (x4.toNat - 0) 0 then(some (.normal,⟨[(0,.slice (some ⟨0,0,none⟩) n 6),(1,.slice (some ⟨1,0,none⟩) nr 3),(2,.slice (some ⟨2,0,none⟩) na 3),(6,.pointer (some ⟨5,0,none⟩)),(7,.int .i64 0),(8,.slice (some ⟨6,0,none⟩) 1 3),(9,.int .i64 x13)],[[.int .i64 0,.int .i64 0,.string ⟨#[]⟩],[.int .i64 (rdI as_ x12),.int .i64 x29,.string x26]]⟩))else(bif Nat.ble x16 200000000000000 then(bif Nat.ble (x16*32) 200000000000000 then(bif Nat.ble x14 row.length then(bif((row.drop 0).take ((x4.toNat - 0)*3)).all wz then(bif Nat.ble ((x4.toNat - 0)+1) 200000000000000 then(bif Nat.ble (((x4.toNat - 0)+1)*32) 200000000000000 then(bif Nat.ble x14 ((row.drop 0).take ((x4.toNat - 0)*3)).length then(bif(true&&((((((row.drop 0).take ((x4.toNat - 0)*3)).drop 0).take ((x4.toNat - 0)*3))++[Value.int .i64 (rdI as_ x12),.int .i64 x29,.string x26]).all qp&&true))then(some (.normal,⟨[(0,.slice (some ⟨0,0,none⟩) n 6),(1,.slice (some ⟨1,0,none⟩) nr 3),(2,.slice (some ⟨2,0,none⟩) na 3),(6,.pointer (some ⟨5,0,none⟩)),(7,.int .i64 0),(8,.slice (some ⟨6,0,none⟩) ((x4.toNat - 0)+1) 3),(9,.int .i64 x13)],[[.int .i64 0,.int .i64 0,.string ⟨#[]⟩],(((((row.drop 0).take ((x4.toNat - 0)*3)).drop 0).take ((x4.toNat - 0)*3))++[Value.int .i64 (rdI as_ x12),.int .i64 x29,.string x26])]⟩))else none)else none)else none)else none)else none)else none)else none)else none))else none))else none)else none)else none)else(bif((rdI cs x6)==3)then(bif decide (0≤x3)then(bif Nat.blt x3.toNat k then(bif isL row x5 [(.i .i64),(.i .i64),.s]then(bif eqU x11.data.toList [45]then(bif decide (0≤x3)then(bif Nat.blt x3.toNat k then(bif isL row x5 [(.i .i64),(.i .i64),.s]then(bif(inR x18)then(bif(x8.2==0)then o4 else o4)else none)else none)else none)else none)else(bif(decide (0≤x3)&&Nat.ble x3.toNat k)then(bif Nat.beq (x3.toNat - 0) 0 then(some (.normal,⟨[(0,.slice (some ⟨0,0,none⟩) n 6),(1,.slice (some ⟨1,0,none⟩) nr 3),(2,.slice (some ⟨2,0,none⟩) na 3),(6,.pointer (some ⟨5,0,none⟩)),(7,.int .i64 0),(8,.slice (some ⟨6,0,none⟩) 1 3),(9,.int .i64 x13)],[[.int .i64 0,.int .i64 0,.string ⟨#[]⟩],[.int .i64 (Ref.ja ((rdI row x5),(x18,x20))).1,.int .i64 (Ref.ja ((rdI row x5),(x18,x20))).2.1,.string (Ref.ja ((rdI row x5),(x18,x20))).2.2]]⟩))else(bif Nat.ble x17 200000000000000 then(bif Nat.ble (x17*32) 200000000000000 then(bif Nat.ble x15 row.length then(bif((row.drop 0).take ((x3.toNat - 0)*3)).all wz then(bif Nat.ble ((x3.toNat - 0)+1) 200000000000000 then(bif Nat.ble (((x3.toNat - 0)+1)*32) 200000000000000 then(bif Nat.ble x15 ((row.drop 0).take ((x3.toNat - 0)*3)).length then(bif(true&&((((((row.drop 0).take ((x3.toNat - 0)*3)).drop 0).take ((x3.toNat - 0)*3))++[Value.int .i64 (Ref.ja ((rdI row x5),(x18,x20))).1,.int .i64 (Ref.ja ((rdI row x5),(x18,x20))).2.1,.string (Ref.ja ((rdI row x5),(x18,x20))).2.2]).all qp&&true))then(some (.normal,⟨[(0,.slice (some ⟨0,0,none⟩) n 6),(1,.slice (some ⟨1,0,none⟩) nr 3),(2,.slice (some ⟨2,0,none⟩) na 3),(6,.pointer (some ⟨5,0,none⟩)),(7,.int .i64 0),(8,.slice (some ⟨6,0,none⟩) ((x3.toNat - 0)+1) 3),(9,.int .i64 x13)],[[.int .i64 0,.int .i64 0,.string ⟨#[]⟩],(((((row.drop 0).take ((x3.toNat - 0)*3)).drop 0).take ((x3.toNat - 0)*3))++[Value.int .i64 (Ref.ja ((rdI row x5),(x18,x20))).1,.int .i64 (Ref.ja ((rdI row x5),(x18,x20))).2.1,.string (Ref.ja ((rdI row x5),(x18,x20))).2.2])]⟩))else none)else none)else none)else none)else none)else none)else none)else none))else none))else none)else none)else none)else(bif((rdI cs x6)==4)then(bif decide (0≤x7)then(bif Nat.blt x7.toNat k then(bif isL row x31 [(.i .i64),(.i .i64),.s]then(bif decide (0≤x3)then(bif Nat.blt x3.toNat k then(bif isL row x5 [(.i .i64),(.i .i64),.s]then(bif((inR (rdI row (x31+1)))&&(inR x18))then(bif(x1.2==0)then o2 else o2)else none)else none)else none)else none)else none)else none)else none)else(bif((rdI cs x6)==5)then(bif decide (0≤x3)then(bif Nat.blt x3.toNat k then(bif isV row (x5+0) (.i .i64)then(bif(((rdI row (x5+0))==0)==((rdI cs (x6+1))==0))then(bif(decide (0≤x3)&&Nat.ble x3.toNat k)then(bif Nat.beq (x3.toNat - 0) 0 then(some (.normal,⟨[(0,.slice (some ⟨0,0,none⟩) n 6),(1,.slice (some ⟨1,0,none⟩) nr 3),(2,.slice (some ⟨2,0,none⟩) na 3),(6,.pointer (some ⟨5,0,none⟩)),(7,.int .i64 0),(8,.slice (some ⟨6,0,none⟩) 1 3),(9,.int .i64 x13)],[[.int .i64 0,.int .i64 0,.string ⟨#[]⟩],[.int .i64 1,.int .i64 1,.string ⟨#[]⟩]]⟩))else(bif Nat.ble x17 200000000000000 then(bif Nat.ble (x17*32) 200000000000000 then(bif Nat.ble x15 row.length then(bif((row.drop 0).take ((x3.toNat - 0)*3)).all wz then(bif Nat.ble ((x3.toNat - 0)+1) 200000000000000 then(bif Nat.ble (((x3.toNat - 0)+1)*32) 200000000000000 then(bif Nat.ble x15 ((row.drop 0).take ((x3.toNat - 0)*3)).length then(bif(true&&((((((row.drop 0).take ((x3.toNat - 0)*3)).drop 0).take ((x3.toNat - 0)*3))++[Value.int .i64 1,.int .i64 1,.string ⟨#[]⟩]).all qp&&true))then(some (.normal,⟨[(0,.slice (some ⟨0,0,none⟩) n 6),(1,.slice (some ⟨1,0,none⟩) nr 3),(2,.slice (some ⟨2,0,none⟩) na 3),(6,.pointer (some ⟨5,0,none⟩)),(7,.int .i64 0),(8,.slice (some ⟨6,0,none⟩) ((x3.toNat - 0)+1) 3),(9,.int .i64 x13)],[[.int .i64 0,.int .i64 0,.string ⟨#[]⟩],(((((row.drop 0).take ((x3.toNat - 0)*3)).drop 0).take ((x3.toNat - 0)*3))++[Value.int .i64 1,.int .i64 1,.string ⟨#[]⟩])]⟩))else none)else none)else none)else none)else none)else none)else none)else none))else none)else(bif(decide (0≤x3)&&Nat.ble x3.toNat k)then(bif Nat.beq (x3.toNat - 0) 0 then(some (.normal,⟨[(0,.slice (some ⟨0,0,none⟩) n 6),(1,.slice (some ⟨1,0,none⟩) nr 3),(2,.slice (some ⟨2,0,none⟩) na 3),(6,.pointer (some ⟨5,0,none⟩)),(7,.int .i64 0),(8,.slice (some ⟨6,0,none⟩) 1 3),(9,.int .i64 x13)],[[.int .i64 0,.int .i64 0,.string ⟨#[]⟩],[.int .i64 1,.int .i64 0,.string ⟨#[]⟩]]⟩))else(bif Nat.ble x17 200000000000000 then(bif Nat.ble (x17*32) 200000000000000 then(bif Nat.ble x15 row.length then(bif((row.drop 0).take ((x3.toNat - 0)*3)).all wz then(bif Nat.ble ((x3.toNat - 0)+1) 200000000000000 then(bif Nat.ble (((x3.toNat - 0)+1)*32) 200000000000000 then(bif Nat.ble x15 ((row.drop 0).take ((x3.toNat - 0)*3)).length then(bif(true&&((((((row.drop 0).take ((x3.toNat - 0)*3)).drop 0).take ((x3.toNat - 0)*3))++[Value.int .i64 1,.int .i64 0,.string ⟨#[]⟩]).all qp&&true))then(some (.normal,⟨[(0,.slice (some ⟨0,0,none⟩) n 6),(1,.slice (some ⟨1,0,none⟩) nr 3),(2,.slice (some ⟨2,0,none⟩) na 3),(6,.pointer (some ⟨5,0,none⟩)),(7,.int .i64 0),(8,.slice (some ⟨6,0,none⟩) ((x3.toNat - 0)+1) 3),(9,.int .i64 x13)],[[.int .i64 0,.int .i64 0,.string ⟨#[]⟩],(((((row.drop 0).take ((x3.toNat - 0)*3)).drop 0).take ((x3.toNat - 0)*3))++[Value.int .i64 1,.int .i64 0,.string ⟨#[]⟩])]⟩))else none)else none)else none)else none)else none)else none)else none)else none))else none))else none)else none)else none)else(bif((rdI cs x6)==6)then(bif(decide (0≤x2)&&Nat.ble x2.toNat k)then(bif(true&&((Nat.ble (x10+((k - x2.toNat)*3)) row.length&&((row.drop x10).take ((k - x2.toNat)*3)).all qp)&&true))then(bif((kV (k - x2.toNat) (Int.ofNat (k - x2.toNat)) ((row.drop x10).take ((k - x2.toNat)*3)))&&(qj ((row.drop x10).take ((k - x2.toNat)*3))).all fun v=>inR v.snd.fst)then(bif((Fit.zW x11 (qj ((row.drop x10).take ((k - x2.toNat)*3)))).2==0)then(bif((rdI cs (x6+1))==0)then(bif(!(A33.okv (Fit.zW x11 (qj ((row.drop x10).take ((k - x2.toNat)*3)))).1.1 (Fit.zW x11 (qj ((row.drop x10).take ((k - x2.toNat)*3)))).1.2.1 (Fit.zW x11 (qj ((row.drop x10).take ((k - x2.toNat)*3)))).1.2.2))then(bif(decide (0≤x2)&&Nat.ble x2.toNat k)then(bif Nat.beq (x2.toNat - 0) 0 then o6 else(bif Nat.ble x21 200000000000000 then(bif Nat.ble (x21*32) 200000000000000 then(bif Nat.ble x19 row.length then(bif((row.drop 0).take ((x2.toNat - 0)*3)).all wz then(bif Nat.ble ((x2.toNat - 0)+1) 200000000000000 then(bif Nat.ble (((x2.toNat - 0)+1)*32) 200000000000000 then(bif Nat.ble x19 ((row.drop 0).take ((x2.toNat - 0)*3)).length then o6 else none)else none)else none)else none)else none)else none)else none))else none)else o1)else o1)else o1)else none)else none)else none)else(bif((rdI cs x6)==10)then(bif decide (0≤x3)then(bif Nat.blt x3.toNat k then(bif isL row x5 [(.i .i64),(.i .i64),.s]then(bif(inR x18)then(bif(x9.2==0)then o3 else o3)else none)else none)else none)else none)else(bif((rdI cs x6)==7)then(bif(true&&(row.all qp&&true))then(some (.normal,⟨[(0,.slice (some ⟨0,0,none⟩) n 6),(1,.slice (some ⟨1,0,none⟩) nr 3),(2,.slice (some ⟨2,0,none⟩) na 3),(6,.pointer (some ⟨5,0,none⟩)),(7,.int .i64 0),(8,.slice (some ⟨6,0,none⟩) k 3),(9,.int .i64 (rdI cs (x6+1)))],[[.int .i64 0,.int .i64 0,.string ⟨#[]⟩],row]⟩))else none)else(bif((rdI cs x6)==8)then(bif decide (0≤x3)then(bif Nat.blt x3.toNat k then(bif isL row x5 [(.i .i64),(.i .i64),.s]then(bif(A35.tru (rdI row x5) x18)then(bif(decide (0≤x3)&&Nat.ble x3.toNat k)then(bif(true&&(row.all qp&&true))then(some (.normal,⟨[(0,.slice (some ⟨0,0,none⟩) n 6),(1,.slice (some ⟨1,0,none⟩) nr 3),(2,.slice (some ⟨2,0,none⟩) na 3),(6,.pointer (some ⟨5,0,none⟩)),(7,.int .i64 0),(8,.slice (some ⟨6,0,none⟩) (x3.toNat - 0) 3),(9,.int .i64 x13)],[[.int .i64 0,.int .i64 0,.string ⟨#[]⟩],row]⟩))else none)else none)else(bif(decide (0≤x3)&&Nat.ble x3.toNat k)then(bif(true&&(row.all qp&&true))then(some (.normal,⟨[(0,.slice (some ⟨0,0,none⟩) n 6),(1,.slice (some ⟨1,0,none⟩) nr 3),(2,.slice (some ⟨2,0,none⟩) na 3),(6,.pointer (some ⟨5,0,none⟩)),(7,.int .i64 0),(8,.slice (some ⟨6,0,none⟩) (x3.toNat - 0) 3),(9,.int .i64 (rdI cs (x6+1)))],[[.int .i64 0,.int .i64 0,.string ⟨#[]⟩],row]⟩))else none)else none))else none)else none)else none)else(bif(decide (0≤x4)&&Nat.ble x4.toNat k)then(bif Nat.beq (x4.toNat - 0) 0 then(some (.normal,⟨[(0,.slice (some ⟨0,0,none⟩) n 6),(1,.slice (some ⟨1,0,none⟩) nr 3),(2,.slice (some ⟨2,0,none⟩) na 3),(6,.pointer (some ⟨5,0,none⟩)),(7,.int .i64 0),(8,.slice (some ⟨6,0,none⟩) 1 3),(9,.int .i64 x13)],[[.int .i64 0,.int .i64 0,.string ⟨#[]⟩],[.int .i64 0,.int .i64 0,.string ⟨#[]⟩]]⟩))else(bif Nat.ble x16 200000000000000 then(bif Nat.ble (x16*32) 200000000000000 then(bif Nat.ble x14 row.length then(bif((row.drop 0).take ((x4.toNat - 0)*3)).all wz then(bif Nat.ble ((x4.toNat - 0)+1) 200000000000000 then(bif Nat.ble (((x4.toNat - 0)+1)*32) 200000000000000 then(bif Nat.ble x14 ((row.drop 0).take ((x4.toNat - 0)*3)).length then(bif(true&&((((((row.drop 0).take ((x4.toNat - 0)*3)).drop 0).take ((x4.toNat - 0)*3))++[Value.int .i64 0,.int .i64 0,.string ⟨#[]⟩]).all qp&&true))then(some (.normal,⟨[(0,.slice (some ⟨0,0,none⟩) n 6),(1,.slice (some ⟨1,0,none⟩) nr 3),(2,.slice (some ⟨2,0,none⟩) na 3),(6,.pointer (some ⟨5,0,none⟩)),(7,.int .i64 0),(8,.slice (some ⟨6,0,none⟩) ((x4.toNat - 0)+1) 3),(9,.int .i64 x13)],[[.int .i64 0,.int .i64 0,.string ⟨#[]⟩],(((((row.drop 0).take ((x4.toNat - 0)*3)).drop 0).take ((x4.toNat - 0)*3))++[Value.int .i64 0,.int .i64 0,.string ⟨#[]⟩])]⟩))else none)else none)else none)else none)else none)else none)else none)else none))else none)))))))))))else none)else none)else none)else(bif(true&&(row.all qp&&true))then(some (.exit 0,⟨[(6,.pointer (some ⟨5,0,none⟩)),(8,.slice (some ⟨6,0,none⟩) k 3)],[[.int .i64 0,.int .i64 0,.string ⟨#[]⟩],row]⟩))else none))):=by kernel_rfl
end A17L0R
end
end Go.Proofs.YtaiokpmmjbiajaaGreatDoorDx
