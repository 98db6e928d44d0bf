/- A part of the proof of this claim. No condition beyond those that each theorem names. -/
import Derived.Test.YtaiokpmmjbiajaaGreatDoorRK0
import Derived.Test.YtaiokpmmjbiajaaGreatDoorProg
import Derived.KernelRfl
import Derived.Test.YtaiokpmmjbiajaaGreatDoorRK2
import Derived.Test.YtaiokpmmjbiajaaGreatDoorRK1
import Derived.Test.YtaiokpmmjbiajaaGreatDoorRPLeafx3
import Derived.Test.YtaiokpmmjbiajaaGreatDoorRPLeafx4
set_option maxRecDepth 1000000
set_option linter.unusedVariables false
set_option linter.unusedSimpArgs false
namespace Go.Proofs.YtaiokpmmjbiajaaGreatDoorDx
section
open Go Go.Proofs
namespace A114
def T (s0:ByteArray) (k1 n1:Int) (s1:ByteArray) (k2 n2:Int) (s2:ByteArray):GT Value:=let x1:=Ari.xY s0 (k1,(n1,s1)) (k2,(n2,s2));let x2:=A76.compare k1 n1 s1 k2 n2 s2;let o1:GT Value:=(.br ((inR n1)&&(inR n2)) (.out (.tuple #[.agg #[.int .i64 x1.1.1,.int .i64 x1.1.2.1,.string x1.1.2.2],.int .i64 x1.2])) .no);let o2:GT Value:=(.out (.tuple #[.agg #[.int .i64 1,.int .i64 1,.string ⟨#[]⟩],.int .i64 0]));let o3:GT Value:=(.out (.tuple #[.agg #[.int .i64 1,.int .i64 0,.string ⟨#[]⟩],.int .i64 0]));(.br (eqU s0.data.toList [43]) o1 (.br (eqU s0.data.toList [45]) o1 (.br (eqU s0.data.toList [42]) o1 (.br (eqU s0.data.toList [47]) o1 (.br (eqU s0.data.toList [37]) o1 (.br (eqU s0.data.toList [61]) (.br ((inR n1)&&(inR n2)) (.out (.tuple #[.agg #[.int .i64 (Ref.Zq (k1,(n1,s1)) (k2,(n2,s2))),.int .i64 (Ref.Qf (k1,(n1,s1)) (k2,(n2,s2))),.string ⟨#[]⟩],.int .i64 0])) .no) (.br (eqU s0.data.toList [33,61]) (.br ((inR n1)&&(inR n2)) (.out (.tuple #[.agg #[.int .i64 (Ref.wi ((Ref.Zq (k1,(n1,s1)) (k2,(n2,s2))),((Ref.Qf (k1,(n1,s1)) (k2,(n2,s2))),⟨#[]⟩))).1,.int .i64 (Ref.wi ((Ref.Zq (k1,(n1,s1)) (k2,(n2,s2))),((Ref.Qf (k1,(n1,s1)) (k2,(n2,s2))),⟨#[]⟩))).2.1,.string (Ref.wi ((Ref.Zq (k1,(n1,s1)) (k2,(n2,s2))),((Ref.Qf (k1,(n1,s1)) (k2,(n2,s2))),⟨#[]⟩))).2.2],.int .i64 0])) .no) (.br (eqU s0.data.toList [97,110,100]) (.out (.tuple #[.agg #[.int .i64 (Ref.Zv (k1,(n1,s1)) (k2,(n2,s2))).1,.int .i64 (Ref.Zv (k1,(n1,s1)) (k2,(n2,s2))).2.1,.string (Ref.Zv (k1,(n1,s1)) (k2,(n2,s2))).2.2],.int .i64 0])) (.br (eqU s0.data.toList [111,114]) (.out (.tuple #[.agg #[.int .i64 (Ref.orV (k1,(n1,s1)) (k2,(n2,s2))).1,.int .i64 (Ref.orV (k1,(n1,s1)) (k2,(n2,s2))).2.1,.string (Ref.orV (k1,(n1,s1)) (k2,(n2,s2))).2.2],.int .i64 0])) (.br ((inR n1)&&(inR n2)) (.br (!x2.2) (.out (.tuple #[.agg #[.int .i64 0,.int .i64 0,.string ⟨#[]⟩],.int .i64 0])) (.br (eqU s0.data.toList [60]) (.br (decide (x2.1<0)) o2 o3) (.br (eqU s0.data.toList [60,61]) (.br (decide (x2.1≤0)) o2 o3) (.br (eqU s0.data.toList [62]) (.br (decide (x2.1>0)) o2 o3) (.br (decide (x2.1≥0)) o2 o3))))) .no))))))))))
theorem run (s0:ByteArray) (k1 n1:Int) (s1:ByteArray) (k2 n2:Int) (s2:ByteArray):runK 4 [(168,yD fun t x y=>ve (Ari.xY t x y)),(40,sp2 Ref.eqW),(112,A112.spec),(169,A169.spec),(170,A170.spec),(95,sp2 Ref.oA)] [] 114 [.v (.string s0),.v (.agg #[.int .i64 k1,.int .i64 n1,.string s1]),.v (.agg #[.int .i64 k2,.int .i64 n2,.string s2])]=(T s0 k1 n1 s1 k2 n2 s2).eval:=by kernel_rfl
theorem qL (t:ByteArray) (a b:W3) (ha:inR a.2.1=true) (hb:inR b.2.1=true):(T t a.1 a.2.1 a.2.2 b.1 b.2.1 b.2.2).eval=some (ve (Ari.wK t a b)):=by
 unfold T Ari.wK Ari.xY
 simp only[GT.eval,ha,hb]
 cases eqU t.data.toList [43]
 rotate_left
 ·rfl
 cases eqU t.data.toList [45]
 rotate_left
 ·rfl
 cases eqU t.data.toList [42]
 rotate_left
 ·rfl
 cases eqU t.data.toList [47]
 rotate_left
 ·rfl
 cases eqU t.data.toList [37]
 rotate_left
 ·rfl
 cases eqU t.data.toList [61]
 rotate_left
 ·rfl
 cases eqU t.data.toList [33,61]
 rotate_left
 ·rfl
 cases eqU t.data.toList [97,110,100]
 rotate_left
 ·rfl
 cases eqU t.data.toList [111,114]
 rotate_left
 ·rfl
 unfold Ref.Vn Ref.yI
 cases (A76.compare a.1 a.2.1 a.2.2 b.1 b.2.1 b.2.2).2
 ·rfl
 cases eqU t.data.toList [60]
 ·cases eqU t.data.toList [60, 61]
  ·cases eqU t.data.toList [62]
   ·cases decide ((A76.compare a.1 a.2.1 a.2.2 b.1 b.2.1 b.2.2).1≥0)<;>rfl
   ·cases decide ((A76.compare a.1 a.2.1 a.2.2 b.1 b.2.1 b.2.2).1>0)<;>rfl
  ·cases decide ((A76.compare a.1 a.2.1 a.2.2 b.1 b.2.1 b.2.2).1≤0)<;>rfl
 ·cases decide ((A76.compare a.1 a.2.1 a.2.2 b.1 b.2.1 b.2.2).1<0)<;>rfl
theorem qf:qu Tryz.prog La 114 (yD fun t x y=>ve (Ari.wK t x y)):=⟨qE (by kernel_rfl),fun aa t v h e=>by
 unfold yD at h
 split at h
 ·rename_i s a b
  obtain⟨x,h1,h⟩:=qi h
  obtain⟨y,h2,h⟩:=qi h
  cases h
  obtain⟨g1,g2⟩:=GT.qh e
  cases g2
  rw[Bool.and_eq_true]at g1
  rw[qN h1,qN h2]
  exact⟨rfl,qR (n0:=4) (k:=12) qx qg qd (by simpa using⟨A168.qf,sc,A112.qf,A169.qf,A170.qf,oS⟩) (by simp) (by decide) (by simp) rfl ((run _ _ _ _ _ _ _).trans (qL s x y g1.1 g1.2))⟩
 ·cases h⟩
end A114
namespace A113
def T (k0 n0:Int) (s0:ByteArray):GT Value:=(.br ((Ref.zq k0 k0 n0 false).2) (.out (.tuple #[.agg #[.int .i64 0,.int .i64 0,.string ⟨#[]⟩],.int .i64 (Ref.zq k0 k0 n0 false).1])) (.br (!(n0 != (-9223372036854775808))) (.out (.tuple #[.agg #[.int .i64 0,.int .i64 0,.string ⟨#[]⟩],.int .i64 20])) (.out (.tuple #[.agg #[.int .i64 k0,.int .i64 (IntKind.wrap .i64 (0 - n0)),.string ⟨#[]⟩],.int .i64 0]))))
theorem run (k0 n0:Int) (s0:ByteArray):runK 4 [(149,A149.spec)] [] 113 [.v (.agg #[.int .i64 k0,.int .i64 n0,.string s0])]=(T k0 n0 s0).eval:=by kernel_rfl
theorem qL (a:W3) (ha:inR a.2.1=true):(T a.1 a.2.1 a.2.2).eval=some (ve (A79.xi a.1 a.2.1)):=by
 obtain⟨k,n,s⟩:=a
 have h:=Ari.vN.1 ha
 dsimp only at h
 unfold T Ref.zq A79.xi
 dsimp only[]
 simp only[GT.eval]
 have e:(n=IntKind.wrap .i64 (0 - n)∧n≠0)↔n= -9223372036854775808:=by rw[IntKind.wrap_i64];omega
 have e2:(n != -9223372036854775808)= !decide (n= -9223372036854775808):=by
  by_cases hn:n= -9223372036854775808
  ·subst hn;rfl
  ·rw[decide_eq_false hn];exact bne_iff_ne.2 hn
 rw[e2]
 simp only[e]
 rcases Ari.kinds k with rfl|rfl|rfl|⟨g1,g2,g3,g4,g5⟩
 ·rfl
 ·by_cases hn : n = -9223372036854775808
  ·subst hn;rfl
  ·simp only[decide_eq_false hn,if_neg hn];rfl
 ·by_cases hn : n = -9223372036854775808
  ·subst hn;rfl
  ·simp only[decide_eq_false hn,if_neg hn];rfl
 ·have h0 := beq_eq_false_iff_ne.1 g2
  have h2:=beq_eq_false_iff_ne.1 g3
  have h3:=beq_eq_false_iff_ne.1 g4
  rw[g1,if_neg h0,if_neg (by rintro(h|h);exact h2 h;exact h3 h)];rfl
def spec:Spec:=fun aa=>match aa with
 |[a]=>(vOf a).bind fun x=>some (.qI (inR x.2.1) (.out (ve (A79.xi x.1 x.2.1))))
 |_=>none
theorem qf:qu Tryz.prog La 113 spec:=⟨qE (by kernel_rfl),fun aa t v h e=>by
 unfold spec at h
 split at h
 ·rename_i a
  obtain⟨x,h1,h⟩:=qi h
  cases h
  obtain⟨g1,g2⟩:=GT.qh e
  cases g2
  rw[qN h1]
  exact⟨rfl,qR (n0:=4) (k:=12) qx qg qd (by simpa using A149.qf) (by simp) (by decide) (by simp) rfl ((run _ _ _).trans (qL x g1))⟩
 ·cases h⟩
end A113
end
end Go.Proofs.YtaiokpmmjbiajaaGreatDoorDx
section
namespace Go.Proofs.YtaiokpmmjbiajaaGreatDoorDx.ShowR
open Go Go.Proofs
set_option maxRecDepth 4000
open Go.RowKit Go.Proofs.YtaiokpmmjbiajaaGreatDoor.PLeaf Go.Proofs.YtaiokpmmjbiajaaGreatDoorW.PrintWords
open Go.Proofs.YtaiokpmmjbiajaaGreatDoor.Pure (okB XI kinds toList_nil xa QR)
open Go.WideShapes (bytes_inj)
theorem w9 {u:Nat} (h:10≤u):Lib.decDigits u=Lib.decDigits (u / 10)++[UInt8.ofNat (48+u % 10)]:=by
  conv=>lhs;rw[Lib.decDigits]
  rw[dif_neg (by omega)]
theorem wA {u:Nat} (h:u<10):Lib.decDigits u=[UInt8.ofNat (48+u)]:=by rw[Lib.decDigits,dif_pos h]
theorem fX {n:Int} (h0:0≤n) (h1:n<18446744073709551616):IntKind.u64.wrap n=n:=by rw[IntKind.wrap_u64];omega
theorem VO (n:Nat) (h:n<18446744073709551616):strOfNums [(IntKind.u64.wrap (48+(Int.tmod (n:Int) 10))) % 256]=⟨#[UInt8.ofNat (48+n % 10)]⟩:=by
  have e:Int.tmod (n:Int) 10=((n % 10:Nat):Int):=by rw[Int.tmod_eq_emod_of_nonneg (by omega)];omega
  rw[e,fX (by omega) (by omega)]
  unfold strOfNums
  have:((48+((n % 10:Nat):Int)) % 256).toNat=48+n % 10:=by omega
  simp only[List.map,this]
theorem ZH (n:Nat) (h:n<18446744073709551616):IntKind.u64.wrap (Int.tdiv (n:Int) 10)=((n / 10:Nat):Int):=by
  have e:Int.tdiv (n:Int) 10=((n / 10:Nat):Int):=by rw[Int.tdiv_eq_ediv_of_nonneg (by omega)];omega
  rw[e,fX (by omega) (by omega)]
theorem Zz: ∀(j k n:Nat) (out:ByteArray),n<10 ^ j→n<18446744073709551616→j<k→out.size+j≤4000000000→
    qk.l0 k (n:Int) out=some ⟨((if n=0 then[]else Lib.decDigits n)++out.data.toList).toArray⟩
  |0,0,_,_,_,_,h,_=>absurd h (Nat.lt_irrefl 0)
  | 0, k + 1, n, out, h, _, _, _ => by
    obtain rfl:n=0:=by simpa using h
    rw[qk.l0,if_neg (by omega)]
    simp
  |j+1,0,_,_,_,_,h,_=>absurd h (Nat.not_lt_zero _)
  | j + 1, k + 1, n, out, h, hn, hk, hs => by
    rw[qk.l0]
    by_cases h0:n=0
    · subst h0
      rw[if_neg (by omega)]
      simp
    · have hsz : (strOfNums [(IntKind.u64.wrap (48 + (Int.tmod (n : Int) 10))) % 256]).size = 1 := strOfNums_size _
      have pz:((strOfNums [(IntKind.u64.wrap (48+(Int.tmod (n:Int) 10))) % 256])++out).data.toList=UInt8.ofNat (48+n % 10)::out.data.toList:=by
        rw[VO n hn];simp
      rw[if_pos (by omega),Option.bind_some,if_pos (by omega),ZH n hn]
      have h10:n / 10<10 ^ j:=by rw[Nat.pow_succ]at h;omega
      rw[Zz j k (n / 10) _ h10 (by omega) (by omega) (by rw[ByteArray.size_append];omega),pz,if_neg h0]
      by_cases h1:n<10
      · rw [if_pos (by omega), wA h1]
        have:n % 10=n:=by omega
        simp[this]
      · rw [if_neg (by omega), w9 (u := n) (by omega)]
        simp
theorem xk (n k:Nat) (h:n<18446744073709551616) (hk:20<k):qk.f k (n:Int)=some ⟨(Lib.decDigits n).toArray⟩:=by
  unfold qk.f
  rw[ZH n h,VO n h,Zz 20 k (n / 10) _ (by omega) (by omega) hk (by simp[ByteArray.size])]
  by_cases h1:n<10
  · rw [if_pos (by omega), wA h1]
    have:n % 10=n:=by omega
    simp[this]
  · rw[if_neg (by omega),w9 (u:=n) (by omega)]
theorem WK (n:Nat) (h:n<18446744073709551616):(Lib.decDigits n).length≤20:=by
  have: ∀(j n:Nat),n<10 ^ (j+1)→(Lib.decDigits n).length≤j+1:=by
    intro j
    induction j with
    |zero=>intro n h;rw[wA (by simpa using h)];simp
    | succ j ih =>
      intro n h
      by_cases h1:n<10
      · rw[wA h1];simp
      · rw [w9 (by omega)]
        have:=ih (n / 10) (by rw[Nat.pow_succ]at h;omega)
        simp;omega
  exact this 19 n (by omega)
theorem bo (n:Int) (k:Nat) (h:(Lit.int .i64 n).wf=true) (hk:20<k):qQ.f k n=some ⟨(Lib.itoa n).toArray⟩:=by
  have hw: -9223372036854775808≤n∧n≤9223372036854775807:=(Lit.wf_int_iff .i64 n).1 h
  unfold qQ.f
  by_cases hn:n<0
  · have e : IntKind.u64.wrap (-(IntKind.u64.wrap n)) = ((n.natAbs : Nat) : Int) := by rw [IntKind.wrap_u64, IntKind.wrap_u64]; omega
    have hl:=WK n.natAbs (by omega)
    rw[if_pos hn,e,xk n.natAbs k (by omega) hk,Option.bind_some,if_pos (by simp[ByteArray.size];omega)]
    unfold Lib.itoa
    rw[if_pos hn]
    exact congrArg some (bytes_inj (by simp))
  · have e : IntKind.u64.wrap n = ((n.toNat : Nat) : Int) := by rw [IntKind.wrap_u64]; omega
    have hl:=WK n.toNat (by omega)
    rw[if_neg hn,e,xk n.toNat k (by omega) hk,Option.bind_some,if_pos (by simp[ByteArray.size];omega)]
    unfold Lib.itoa
    rw[if_neg hn]
    exact congrArg some (bytes_inj (by simp))
def pad (r:Nat):List UInt8:=Lib.repeatL [48] (4 - (Lib.decDigits r).length)++Lib.decDigits r
def fr (l:List UInt8):List UInt8:=if Lib.trimRightB l 48=[]then[48]else Lib.trimRightB l 48
theorem fx (r:Nat):qB.bh r=fr (pad r):=rfl
theorem cA (r:Nat) (h:r<10000):pad r=[UInt8.ofNat (48+r / 1000),UInt8.ofNat (48+r / 100 % 10),UInt8.ofNat (48+r / 10 % 10),UInt8.ofNat (48+r % 10)]:=by
  unfold pad
  by_cases h1:r<10
  · have e1 : r / 1000 = 0 := by omega
    have e2:r / 100 % 10=0:=by omega
    have e3:r / 10 % 10=0:=by omega
    have e4:r % 10=r:=by omega
    rw[wA h1,e1,e2,e3,e4]
    simp[Lib.repeatL]
  by_cases h2:r<100
  · have e1 : r / 1000 = 0 := by omega
    have e2:r / 100 % 10=0:=by omega
    have e3:r / 10 % 10=r / 10:=by omega
    rw[w9 (by omega),wA (by omega),e1,e2,e3]
    simp[Lib.repeatL]
  by_cases h3:r<1000
  · have e1 : r / 1000 = 0 := by omega
    have e2:r / 100 % 10=r / 10 / 10:=by omega
    rw[w9 (by omega),w9 (u:=r / 10) (by omega),wA (u:=r / 10 / 10) (by omega),e1,e2]
    simp[Lib.repeatL]
  · have e1 : r / 1000 = r / 10 / 10 / 10 := by omega
    have e2:r / 100 % 10=r / 10 / 10 % 10:=by omega
    rw[w9 (by omega),w9 (u:=r / 10) (by omega),w9 (u:=r / 10 / 10) (by omega),wA (u:=r / 10 / 10 / 10) (by omega),e1,e2]
    simp[Lib.repeatL]
theorem dQ (r:Nat) (h:r<10000):Lib.decDigits (r+10000)=49::pad r:=by
  rw[cA r h,w9 (by omega),w9 (u:=(r+10000) / 10) (by omega),w9 (u:=(r+10000) / 10 / 10) (by omega),w9 (u:=(r+10000) / 10 / 10 / 10) (by omega),wA (u:=(r+10000) / 10 / 10 / 10 / 10) (by omega)]
  have e0:(r+10000) / 10 / 10 / 10 / 10=1:=by omega
  have e1:(r+10000) / 10 / 10 / 10 % 10=r / 1000:=by omega
  have e2:(r+10000) / 10 / 10 % 10=r / 100 % 10:=by omega
  have e3:(r+10000) / 10 % 10=r / 10 % 10:=by omega
  have e4:(r+10000) % 10=r % 10:=by omega
  rw[e0,e1,e2,e3,e4]
  rfl
theorem Ki (l:List UInt8) (x:UInt8) (h:x≠48):Lib.trimRightB (l++[x]) 48=l++[x]:=by
  unfold Lib.trimRightB
  simp[List.dropWhile,h]
theorem XH (l:List UInt8):Lib.trimRightB (l++[48]) 48=Lib.trimRightB l 48:=by
  unfold Lib.trimRightB
  simp[List.dropWhile]
theorem bS (q:Nat) (hq:q<18446744073709551616 / 10000) (u:Int) (hu:IntKind.u64.wrap (Int.tdiv u 10000)=(q:Int)) (sg:ByteArray) (hsg:sg.size≤1):
    ∀(j k:Nat) (l:List UInt8),l.length=j+1→j<10→22+j<k→
    ql.l0 k u sg ⟨l.toArray⟩=some ⟨(sg.data.toList++Lib.decDigits q++[46]++fr l).toArray⟩:=by
  intro j
  induction j with
  | zero =>
    intro k l hl _ hk
    obtain⟨x,rfl⟩: ∃x,l=[x]:=by
      match l,hl with
      |[x],_=>exact⟨x,rfl⟩
    have hf:fr [x]=[x]:=by
      unfold fr
      by_cases hx:x=48
      · subst hx;rfl
      · have := Ki [] x hx
        simp at this
        rw[this];simp
    have hlen:=WK q (by omega)
    have hQ:(⟨(Lib.decDigits q).toArray⟩:ByteArray).size=(Lib.decDigits q).length:=by simp[ByteArray.size]
    have mB:(⟨#[46]⟩:ByteArray).size=1:=rfl
    have hL:(⟨[x].toArray⟩:ByteArray).size=1:=rfl
    obtain⟨k,rfl⟩: ∃k',k=k'+1:=⟨k - 1,by omega⟩
    rw[ql.l0,if_neg (by simp[ByteArray.size]),hu,xk q k (by omega) (by omega),Option.bind_some]
    rw[if_pos (by rw[hQ];omega),if_pos (by rw[ByteArray.size_append,hQ];omega),if_pos (by rw[ByteArray.size_append,ByteArray.size_append,hQ,mB,hL];omega),hf]
    exact congrArg some (bytes_inj (by simp))
  | succ j ih =>
    intro k l hl hj hk
    have hne:l≠[]:=fun e=>by subst e;simp at hl
    obtain⟨l',x,rfl⟩: ∃l' x,l=l'++[x]:=⟨l.dropLast,l.getLast hne,(List.dropLast_concat_getLast hne).symm⟩
    have hl':l'.length=j+1:=by simpa using hl
    have hsz:(⟨(l'++[x]).toArray⟩:ByteArray).size=j+2:=by simp[ByteArray.size,hl']
    have hlen:=WK q (by omega)
    have hQ:(⟨(Lib.decDigits q).toArray⟩:ByteArray).size=(Lib.decDigits q).length:=by simp[ByteArray.size]
    have mB:(⟨#[46]⟩:ByteArray).size=1:=rfl
    have hL:=hsz
    obtain⟨k,rfl⟩: ∃k',k=k'+1:=⟨k - 1,by omega⟩
    have hbt:bt ⟨(l'++[x]).toArray⟩ ((j:Int)+1)=x.toNat:=by
      unfold bt
      have e:((j:Int)+1).toNat=j+1:=by omega
      rw[dif_pos (by rw[hsz];omega)]
      simp only[e]
      have:(⟨(l'++[x]).toArray⟩:ByteArray)[j+1]'(by rw[hsz];omega)=x:=by
        show (l'++[x]).toArray[j+1]'_=x
        simp[←hl']
      rw[this]
    have hex:(⟨(l'++[x]).toArray⟩:ByteArray).extract 0 ((j:Int)+1).toNat=⟨l'.toArray⟩:=by
      have e:((j:Int)+1).toNat=j+1:=by omega
      rw[e]
      apply bytes_inj
      simp[←hl']
    have hw:wrap64 (((⟨(l'++[x]).toArray⟩:ByteArray).size:Int) - 1)=(j:Int)+1:=by rw[hsz];unfold wrap64;omega
    rw[ql.l0,hw,if_pos (by rw[hsz];omega),if_pos (by omega),if_pos (by rw[hsz];omega),hbt]
    by_cases hx:x=48
    · subst hx
      rw[if_pos (by rfl),if_pos (by rw[hsz];omega),hex,ih k l' hl' (by omega) (by omega)]
      unfold fr
      rw[XH]
    · have hx' : ¬ (x.toNat : Int) = 48 := fun e => hx (UInt8.toNat_inj.1 (show x.toNat = 48 by omega))
      have hf:fr (l'++[x])=l'++[x]:=by unfold fr;rw[Ki _ _ hx];simp
      rw[if_neg hx',hu,xk q k (by omega) (by omega),Option.bind_some]
      rw[if_pos (by rw[hQ];omega),if_pos (by rw[ByteArray.size_append,hQ];omega),if_pos (by rw[ByteArray.size_append,ByteArray.size_append,hQ,mB,hL];omega),hf]
      exact congrArg some (bytes_inj (by simp))
theorem iQ (m:Nat) (hm:m≤9223372036854775808) (sg:ByteArray) (hsg:sg.size≤1) (k:Nat) (hk:40<k):
    ql.j0 k (m:Int) sg=some ⟨(sg.data.toList++Lib.decDigits (m / 10000)++[46]++qB.bh (m % 10000)).toArray⟩:=by
  obtain⟨k,rfl⟩: ∃k',k=k'+1:=⟨k - 1,by omega⟩
  have e1:Int.tmod (m:Int) 10000=((m % 10000:Nat):Int):=by rw[Int.tmod_eq_emod_of_nonneg (by omega)];omega
  have e2:IntKind.u64.wrap (Int.tdiv (m:Int) 10000)=((m / 10000:Nat):Int):=by
    rw[Int.tdiv_eq_ediv_of_nonneg (by omega),fX (by omega) (by omega)];omega
  have e3:IntKind.u64.wrap (((m % 10000:Nat):Int)+10000)=((m % 10000+10000:Nat):Int):=by rw[fX (by omega) (by omega)];omega
  have hp:=cA (m % 10000) (by omega)
  have hpl:(pad (m % 10000)).length=4:=by rw[hp];rfl
  rw[ql.j0,e1,e3,xk _ k (by omega) (by omega),Option.bind_some,dQ _ (by omega)]
  rw[if_pos (by simp[ByteArray.size];omega)]
  have hex:(⟨(49::pad (m % 10000)).toArray⟩:ByteArray).extract 1 (⟨(49::pad (m % 10000)).toArray⟩:ByteArray).size=⟨(pad (m % 10000)).toArray⟩:=by
    apply bytes_inj
    simp[ByteArray.size,hpl,List.take_of_length_le]
  rw[hex,bS (m / 10000) (by omega) _ e2 sg hsg 3 k _ hpl (by omega) (by omega),fx]
theorem jo (n:Int) (k:Nat) (h:(Lit.int .i64 n).wf=true) (hk:40<k):ql.f k n=some ⟨(qB.text n).toArray⟩:=by
  have hw: -9223372036854775808≤n∧n≤9223372036854775807:=(Lit.wf_int_iff .i64 n).1 h
  unfold ql.f qB.text
  by_cases hn:n<0
  · have e : IntKind.u64.wrap (-(IntKind.u64.wrap n)) = ((n.natAbs : Nat) : Int) := by rw [IntKind.wrap_u64, IntKind.wrap_u64]; omega
    rw[if_pos hn,e,iQ n.natAbs (by omega) _ (by simp[ByteArray.size]) k hk,if_pos hn]
  · have e : IntKind.u64.wrap n = ((n.natAbs : Nat) : Int) := by rw [IntKind.wrap_u64]; omega
    rw[if_neg hn,e,iQ n.natAbs (by omega) _ (by simp[ByteArray.size]) k hk,if_neg hn]
theorem aW (s:ByteArray) (hs:s.size≤1024) (a b:Int): ∀(f k i:Nat) (out:ByteArray),s.size - i=f→i≤s.size→f<k→out.size+2*f≤1000000→
    qC.l0 k out (i:Int) a b s=some ⟨(out.data.toList++vM (s.data.toList.drop i)++[39]).toArray⟩:=by
  intro f
  induction f with
  | zero =>
    intro k i out hf hi hk ho
    obtain⟨k,rfl⟩: ∃k',k=k'+1:=⟨k - 1,by omega⟩
    rw[qC.l0,if_neg (by omega),if_pos (by omega),List.drop_of_length_le (by rw[zS];omega)]
    exact congrArg some (bytes_inj (by simp[vM]))
  | succ f ih =>
    intro k i out hf hi hk ho
    obtain⟨k,rfl⟩: ∃k',k=k'+1:=⟨k - 1,by omega⟩
    have hlt:i<s.data.toList.length:=by rw[zS];omega
    have hd:s.data.toList.drop i=s.data.toList[i]::s.data.toList.drop (i+1):=List.drop_eq_getElem_cons hlt
    have hbt:bt s (i:Int)=(s.data.toList[i].toNat:Int):=by
      unfold bt
      rw[dif_pos (by omega)]
      rfl
    have hw:wrap64 ((i:Int)+1)=((i+1:Nat):Int):=by unfold wrap64;omega
    have hex:(s.extract ((i:Int)).toNat (((i+1:Nat):Int)).toNat).data.toList=[s.data.toList[i]]:=by
      simp[List.take_one,hd]
    have hes:(s.extract ((i:Int)).toNat (((i+1:Nat):Int)).toNat).size=1:=by rw[←zS,hex];rfl
    have hq1:(⟨#[39]⟩:ByteArray).size=1:=rfl
    rw[qC.l0,if_pos (by omega),if_pos (by omega),hbt,hw,hd]
    by_cases hb:s.data.toList[i]=39
    · rw [if_pos (by rw [hb]; rfl), if_pos (by omega), if_pos (by omega), if_pos (by omega), if_pos (by rw [ByteArray.size_append, hes, hq1]; omega)]
      rw[ih k (i+1) _ (by omega) (by omega) (by omega) (by rw[ByteArray.size_append,ByteArray.size_append,hes,hq1];omega)]
      rw[vM,if_pos hb]
      refine congrArg some (bytes_inj ?_)
      simp only[ByteArray.data_append,Array.toList_append,hex,hb]
      simp
    · have hb' : ¬ (s.data.toList[i].toNat : Int) = 39 := fun e => hb (UInt8.toNat_inj.1 (show s.data.toList[i].toNat = 39 by omega))
      rw[if_neg hb',if_pos (by omega),if_pos (by omega),if_pos (by rw[hes];omega)]
      rw[ih k (i+1) _ (by omega) (by omega) (by omega) (by rw[ByteArray.size_append,hes];omega)]
      rw[vM,if_neg hb]
      refine congrArg some (bytes_inj ?_)
      simp only[ByteArray.data_append,Array.toList_append,hex]
      simp
def YG (k n:Int) (s:ByteArray):List UInt8:=
  if okB k n s=false then[]
  else if k=0 then[110,117,108,108]else if k=1 then(if n=1 then[116,114,117,101]else[102,97,108,115,101])
  else if k=2 then Lib.itoa n else if k=3 then qB.text n else[39]++vM s.data.toList++[39]
theorem dt (j:Nat) (k n:Int) (s:ByteArray) (hn:(Lit.int .i64 n).wf=true):qC.f (9301+j) k n s=some ⟨(YG k n s).toArray⟩:=by
  unfold qC.f YG
  rw[XI j k n s,Option.bind_some]
  cases ho:okB k n s
  · simp
  · simp only [if_true]
    rcases kinds k with rfl|rfl|rfl|rfl|rfl|⟨h0,h1,h2,h3,h4⟩
    · rfl
    · by_cases h:n=1<;>simp[h]
    · simp[bo n (9301+j) hn (by omega)]
    · simp[jo n (9301+j) hn (by omega)]
    · have hsz : s.size ≤ 1024 := by simp [okB] at ho; exact ho.1.2
      have h := aW s hsz 4 n s.size (9301 + j) 0 ⟨#[39]⟩ (by omega) (by omega) (by omega) (by have s1 : (⟨#[39]⟩ : ByteArray).size = 1 := rfl;rw[s1];omega)
      rw[if_neg (by decide),if_neg (by decide),if_neg (by decide),if_neg (by decide)]
      simpa using h
    · simp[okB,h0,h1,h2,h3,h4]at ho
theorem dK (k n:Int) (s:ByteArray):YG k n s=Fit.Yk k n s:=by
  unfold YG Fit.Yk
  rw[eg]
  cases ho:A33.okv k n s
  · rfl
  · simp only [Bool.not_true, cond_false, Bool.true_eq_false, if_false]
    have hd: ∀a b:Int,(a==b)=decide (a=b):=fun a b=>by
      by_cases h:a=b
      · rw[decide_eq_true h,beq_iff_eq.2 h]
      · rw[decide_eq_false h,beq_eq_false_iff_ne.2 h]
    simp only[hd,wR]
    by_cases h0:k=0
    · simp[h0]
    by_cases h1:k=1
    · by_cases h:n=1<;>simp[h1,h]
    by_cases h2:k=2
    · simp[h2]
    by_cases h3:k=3
    · simp[h3];rfl
    · simp[h0,h1,h2,h3]
end Go.Proofs.YtaiokpmmjbiajaaGreatDoorDx.ShowR
namespace Go.Proofs.YtaiokpmmjbiajaaGreatDoorDx
open Go Go.Proofs
open Go.Proofs.YtaiokpmmjbiajaaGreatDoor.PLeaf
def XW:Spec:=fun aa=>match aa with
  |[a]=>(vOf a).bind fun x=>some (.qI (inR x.2.1) (.out (.string (Fit.j8 x.1 x.2.1 x.2.2))))
  |_=>none
theorem sr:qu Tryz.prog La 45 XW:=vF (by kernel_rfl) fun aa t v h e=>by
  unfold XW at h
  split at h
  · rename_i a
    obtain⟨⟨k0,n0,s0⟩,h1,h⟩:=qi h
    cases h
    obtain⟨g1,g2⟩:=GT.qh e
    cases g2
    rw[qN h1]
    unfold inR at g1
    simp only[Bool.and_eq_true,decide_eq_true_eq]at g1
    refine⟨[.agg #[.int .i64 k0,.int .i64 n0,.string s0]],rfl,rfl,fun W hW=>qC.calls 9301 k0 n0 s0 (Fit.j8 k0 n0 s0) W ?_⟩
    have:=ShowR.dt 0 k0 n0 s0 ((Lit.wf_int_iff .i64 n0).2 ⟨g1.1,by show n0≤9223372036854775807;omega⟩)
    rw[ShowR.dK]at this
    exact this
  · cases h
def W7:Spec:=fun aa=>match aa with
  |[.v (.string s),.v (.int .u8 a),.v (.int .u8 b)]=>some (.qI (Nat.ble s.data.toList.length 9223372036854775807&&(decide (0≤a)&&(decide (a≤200)&&(decide (0≤b)&&decide (b≤200))))) (.out (.string (Ref.wC a b s))))
  |_=>none
theorem oP:qu Tryz.prog La 103 W7:=vF (by kernel_rfl) fun aa t v h e=>by
  unfold W7 at h
  split at h
  · rename_i s a b
    cases h
    obtain⟨g1,g2⟩:=GT.qh e
    cases g2
    simp only[Bool.and_eq_true,decide_eq_true_eq,Nat.ble_eq,vK]at g1
    refine⟨[.string s,.int .u8 a,.int .u8 b],rfl,rfl,fun W hW=>qA.calls s a b (Ref.wC a b s) W ?_⟩
    unfold qA.f
    rw[if_pos g1.1,if_pos g1.2.1,if_pos g1.2.2.1,if_pos g1.2.2.2.1,if_pos g1.2.2.2.2]
    rfl
  · cases h
end Go.Proofs.YtaiokpmmjbiajaaGreatDoorDx
end
namespace Go.Proofs.YtaiokpmmjbiajaaGreatDoorDx
section
open Go Go.Proofs
namespace A38L0
noncomputable def cfg:Cfg:=zz Tryz.prog 4 (gpT []) (ltT 4 [])
def stA (nm:ByteArray) (n:Nat) (r:Int) (e:Int) (i:Int):KX:=⟨[(0,.string nm),(1,.slice (some ⟨1,0,none⟩) n 1),(4,.int .i64 r),(5,.int .i64 e),(6,.int .i64 (Int.ofNat n)),(7,.int .i64 i)],[]⟩
def qP (nm:ByteArray) (n:Nat) (r:Int) (e:Int):KX:=⟨[(0,.string nm),(1,.slice (some ⟨1,0,none⟩) n 1),(4,.int .i64 r),(5,.int .i64 e),(6,.int .i64 (Int.ofNat n))],[]⟩
def qV (r:Int) (e:Int):KX:=⟨[(4,.int .i64 r),(5,.int .i64 e)],[]⟩
def kp:Ex→List Nat
 | .normal=>[0,1,4,5,6,7]
 | .exit _=>[0,1,4,5,6]
 | .ret=>[4,5]
theorem round (nm:ByteArray) (n:Nat) (r:Int) (e:Int) (i:Int) (cs:List Value):zW cfg [] [] 38 0 (stK 158 4 [(1,cs)] (stA nm n r e i)) (zD 4 100 158 kp (fun _ _=>[]))=(let x1:=0+(i.toNat*1);(bif decide (i<(Int.ofNat n))then(bif decide (0≤i)then(bif Nat.blt i.toNat n then(bif isV cs x1 (.i .i64)then(bif decide ((rdI cs x1)≥0)then(bif(!decide ((rdI cs x1)≤4))then(some (.ret,qV 0 100))else(some (.normal,stA nm n r e (IntKind.wrap .i64 (i+1)))))else(some (.ret,qV 0 100)))else none)else none)else none)else(some (.exit 0,qP nm n r e)))
):=by kernel_rfl
def ki (p:ByteArray×Int×Int) (k:Int):(ByteArray×Int×Int) ⊕ (Ex×KX):=bif A14L0.bad k then .inr (.ret,qV 0 100)else .inl p
def D:KD:=⟨158,4,100,[0,1,4,5,6,7],[1],fun _=>[],fun x ro=>match x.vs,x.cars,ro with
 |[(0,.string nm),(1,.slice (some ⟨1,0,none⟩) n 1),(4,.int .i64 r),(5,.int .i64 e),(6,.int .i64 m),(7,.int .i64 0)],[],[(1,cs)]=>
  .qI (vO n m cs) (.br ((cs.map kX).any A14L0.bad) (.out (.ret,qV 0 100)) (.out (.exit 0,qP nm n r e)))
 |_,_,_=> .no⟩
def lp:LpK:=⟨38,3,0,D⟩
theorem qG:zw Tryz.prog La 4 lp:=by
 refine⟨by kernel_rfl,fun c base I hP hn hG hI hIL x ro ex y e=> ?_⟩
 obtain⟨vs,cars⟩:=x
 simp only[lp,D]at e ⊢
 split at e
 ·rename_i nm n r e0 m cs
  obtain⟨g1,g2⟩:=GT.qh e
  obtain⟨rfl,hn2,l,rfl,h4,rfl⟩:=vV g1
  have key:=zP (Step:= @zA (zV base) c base I (qW Tryz.prog 38 0) 158 4 100 [(1,ints .i64 l)]) (step:=ki) (fin:=fun p=>(.exit 0,qP p.1 l.length p.2.1 p.2.2)) (st:=fun p j=>stA p.1 l.length p.2.1 p.2.2 j) (l:=l) (fun s=>by simp) (fun s a r h=>by
    unfold ki at h
    cases hb:A14L0.bad a<;>rw[hb]at h<;>cases h;simp) (fun p j hj=>by
    have h1:=ltI hj
    have h2:=geI j
    have h3:=xE hj
    have h4:(0+((j:Int)).toNat*1)=j:=by simp
    have h5:=wrI j (by omega)
    have hr:=round p.1 l.length p.2.1 p.2.2 j (ints .i64 l)
    dsimp only[]at hr
    simp only[h1,h2,h3,h4,h5,vG _ l hj,wE _ l hj,cond_true]at hr
    unfold ki A14L0.bad
    generalize l[j]=k at hr ⊢
    by_cases c1:k<0
    ·simp only [decide_eq_false (show ¬ k ≥ 0 by omega), cond_false] at hr
     rw[decide_eq_true c1]
     exact stepT qg qd (by simp) (by simp) hP hn hG hI hIL hr
    ·simp only [decide_eq_true (show k ≥ 0 by omega), cond_true] at hr
     rw[decide_eq_false c1]
     by_cases c2:k>4
     ·simp only [decide_eq_false (show ¬ k ≤ 4 by omega), Bool.not_false, cond_true] at hr
      rw[decide_eq_true c2]
      exact stepT qg qd (by simp) (by simp) hP hn hG hI hIL hr
     ·simp only [decide_eq_true (show k ≤ 4 by omega), Bool.not_true, cond_false] at hr
      rw[decide_eq_false c2]
      exact stepT qg qd (by simp) (by simp) hP hn hG hI hIL hr) (fun p=>by
    have h1:=xZ l.length
    have hr:=round p.1 l.length p.2.1 p.2.2 l.length (ints .i64 l)
    simp only[h1,cond_false]at hr
    exact stepT qg qd (by simp) (by simp) hP hn hG hI hIL hr) l.length 0 (nm,r,e0) (by omega)
  rw[List.drop_zero]at key
  unfold ki at key
  rw[xC]at key
  rw[h4]at g2
  cases hb:l.any A14L0.bad with
  |true=>rw[hb]at key g2;cases g2;exact key
  |false=>rw[hb]at key g2;cases g2;exact key
 ·cases e
end A38L0
namespace A38L1
noncomputable def cfg:Cfg:=zz Tryz.prog 4 (gpT []) (ltT 4 [])
def stA (n:Nat) (r:Int) (e:Int) (ok:Bool) (o:Int) (i:Int):KX:=⟨[(1,.slice (some ⟨1,0,none⟩) n 1),(4,.int .i64 r),(5,.int .i64 e),(6,.int .i64 (Int.ofNat n)),(8,.bool ok),(9,.int .i64 o),(10,.int .i64 i)],[]⟩
def qP (r:Int) (e:Int) (ok:Bool) (o:Int):KX:=⟨[(4,.int .i64 r),(5,.int .i64 e),(8,.bool ok),(9,.int .i64 o)],[]⟩
def kp:Ex→List Nat
 | .normal=>[1,4,5,6,8,9,10]
 | .exit _=>[4,5,8,9]
 |_=>[]
theorem round (n:Nat) (r:Int) (e:Int) (ok:Bool) (o:Int) (i:Int) (cs:List Value):zW cfg [] [] 38 1 (stK 158 104 [(1,cs)] (stA n r e ok o i)) (zD 104 100 158 kp (fun _ _=>[]))=(let x1:=IntKind.wrap .i64 (i+1);let x2:=0+(i.toNat*1);(bif decide (i<(Int.ofNat n))then(bif ok then(bif decide (0≤i)then(bif Nat.blt i.toNat n then(bif isV cs x2 (.i .i64)then(bif((rdI cs x2)==0)then(some (.normal,stA n r e true o x1))else(some (.normal,stA n r e ((rdI cs x2)==4) o x1)))else none)else none)else none)else(some (.normal,stA n r e false o x1)))else(some (.exit 3,qP r e ok o)))
):=by kernel_rfl
def D:KD:=⟨158,104,100,[1,4,5,6,8,9,10],[1],fun _=>[],fun x ro=>match x.vs,x.cars,ro with
 |[(1,.slice (some ⟨1,0,none⟩) n 1),(4,.int .i64 r),(5,.int .i64 e),(6,.int .i64 m),(8,.bool ok),(9,.int .i64 o),(10,.int .i64 0)],[],[(1,cs)]=>
  .qI (vO n m cs) (.out (.exit 3,qP r e ((cs.map kX).foldl (fun b k=>b&&A14L1.ok1 k) ok) o))
 |_,_,_=> .no⟩
def lp:LpK:=⟨38,28,1,D⟩
theorem qG:zw Tryz.prog La 4 lp:=by
 refine⟨by kernel_rfl,fun c base I hP hn hG hI hIL x ro ex y e=> ?_⟩
 obtain⟨vs,cars⟩:=x
 simp only[lp,D]at e ⊢
 split at e
 ·rename_i n r e0 m ok o cs
  obtain⟨g1,g2⟩:=GT.qh e
  obtain⟨rfl,hn2,l,rfl,h4,rfl⟩:=vV g1
  have key:=zP (Step:= @zA (zV base) c base I (qW Tryz.prog 38 1) 158 104 100 [(1,ints .i64 l)]) (step:=fun b k=> .inl (b&&A14L1.ok1 k)) (fin:=fun b=>(.exit 3,qP r e0 b o)) (st:=fun b j=>stA l.length r e0 b o j) (l:=l) (fun s=>by simp) (fun s a r h=>by cases h) (fun b j hj=>by
    have h1:=ltI hj
    have h2:=geI j
    have h3:=xE hj
    have h4:(0+((j:Int)).toNat*1)=j:=by simp
    have h5:=wrI j (by omega)
    have hr:=round l.length r e0 b o j (ints .i64 l)
    simp only[h1,h2,h3,h4,h5,vG _ l hj,wE _ l hj,cond_true]at hr
    refine stepT qg qd (by simp) (by simp) hP hn hG hI hIL (hr.trans ?_)
    unfold A14L1.ok1
    cases b<;>cases e1:(l[j]==0)<;>cases e2:(l[j]==4)<;>simp[e1,e2]) (fun b=>by
    have h1:=xZ l.length
    have hr:=round l.length r e0 b o l.length (ints .i64 l)
    simp only[h1,cond_false]at hr
    exact stepT qg qd (by simp) (by simp) hP hn hG hI hIL hr) l.length 0 ok (by omega)
  rw[List.drop_zero,kW]at key
  cases g2
  rw[h4]
  exact key
 ·cases e
end A38L1
namespace A91L0
noncomputable def cfg:Cfg:=zz Tryz.prog 4 (gpT []) (ltT 4 [])
def stA (n:Nat) (r:Int) (b:Bool) (o:Int) (i:Int):KX:=⟨[(0,.slice (some ⟨0,0,none⟩) n 1),(2,.int .i64 r),(3,.bool b),(4,.int .i64 o),(5,.int .i64 i)],[]⟩
def qP (o:Int):KX:=⟨[(4,.int .i64 o)],[]⟩
def qV (r:Int) (b:Bool):KX:=⟨[(2,.int .i64 r),(3,.bool b)],[]⟩
def kp:Ex→List Nat
 | .normal=>[0,2,3,4,5]
 | .exit _=>[4]
 | .ret=>[2,3]
theorem round (n:Nat) (r:Int) (b:Bool) (o:Int) (i:Int) (cs:List Value):zW cfg [] [] 91 0 (stK 44 4 [(0,cs)] (stA n r b o i)) (zD 4 100 44 kp (fun _ _=>[]))=(let x1:=0+(i.toNat*1);let x2:=IntKind.wrap .i64 (i+1);(bif decide (i<(Int.ofNat n))then(bif decide (0≤i)then(bif Nat.blt i.toNat n then(bif isV cs x1 (.i .i64)then(bif((rdI cs x1)==0)then(some (.normal,stA n r b o x2))else(bif decide (0≤i)then(bif Nat.blt i.toNat n then(bif isV cs x1 (.i .i64)then(bif((rdI cs x1)==o)then(some (.normal,stA n r b o x2))else(bif(o==0)then(bif decide (0≤i)then(bif Nat.blt i.toNat n then(bif isV cs x1 (.i .i64)then(some (.normal,stA n r b (rdI cs x1) x2))else none)else none)else none)else(bif(o==0)then(bif decide (0≤i)then(bif Nat.blt i.toNat n then(bif isV cs x1 (.i .i64)then(bif((rdI cs x1)==0)then(some (.normal,stA n r b 3 x2))else(bif((rdI cs x1)==2)then(some (.normal,stA n r b 3 x2))else(bif((rdI cs x1)==3)then(some (.normal,stA n r b 3 x2))else(some (.ret,qV 0 false)))))else none)else none)else none)else(bif(o==2)then(bif decide (0≤i)then(bif Nat.blt i.toNat n then(bif isV cs x1 (.i .i64)then(bif((rdI cs x1)==0)then(some (.normal,stA n r b 3 x2))else(bif((rdI cs x1)==2)then(some (.normal,stA n r b 3 x2))else(bif((rdI cs x1)==3)then(some (.normal,stA n r b 3 x2))else(some (.ret,qV 0 false)))))else none)else none)else none)else(bif(o==3)then(bif decide (0≤i)then(bif Nat.blt i.toNat n then(bif isV cs x1 (.i .i64)then(bif((rdI cs x1)==0)then(some (.normal,stA n r b 3 x2))else(bif((rdI cs x1)==2)then(some (.normal,stA n r b 3 x2))else(bif((rdI cs x1)==3)then(some (.normal,stA n r b 3 x2))else(some (.ret,qV 0 false)))))else none)else none)else none)else(some (.ret,qV 0 false)))))))else none)else none)else none))else none)else none)else none)else(some (.exit 0,qP o)))
):=by kernel_rfl
def ki (p:Int×Int×Bool) (k:Int):(Int×Int×Bool) ⊕ (Ex×KX):=match Ref.Kz k p.1 with
 |some o=> .inl (o,p.2)
 |none=> .inr (.ret,qV 0 false)
theorem YB: ∀(l:List Int) (p:Int×Int×Bool),jq ki (fun p=>(.exit 0,qP p.1)) p l=match Ref.ra p.1 l with
  |some o=>(.exit 0,qP o)
  |none=>(.ret,qV 0 false)
 |[],p=>rfl
 |k::l,p=>by
  rw[jq,Ref.ra]
  unfold ki
  cases h:Ref.Kz k p.1 with
  |none=>rfl
  |some o=>exact YB l (o,p.2)
def raB (o:Int) (l:List Int):Bool:=(Ref.ra o l).isSome
def raO (o:Int) (l:List Int):Int:=(Ref.ra o l).getD 0
def D:KD:=⟨44,4,100,[0,2,3,4,5],[0],fun _=>[],fun x ro=>match x.vs,x.cars,ro with
 |[(0,.slice (some ⟨0,0,none⟩) n 1),(2,.int .i64 r),(3,.bool b),(4,.int .i64 o),(5,.int .i64 0)],[],[(0,cs)]=>
  .qI (vO n (Int.ofNat n) cs) (.br (raB o (cs.map kX)) (.out (.exit 0,qP (raO o (cs.map kX)))) (.out (.ret,qV 0 false)))
 |_,_,_=> .no⟩
def lp:LpK:=⟨91,3,0,D⟩
theorem qG:zw Tryz.prog La 4 lp:=by
 refine⟨by kernel_rfl,fun c base I hP hn hG hI hIL x ro ex y e=> ?_⟩
 obtain⟨vs,cars⟩:=x
 simp only[lp,D]at e ⊢
 split at e
 ·rename_i n r b o cs
  obtain⟨g1,g2⟩:=GT.qh e
  obtain⟨_,hn2,l,rfl,h4,rfl⟩:=vV g1
  have key:=zP (Step:= @zA (zV base) c base I (qW Tryz.prog 91 0) 44 4 100 [(0,ints .i64 l)]) (step:=ki) (fin:=fun p=>(.exit 0,qP p.1)) (st:=fun p j=>stA l.length p.2.1 p.2.2 p.1 j) (l:=l) (fun s=>by simp) (fun s a r h=>by
    unfold ki at h
    split at h<;>cases h;simp) (fun p j hj=>by
    have h1:=ltI hj
    have h2:=geI j
    have h3:=xE hj
    have h4:(0+((j:Int)).toNat*1)=j:=by simp
    have h5:=wrI j (by omega)
    obtain⟨o,r,b⟩:=p
    have hr:=round l.length r b o j (ints .i64 l)
    dsimp only[]at hr
    simp only[h1,h2,h3,h4,h5,vG _ l hj,wE _ l hj,cond_true]at hr
    unfold ki Ref.Kz Ref.ZW
    dsimp only[]
    cases e0:l[j]==0
    ·simp only [e0, cond_false, Bool.false_or] at hr ⊢
     cases e1:l[j]==o
     ·simp only [e1, cond_false] at hr ⊢
      cases e2:o==0
      ·simp only [e2, cond_false, Bool.false_or] at hr ⊢
       cases e3:o==2<;>cases e4:o==3<;>cases e5:l[j]==2<;>cases e6:l[j]==3<;>simp only[e3,e4,e5,e6,cond_true,cond_false]at hr<;>exact stepT qg qd (by simp) (by simp) hP hn hG hI hIL hr
      ·simp only [e2, cond_true] at hr ⊢
       exact stepT qg qd (by simp) (by simp) hP hn hG hI hIL hr
     ·simp only [e1, cond_true] at hr ⊢
      exact stepT qg qd (by simp) (by simp) hP hn hG hI hIL hr
    ·simp only [e0, cond_true, Bool.true_or] at hr ⊢
     exact stepT qg qd (by simp) (by simp) hP hn hG hI hIL hr) (fun p=>by
    have h1:=xZ l.length
    have hr:=round l.length p.2.1 p.2.2 p.1 l.length (ints .i64 l)
    simp only[h1,cond_false]at hr
    exact stepT qg qd (by simp) (by simp) hP hn hG hI hIL hr) l.length 0 (o,r,b) (by omega)
  rw[List.drop_zero,YB]at key
  rw[h4]at g2
  cases hb:Ref.ra o l with
  |none=>
   unfold raB raO at g2
   rw[hb]at key g2;cases g2;exact key
  |some q=>
   unfold raB raO at g2
   rw[hb]at key g2;cases g2;exact key
 ·cases e
end A91L0
namespace A91
def T (m0:Nat) (c0:List Value):GT Value:=(.br (true&&([((0:Nat),c0)]).all fun p=>p.snd.all qo) (.br (vO m0 (Int.ofNat m0) c0) (.br (A91L0.raB 0 (c0.map kX)) (.out (.tuple #[.int .i64 (A91L0.raO 0 (c0.map kX)),.bool true])) (.out (.tuple #[.int .i64 0,.bool false]))) .no) .no)
theorem run (m0:Nat) (c0:List Value):runK 4 [] [A91L0.lp] 91 [.sl m0 1 c0]=(T m0 c0).eval:=by kernel_rfl
def two (p:Int×Bool):Value:= .tuple #[.int .i64 p.1,.bool p.2]
theorem qL (l:List Int) (hl:l.length<4611686018427387904):(T l.length (ints .i64 l)).eval=some (two (Ref.zG l)):=by
 have g:=xM hl
 unfold T Ref.zG two A91L0.raB A91L0.raO
 simp only[g,jE,qY,GT.eval,Bool.true_and,Bool.and_true,cond_true,List.all_cons,List.all_nil]
 cases Ref.ra 0 l<;>rfl
def spec:Spec:=fun aa=>match aa with
 |[.sl n 1 cs]=>some (.qI (vO n (Int.ofNat n) cs) (.out (two (Ref.zG (cs.map kX)))))
 |[.nil]=>some (.out (two (0,true)))
 |_=>none
theorem runN:runK 4 [] [] 91 [.nil]=some (two (0,true)):=by kernel_rfl
theorem qf:qu Tryz.prog La 91 spec:=⟨qE (by kernel_rfl),fun aa t v h e=>by
 unfold spec at h
 split at h
 ·rename_i n cs
  cases h
  obtain⟨g1,g2⟩:=GT.qh e
  cases g2
  obtain⟨_,hn,l,rfl,h4,rfl⟩:=vV g1
  rw[h4]
  exact⟨rfl,qR qx qg qd (by simp) (by simpa using A91L0.qG) (by decide) (by simp) rfl ((run _ _).trans (qL _ hn))⟩
 ·cases h; cases e
  exact⟨rfl,qR qx qg qd (by simp) (by simp) (by decide) (by simp) rfl runN⟩
 ·cases h⟩
end A91
namespace A38n
def T (s0:ByteArray):GT Value:=let o1:GT Value:=(.out (.tuple #[.int .i64 0,.int .i64 100]));(.br (eqU s0.data.toList [97,98,115]) o1 (.br (eqU s0.data.toList [99,101,105,108]) o1 (.br (eqU s0.data.toList [102,108,111,111,114]) o1 (.br (eqU s0.data.toList [114,111,117,110,100]) o1 (.br (eqU s0.data.toList [115,105,103,110]) o1 (.br (eqU s0.data.toList [116,111,105,110,116]) o1 (.br (eqU s0.data.toList [116,111,100,101,99]) o1 (.br (eqU s0.data.toList [99,111,97,108,101,115,99,101]) o1 (.br (eqU s0.data.toList [103,114,101,97,116,101,115,116]) o1 (.br (eqU s0.data.toList [108,101,97,115,116]) o1 (.br (eqU s0.data.toList [99,111,110,99,97,116]) o1 (.br (eqU s0.data.toList [108,101,110,103,116,104]) o1 (.br (eqU s0.data.toList [108,111,119,101,114]) o1 (.br (eqU s0.data.toList [116,114,105,109]) o1 (.br (eqU s0.data.toList [117,112,112,101,114]) o1 (.br (eqU s0.data.toList [110,117,108,108,105,102]) o1 (.br (eqU s0.data.toList [115,117,98,115,116,114]) o1 (.br (eqU s0.data.toList [116,111,116,101,120,116]) o1 o1))))))))))))))))))
theorem run (s0:ByteArray):runK 4 [(91,A91.spec)] [] 38 [.v (.string s0),.nil]=(T s0).eval:=by kernel_rfl
end A38n
namespace A38
def T (s0:ByteArray) (m1:Nat) (c1:List Value):GT Value:=let o1:GT Value:=(.out (.tuple #[.int .i64 0,.int .i64 100]));let o2:GT Value:=(.out (.tuple #[.int .i64 (rdI c1 0),.int .i64 0]));let o3:GT Value:=(.br (Nat.blt 0 m1) (.br (isV c1 0 (.i .i64)) o2 .no) .no);let o4:GT Value:=(.out (.tuple #[.int .i64 2,.int .i64 0]));let o5:GT Value:=(.br ((Int.ofNat m1)==1) (.br (Nat.blt 0 m1) (.br (isV c1 0 (.i .i64)) (.br ((rdI c1 0)==0) o4 (.br ((rdI c1 0)==2) o4 (.br (!((rdI c1 0)==3)) o1 o4))) .no) .no) o1);let o6:GT Value:=(.out (.tuple #[.int .i64 3,.int .i64 0]));let o7:GT Value:=(.br (([((fun(cs:List Value)=>((0+m1*1).ble cs.length&&(List.take (m1*1) (List.drop 0 cs)).all qo,AA.sl m1 1 (List.take (m1*1) (List.drop 0 cs)))) c1)]).all fun x=>x.fst) (.br (vO m1 (Int.ofNat m1) ((c1.drop 0).take (m1*1))) (.br ((Ref.zG (((c1.drop 0).take (m1*1)).map kX)).2) (.br (!decide ((Int.ofNat m1)≥1)) o1 (.out (.tuple #[.int .i64 (Ref.zG (((c1.drop 0).take (m1*1)).map kX)).1,.int .i64 0]))) o1) .no) .no);let o8:GT Value:=(.out (.tuple #[.int .i64 4,.int .i64 0]));let o9:GT Value:=(.br ((Int.ofNat m1)==1) (.br (Nat.blt 0 m1) (.br (isV c1 0 (.i .i64)) (.br ((rdI c1 0)==0) o8 (.br (!((rdI c1 0)==4)) o1 o8)) .no) .no) o1);let o10:GT Value:=(.br (Nat.blt 2 m1) (.br (isV c1 2 (.i .i64)) (.br ((rdI c1 2)==0) o8 (.br (!((rdI c1 2)==2)) o1 o8)) .no) .no);let o11:GT Value:=(.br (Nat.blt 1 m1) (.br (isV c1 1 (.i .i64)) (.br ((rdI c1 1)==0) o10 (.br ((rdI c1 1)==2) o10 o1)) .no) .no);(.br (true&&([((1:Nat),c1)]).all fun p=>p.snd.all qo) (.br (vO m1 (Int.ofNat m1) c1) (.br ((List.map kX c1).any A14L0.bad) o1 (.br (eqU s0.data.toList [97,98,115]) (.br ((Int.ofNat m1)==1) (.br (Nat.blt 0 m1) (.br (isV c1 0 (.i .i64)) (.br ((rdI c1 0)==0) o3 (.br ((rdI c1 0)==2) o3 (.br (Nat.blt 0 m1) (.br (isV c1 0 (.i .i64)) (.br (!((rdI c1 0)==3)) o1 o2) .no) .no))) .no) .no) o1) (.br (eqU s0.data.toList [99,101,105,108]) o5 (.br (eqU s0.data.toList [102,108,111,111,114]) o5 (.br (eqU s0.data.toList [114,111,117,110,100]) o5 (.br (eqU s0.data.toList [115,105,103,110]) o5 (.br (eqU s0.data.toList [116,111,105,110,116]) o5 (.br (eqU s0.data.toList [116,111,100,101,99]) (.br ((Int.ofNat m1)==1) (.br (Nat.blt 0 m1) (.br (isV c1 0 (.i .i64)) (.br ((rdI c1 0)==0) o6 (.br ((rdI c1 0)==2) o6 (.br (!((rdI c1 0)==3)) o1 o6))) .no) .no) o1) (.br (eqU s0.data.toList [99,111,97,108,101,115,99,101]) o7 (.br (eqU s0.data.toList [103,114,101,97,116,101,115,116]) o7 (.br (eqU s0.data.toList [108,101,97,115,116]) o7 (.br (eqU s0.data.toList [99,111,110,99,97,116]) (.br (true&&([((1:Nat),c1)]).all fun p=>p.snd.all qo) (.br (vO m1 (Int.ofNat m1) c1) (.br (!(List.foldl (fun b k=>b&&A14L1.ok1 k) (decide (Int.ofNat m1≥1)) (List.map kX c1))) o1 o8) .no) .no) (.br (eqU s0.data.toList [108,101,110,103,116,104]) (.br ((Int.ofNat m1)==1) (.br (Nat.blt 0 m1) (.br (isV c1 0 (.i .i64)) (.br ((rdI c1 0)==0) o4 (.br (!((rdI c1 0)==4)) o1 o4)) .no) .no) o1) (.br (eqU s0.data.toList [108,111,119,101,114]) o9 (.br (eqU s0.data.toList [116,114,105,109]) o9 (.br (eqU s0.data.toList [117,112,112,101,114]) o9 (.br (eqU s0.data.toList [110,117,108,108,105,102]) (.br (([((fun(cs:List Value)=>((0+m1*1).ble cs.length&&(List.take (m1*1) (List.drop 0 cs)).all qo,AA.sl m1 1 (List.take (m1*1) (List.drop 0 cs)))) c1)]).all fun x=>x.fst) (.br (vO m1 (Int.ofNat m1) ((c1.drop 0).take (m1*1))) (.br ((Ref.zG (((c1.drop 0).take (m1*1)).map kX)).2) (.br ((Int.ofNat m1)==2) (.br (Nat.blt 0 m1) (.br (isV c1 0 (.i .i64)) (.br (!((Int.ofNat m1)==2)) o1 o2) .no) .no) (.br (!((Int.ofNat m1)==2)) o1 (.out (.tuple #[.int .i64 0,.int .i64 0])))) o1) .no) .no) (.br (eqU s0.data.toList [115,117,98,115,116,114]) (.br ((Int.ofNat m1)==3) (.br (Nat.blt 0 m1) (.br (isV c1 0 (.i .i64)) (.br ((rdI c1 0)==0) o11 (.br ((rdI c1 0)==4) o11 o1)) .no) .no) o1) (.br (eqU s0.data.toList [116,111,116,101,120,116]) (.br (!((Int.ofNat m1)==1)) o1 o8) o1))))))))))))))))))) .no) .no)
theorem run (s0:ByteArray) (m1:Nat) (c1:List Value):runK 4 [(91,A91.spec)] [A38L0.lp,A38L1.lp] 38 [.v (.string s0),.sl m1 1 c1]=(T s0 m1 c1).eval:=by kernel_rfl
theorem vR (n k:Nat) (h:n<k):(Int.ofNat k==Int.ofNat n)=false:=beq_eq_false_iff_ne.2 fun e=>by have:=Int.ofNat.inj e;omega
set_option maxHeartbeats 0 in
theorem qL (s:ByteArray) (l:List Int) (hl:l.length<4611686018427387904):(T s l.length (ints .i64 l)).eval=some (Fit.two (Ref.wG s l)):=by
 have g:=xM hl
 have a3:((ints .i64 l).drop 0).take (l.length*1)=ints .i64 l:=by rw[List.drop_zero,Nat.mul_one];exact List.take_of_length_le (by rw[zH];exact Nat.le_refl _)
 have a5:(0+l.length*1).ble l.length=true:=by rw[Nat.ble_eq];omega
 unfold T Ref.wG
 simp only[g,a3,a5,jE,qY,zH,GT.eval,Bool.true_and,Bool.and_true,cond_true,List.all_cons,List.all_nil]
 cases hb:l.any A14L0.bad
 rotate_left
 ·rfl
 simp only[cond_false]
 clear hb g a3 a5
 cases n0:eqU s.data.toList [97,98,115]
 rotate_left
 ·simp only [cond_true]
  match l with
  |[]=>rfl
  |[a]=>
   show (bif a==0 then _ else bif a==2 then _ else bif !(a==3)then _ else _)=some (Fit.two (Fit.rP (a==0||(a==2||a==3)) _))
   cases a==0<;>cases a==2<;>cases a==3<;>rfl
  |a::b::r=>
   have e:(Int.ofNat (a::b::r).length==1)=false:=vR 1 _ (by simp)
   rw[e];rfl
 simp only[cond_false]
 cases n1:eqU s.data.toList [99,101,105,108]
 rotate_left
 ·simp only [cond_true]
  match l with
  |[]=>rfl
  |[a]=>
   show (bif a==0 then _ else bif a==2 then _ else bif !(a==3)then _ else _)=some (Fit.two (Fit.rP (a==0||(a==2||a==3)) _))
   cases a==0<;>cases a==2<;>cases a==3<;>rfl
  |a::b::r=>
   have e:(Int.ofNat (a::b::r).length==1)=false:=vR 1 _ (by simp)
   rw[e];rfl
 simp only[cond_false]
 cases n2:eqU s.data.toList [102,108,111,111,114]
 rotate_left
 ·simp only [cond_true]
  match l with
  |[]=>rfl
  |[a]=>
   show (bif a==0 then _ else bif a==2 then _ else bif !(a==3)then _ else _)=some (Fit.two (Fit.rP (a==0||(a==2||a==3)) _))
   cases a==0<;>cases a==2<;>cases a==3<;>rfl
  |a::b::r=>
   have e:(Int.ofNat (a::b::r).length==1)=false:=vR 1 _ (by simp)
   rw[e];rfl
 simp only[cond_false]
 cases n3:eqU s.data.toList [114,111,117,110,100]
 rotate_left
 ·simp only [cond_true]
  match l with
  |[]=>rfl
  |[a]=>
   show (bif a==0 then _ else bif a==2 then _ else bif !(a==3)then _ else _)=some (Fit.two (Fit.rP (a==0||(a==2||a==3)) _))
   cases a==0<;>cases a==2<;>cases a==3<;>rfl
  |a::b::r=>
   have e:(Int.ofNat (a::b::r).length==1)=false:=vR 1 _ (by simp)
   rw[e];rfl
 simp only[cond_false]
 cases n4:eqU s.data.toList [115,105,103,110]
 rotate_left
 ·simp only [cond_true]
  match l with
  |[]=>rfl
  |[a]=>
   show (bif a==0 then _ else bif a==2 then _ else bif !(a==3)then _ else _)=some (Fit.two (Fit.rP (a==0||(a==2||a==3)) _))
   cases a==0<;>cases a==2<;>cases a==3<;>rfl
  |a::b::r=>
   have e:(Int.ofNat (a::b::r).length==1)=false:=vR 1 _ (by simp)
   rw[e];rfl
 simp only[cond_false]
 cases n5:eqU s.data.toList [116,111,105,110,116]
 rotate_left
 ·simp only [cond_true]
  match l with
  |[]=>rfl
  |[a]=>
   show (bif a==0 then _ else bif a==2 then _ else bif !(a==3)then _ else _)=some (Fit.two (Fit.rP (a==0||(a==2||a==3)) _))
   cases a==0<;>cases a==2<;>cases a==3<;>rfl
  |a::b::r=>
   have e:(Int.ofNat (a::b::r).length==1)=false:=vR 1 _ (by simp)
   rw[e];rfl
 simp only[cond_false]
 cases n6:eqU s.data.toList [116,111,100,101,99]
 rotate_left
 ·simp only [cond_true]
  match l with
  |[]=>rfl
  |[a]=>
   show (bif a==0 then _ else bif a==2 then _ else bif !(a==3)then _ else _)=some (Fit.two (Fit.rP (a==0||(a==2||a==3)) _))
   cases a==0<;>cases a==2<;>cases a==3<;>rfl
  |a::b::r=>
   have e:(Int.ofNat (a::b::r).length==1)=false:=vR 1 _ (by simp)
   rw[e];rfl
 simp only[cond_false]
 cases n7:eqU s.data.toList [99,111,97,108,101,115,99,101]
 rotate_left
 ·simp only [cond_true]
  generalize Ref.zG l=p
  cases p.2<;>cases decide (Int.ofNat l.length≥1)<;>rfl
 simp only[cond_false]
 cases n8:eqU s.data.toList [103,114,101,97,116,101,115,116]
 rotate_left
 ·simp only [cond_true]
  generalize Ref.zG l=p
  cases p.2<;>cases decide (Int.ofNat l.length≥1)<;>rfl
 simp only[cond_false]
 cases n9:eqU s.data.toList [108,101,97,115,116]
 rotate_left
 ·simp only [cond_true]
  generalize Ref.zG l=p
  cases p.2<;>cases decide (Int.ofNat l.length≥1)<;>rfl
 simp only[cond_false]
 cases n10:eqU s.data.toList [99,111,110,99,97,116]
 rotate_left
 ·simp only [cond_true]
  generalize List.foldl (fun b k=>b&&A14L1.ok1 k) (decide (Int.ofNat l.length≥1)) l=b
  cases b<;>rfl
 simp only[cond_false]
 cases n11:eqU s.data.toList [108,101,110,103,116,104]
 rotate_left
 ·simp only [cond_true]
  match l with
  |[]=>rfl
  |[a]=>
   show (bif a==0 then _ else bif !(a==4)then _ else _)=some (Fit.two (Fit.rP (a==0||a==4) _))
   cases a==0<;>cases a==4<;>rfl
  |a::b::r=>
   have e:(Int.ofNat (a::b::r).length==1)=false:=vR 1 _ (by simp)
   rw[e];rfl
 simp only[cond_false]
 cases n12:eqU s.data.toList [108,111,119,101,114]
 rotate_left
 ·simp only [cond_true]
  match l with
  |[]=>rfl
  |[a]=>
   show (bif a==0 then _ else bif !(a==4)then _ else _)=some (Fit.two (Fit.rP (a==0||a==4) _))
   cases a==0<;>cases a==4<;>rfl
  |a::b::r=>
   have e:(Int.ofNat (a::b::r).length==1)=false:=vR 1 _ (by simp)
   rw[e];rfl
 simp only[cond_false]
 cases n13:eqU s.data.toList [116,114,105,109]
 rotate_left
 ·simp only [cond_true]
  match l with
  |[]=>rfl
  |[a]=>
   show (bif a==0 then _ else bif !(a==4)then _ else _)=some (Fit.two (Fit.rP (a==0||a==4) _))
   cases a==0<;>cases a==4<;>rfl
  |a::b::r=>
   have e:(Int.ofNat (a::b::r).length==1)=false:=vR 1 _ (by simp)
   rw[e];rfl
 simp only[cond_false]
 cases n14:eqU s.data.toList [117,112,112,101,114]
 rotate_left
 ·simp only [cond_true]
  match l with
  |[]=>rfl
  |[a]=>
   show (bif a==0 then _ else bif !(a==4)then _ else _)=some (Fit.two (Fit.rP (a==0||a==4) _))
   cases a==0<;>cases a==4<;>rfl
  |a::b::r=>
   have e:(Int.ofNat (a::b::r).length==1)=false:=vR 1 _ (by simp)
   rw[e];rfl
 simp only[cond_false]
 cases n15:eqU s.data.toList [110,117,108,108,105,102]
 rotate_left
 ·simp only [cond_true]
  generalize Ref.zG l=p
  match l with
  |[]=>cases p.2<;>rfl
  |[a]=>cases p.2<;>rfl
  |[a,b]=>cases p.2<;>rfl
  |a::b::c::r=>
   have e:(Int.ofNat (a::b::c::r).length==2)=false:=vR 2 _ (by simp)
   rw[e]
   cases p.2<;>rfl
 simp only[cond_false]
 cases n16:eqU s.data.toList [115,117,98,115,116,114]
 rotate_left
 ·simp only [cond_true]
  match l with
  |[]=>rfl
  |[a]=>rfl
  |[a,b]=>rfl
  |[a,b,c]=>
   show (bif a==0 then(bif b==0 then(bif c==0 then _ else bif !(c==2)then _ else _)else bif b==2 then(bif c==0 then _ else bif !(c==2)then _ else _)else _)else bif a==4 then(bif b==0 then(bif c==0 then _ else bif !(c==2)then _ else _)else bif b==2 then(bif c==0 then _ else bif !(c==2)then _ else _)else _)else _)=some (Fit.two (Fit.rP ((a==0||a==4)&&((b==0||b==2)&&(c==0||c==2))) _))
   cases a==0<;>cases a==4<;>cases b==0<;>cases b==2<;>cases c==0<;>cases c==2<;>rfl
  |a::b::c::d::r=>
   have e:(Int.ofNat (a::b::c::d::r).length==3)=false:=vR 3 _ (by simp)
   rw[e];rfl
 simp only[cond_false]
 cases n17:eqU s.data.toList [116,111,116,101,120,116]
 rotate_left
 ·simp only [cond_true]
  cases Int.ofNat l.length==1<;>rfl
 rfl
def spec:Spec:=fun aa=>match aa with
 |[.v (.string s),.sl n 1 cs]=>some (.qI (vO n (Int.ofNat n) cs) (.out (Fit.two (Ref.wG s (cs.map kX)))))
 |[.v (.string s),.nil]=>some (.out (Fit.two (0,100)))
 |_=>none
theorem fm (s:ByteArray):(A38n.T s).eval=some (Fit.two (0,100)):=by
 unfold A38n.T
 simp only[GT.eval,A14.same]
 rfl
theorem qf:qu Tryz.prog La 38 spec:=⟨qE (by kernel_rfl),fun aa t v h e=>by
 unfold spec at h
 split at h
 ·rename_i s n cs
  cases h
  obtain⟨g1,g2⟩:=GT.qh e
  cases g2
  obtain⟨_,hn,l,rfl,h4,rfl⟩:=vV g1
  rw[h4]
  exact⟨rfl,qR qx qg qd (by simpa using A91.qf) (by simpa using⟨A38L0.qG,A38L1.qG⟩) (by decide) (by simp) rfl ((run _ _ _).trans (qL _ _ hn))⟩
 ·cases h; cases e
  exact⟨rfl,qR qx qg qd (by simpa using A91.qf) (by simp) (by decide) (by simp) rfl ((A38n.run _).trans (fm _))⟩
 ·cases h⟩
end A38
namespace A42L0
noncomputable def cfg:Cfg:=zz Tryz.prog 4 (gpT [(95,A95.spec)]) (ltT 4 [])
def stA (nm:ByteArray) (n:Nat) (i kb nb:Int) (sb:ByteArray):KX:=⟨[(0,.string nm),(1,.slice (some ⟨1,0,none⟩) n 3),(4,.pointer (some ⟨4,0,none⟩)),(5,.pointer (some ⟨6,0,none⟩)),(6,.int .i64 i)],[[.int .i64 kb,.int .i64 nb,.string sb]]⟩
def kp:Ex→List Nat
 | .normal=>[0,1,4,5,6]
 | .exit _=>[4,5]
 |_=>[]
def cr:Ex→St→List (Nat×Bool):=fun _ s=>[(6,true)]
theorem round (nm:ByteArray) (n:Nat) (i kb nb:Int) (sb:ByteArray) (cs:List Value):zW cfg [(95,A95.spec)] [] 42 0 (stK 55 6 [(1,cs)] (stA nm n i kb nb sb)) (zD 6 100 55 kp cr)=(let x1:=0+(i.toNat*3);let x2:=IntKind.wrap .i64 (i+1);let x3:=rdS cs ((x1+1)+1);let o1:Option (Ex×KX):=(bif decide (0≤i)then(bif Nat.blt i.toNat n then(bif isL cs x1 [(.i .i64),(.i .i64),.s]then(some (.normal,⟨[(0,.string nm),(1,.slice (some ⟨1,0,none⟩) n 3),(4,.pointer (some ⟨4,0,none⟩)),(5,.pointer (some ⟨6,0,none⟩)),(6,.int .i64 x2)],[[.int .i64 (rdI cs x1),.int .i64 (rdI cs (x1+1)),.string x3]]⟩))else none)else none)else none);let o2:Option (Ex×KX):=(some (.normal,⟨[(0,.string nm),(1,.slice (some ⟨1,0,none⟩) n 3),(4,.pointer (some ⟨4,0,none⟩)),(5,.pointer (some ⟨6,0,none⟩)),(6,.int .i64 x2)],[[.int .i64 kb,.int .i64 nb,.string sb]]⟩));let o3:Option (Ex×KX):=(bif eqU nm.data.toList [108,101,97,115,116]then(bif decide ((Ref.zx (rdI cs x1) (rdI cs (x1+1)) x3 kb nb sb).1<0)then o1 else o2)else o2);(bif decide (i<(Int.ofNat n))then(bif decide (0≤i)then(bif Nat.blt i.toNat n then(bif isL cs x1 [(.i .i64),(.i .i64),.s]then(bif eqU nm.data.toList [99,111,97,108,101,115,99,101]then(bif(kb==0)then o1 else o2)else(bif eqU nm.data.toList [103,114,101,97,116,101,115,116]then(bif decide ((Ref.zx (rdI cs x1) (rdI cs (x1+1)) x3 kb nb sb).1>0)then o1 else o3)else o3))else none)else none)else none)else(some (.exit 0,⟨[(4,.pointer (some ⟨4,0,none⟩)),(5,.pointer (some ⟨6,0,none⟩))],[[.int .i64 kb,.int .i64 nb,.string sb]]⟩)))):=by kernel_rfl
def upd (nm:ByteArray) (b v:W3):W3:=bif Ref.jr nm b v then v else b
def stV (nm:ByteArray) (n:Nat) (i:Int) (b:W3):KX:=stA nm n i b.1 b.2.1 b.2.2
def stE (b:W3):KX:=⟨[(4,.pointer (some ⟨4,0,none⟩)),(5,.pointer (some ⟨6,0,none⟩))],[[.int .i64 b.1,.int .i64 b.2.1,.string b.2.2]]⟩
def jc (nm:ByteArray) (k n:Int) (s:ByteArray) (l:List W3):W3:=l.tail.foldl (upd nm) (k,n,s)
def D:KD:=⟨55,6,100,[0,1,4,5,6],[1],fun _=>[(5,true)],fun x ro=>match x.vs,x.cars,ro with
 |[(0,.string nm),(1,.slice (some ⟨1,0,none⟩) n 3),(4,.pointer (some ⟨4,0,none⟩)),(5,.pointer (some ⟨6,0,none⟩)),(6,.int .i64 1)],[[.int .i64 kb,.int .i64 nb,.string sb]],[(1,cs)]=>
  .qI (wo n (Int.ofNat n) cs&&Nat.blt 0 n) (.out (.exit 0,stE (jc nm kb nb sb (qj cs))))
 |_,_,_=> .no⟩
def lp:LpK:=⟨42,3,0,D⟩
theorem kG: ∀p∈[((95:FuncId),A95.spec)],qu Tryz.prog La p.1 p.2:=by simpa using A95.qf
theorem next (nm:ByteArray) (l:List W3) (hn:l.length<4398046511104) (p:W3) {j:Nat} (hj:j<l.length):
  zW cfg [(95,A95.spec)] [] 42 0 (stK 55 6 [(1,qq l)] (stV nm l.length j p)) (zD 6 100 55 kp cr)=
  some (.normal,stV nm l.length ((j+1:Nat):Int) (upd nm p l[j])):=by
 have h1:=ltI hj
 have h2:=geI j
 have h3:=xE hj
 have h4:(0+((j:Int)).toNat*3)=j*3:=by simp
 have h5:=wrI j (by omega)
 have hs:rdS (qq l) (j*3+1+1)=l[j].2.2:=kS l hj
 unfold stV
 rw[round]
 dsimp only[]
 simp only[h1,h2,h3,h4,h5,kt l hj,zX l hj,kc l hj,hs,cond_true]
 generalize l[j]=v
 unfold upd Ref.jr
 obtain⟨kb,nb,sb⟩:=p
 dsimp only[]
 generalize eqU nm.data.toList [99,111,97,108,101,115,99,101]=q
 generalize eqU nm.data.toList [103,114,101,97,116,101,115,116]=g
 generalize eqU nm.data.toList [108,101,97,115,116]=m
 generalize (Ref.zx v.1 v.2.1 v.2.2 kb nb sb).1=c1
 cases q<;>cases (kb==0)<;>cases g<;>cases m<;>cases decide (c1>0)<;>cases decide (c1<0)<;>rfl
theorem qG:zw Tryz.prog La 4 lp:=by
 refine⟨by kernel_rfl,fun c base I hP hn hG hI hIL x ro ex y e=> ?_⟩
 obtain⟨vs,cars⟩:=x
 simp only[lp,D]at e ⊢
 split at e
 ·rename_i nm n kb nb sb cs
  obtain⟨g1,g2⟩:=GT.qh e
  simp only[Bool.and_eq_true]at g1
  obtain⟨_,hn2,h4,h5⟩:=kB g1.1
  have h0:=g1.2
  generalize qj cs=l at h4 h5 g2
  subst h4 h5
  rw[Nat.blt_eq]at h0
  have hlen:l.tail.length+1=l.length:=by cases l with
   |nil=>cases h0
   |cons v l=>simp
  have key:=zP (Step:= @zA (zV base) c base I (qW Tryz.prog 42 0) 55 6 100 [(1,qq l)]) (step:=fun p v=> .inl (upd nm p v)) (fin:=fun p=>(.exit 0,stE p)) (st:=fun p j=>stV nm l.length ((j+1:Nat):Int) p) (l:=l.tail) (fun s=>by simp) (fun s a r h=>by cases h) (fun p j hj=>by
    have hr:=next nm l hn2 p (j:=j+1) (by omega)
    have et:l[j+1]'(by omega)=l.tail[j]:=by simp
    rw[et]at hr
    exact stepT qg qd kG (by simp) hP hn hG hI hIL hr) (fun p=>by
    have h1:decide (((l.tail.length+1:Nat):Int)<Int.ofNat l.length)=false:=decide_eq_false (by show¬((l.tail.length+1:Nat):Int)<(l.length:Int);omega)
    have hr:=round nm l.length ((l.tail.length+1:Nat):Int) p.1 p.2.1 p.2.2 (qq l)
    dsimp only[]at hr
    simp only[h1,cond_false]at hr
    exact stepT qg qd kG (by simp) hP hn hG hI hIL hr) l.tail.length 0 (kb,nb,sb) (by omega)
  rw[List.drop_zero,kW]at key
  cases g2
  exact key
 ·cases e
end A42L0
namespace A42
def T (s0:ByteArray) (m1:Nat) (c1:List Value):GT Value:=let x1:=A42L0.jc s0 (rdI c1 0) (rdI c1 1) (rdS c1 2) (qj c1);(.br (Nat.blt 0 m1) (.br (isL c1 0 [(.i .i64),(.i .i64),.s]) (.br (true&&([((1:Nat),c1)]).all fun p=>p.snd.all qo) (.br ((decide ((Int.ofNat m1)=(Int.ofNat m1))&&((kR c1)&&(Nat.beq c1.length (m1*3)&&Nat.blt m1 4398046511104)))&&Nat.blt 0 m1) (.out (.agg #[.int .i64 x1.1,.int .i64 x1.2.1,.string x1.2.2])) .no) .no) .no) .no)
theorem run (s0:ByteArray) (m1:Nat) (c1:List Value):runK 4 [(95,A95.spec)] [A42L0.lp] 42 [.v (.string s0),.sl m1 3 c1]=(T s0 m1 c1).eval:=by kernel_rfl
theorem qL (s:ByteArray) (l:List W3) (hl:l.length<4398046511104) (h0:Nat.blt 0 l.length=true):(T s l.length (qq l)).eval=some (vv (Ref.wF s l)):=by
 have g:Nat.blt l.length 4398046511104=true:=by rw[Nat.blt_eq];exact hl
 have h0':0<l.length:=by rwa [Nat.blt_eq]at h0
 have q0:rdI (qq l) 0=(l.headD v0).1:=by have:=zX l h0';rw[A37.at0 l h0']at this;exact this
 have q1:rdI (qq l) 1=(l.headD v0).2.1:=by have:=kc l h0';rw[A37.at0 l h0']at this;exact this
 have q2:rdS (qq l) 2=(l.headD v0).2.2:=by have:=kS l h0';rw[A37.at0 l h0']at this;exact this
 have q3:isL (qq l) 0 [.i .i64,.i .i64,.s]=true:=kt l h0'
 unfold T
 simp only[g,h0,q0,q1,q2,q3,vx,zh,qZ,zn,Nat.beq_refl,decide_true,Bool.and_self,GT.eval,cond_true,List.all_cons,List.all_nil]
 rfl
def spec:Spec:=fun aa=>match aa with
 |[.v (.string s),.sl n 3 cs]=>some (.qI (wo n (Int.ofNat n) cs&&Nat.blt 0 n) (.out (vv (Ref.wF s (qj cs)))))
 |[.v (.string _),.nil]=>some .no
 |_=>none
theorem qf:qu Tryz.prog La 42 spec:=⟨qE (by kernel_rfl),fun aa t v h e=>by
 unfold spec at h
 split at h
 ·rename_i s n cs
  cases h
  obtain⟨g1,g2⟩:=GT.qh e
  cases g2
  simp only[Bool.and_eq_true]at g1
  obtain⟨_,hn,h4,h5⟩:=kB g1.1
  have h0:=g1.2
  generalize qj cs=l at h4 h5
  subst h4 h5
  exact⟨rfl,qR qx qg qd (by simpa using A95.qf) (by simpa using A42L0.qG) (by decide) (by simp) rfl ((run _ _ _).trans (qL _ _ hn h0))⟩
 ·cases h;cases e
 ·cases h⟩
end A42
namespace A43
def T (s0:ByteArray) (k1 n1:Int) (s1:ByteArray):GT Value:=let x1:=IntKind.wrap .i64 (Int.tdiv n1 10000);let x2:=Int.tmod n1 10000;let x3:=IntKind.wrap .i64 (x1+1);let x4:=IntKind.wrap .i64 (x1 - 1);let x5:=IntKind.wrap .i64 (0 - n1);let o1:GT Value:=(.out (.tuple #[.agg #[.int .i64 2,.int .i64 x4,.string ⟨#[]⟩],.int .i64 0]));let o2:GT Value:=(.out (.tuple #[.agg #[.int .i64 2,.int .i64 x1,.string ⟨#[]⟩],.int .i64 0]));let o3:GT Value:=(.out (.tuple #[.agg #[.int .i64 2,.int .i64 x3,.string ⟨#[]⟩],.int .i64 0]));(.br (eqU s0.data.toList [97,98,115]) (.br (n1==(-9223372036854775808)) (.out (.tuple #[.agg #[.int .i64 0,.int .i64 0,.string ⟨#[]⟩],.int .i64 20])) (.out (.tuple #[.agg #[.int .i64 k1,.int .i64 (if x5>n1 then x5 else n1),.string ⟨#[]⟩],.int .i64 0]))) (.br (eqU s0.data.toList [115,105,103,110]) (.br (decide (n1<0)) (.out (.tuple #[.agg #[.int .i64 2,.int .i64 (-1),.string ⟨#[]⟩],.int .i64 0])) (.br (decide (n1>0)) (.out (.tuple #[.agg #[.int .i64 2,.int .i64 1,.string ⟨#[]⟩],.int .i64 0])) (.out (.tuple #[.agg #[.int .i64 2,.int .i64 0,.string ⟨#[]⟩],.int .i64 0])))) (.br (eqU s0.data.toList [116,111,100,101,99]) (.out (.tuple #[.agg #[.int .i64 (Ref.zQ k1 n1).1.1,.int .i64 (Ref.zQ k1 n1).1.2.1,.string (Ref.zQ k1 n1).1.2.2],.int .i64 (Ref.zQ k1 n1).2])) (.br (k1==2) (.out (.tuple #[.agg #[.int .i64 k1,.int .i64 n1,.string s1],.int .i64 0])) (.br (eqU s0.data.toList [102,108,111,111,114]) (.br (decide (x2<0)) o1 o2) (.br (eqU s0.data.toList [99,101,105,108]) (.br (decide (x2>0)) o3 o2) (.br (eqU s0.data.toList [114,111,117,110,100]) (.br (decide (x2≥5000)) (.br (decide (x2≤(-5000))) (.out (.tuple #[.agg #[.int .i64 2,.int .i64 (IntKind.wrap .i64 (x3 - 1)),.string ⟨#[]⟩],.int .i64 0])) o3) (.br (decide (x2≤(-5000))) o1 o2)) o2)))))))
theorem run (s0:ByteArray) (k1 n1:Int) (s1:ByteArray):runK 4 [(97,A97.spec)] [] 43 [.v (.string s0),.v (.agg #[.int .i64 k1,.int .i64 n1,.string s1])]=(T s0 k1 n1 s1).eval:=by kernel_rfl
theorem qL (s:ByteArray) (v:W3):(T s v.1 v.2.1 v.2.2).eval=some (ve (Ref.kC s v)):=by
 unfold Ref.kC Ref.kh T
 dsimp only[]
 simp only[GT.eval]
 cases n0:eqU s.data.toList [97,98,115]
 rotate_left
 ·cases v.2.1== -9223372036854775808<;>rfl
 simp only[cond_false]
 cases n1:eqU s.data.toList [115,105,103,110]
 rotate_left
 ·unfold Fit.Kq
  cases decide (v.2.1<0)<;>cases decide (v.2.1>0)<;>rfl
 simp only[cond_false]
 cases n2:eqU s.data.toList [116,111,100,101,99]
 rotate_left
 ·rfl
 simp only[cond_false]
 cases v.1==2
 rotate_left
 ·rfl
 simp only[cond_false]
 cases n3:eqU s.data.toList [102,108,111,111,114]
 rotate_left
 ·cases decide (Int.tmod v.2.1 10000<0)<;>rfl
 simp only[cond_false]
 cases n4:eqU s.data.toList [99,101,105,108]
 rotate_left
 ·cases decide (Int.tmod v.2.1 10000>0)<;>rfl
 simp only[cond_false]
 cases n5:eqU s.data.toList [114,111,117,110,100]
 rotate_left
 ·cases decide (Int.tmod v.2.1 10000≥5000)<;>cases decide (Int.tmod v.2.1 10000≤ -5000)<;>rfl
 rfl
def spec:Spec:=fun aa=>match aa with
 |[.v (.string s),a]=>(vOf a).bind fun x=>some (.out (ve (Ref.kC s x)))
 |_=>none
theorem qf:qu Tryz.prog La 43 spec:=⟨qE (by kernel_rfl),fun aa t v h e=>by
 unfold spec at h
 split at h
 ·rename_i s a
  obtain⟨x,h1,h⟩:=qi h
  cases h;cases e
  rw[qN h1]
  exact⟨rfl,qR (l:=[(97,A97.spec)]) (L:=[]) (n0:=4) (k:=12) qx qg qd (by simpa using A97.qf) (by simp) (by decide) (by simp) rfl ((run _ _ _ _).trans (qL _ _))⟩
 ·cases h⟩
end A43
namespace A46L0
noncomputable def cfg:Cfg:=zz Tryz.prog 4 (gpT []) (ltT 4 [])
def box:List Value:=[.int .i64 0,.int .i64 0,.string ⟨#[]⟩]
def stN (n:Nat) (e i:Int):KX:=⟨[(1,.slice (some ⟨1,0,none⟩) n 3),(4,.pointer (some ⟨5,0,none⟩)),(5,.int .i64 e),(7,.slice none 0 0),(8,.int .i64 i)],[box]⟩
def stR (n:Nat) (e i:Int) (k:Nat) (row:List Value):KX:=⟨[(1,.slice (some ⟨1,0,none⟩) n 3),(4,.pointer (some ⟨5,0,none⟩)),(5,.int .i64 e),(7,.slice (some ⟨6,0,none⟩) k 1),(8,.int .i64 i)],[box,row]⟩
def qV:KX:=⟨[(4,.pointer (some ⟨5,0,none⟩)),(5,.int .i64 20)],[box]⟩
def exN (e:Int):KX:=⟨[(4,.pointer (some ⟨5,0,none⟩)),(5,.int .i64 e),(7,.slice none 0 0)],[box]⟩
def exR (e:Int) (k:Nat) (row:List Value):KX:=⟨[(4,.pointer (some ⟨5,0,none⟩)),(5,.int .i64 e),(7,.slice (some ⟨6,0,none⟩) k 1)],[box,row]⟩
def kp:Ex→List Nat
 | .normal=>[1,4,5,7,8]
 | .exit _=>[4,5,7]
 | .ret=>[4,5]
def cr:Ex→St→List (Nat×Bool):=fun ex s=>match ex,s.T.get 7 with
 | .ret,_=>[(5,true)]
 |_,some (.slice (some p) _ _)=>[(5,true),(p.block,true)]
 |_,_=>[(5,true)]
theorem vu (n:Nat) (e i:Int) (cs:List Value):zW cfg [] [] 46 0 (stK 131 5 [(1,cs)] (stN n e i)) (zD 5 100 131 kp cr)=(let x1:=rdS cs ((0+(i.toNat*3))+2);let x2:=0+(x1.data.toList).length;let x3:=IntKind.wrap .i64 (i+1);(bif decide (i<(Int.ofNat n))then(bif decide (0≤i)then(bif Nat.blt i.toNat n then(bif isV cs ((0+(i.toNat*3))+2) .s then(bif Nat.beq (x1.data.toList).length 0 then(some (.normal,stN n e x3))else(bif Nat.ble x2 140737488355328 then(bif Nat.ble (x2*1) 140737488355328 then(bif((x1.data.toList).map fun b=>Value.int IntKind.u8 ↑b.toNat).all wb then(bif decide ((Int.ofNat (x1.data.toList).length)>1024)then(some (.ret,qV))else(bif((x1.data.toList).map fun b=>Value.int IntKind.u8 ↑b.toNat).all qo&&true then(some (.normal,⟨[(1,.slice (some ⟨1,0,none⟩) n 3),(4,.pointer (some ⟨5,0,none⟩)),(5,.int .i64 e),(7,.slice (some ⟨6,0,none⟩) (x1.data.toList).length 1),(8,.int .i64 x3)],[[.int .i64 0,.int .i64 0,.string ⟨#[]⟩],((x1.data.toList).map fun b=>Value.int IntKind.u8 ↑b.toNat)]⟩))else none))else none)else none)else none))else none)else none)else none)else(some (.exit 1,exN e)))):=by kernel_rfl
theorem kh (n:Nat) (e i:Int) (k:Nat) (row:List Value) (cs:List Value):zW cfg [] [] 46 0 (stK 131 5 [(1,cs)] (stR n e i k row)) (zD 5 100 131 kp cr)=(let x1:=rdS cs ((0+(i.toNat*3))+2);let x2:=IntKind.wrap .i64 (i+1);(bif decide (i<(Int.ofNat n))then(bif decide (0≤i)then(bif Nat.blt i.toNat n then(bif isV cs ((0+(i.toNat*3))+2) .s then(bif Nat.beq (x1.data.toList).length 0 then(bif decide ((Int.ofNat k)>1024)then(some (.ret,qV))else(bif row.all qo&&true then(some (.normal,stR n e x2 k row))else none))else(bif Nat.ble (k+(x1.data.toList).length) 140737488355328 then(bif Nat.ble ((k+(x1.data.toList).length)*1) 140737488355328 then(bif((x1.data.toList).map fun b=>Value.int IntKind.u8 ↑b.toNat).all wb then(bif Nat.ble (0+(k*1)) row.length then(bif decide ((Int.ofNat (k+(x1.data.toList).length))>1024)then(some (.ret,qV))else(bif(((row.drop 0).take (k*1))++((x1.data.toList).map fun b=>Value.int IntKind.u8 ↑b.toNat)).all qo&&true then(some (.normal,stR n e x2 (k+(x1.data.toList).length) (((row.drop 0).take (k*1))++((x1.data.toList).map fun b=>Value.int IntKind.u8 ↑b.toNat))))else none))else none)else none)else none)else none))else none)else none)else none)else(bif row.all qo&&true then(some (.exit 1,exR e k row))else none))):=by kernel_rfl
def _root_.Go.Proofs.YtaiokpmmjbiajaaGreatDoorDx.Ref.WW (l:List W3):Bool:=(Ref.Zs [] l).isNone
def _root_.Go.Proofs.YtaiokpmmjbiajaaGreatDoorDx.Ref.jK (l:List W3):List UInt8:=(Ref.Zs [] l).getD []
def bv (l:List UInt8):List Value:=l.map fun b=>Value.int IntKind.u8 ↑b.toNat
theorem Z8 (l:List UInt8):(bv l).all qo=true:=by
 rw[List.all_eq_true]
 intro x hx
 obtain⟨y,_,rfl⟩:=List.mem_map.1 hx
 rfl
theorem ma (l:List UInt8):(bv l).all wb=true:=by
 rw[List.all_eq_true]
 intro x hx
 obtain⟨y,_,rfl⟩:=List.mem_map.1 hx
 rfl
theorem Jc (l:List UInt8):(bv l).length=l.length:=List.length_map _
theorem oC (l:List UInt8):(bv l).all dO=true:=by
 rw[List.all_eq_true]
 intro x hx
 obtain⟨y,_,rfl⟩:=List.mem_map.1 hx
 rfl
theorem nf (l:List UInt8):u8L (bv l)=⟨l.toArray⟩:=by
 unfold u8L bv
 rw[List.map_map]
 have:(Yg ∘ fun b:UInt8=>Value.int IntKind.u8 (b.toNat:Int))=id:=by
  funext b
  show UInt8.ofNat ((b.toNat:Int)).toNat=b
  simp
 rw[this,List.map_id]
def st (n:Nat) (acc:List UInt8) (j:Nat):KX:=bif Nat.beq acc.length 0 then stN n 0 j else stR n 0 j acc.length (bv acc)
def fin (acc:List UInt8):KX:=bif Nat.beq acc.length 0 then exN 0 else exR 0 acc.length (bv acc)
def res:Option (List UInt8)→Ex×KX
 |none=>(.ret,qV)
 |some acc=>(.exit 1,fin acc)
theorem chain {Step:KX→Ex→KX→Prop} (l:List W3) (hn:l.length<4398046511104) (hs: ∀v∈l,v.2.2.data.toList.length≤1000000)
  (hN: ∀(i:Int) ex y,zW cfg [] [] 46 0 (stK 131 5 [(1,qq l)] (stN l.length 0 i)) (zD 5 100 131 kp cr)=some (ex,y)→Step (stN l.length 0 i) ex y)
  (hR: ∀(i:Int) (k:Nat) (row:List Value) ex y,zW cfg [] [] 46 0 (stK 131 5 [(1,qq l)] (stR l.length 0 i k row)) (zD 5 100 131 kp cr)=some (ex,y)→Step (stR l.length 0 i k row) ex y):
  ∀(k j:Nat) (acc:List UInt8),j+k=l.length→acc.length≤1024→zF Step (st l.length acc j) (res (Ref.Zs acc (l.drop j))).1 (res (Ref.Zs acc (l.drop j))).2:=by
 intro k
 induction k with
 |zero=>
  intro j acc h ha
  obtain rfl:j=l.length:=by omega
  have h1:=xZ l.length
  rw[List.drop_length]
  show zF Step _ (.exit 1) (fin acc)
  unfold st fin
  cases hb:Nat.beq acc.length 0
  ·exact .stop (by simp) (hR _ _ _ _ _ (by rw[kh];dsimp only[];simp only[h1,Z8,Bool.and_true];rfl))
  ·exact .stop (by simp) (hN _ _ _ (by rw[vu];dsimp only[];simp only[h1];rfl))
 |succ k ih=>
  intro j acc h ha
  have hj:j<l.length:=by omega
  have h1:=ltI hj
  have h2:=geI j
  have h3:=xE hj
  have h4:(0+((j:Int)).toNat*3)=j*3:=by simp
  have h5:=wrI j (by omega)
  have h6:rdS (qq l) (j*3+2)=l[j].2.2:=kS l hj
  have h7:isV (qq l) (j*3+2) .s=true:=by unfold isV;rw[vo 2 (by omega) l hj];rfl
  have hsz:=hs l[j] (List.getElem_mem hj)
  rw[List.drop_eq_getElem_cons hj,Ref.Zs]
  generalize l[j].2.2=t at h6 hsz ⊢
  have oe: ∀y:List UInt8,(y.map fun b=>Value.int IntKind.u8 ↑b.toNat).all wb=true:=ma
  have se: ∀y:List UInt8,(y.map fun b=>Value.int IntKind.u8 ↑b.toNat).all qo=true:=Z8
  have hgt: ∀m:Nat,decide ((Int.ofNat m)>1024)=decide (m>1024):=fun m=>by
   by_cases h:m>1024
   ·rw[decide_eq_true h,decide_eq_true (by show (m:Int)>1024;omega)]
   ·rw[decide_eq_false h,decide_eq_false (by show¬(m:Int)>1024;omega)]
  have hL:(acc++t.data.toList).length=acc.length+t.data.toList.length:=List.length_append
  cases ha0:acc with
  |nil=>
   subst ha0
   have e1:st l.length ([]:List UInt8) j=stN l.length 0 j:=rfl
   rw[e1,List.nil_append]
   have hr:=vu l.length 0 (j:Int) (qq l)
   dsimp only[]at hr
   simp only[h1,h2,h3,h4,h5,h6,h7,cond_true,oe,se,hgt,Bool.and_true]at hr
   cases hx:t.data.toList with
   |nil=>
    rw[hx]at hr
    rw[if_neg (by simp)]
    exact .next (hN _ _ _ hr) (ih (j+1) [] (by omega) (by simp))
   |cons b r=>
    rw[←hx]
    have q0:Nat.beq t.data.toList.length 0=false:=by rw[hx];rfl
    have q1:Nat.ble (0+t.data.toList.length) 140737488355328=true:=by rw[Nat.ble_eq];omega
    have q2:Nat.ble ((0+t.data.toList.length)*1) 140737488355328=true:=by rw[Nat.ble_eq];omega
    simp only[q0,q1,q2,cond_true,cond_false]at hr
    by_cases hg:t.data.toList.length>1024
    ·rw [if_pos hg]
     rw[decide_eq_true hg]at hr
     exact .stop (by simp[res]) (hN _ _ _ hr)
    ·rw [if_neg hg]
     rw[decide_eq_false hg]at hr
     have e2:st l.length t.data.toList (j+1)=stR l.length 0 ((j+1:Nat):Int) t.data.toList.length (bv t.data.toList):=by unfold st;rw[q0];rfl
     have hi:=ih (j+1) t.data.toList (by omega) (by omega)
     rw[e2]at hi
     exact .next (hN _ _ _ hr) hi
  |cons c a=>
   rw[←ha0]
   have q0:Nat.beq acc.length 0=false:=by rw[ha0];rfl
   have e1:st l.length acc j=stR l.length 0 j acc.length (bv acc):=by unfold st;rw[q0];rfl
   rw[e1]
   have hr:=kh l.length 0 (j:Int) acc.length (bv acc) (qq l)
   have w1:((bv acc).drop 0).take (acc.length*1)=bv acc:=by rw[List.drop_zero,Nat.mul_one,List.take_of_length_le (by rw[Jc];exact Nat.le_refl _)]
   dsimp only[]at hr
   have q3:Nat.ble (0+acc.length*1) (bv acc).length=true:=by rw[Nat.ble_eq,Jc];omega
   have sb:(bv acc++t.data.toList.map fun b=>Value.int IntKind.u8 ↑b.toNat).all qo=true:=by rw[List.all_append,Z8,se];rfl
   have eb:(bv acc++t.data.toList.map fun b=>Value.int IntKind.u8 ↑b.toNat)=bv (acc++t.data.toList):=by unfold bv;rw[List.map_append]
   simp only[h1,h2,h3,h4,h5,h6,h7,cond_true,oe,hgt,Bool.and_true,w1,q3,sb,Z8]at hr
   have q0':Nat.beq (acc++t.data.toList).length 0=false:=by rw[ha0];rfl
   have e2:st l.length (acc++t.data.toList) (j+1)=stR l.length 0 ((j+1:Nat):Int) (acc.length+t.data.toList.length) (bv (acc++t.data.toList)):=by unfold st;rw[q0',hL];rfl
   rw[hL]
   cases hb:Nat.beq t.data.toList.length 0 with
   |true=>
    have hx:t.data.toList=[]:=List.length_eq_zero_iff.1 (Nat.eq_of_beq_eq_true hb)
    have hxl:t.data.toList.length=0:=Nat.eq_of_beq_eq_true hb
    rw[hb]at hr
    simp only[cond_true]at hr
    rw[if_neg (by omega)]
    rw[decide_eq_false (by omega)]at hr
    have hi:=ih (j+1) (acc++t.data.toList) (by omega) (by omega)
    rw[e2]at hi
    rw[hxl]at hi
    rw[hx,List.append_nil]at hi ⊢
    exact .next (hR _ _ _ _ _ hr) hi
   |false=>
    have q1:Nat.ble (acc.length+t.data.toList.length) 140737488355328=true:=by rw[Nat.ble_eq];omega
    have q2:Nat.ble ((acc.length+t.data.toList.length)*1) 140737488355328=true:=by rw[Nat.ble_eq];omega
    rw[hb]at hr
    simp only[q1,q2,cond_true,cond_false,eb]at hr
    by_cases hg:acc.length+t.data.toList.length>1024
    ·rw [if_pos hg]
     rw[decide_eq_true hg]at hr
     exact .stop (by simp[res]) (hR _ _ _ _ _ hr)
    ·rw [if_neg hg]
     rw[decide_eq_false hg]at hr
     have hi:=ih (j+1) (acc++t.data.toList) (by omega) (by omega)
     rw[e2]at hi
     exact .next (hR _ _ _ _ _ hr) hi
def D:KD:=⟨131,5,100,[1,4,5,7,8],[1],fun _=>[(4,true)],fun x ro=>match x.vs,x.cars,ro with
 |[(1,.slice (some ⟨1,0,none⟩) n 3),(4,.pointer (some ⟨5,0,none⟩)),(5,.int .i64 0),(7,.slice none 0 0),(8,.int .i64 0)],[[.int .i64 0,.int .i64 0,.string z]],[(1,cs)]=>
  .qI (Nat.beq z.data.toList.length 0) (.qI (wo n (Int.ofNat n) cs&&(qj cs).all A37L0.jk) (.br (Ref.WW (qj cs)) (.out (.ret,qV)) (.br (Nat.beq (Ref.jK (qj cs)).length 0) (.out (.exit 1,exN 0)) (.out (.exit 1,exR 0 (Ref.jK (qj cs)).length (bv (Ref.jK (qj cs))))))))
 |_,_,_=> .no⟩
def lp:LpK:=⟨46,6,0,D⟩
theorem qG:zw Tryz.prog La 4 lp:=by
 refine⟨by kernel_rfl,fun c base I hP hn hG hI hIL x ro ex y e=> ?_⟩
 obtain⟨vs,cars⟩:=x
 simp only[lp,D]at e ⊢
 split at e
 ·rename_i n z cs
  obtain⟨g0,e⟩:=GT.qh e
  obtain⟨g1,g2⟩:=GT.qh e
  have hz:z=⟨#[]⟩:=ByteArray.ext (Array.toList_inj.1 (List.length_eq_zero_iff.1 (Nat.eq_of_beq_eq_true g0)))
  subst hz
  simp only[Bool.and_eq_true]at g1
  obtain⟨_,hn2,h4,h5⟩:=kB g1.1
  have hsh:=g1.2
  generalize qj cs=l at h4 h5 g2 hsh
  subst h4 h5
  have hsp: ∀p∈([]:List (FuncId×Spec)),qu Tryz.prog La p.1 p.2:=by simp
  have key:=chain (Step:= @zA (zV base) c base I (qW Tryz.prog 46 0) 131 5 100 [(1,qq l)]) l hn2 (fun v hv=>by
   have:=List.all_eq_true.1 hsh v hv
   unfold A37L0.jk at this
   rw[Nat.ble_eq]at this
   omega) (fun i ex y h=>stepT qg qd hsp (by simp) hP hn hG hI hIL h) (fun i k row ex y h=>stepT qg qd hsp (by simp) hP hn hG hI hIL h) l.length 0 [] (by omega) (by simp)
  rw[List.drop_zero]at key
  have e0:st l.length [] 0=stN l.length 0 (0:Int):=rfl
  rw[e0]at key
  unfold Ref.WW Ref.jK at g2
  cases hc:Ref.Zs [] l with
  |none=>rw[hc]at g2 key;cases g2;exact key
  |some out=>
   rw[hc]at g2 key
   rw[GT.eval]at g2
   simp only[Option.isNone,Option.getD_some,cond_false]at g2
   dsimp only[res,fin]at key
   cases hb:Nat.beq out.length 0 with
   |true=>rw[GT.eval,hb]at g2;cases g2;rw[hb]at key;exact key
   |false=>rw[GT.eval,hb]at g2;cases g2;rw[hb]at key;exact key
 ·cases e
end A46L0
namespace A46L1
noncomputable def cfg:Cfg:=zz Tryz.prog 4 (gpT []) (ltT 4 [])
def stA (s:ByteArray):KX:=⟨[(4,.pointer (some ⟨5,0,none⟩)),(5,.int .i64 0),(6,.string s)],[[.int .i64 0,.int .i64 0,.string ⟨#[]⟩]]⟩
def kp:Ex→List Nat
 | .normal=>[4,5,6]
 | .exit _=>[4,5,6]
 |_=>[]
def cr:Ex→St→List (Nat×Bool):=fun _ _=>[(5,true)]
theorem round (s:ByteArray):zW cfg [] [] 46 1 (stK 131 5 [] (stA s)) (zD 5 100 131 kp cr)=(bif(!eqU s.data.toList [])then(bif Nat.blt 0 (s.data.toList).length then(bif((Int.ofNat ((s.data.toList).getD 0 0).toNat)==32)then(bif(true&&Nat.ble 1 (s.data.toList).length)then(some (.normal,stA ⟨(((s.data.toList).take (s.data.toList).length).drop 1).toArray⟩))else none)else(some (.exit 3,stA s)))else none)else(some (.exit 3,stA s))):=by kernel_rfl
theorem pB (b:UInt8):(Int.ofNat b.toNat==32)=(b==32):=by
 cases h:b==32
 ·have : b ≠ 32 := fun e => by rw [e] at h; cases h
  exact beq_eq_false_iff_ne.2 fun e=>this (UInt8.toNat_inj.1 (Int.ofNat.inj e))
 ·rw[eq_of_beq h];rfl
theorem back (s:ByteArray) {l:List UInt8} (h:s.data.toList=l):s=⟨l.toArray⟩:=by subst h;rfl
theorem chain {Step:KX→Ex→KX→Prop} (hA: ∀(s:ByteArray) ex y,zW cfg [] [] 46 1 (stK 131 5 [] (stA s)) (zD 5 100 131 kp cr)=some (ex,y)→Step (stA s) ex y):
  ∀(l:List UInt8),zF Step (stA ⟨l.toArray⟩) (.exit 3) (stA ⟨(Lib.trimLeftB l 32).toArray⟩)
 |[]=> .stop (by simp) (hA _ _ _ (by rw[round];rfl))
 |b::l=>by
  have hr:=round ⟨(b::l).toArray⟩
  have q0:(!eqU (b::l) [])=true:=rfl
  have q1:Nat.blt 0 (b::l).length=true:=rfl
  have q2:(true&&Nat.ble 1 (b::l).length)=true:=rfl
  have q3:(b::l).getD 0 0=b:=rfl
  simp only[q0,q1,q2,q3,pB,cond_true,List.take_length,List.drop_succ_cons,List.drop_zero]at hr
  unfold Lib.trimLeftB
  rw[List.dropWhile_cons]
  cases hb:b==32
  ·rw [hb] at hr
   exact .stop (by simp) (hA _ _ _ hr)
  ·rw [hb] at hr
   exact .next (hA _ _ _ hr) (chain hA l)
def D:KD:=⟨131,5,100,[4,5,6],[],fun _=>[(4,true)],fun x ro=>match x.vs,x.cars,ro with
 |[(4,.pointer (some ⟨5,0,none⟩)),(5,.int .i64 0),(6,.string s)],[[.int .i64 0,.int .i64 0,.string z]],[]=>
  .qI (Nat.beq z.data.toList.length 0) (.out (.exit 3,stA ⟨(Lib.trimLeftB s.data.toList 32).toArray⟩))
 |_,_,_=> .no⟩
def lp:LpK:=⟨46,19,1,D⟩
theorem qG:zw Tryz.prog La 4 lp:=by
 refine⟨by kernel_rfl,fun c base I hP hn hG hI hIL x ro ex y e=> ?_⟩
 obtain⟨vs,cars⟩:=x
 simp only[lp,D]at e ⊢
 split at e
 ·rename_i s z
  obtain⟨g0,e⟩:=GT.qh e
  have hz:z=⟨#[]⟩:=back z (List.length_eq_zero_iff.1 (Nat.eq_of_beq_eq_true g0))
  subst hz
  have hsp: ∀p∈([]:List (FuncId×Spec)),qu Tryz.prog La p.1 p.2:=by simp
  have key:=chain (Step:= @zA (zV base) c base I (qW Tryz.prog 46 1) 131 5 100 []) (fun s ex y h=>stepT qg qd hsp (by simp) hP hn hG hI hIL h) s.data.toList
  cases e
  exact key
 ·cases e
end A46L1
namespace A46L2
noncomputable def cfg:Cfg:=zz Tryz.prog 4 (gpT []) (ltT 4 [])
def stA (s:ByteArray):KX:=⟨[(4,.pointer (some ⟨105,0,none⟩)),(5,.int .i64 0),(6,.string s)],[[.int .i64 0,.int .i64 0,.string ⟨#[]⟩]]⟩
def kp:Ex→List Nat
 | .normal=>[4,5,6]
 | .exit _=>[4,5,6]
 |_=>[]
def cr:Ex→St→List (Nat×Bool):=fun _ _=>[(105,true)]
theorem round (s:ByteArray):zW cfg [] [] 46 2 (stK 131 105 [] (stA s)) (zD 105 100 131 kp cr)=(let x1:=IntKind.wrap .i64 ((Int.ofNat (s.data.toList).length) - 1);(bif(!eqU s.data.toList [])then(bif decide (0≤x1)then(bif Nat.blt x1.toNat (s.data.toList).length then(bif((Int.ofNat ((s.data.toList).getD x1.toNat 0).toNat)==32)then(bif(decide (0≤x1)&&Nat.ble x1.toNat (s.data.toList).length)then(some (.normal,stA ⟨(((s.data.toList).take x1.toNat).drop 0).toArray⟩))else none)else(some (.exit 5,stA s)))else none)else none)else(some (.exit 5,stA s)))):=by kernel_rfl
theorem chain {Step:KX→Ex→KX→Prop} (hA: ∀(s:ByteArray) ex y,zW cfg [] [] 46 2 (stK 131 105 [] (stA s)) (zD 105 100 131 kp cr)=some (ex,y)→Step (stA s) ex y):
  ∀(l:List UInt8),l.length<1000000→zF Step (stA ⟨l.reverse.toArray⟩) (.exit 5) (stA ⟨(l.dropWhile (· ==32)).reverse.toArray⟩)
 |[],_=> .stop (by simp) (hA _ _ _ (by rw[round];rfl))
 |b::l,hl=>by
  have hr:=round ⟨(l.reverse++[b]).toArray⟩
  have q:(l.reverse++[b]).length=l.length+1:=by simp
  rw[List.length_cons]at hl
  have qw:IntKind.wrap .i64 ((Int.ofNat (l.length+1)) - 1)=(l.length:Int):=by
   rw[show (Int.ofNat (l.length+1)) - 1=(l.length:Int)by show ((l.length+1:Nat):Int) - 1=_;omega]
   exact zZ (by omega) (by omega)
  have q0:(!eqU (l.reverse++[b]) [])=true:=by
   cases h:l.reverse++[b]with
   |nil=>rw[h]at q;cases q
   |cons _ _=>rfl
  have q1:Nat.blt ((l.length:Int)).toNat (l.length+1)=true:=by rw[Nat.blt_eq,Int.toNat_natCast];omega
  have q2:decide ((0:Int)≤(l.length:Int))=true:=decide_eq_true (by omega)
  have q4:Nat.ble ((l.length:Int)).toNat (l.length+1)=true:=by rw[Nat.ble_eq,Int.toNat_natCast];omega
  have q3:(l.reverse++[b]).getD ((l.length:Int)).toNat 0=b:=by
   rw[Int.toNat_natCast,List.getD_eq_getElem?_getD,List.getElem?_append_right (by simp)]
   simp
  have q5:(l.reverse++[b]).take ((l.length:Int)).toNat=l.reverse:=by
   rw[Int.toNat_natCast,List.take_append_of_le_length (by simp),List.take_of_length_le (by simp)]
  dsimp only[]at hr
  simp only[q,qw,q0,q1,q2,q3,q4,q5,A46L1.pB,cond_true,Bool.and_self,List.drop_zero]at hr
  rw[List.dropWhile_cons,List.reverse_cons]
  cases hb:b==32
  ·rw [hb] at hr
   simp only[Bool.false_eq_true,if_false,List.reverse_cons]
   exact .stop (by simp) (hA _ _ _ hr)
  ·rw [hb] at hr
   exact .next (hA _ _ _ hr) (chain hA l (by omega))
def D:KD:=⟨131,105,100,[4,5,6],[],fun _=>[(5,true)],fun x ro=>match x.vs,x.cars,ro with
 |[(4,.pointer (some ⟨105,0,none⟩)),(5,.int .i64 0),(6,.string s)],[[.int .i64 0,.int .i64 0,.string z]],[]=>
  .qI (Nat.beq z.data.toList.length 0) (.qI (Nat.blt s.data.toList.length 1000000) (.out (.exit 5,stA ⟨(Lib.trimRightB s.data.toList 32).toArray⟩)))
 |_,_,_=> .no⟩
def lp:LpK:=⟨46,21,2,D⟩
theorem qG:zw Tryz.prog La 4 lp:=by
 refine⟨by kernel_rfl,fun c base I hP hn hG hI hIL x ro ex y e=> ?_⟩
 obtain⟨vs,cars⟩:=x
 simp only[lp,D]at e ⊢
 split at e
 ·rename_i s z
  obtain⟨g0,e1⟩:=GT.qh e
  obtain⟨g1,e2⟩:=GT.qh e1
  have hz:z=⟨#[]⟩:=A46L1.back z (List.length_eq_zero_iff.1 (Nat.eq_of_beq_eq_true g0))
  subst hz
  rw[Nat.blt_eq]at g1
  have hsp: ∀p∈([]:List (FuncId×Spec)),qu Tryz.prog La p.1 p.2:=by simp
  have key:=chain (Step:= @zA (zV base) c base I (qW Tryz.prog 46 2) 131 105 100 []) (fun s ex y h=>stepT qg qd hsp (by simp) hP hn hG hI hIL h) s.data.toList.reverse (by rw[List.length_reverse];exact g1)
  rw[List.reverse_reverse]at key
  cases e2
  exact key
 ·cases e
end A46L2
namespace A102L1
noncomputable def cfg:Cfg:=zz Tryz.prog 4 (gpT []) (ltT 4 [])
def stA (s:ByteArray) (i:Int):KX:=⟨[(0,.string s),(3,.slice none 0 0),(4,.int .i64 i)],[]⟩
def kp:Ex→List Nat
 | .normal=>[0,3,4]
 | .exit _=>[0,3,4]
 |_=>[]
def cr:Ex→St→List (Nat×Bool):=fun _ s=>[]
theorem round (s:ByteArray) (i:Int):zW cfg [] [] 102 1 (stK 35 5 [] (stA s i)) (zD 5 100 35 kp cr)=(let o1:Option (Ex×KX):=(some (.exit 2,⟨[(0,.string s),(3,.slice none 0 0),(4,.int .i64 i)],[]⟩));(bif decide (i<(Int.ofNat (s.data.toList).length))then(bif decide (0≤i)then(bif Nat.blt i.toNat (s.data.toList).length then(bif decide ((Int.ofNat ((s.data.toList).getD i.toNat 0).toNat)≥128)then(bif decide (0≤i)then(bif Nat.blt i.toNat (s.data.toList).length then(bif decide ((Int.ofNat ((s.data.toList).getD i.toNat 0).toNat)<192)then(some (.normal,⟨[(0,.string s),(3,.slice none 0 0),(4,.int .i64 (IntKind.wrap .i64 (i+1)))],[]⟩))else o1)else none)else none)else o1)else none)else none)else o1)):=by kernel_rfl
theorem chain (s:ByteArray) (st:Int→KX) (hs:s.data.toList.length<4611686018427387904) {Step:KX→Ex→KX→Prop} (h: ∀(i:Int) ex y,(bif decide (i<(Int.ofNat ((s).data.toList).length))then(bif decide (0≤i)then(bif Nat.blt (i).toNat ((s).data.toList).length then(bif decide ((Int.ofNat ((((s).data.toList).getD (i).toNat 0)).toNat)≥128)then(bif decide (0≤i)then(bif Nat.blt (i).toNat ((s).data.toList).length then(bif decide ((Int.ofNat ((((s).data.toList).getD (i).toNat 0)).toNat)<192)then(some (Ex.normal,st (IntKind.wrap .i64 (i+1))))else(some (.exit 2,st i)))else none)else none)else(some (.exit 2,st i)))else none)else none)else(some (.exit 2,st i)))=some (ex,y)→Step (st i) ex y):
  ∀(r:List UInt8) (i:Nat),s.data.toList.drop i=r→i≤s.data.toList.length→zF Step (st i) (.exit 2) (st ((i+(r.takeWhile Ref.kg).length:Nat):Int))
 |[],i,hr,hi=>by
  have hle:s.data.toList.length≤i:=List.drop_eq_nil_iff.1 hr
  have h1:decide ((i:Int)<Int.ofNat s.data.toList.length)=false:=decide_eq_false (by show¬(i:Int)<(s.data.toList.length:Int);omega)
  exact .stop (by simp) (h i _ _ (by rw[h1];rfl))
 |b::r,i,hr,hi=>by
  have hlt:i<s.data.toList.length:=by
   rcases Nat.lt_or_ge i s.data.toList.length with h|h
   ·exact h
   ·rw[List.drop_eq_nil_iff.2 h]at hr;cases hr
  have hd:=List.drop_eq_getElem_cons hlt
  rw[hr]at hd
  obtain⟨hb,hr2⟩:=List.cons.inj hd
  have h1:decide ((i:Int)<Int.ofNat s.data.toList.length)=true:=decide_eq_true (by show (i:Int)<(s.data.toList.length:Int);omega)
  have h2:=geI i
  have h3:Nat.blt ((i:Int)).toNat s.data.toList.length=true:=by rw[Nat.blt_eq];simpa using hlt
  have h4:s.data.toList.getD ((i:Int)).toNat 0=b:=by rw[Int.toNat_natCast,List.getD_eq_getElem?_getD,List.getElem?_eq_getElem hlt,←hb];rfl
  have h5:=wrI i (by omega)
  have hh:=h i
  simp only[h1,h2,h3,h4,h5,cond_true]at hh
  rw[List.takeWhile_cons]
  by_cases c1:128≤b.toNat
  ·have e1 : decide (Int.ofNat b.toNat ≥ 128) = true := decide_eq_true (by show (b.toNat : Int) ≥ 128; omega)
   by_cases c2:b.toNat<192
   ·have e2 : decide (Int.ofNat b.toNat < 192) = true := decide_eq_true (by show (b.toNat : Int) < 192; omega)
    have hc:Ref.kg b=true:=by unfold Ref.kg;rw[decide_eq_true c1,decide_eq_true c2];rfl
    rw[hc,if_pos rfl,List.length_cons]
    have ih:=chain s st hs h r (i+1) hr2.symm (by omega)
    rw[show i+((r.takeWhile Ref.kg).length+1)=i+1+(r.takeWhile Ref.kg).length by omega]
    exact .next (hh _ _ (by rw[e1,e2];rfl)) ih
   ·have e2 : decide (Int.ofNat b.toNat < 192) = false := decide_eq_false (by show ¬ (b.toNat : Int) < 192; omega)
    have hc:Ref.kg b=false:=by unfold Ref.kg;rw[decide_eq_false c2];simp
    rw[hc,if_neg (by simp)]
    exact .stop (by simp) (hh _ _ (by rw[e1,e2];rfl))
  ·have e1 : decide (Int.ofNat b.toNat ≥ 128) = false := decide_eq_false (by show ¬ (b.toNat : Int) ≥ 128; omega)
   have hc:Ref.kg b=false:=by unfold Ref.kg;rw[decide_eq_false c1];rfl
   rw[hc,if_neg (by simp)]
   exact .stop (by simp) (hh _ _ (by rw[e1];rfl))
def len (s:ByteArray):Int:=Int.ofNat (1+((s.data.toList.drop 1).takeWhile Ref.kg).length)
def D:KD:=⟨35,5,100,[0,3,4],[],fun _=>[],fun x ro=>match x.vs,x.cars,ro with
 |[(0,.string s),(3,.slice none 0 0),(4,.int .i64 1)],[],[]=> .qI (Nat.blt 0 s.data.toList.length&&Nat.blt s.data.toList.length 4611686018427387904) (.out (.exit 2,stA s (len s)))
 |_,_,_=> .no⟩
def lp:LpK:=⟨102,4,1,D⟩
theorem qG:zw Tryz.prog La 4 lp:=by
 refine⟨by kernel_rfl,fun c base I hP hn hG hI hIL x ro ex y e=> ?_⟩
 obtain⟨vs,cars⟩:=x
 simp only[lp,D]at e ⊢
 split at e
 ·rename_i s
  obtain⟨g1,g2⟩:=GT.qh e
  simp only[Bool.and_eq_true,Nat.blt_eq]at g1
  cases g2
  exact chain s (fun i=>stA s i) g1.2 (Step:= @zA (zV base) c base I (qW Tryz.prog 102 1) 35 5 100 []) (fun i ex y hh=>stepT qg qd (by simp) (by simp) hP hn hG hI hIL ((round s i).trans hh)) _ 1 rfl (by omega)
 ·cases e
end A102L1
namespace A102L1b
noncomputable def cfg:Cfg:=zz Tryz.prog 4 (gpT []) (ltT 4 [])
def stA (s:ByteArray) (k:Nat) (i:Int):KX:=⟨[(0,.string s),(3,.slice (some ⟨5,0,none⟩) k 1),(4,.int .i64 i)],[]⟩
def kp:Ex→List Nat
 | .normal=>[0,3,4]
 | .exit _=>[0,3,4]
 |_=>[]
def cr:Ex→St→List (Nat×Bool):=fun _ s=>[]
theorem round (s:ByteArray) (k:Nat) (i:Int):zW cfg [] [] 102 1 (stK 35 6 [] (stA s k i)) (zD 6 100 35 kp cr)=(let o1:Option (Ex×KX):=(some (.exit 2,⟨[(0,.string s),(3,.slice (some ⟨5,0,none⟩) k 1),(4,.int .i64 i)],[]⟩));(bif decide (i<(Int.ofNat (s.data.toList).length))then(bif decide (0≤i)then(bif Nat.blt i.toNat (s.data.toList).length then(bif decide ((Int.ofNat ((s.data.toList).getD i.toNat 0).toNat)≥128)then(bif decide (0≤i)then(bif Nat.blt i.toNat (s.data.toList).length then(bif decide ((Int.ofNat ((s.data.toList).getD i.toNat 0).toNat)<192)then(some (.normal,⟨[(0,.string s),(3,.slice (some ⟨5,0,none⟩) k 1),(4,.int .i64 (IntKind.wrap .i64 (i+1)))],[]⟩))else o1)else none)else none)else o1)else none)else none)else o1)):=by kernel_rfl
def len (s:ByteArray):Int:=Int.ofNat (1+((s.data.toList.drop 1).takeWhile Ref.kg).length)
def D:KD:=⟨35,6,100,[0,3,4],[],fun _=>[],fun x ro=>match x.vs,x.cars,ro with
 |[(0,.string s),(3,.slice (some ⟨5,0,none⟩) k 1),(4,.int .i64 1)],[],[]=> .qI (Nat.blt 0 s.data.toList.length&&Nat.blt s.data.toList.length 4611686018427387904) (.out (.exit 2,stA s k (len s)))
 |_,_,_=> .no⟩
def lp:LpK:=⟨102,4,1,D⟩
theorem qG:zw Tryz.prog La 4 lp:=by
 refine⟨by kernel_rfl,fun c base I hP hn hG hI hIL x ro ex y e=> ?_⟩
 obtain⟨vs,cars⟩:=x
 simp only[lp,D]at e ⊢
 split at e
 ·rename_i s k
  obtain⟨g1,g2⟩:=GT.qh e
  simp only[Bool.and_eq_true,Nat.blt_eq]at g1
  cases g2
  exact A102L1.chain s (fun i=>stA s k i) g1.2 (Step:= @zA (zV base) c base I (qW Tryz.prog 102 1) 35 6 100 []) (fun i ex y hh=>stepT qg qd (by simp) (by simp) hP hn hG hI hIL ((round s k i).trans hh)) _ 1 rfl (by omega)
 ·cases e
end A102L1b
namespace A102L0
def L:List LpK:=[A102L1.lp,A102L1b.lp]
noncomputable def cfg:Cfg:=zz Tryz.prog 4 (gpT []) (ltT 4 [A102L1.lp,A102L1b.lp])
def stN (s:ByteArray):KX:=⟨[(0,.string s),(3,.slice none 0 0)],[]⟩
def stR (s:ByteArray) (k:Nat) (row:List Value):KX:=⟨[(0,.string s),(3,.slice (some ⟨5,0,none⟩) k 1)],[row]⟩
def exN:KX:=⟨[(3,.slice none 0 0)],[]⟩
def exR (k:Nat) (row:List Value):KX:=⟨[(3,.slice (some ⟨5,0,none⟩) k 1)],[row]⟩
def kp:Ex→List Nat
 | .normal=>[0,3]
 |_=>[3]
def cr:Ex→St→List (Nat×Bool):=fun _ s=>match s.T.get 3 with
 |some (.slice (some p) _ _)=>[(p.block,true)]
 |_=>[]
def rest (s:ByteArray):ByteArray:=⟨((s.data.toList.take s.data.toList.length).drop (A102L1.len s).toNat).toArray⟩
def head (s:ByteArray):ByteArray:=⟨((s.data.toList.take (A102L1.len s).toNat).drop 0).toArray⟩
theorem vu (s:ByteArray):wx cfg (gpT []) (vI cfg (gpT []) (ltT 4 [A102L1.lp,A102L1b.lp]) 12) (ltT 4 [A102L1.lp,A102L1b.lp] 102) false 1000 (qW Tryz.prog 102 0) (stK 35 5 [] (stN s)) (zD 5 300 35 kp cr)=
 (bif(!eqU (s).data.toList [])then(bif(Nat.blt 0 ((s).data.toList).length&&Nat.blt ((s).data.toList).length 4611686018427387904)then(bif(decide (0≤(A102L1.len s))&&Nat.ble ((A102L1.len s)).toNat ((s).data.toList).length)then(bif(decide (0≤(A102L1.len s))&&Nat.ble ((A102L1.len s)).toNat ((s).data.toList).length)then(some (.normal,stR (rest s) 1 [.string (head s)]))else none)else none)else none)else(some (.exit 0,exN))):=by kernel_rfl
theorem kh (s:ByteArray) (k:Nat) (row:List Value):wx cfg (gpT []) (vI cfg (gpT []) (ltT 4 [A102L1.lp,A102L1b.lp]) 12) (ltT 4 [A102L1.lp,A102L1b.lp] 102) false 1000 (qW Tryz.prog 102 0) (stK 35 5 [] (stR s k row)) (zD 5 300 35 kp cr)=
 (let r2:=((row.drop 0).take (k*1))++[.string (head s)];bif(!eqU (s).data.toList [])then(bif(Nat.blt 0 ((s).data.toList).length&&Nat.blt ((s).data.toList).length 4611686018427387904)then(bif(decide (0≤(A102L1.len s))&&Nat.ble ((A102L1.len s)).toNat ((s).data.toList).length)then(bif Nat.ble (k+1) 140737488355328 then(bif Nat.ble ((k+1)*16) 140737488355328 then(bif Nat.ble (0+(k*1)) (row).length then(bif(decide (0≤(A102L1.len s))&&Nat.ble ((A102L1.len s)).toNat ((s).data.toList).length)then(bif r2.all qo&&true then(some (.normal,stR (rest s) (k+1) r2))else none)else none)else none)else none)else none)else none)else none)else(bif row.all qo&&true then(some (.exit 0,exR k row))else none)):=by kernel_rfl
theorem aq (p:UInt8→Bool): ∀l:List UInt8,l.take (l.takeWhile p).length=l.takeWhile p∧l.drop (l.takeWhile p).length=l.dropWhile p
 |[]=>⟨rfl,rfl⟩
 |x::l=>by
  obtain⟨a,b⟩:=aq p l
  rw[List.takeWhile_cons,List.dropWhile_cons]
  cases p x
  ·exact⟨rfl,rfl⟩
  ·simp only [if_true, List.length_cons, List.take_succ_cons, List.drop_succ_cons, a, b]
   exact⟨trivial,trivial⟩
theorem VN (p:UInt8→Bool): ∀l:List UInt8,(l.dropWhile p).length≤l.length
 |[]=>Nat.le_refl _
 |x::l=>by
  rw[List.dropWhile_cons]
  have:=VN p l
  cases p x
  ·exact Nat.le_refl _
  ·simp only[if_true,List.length_cons];omega
theorem lg (p:UInt8→Bool): ∀l:List UInt8,(l.takeWhile p).length≤l.length
 |[]=>Nat.le_refl _
 |x::l=>by
  rw[List.takeWhile_cons]
  have:=lg p l
  cases p x
  ·simp
  ·simp only[if_true,List.length_cons];omega
theorem fuel: ∀(n m:Nat) (l:List UInt8),l.length≤n→l.length≤m→Ref.vJ n l=Ref.vJ m l
 |0,m,l,h1,h2=>by
  have:l=[]:=List.length_eq_zero_iff.1 (by omega)
  subst this
  cases m<;>rfl
 |n+1,0,l,h1,h2=>by
  have:l=[]:=List.length_eq_zero_iff.1 (by omega)
  subst this;rfl
 |n+1,m+1,[],h1,h2=>rfl
 |n+1,m+1,b::l,h1,h2=>by
  rw[Ref.vJ,Ref.vJ]
  have:=VN Ref.kg l
  simp only[List.length_cons]at h1 h2
  rw[fuel n m _ (by omega) (by omega)]
theorem Xk (b:UInt8) (l:List UInt8):Ref.pieces (b::l)=(b::l.takeWhile Ref.kg)::Ref.pieces (l.dropWhile Ref.kg):=by
 unfold Ref.pieces
 show Ref.vJ (l.length+1) (b::l)=_
 rw[Ref.vJ,fuel l.length (l.dropWhile Ref.kg).length _ (VN _ _) (Nat.le_refl _)]
def str (b:List UInt8):Value:= .string ⟨b.toArray⟩
def strs (l:List (List UInt8)):List Value:=l.map str
theorem yM (l:List (List UInt8)):(strs l).all qo=true:=by
 rw[List.all_eq_true]
 intro x hx
 obtain⟨y,_,rfl⟩:=List.mem_map.1 hx
 rfl
theorem KE (l:List (List UInt8)):(strs l).length=l.length:=List.length_map _
def st (acc:List (List UInt8)) (s:ByteArray):KX:=bif Nat.beq acc.length 0 then stN s else stR s acc.length (strs acc)
def fin (l:List (List UInt8)):KX:=bif Nat.beq l.length 0 then exN else exR l.length (strs l)
theorem parts {s:ByteArray} {b:UInt8} {l:List UInt8} (h:s.data.toList=b::l):(rest s).data.toList=l.dropWhile Ref.kg∧head s=⟨(b::l.takeWhile Ref.kg).toArray⟩∧(A102L1.len s).toNat≤s.data.toList.length∧0≤A102L1.len s:=by
 obtain⟨t1,t2⟩:=aq Ref.kg l
 have hl:(A102L1.len s).toNat=(l.takeWhile Ref.kg).length+1:=by
  unfold A102L1.len
  rw[h]
  show (1+(l.takeWhile Ref.kg).length)=_
  omega
 have:=lg Ref.kg l
 refine⟨?_,?_,by rw[hl,h,List.length_cons];omega,by unfold A102L1.len;exact Int.natCast_nonneg _⟩
 ·unfold rest
  rw[List.toList_toArray,List.take_length,hl,h,List.drop_succ_cons,t2]
 ·unfold head
  rw[List.drop_zero,hl,h,List.take_succ_cons,t1]
theorem chain {Step:KX→Ex→KX→Prop} (hN: ∀(s:ByteArray) ex y,wx cfg (gpT []) (vI cfg (gpT []) (ltT 4 [A102L1.lp,A102L1b.lp]) 12) (ltT 4 [A102L1.lp,A102L1b.lp] 102) false 1000 (qW Tryz.prog 102 0) (stK 35 5 [] (stN s)) (zD 5 300 35 kp cr)=some (ex,y)→Step (stN s) ex y)
  (hR: ∀(s:ByteArray) (k:Nat) (row:List Value) ex y,wx cfg (gpT []) (vI cfg (gpT []) (ltT 4 [A102L1.lp,A102L1b.lp]) 12) (ltT 4 [A102L1.lp,A102L1b.lp] 102) false 1000 (qW Tryz.prog 102 0) (stK 35 5 [] (stR s k row)) (zD 5 300 35 kp cr)=some (ex,y)→Step (stR s k row) ex y):
  ∀(n:Nat) (s:ByteArray) (acc:List (List UInt8)),s.data.toList.length≤n→acc.length+n≤1000000→zF Step (st acc s) (.exit 0) (fin (acc++Ref.pieces s.data.toList)):=by
 intro n
 induction n with
 |zero=>
  intro s acc hs rW
  have he:s.data.toList=[]:=List.length_eq_zero_iff.1 (by omega)
  have hp:Ref.pieces s.data.toList=[]:=by rw[he];rfl
  rw[hp,List.append_nil]
  unfold st fin
  cases hb:Nat.beq acc.length 0
  ·exact .stop (by simp) (hR s _ _ _ _ (by rw[kh];simp only[he,yM];rfl))
  ·exact .stop (by simp) (hN s _ _ (by rw[vu];simp only[he];rfl))
 |succ n ih=>
  intro s acc hs rW
  cases hsl:s.data.toList with
  |nil=>
   have hp:Ref.pieces ([]:List UInt8)=[]:=rfl
   rw[hp,List.append_nil]
   unfold st fin
   cases hb:Nat.beq acc.length 0
   ·exact .stop (by simp) (hR s _ _ _ _ (by rw[kh];simp only[hsl,yM];rfl))
   ·exact .stop (by simp) (hN s _ _ (by rw[vu];simp only[hsl];rfl))
  |cons b l=>
   obtain⟨p1,p2,p3,p4⟩:=parts hsl
   rw[Xk]
   have hne:(!eqU (b::l) [])=true:=rfl
   have q1:Nat.blt 0 (b::l).length=true:=rfl
   rw[hsl,List.length_cons]at hs
   have q2:Nat.blt (b::l).length 4611686018427387904=true:=by rw[Nat.blt_eq,List.length_cons];omega
   rw[hsl]at p3
   have q3:Nat.ble (A102L1.len s).toNat (b::l).length=true:=by rw[Nat.ble_eq];exact p3
   have q4:decide (0≤A102L1.len s)=true:=decide_eq_true p4
   have hdl:=VN Ref.kg l
   have key:Step (st acc s) .normal (st (acc++[b::l.takeWhile Ref.kg]) (rest s)):=by
    unfold st
    have e1:Nat.beq (acc++[b::l.takeWhile Ref.kg]).length 0=false:=by rw[List.length_append];rfl
    rw[e1]
    cases hb:Nat.beq acc.length 0
    ·refine hR s _ _ _ _ ?_
     rw[kh]
     have w1:((strs acc).drop 0).take (acc.length*1)++[Value.string (head s)]=strs (acc++[b::l.takeWhile Ref.kg]):=by
      rw[List.drop_zero,Nat.mul_one,List.take_of_length_le (by rw[KE];exact Nat.le_refl _),p2]
      unfold strs
      rw[List.map_append];rfl
     have w2:Nat.ble (acc.length+1) 140737488355328=true:=by rw[Nat.ble_eq];omega
     have w3:Nat.ble ((acc.length+1)*16) 140737488355328=true:=by rw[Nat.ble_eq];omega
     have w4:Nat.ble (0+acc.length*1) (strs acc).length=true:=by rw[Nat.ble_eq,KE];omega
     dsimp only[]
     simp only[hsl,hne,q1,q2,q3,q4,w1,w2,w3,w4,yM,Bool.and_self,cond_true,cond_false,List.length_append,List.length_singleton]
    ·have : acc = [] := List.length_eq_zero_iff.1 (Nat.eq_of_beq_eq_true hb)
     subst this
     refine hN s _ _ ?_
     rw[vu]
     simp only[hsl,hne,q1,q2,q3,q4,p2,Bool.and_self,cond_true,cond_false]
     rfl
   have ih':=ih (rest s) (acc++[b::l.takeWhile Ref.kg]) (by rw[p1];omega) (by rw[List.length_append];simp;omega)
   rw[p1,List.append_assoc]at ih'
   exact .next key ih'
def D:KD:=⟨35,5,300,[0,3],[],fun _=>[],fun x ro=>match x.vs,x.cars,ro with
 |[(0,.string s),(3,.slice none 0 0)],[],[]=> .qI (Nat.ble s.data.toList.length 1000000) (.br (Nat.beq (Ref.pieces s.data.toList).length 0) (.out (.exit 0,exN)) (.out (.exit 0,exR (Ref.pieces s.data.toList).length (strs (Ref.pieces s.data.toList)))))
 |_,_,_=> .no⟩
def lp:LpK:=⟨102,2,0,D⟩
theorem qG:zw Tryz.prog La 4 lp:=by
 refine⟨by kernel_rfl,fun c base I hP hn hG hI hIL x ro ex y e=> ?_⟩
 obtain⟨vs,cars⟩:=x
 simp only[lp,D]at e ⊢
 split at e
 ·rename_i s
  obtain⟨g1,g2⟩:=GT.qh e
  rw[Nat.ble_eq]at g1
  have hsp: ∀p∈([]:List (FuncId×Spec)),qu Tryz.prog La p.1 p.2:=by simp
  have hL: ∀p∈[A102L1.lp,A102L1b.lp],zw Tryz.prog La 4 p:=by simpa using⟨A102L1.qG,A102L1b.qG⟩
  have key:=chain (Step:= @zA (zV base) c base I (qW Tryz.prog 102 0) 35 5 300 []) (fun s ex y h=>iT qg qd hsp hL hP hn hG hI hIL (f:=102) (i:=0) (by kernel_rfl) (by kernel_rfl) h) (fun s k row ex y h=>iT qg qd hsp hL hP hn hG hI hIL (f:=102) (i:=0) (by kernel_rfl) (by kernel_rfl) h) s.data.toList.length s [] (Nat.le_refl _) (by simpa using g1)
  rw[List.nil_append]at key
  have e0:st [] s=stN s:=rfl
  rw[e0]at key
  unfold fin at key
  cases hb:Nat.beq (Ref.pieces s.data.toList).length 0 with
  |true=>rw[GT.eval,hb]at g2;cases g2;rw[hb]at key;exact key
  |false=>rw[GT.eval,hb]at g2;cases g2;rw[hb]at key;exact key
 ·cases e
end A102L0
namespace A46L3
noncomputable def cfg:Cfg:=zz Tryz.prog 4 (gpT []) (ltT 4 [])
def stN:KX:=⟨[(4,.pointer (some ⟨305,0,none⟩)),(5,.int .i64 0),(9,.slice none 0 0),(10,.int .i64 0),(11,.int .i64 0),(12,.string ⟨#[]⟩),(13,.int .i64 0)],[[.int .i64 0,.int .i64 0,.string ⟨#[]⟩]]⟩
def exA (s:ByteArray):KX:=⟨[(4,.pointer (some ⟨305,0,none⟩)),(5,.int .i64 0),(12,.string s)],[[.int .i64 0,.int .i64 0,.string ⟨#[]⟩]]⟩
def stA (f m i:Int) (s:ByteArray) (k:Nat) (row:List Value):KX:=⟨[(4,.pointer (some ⟨305,0,none⟩)),(5,.int .i64 0),(9,.slice (some ⟨306,0,none⟩) k 1),(10,.int .i64 f),(11,.int .i64 m),(12,.string s),(13,.int .i64 i)],[[.int .i64 0,.int .i64 0,.string ⟨#[]⟩],row]⟩
def kp:Ex→List Nat
 | .normal=>[4,5,9,10,11,12,13]
 | .exit _=>[4,5,12]
 |_=>[]
def cr:Ex→St→List (Nat×Bool):=fun ex s=>match ex,s.T.get 9 with
 | .normal,some (.slice (some p) _ _)=>[(305,true),(p.block,true)]
 |_,_=>[(305,true)]
theorem kh (f m i:Int) (s:ByteArray) (k:Nat) (row:List Value):zW cfg [] [] 46 3 (stK 131 305 [] (stA f m i s k row)) (zD 305 100 131 kp cr)=(let x1:=0+(i.toNat*1);(bif decide (i<(IntKind.wrap .i64 (f+m)))then(bif decide (0≤i)then(bif Nat.blt i.toNat k then(bif isV row x1 .s then(bif Nat.ble ((s.data.toList).length+((rdS row x1).data.toList).length) 9223372036854775807 then(bif row.all qo&&true then(some (.normal,⟨[(4,.pointer (some ⟨305,0,none⟩)),(5,.int .i64 0),(9,.slice (some ⟨306,0,none⟩) k 1),(10,.int .i64 f),(11,.int .i64 m),(12,.string ⟨(s.data.toList++(rdS row x1).data.toList).toArray⟩),(13,.int .i64 (IntKind.wrap .i64 (i+1)))],[[.int .i64 0,.int .i64 0,.string ⟨#[]⟩],row]⟩))else none)else none)else none)else none)else none)else(some (.exit 7,⟨[(4,.pointer (some ⟨305,0,none⟩)),(5,.int .i64 0),(12,.string s)],[[.int .i64 0,.int .i64 0,.string ⟨#[]⟩]]⟩)))):=by kernel_rfl
theorem vu:zW cfg [] [] 46 3 (stK 131 305 [] stN) (zD 305 100 131 kp cr)=some (.exit 7,exA ⟨#[]⟩):=by kernel_rfl
def sB:Value→List UInt8
 | .string b=>b.data.toList
 |_=>[]
def isS:Value→Bool
 | .string _=>true
 |_=>false
def join (f m:Nat) (row:List Value):List UInt8:=((row.drop f).take m).flatMap sB
theorem dG {row:List Value} (h:row.all isS=true):row.all qo=true:=by
 rw[List.all_eq_true]at h ⊢
 intro x hx
 have:=h x hx
 cases x<;>first|rfl|cases this
theorem fW (l:List (List UInt8)):(A102L0.strs l).flatMap sB=l.flatten:=by
 induction l with
 |nil=>rfl
 |cons x l ih=>
  show sB (A102L0.str x)++(A102L0.strs l).flatMap sB=x++l.flatten
  rw[ih];rfl
theorem eE (l:List (List UInt8)):(A102L0.strs l).all isS=true:=by
 rw[List.all_eq_true]
 intro x hx
 obtain⟨y,_,rfl⟩:=List.mem_map.1 hx
 rfl
theorem VH (f m:Nat) (l:List (List UInt8)):join f m (A102L0.strs l)=((l.drop f).take m).flatten:=by
 unfold join
 rw[←fW]
 unfold A102L0.strs
 rw[List.map_take,List.map_drop]
theorem chain {Step:KX→Ex→KX→Prop} (f m:Nat) (row:List Value) (hk:f+m≤row.length) (hk2:row.length≤1000000) (hs:row.all isS=true)
  (hA: ∀(i:Int) (s:ByteArray) ex y,zW cfg [] [] 46 3 (stK 131 305 [] (stA f m i s row.length row)) (zD 305 100 131 kp cr)=some (ex,y)→Step (stA f m i s row.length row) ex y):
  ∀(r j:Nat) (acc:List UInt8),j+r=f+m→acc.length+(join j r row).length≤4611686018427387904→zF Step (stA f m j ⟨acc.toArray⟩ row.length row) (.exit 7) (exA ⟨(acc++join j r row).toArray⟩):=by
 have hw:IntKind.wrap .i64 ((f:Int)+m)=((f+m:Nat):Int):=by rw[zZ (by omega) (by omega)];omega
 intro r
 induction r with
 |zero=>
  intro j acc h hl
  have h1:decide ((j:Int)<((f+m:Nat):Int))=false:=decide_eq_false (by omega)
  have hr:=kh f m j ⟨acc.toArray⟩ row.length row
  dsimp only[]at hr
  simp only[hw,h1,cond_false]at hr
  have e:join j 0 row=[]:=by unfold join;rw[List.take_zero];rfl
  rw[e,List.append_nil]
  exact .stop (by simp) (hA _ _ _ _ hr)
 |succ r ih=>
  intro j acc h hl
  have hj:j<row.length:=by omega
  have h1:decide ((j:Int)<((f+m:Nat):Int))=true:=decide_eq_true (by omega)
  have h2:decide ((0:Int)≤(j:Int))=true:=decide_eq_true (by omega)
  have h3:Nat.blt ((j:Int)).toNat row.length=true:=by rw[Nat.blt_eq,Int.toNat_natCast];exact hj
  have h4:0+((j:Int)).toNat*1=j:=by rw[Int.toNat_natCast];omega
  have hx:=List.all_eq_true.1 hs row[j] (List.getElem_mem hj)
  obtain⟨t,ht⟩: ∃t,row[j]= .string t:=by
   cases hv:row[j]<;>rw[hv]at hx<;>first|exact⟨_,rfl⟩|cases hx
  have h5:isV row j .s=true:=by unfold isV;rw[vS,List.getElem?_eq_getElem hj,ht]
  have h6:rdS row j=t:=by unfold rdS;rw[vS,List.getElem?_eq_getElem hj,ht]
  have hjn:join j (r+1) row=t.data.toList++join (j+1) r row:=by
   unfold join
   rw[List.drop_eq_getElem_cons hj,List.take_succ_cons,List.flatMap_cons,ht];rfl
  rw[hjn,List.length_append]at hl
  have h7:Nat.ble (acc.length+t.data.toList.length) 9223372036854775807=true:=by rw[Nat.ble_eq];omega
  have h8:IntKind.wrap .i64 ((j:Int)+1)=((j+1:Nat):Int):=by rw[zZ (by omega) (by omega)];omega
  have hr:=kh f m j ⟨acc.toArray⟩ row.length row
  dsimp only[]at hr
  simp only[hw,h1,h2,h3,h4,h5,h6,h7,h8,dG hs,Bool.and_self,cond_true]at hr
  rw[hjn,←List.append_assoc]
  exact .next (hA _ _ _ _ hr) (ih (j+1) (acc++t.data.toList) (by omega) (by rw[List.length_append];omega))
def D:KD:=⟨131,305,100,[4,5,9,10,11,12,13],[],fun s=>match s.T.get 9 with
 |some (.slice (some p) _ _)=>[(4,true),(p.block,true)]
 |_=>[(4,true)],fun x ro=>match x.vs,x.cars,ro with
 |[(4,.pointer (some ⟨305,0,none⟩)),(5,.int .i64 0),(9,.slice none 0 0),(10,.int .i64 f),(11,.int .i64 m),(12,.string s),(13,.int .i64 i)],[[.int .i64 0,.int .i64 0,.string z]],[]=>
  .qI (Nat.beq z.data.toList.length 0&&Nat.beq s.data.toList.length 0) (.qI (decide (f=0)&&(decide (m=0)&&decide (i=0))) (.out (.exit 7,exA ⟨#[]⟩)))
 |[(4,.pointer (some ⟨305,0,none⟩)),(5,.int .i64 0),(9,.slice (some ⟨306,0,none⟩) k 1),(10,.int .i64 f),(11,.int .i64 m),(12,.string s),(13,.int .i64 i)],[[.int .i64 0,.int .i64 0,.string z],row],[]=>
  .qI (Nat.beq z.data.toList.length 0&&Nat.beq s.data.toList.length 0) (.qI (decide (0≤f)&&(decide (0≤m)&&decide (i=f))) (.qI (Nat.ble (f.toNat+m.toNat) k&&(Nat.beq k row.length&&(Nat.ble k 1000000&&(row.all isS&&Nat.ble (join f.toNat m.toNat row).length 1000000)))) (.out (.exit 7,exA ⟨(join f.toNat m.toNat row).toArray⟩))))
 |_,_,_=> .no⟩
def lp:LpK:=⟨46,29,3,D⟩
theorem qG:zw Tryz.prog La 4 lp:=by
 refine⟨by kernel_rfl,fun c base I hP hn hG hI hIL x ro ex y e=> ?_⟩
 obtain⟨vs,cars⟩:=x
 have hsp: ∀p∈([]:List (FuncId×Spec)),qu Tryz.prog La p.1 p.2:=by simp
 simp only[lp,D]at e ⊢
 split at e
 ·rename_i f m s i z
  obtain⟨g0,e1⟩:=GT.qh e
  obtain⟨g1,e2⟩:=GT.qh e1
  simp only[Bool.and_eq_true,decide_eq_true_eq]at g0 g1
  have hz:z=⟨#[]⟩:=A46L1.back z (List.length_eq_zero_iff.1 (Nat.eq_of_beq_eq_true g0.1))
  have hs:s=⟨#[]⟩:=A46L1.back s (List.length_eq_zero_iff.1 (Nat.eq_of_beq_eq_true g0.2))
  obtain⟨hf,hm,hi⟩:=g1
  subst hz hs hf hm hi
  cases e2
  exact .stop (by simp) (stepT qg qd hsp (by simp) hP hn hG hI hIL vu)
 ·rename_i k f m s i z row
  obtain⟨g0,e1⟩:=GT.qh e
  obtain⟨g1,e2⟩:=GT.qh e1
  obtain⟨g2,e3⟩:=GT.qh e2
  simp only[Bool.and_eq_true,decide_eq_true_eq]at g0 g1 g2
  have hz:z=⟨#[]⟩:=A46L1.back z (List.length_eq_zero_iff.1 (Nat.eq_of_beq_eq_true g0.1))
  have hs:s=⟨#[]⟩:=A46L1.back s (List.length_eq_zero_iff.1 (Nat.eq_of_beq_eq_true g0.2))
  obtain⟨hf,hm,hi⟩:=g1
  obtain⟨q1,q2,q3,q4,q5⟩:=g2
  have hk:=Nat.eq_of_beq_eq_true q2
  subst hk
  rw[Nat.ble_eq]at q1 q3 q5
  obtain⟨f',rfl⟩:=Int.eq_ofNat_of_zero_le hf
  obtain⟨m',rfl⟩:=Int.eq_ofNat_of_zero_le hm
  rw[Int.toNat_natCast,Int.toNat_natCast]at q1 q5 e3
  subst hz hs hi
  have key:=chain (Step:= @zA (zV base) c base I (qW Tryz.prog 46 3) 131 305 100 []) f' m' row q1 q3 q4 (fun i s ex y h=>stepT qg qd hsp (by simp) hP hn hG hI hIL h) m' f' [] rfl (by show 0+_≤_;omega)
  rw[List.nil_append]at key
  cases e3
  exact key
 ·cases e
end A46L3
namespace A46
def T (s0:ByteArray) (m1:Nat) (c1:List Value):GT Value:=let x1:=if(if(Int.ofNat (Ref.pieces (rdS c1 2).data.toList).length)<(rdI c1 4)then(Int.ofNat (Ref.pieces (rdS c1 2).data.toList).length)else(rdI c1 4))>0 then(if(Int.ofNat (Ref.pieces (rdS c1 2).data.toList).length)<(rdI c1 4)then(Int.ofNat (Ref.pieces (rdS c1 2).data.toList).length)else(rdI c1 4))else 0;let x2:=if(IntKind.wrap .i64 ((Int.ofNat (Ref.pieces (rdS c1 2).data.toList).length) - x1))<(rdI c1 7)then(IntKind.wrap .i64 ((Int.ofNat (Ref.pieces (rdS c1 2).data.toList).length) - x1))else(rdI c1 7);let x3:=if(if 0<(rdI c1 4)then 0 else(rdI c1 4))>0 then(if 0<(rdI c1 4)then 0 else(rdI c1 4))else 0;let x5:=Go.Lib.trimLeftB (rdS c1 2).data.toList (32:UInt8);let x6:=A46L0.bv (Ref.jK (qj c1));let x7:=if(IntKind.wrap .i64 (0 - x3))<(rdI c1 7)then(IntKind.wrap .i64 (0 - x3))else(rdI c1 7);let x8:=A102L0.strs (Ref.pieces (rdS c1 2).data.toList);let x9:=Go.Lib.trimRightB x5 (32:UInt8);let x10:=if x2>0 then x2 else 0;let x4:=A46L3.join x1.toNat x10.toNat x8;let o1:GT Value:=(.out (.tuple #[.agg #[.int .i64 0,.int .i64 0,.string ⟨#[]⟩],.int .i64 20]));let o2:GT Value:=(.out (.tuple #[.agg #[.int .i64 4,.int .i64 0,.string ⟨#[]⟩],.int .i64 0]));(.br (Nat.blt 0 m1) (.br (isV c1 2 .s) (.br (eqU s0.data.toList [99,111,110,99,97,116]) (.br (true&&([((1:Nat),c1)]).all fun p=>p.snd.all qo) (.br ((decide ((Int.ofNat m1)=(Int.ofNat m1))&&((kR c1)&&(Nat.beq c1.length (m1*3)&&Nat.blt m1 4398046511104)))&&(qj c1).all A37L0.jk) (.br (Ref.WW (qj c1)) o1 (.br (Nat.beq (Ref.jK (qj c1)).length 0) o2 (.br (Nat.ble (0+(Ref.jK (qj c1)).length) x6.length) (.br (((x6.drop 0).take (Ref.jK (qj c1)).length).all dO) (.br (decide ((Int.ofNat (((x6.drop 0).take (Ref.jK (qj c1)).length).map Yg).length)>1024)) o1 (.out (.tuple #[.agg #[.int .i64 4,.int .i64 0,.string ⟨(((x6.drop 0).take (Ref.jK (qj c1)).length).map Yg).toArray⟩],.int .i64 0]))) .no) .no))) .no) .no) (.br (eqU s0.data.toList [108,101,110,103,116,104]) (.br (Nat.ble ((rdS c1 2).data.toList).length 1000000) (.br (Nat.beq (Ref.pieces (rdS c1 2).data.toList).length 0) (.out (.tuple #[.agg #[.int .i64 2,.int .i64 0,.string ⟨#[]⟩],.int .i64 0])) (.out (.tuple #[.agg #[.int .i64 2,.int .i64 (Int.ofNat (Ref.pieces (rdS c1 2).data.toList).length),.string ⟨#[]⟩],.int .i64 0]))) .no) (.br (eqU s0.data.toList [108,111,119,101,114]) (.br (Nat.ble ((rdS c1 2).data.toList).length 9223372036854775807&&true) (.br (decide ((Int.ofNat ((Ref.wC 65 97 (rdS c1 2)).data.toList).length)>1024)) o1 (.out (.tuple #[.agg #[.int .i64 4,.int .i64 0,.string (Ref.wC 65 97 (rdS c1 2))],.int .i64 0]))) .no) (.br (eqU s0.data.toList [117,112,112,101,114]) (.br (Nat.ble ((rdS c1 2).data.toList).length 9223372036854775807&&true) (.br (decide ((Int.ofNat ((Ref.wC 97 65 (rdS c1 2)).data.toList).length)>1024)) o1 (.out (.tuple #[.agg #[.int .i64 4,.int .i64 0,.string (Ref.wC 97 65 (rdS c1 2))],.int .i64 0]))) .no) (.br (eqU s0.data.toList [116,114,105,109]) (.br (Nat.blt x5.length 1000000) (.br (decide ((Int.ofNat x9.length)>1024)) o1 (.out (.tuple #[.agg #[.int .i64 4,.int .i64 0,.string ⟨(x9).toArray⟩],.int .i64 0]))) .no) (.br (Nat.ble ((rdS c1 2).data.toList).length 1000000) (.br (Nat.beq (Ref.pieces (rdS c1 2).data.toList).length 0) (.br (Nat.blt 1 m1) (.br (isV c1 4 (.i .i64)) (.br (Nat.blt 2 m1) (.br (isV c1 7 (.i .i64)) (.br (decide (x3=0)&&(decide ((if x7>0 then x7 else 0)=0)&&decide (x3=0))) o2 .no) .no) .no) .no) .no) (.br (Nat.blt 1 m1) (.br (isV c1 4 (.i .i64)) (.br (Nat.blt 2 m1) (.br (isV c1 7 (.i .i64)) (.br (x8.all qo&&true&&true) (.br (decide (0≤x1)&&(decide (0≤x10)&&decide (x1=x1))) (.br (Nat.ble (x1.toNat+x10.toNat) (Ref.pieces (rdS c1 2).data.toList).length&&(Nat.beq (Ref.pieces (rdS c1 2).data.toList).length x8.length&&(Nat.ble (Ref.pieces (rdS c1 2).data.toList).length 1000000&&(x8.all A46L3.isS&&Nat.ble x4.length 1000000)))) (.br (decide ((Int.ofNat x4.length)>1024)) o1 (.out (.tuple #[.agg #[.int .i64 4,.int .i64 0,.string ⟨(x4).toArray⟩],.int .i64 0]))) .no) .no) .no) .no) .no) .no) .no)) .no)))))) .no) .no)
theorem run (s0:ByteArray) (m1:Nat) (c1:List Value):runK 4 [(103,W7)] [A46L0.lp,A46L1.lp,A46L2.lp,A46L3.lp,A102L0.lp] 46 [.v (.string s0),.sl m1 3 c1]=(T s0 m1 c1).eval:=by kernel_rfl
theorem ZJ: ∀(n:Nat) (l:List UInt8),(Ref.vJ n l).length≤n
 |0,_=>Nat.le_refl _
 |_+1,[]=>Nat.zero_le _
 |n+1,b::l=>by rw[Ref.vJ,List.length_cons];have:=ZJ n (l.dropWhile Ref.kg);omega
theorem QU: ∀(n:Nat) (l:List UInt8),l.length≤n→(Ref.vJ n l).flatten=l
 |0,l,h=>by
  have:l=[]:=List.length_eq_zero_iff.1 (by omega)
  subst this;rfl
 |n+1,[],_=>rfl
 |n+1,b::l,h=>by
  have h2:=A102L0.VN Ref.kg l
  rw[List.length_cons]at h
  rw[Ref.vJ,List.flatten_cons,QU n _ (by omega),List.cons_append,List.takeWhile_append_dropWhile]
theorem join_le (t:List UInt8) (f m:Nat):(A46L3.join f m (A102L0.strs (Ref.pieces t))).length≤t.length:=by
 rw[A46L3.VH]
 have h1:=congrArg (fun p=>(List.flatten p).length) (List.take_append_drop f (Ref.pieces t))
 have h2:=congrArg (fun p=>(List.flatten p).length) (List.take_append_drop m ((Ref.pieces t).drop f))
 simp only[List.flatten_append,List.length_append]at h1 h2
 have e:(Ref.pieces t).flatten=t:=QU _ _ (Nat.le_refl _)
 rw[e]at h1
 omega
theorem pK (l:List UInt8):(A46L0.bv l).map Yg=l:=by
 have h:=A46L0.nf l
 unfold u8L at h
 have:=congrArg Array.toList (ByteArray.mk.inj h)
 rwa [List.toList_toArray,List.toList_toArray]at this
theorem gK (P:List (List UInt8)) (a:Int):(if(if(Int.ofNat P.length)<a then(Int.ofNat P.length)else a)>0 then(if(Int.ofNat P.length)<a then(Int.ofNat P.length)else a)else 0)=Ref.kT P a:=by
 unfold Ref.kT
 show (if(if((P.length:Nat):Int)<a then((P.length:Nat):Int)else a)>0 then(if((P.length:Nat):Int)<a then((P.length:Nat):Int)else a)else 0)=max 0 (min a ((P.length:Nat):Int))
 split<;>split<;>omega
theorem lQ (P:List (List UInt8)) (hP:P.length≤1000000) (a b:Int):(if(if(IntKind.wrap .i64 ((Int.ofNat P.length) - Ref.kT P a))<b then(IntKind.wrap .i64 ((Int.ofNat P.length) - Ref.kT P a))else b)>0 then(if(IntKind.wrap .i64 ((Int.ofNat P.length) - Ref.kT P a))<b then(IntKind.wrap .i64 ((Int.ofNat P.length) - Ref.kT P a))else b)else 0)=Ref.ZP P a b:=by
 have h1:0≤Ref.kT P a∧Ref.kT P a≤(P.length:Int):=by
  unfold Ref.kT
  show 0≤max 0 (min a ((P.length:Nat):Int))∧max 0 (min a ((P.length:Nat):Int))≤_
  omega
 have hw:IntKind.wrap .i64 ((Int.ofNat P.length) - Ref.kT P a)=(P.length:Int) - Ref.kT P a:=zZ (by show _≤((P.length:Nat):Int) - _;omega) (by show ((P.length:Nat):Int) - _≤_;omega)
 rw[hw]
 unfold Ref.ZP
 show _=max 0 (min b (((P.length:Nat):Int) - Ref.kT P a))
 generalize Ref.kT P a=f at*
 split<;>split<;>omega
theorem z3 (a:Int):(if(if 0<a then 0 else a)>0 then(if 0<a then 0 else a)else 0)=0:=by
 split<;>omega
def guard (s:ByteArray) (l:List W3):Bool:=l.all A37L0.jk&&(Nat.blt 0 l.length&&(eqU s.data.toList [99,111,110,99,97,116]||(eqU s.data.toList [108,101,110,103,116,104]||(eqU s.data.toList [108,111,119,101,114]||(eqU s.data.toList [117,112,112,101,114]||(eqU s.data.toList [116,114,105,109]||Nat.blt 2 l.length))))))
theorem po (l:List UInt8):(Lib.trimLeftB l 32).length≤l.length:=A102L0.VN _ l
set_option maxHeartbeats 0 in
theorem qL (s:ByteArray) (l:List W3) (hl:l.length<4398046511104) (hg:guard s l=true):(T s l.length (qq l)).eval=some (ve (Ref.j9 s l)):=by
 unfold guard at hg
 simp only[Bool.and_eq_true]at hg
 obtain⟨hsh,h0,h3⟩:=hg
 have h0':0<l.length:=by rwa [Nat.blt_eq]at h0
 have hs1: ∀v∈l,v.2.2.data.toList.length≤1024:=fun v hv=>Nat.le_of_ble_eq_true (List.all_eq_true.1 hsh v hv)
 have hv:=hs1 _ (A37.head_mem l h0')
 have q2:rdS (qq l) 2=(l.headD v0).2.2:=by have:=kS l h0';rw[A37.at0 l h0']at this;exact this
 have d0:isV (qq l) 2 .s=true:=by have:=vo 2 (by omega) l h0';unfold isV;rw[show (2:Nat)=0*3+2 from rfl,this];rfl
 have e1:Nat.ble (l.headD v0).2.2.data.toList.length 1000000=true:=by rw[Nat.ble_eq];omega
 have e2:Nat.ble (l.headD v0).2.2.data.toList.length 9223372036854775807=true:=by rw[Nat.ble_eq];omega
 have e3:Nat.blt (Lib.trimLeftB (l.headD v0).2.2.data.toList 32).length 1000000=true:=by have:=po (l.headD v0).2.2.data.toList;rw[Nat.blt_eq];omega
 have a1:(true&&[((1:Nat),qq l)].all fun p=>p.2.all qo)=true:=by simp[qZ]
 have g:Nat.blt l.length 4398046511104=true:=by rw[Nat.blt_eq];exact hl
 have u1: ∀o:List UInt8,((A46L0.bv o).drop 0).take o.length=A46L0.bv o:=fun o=>by rw[List.drop_zero,List.take_of_length_le (by rw[A46L0.Jc];exact Nat.le_refl _)]
 have u2: ∀o:List UInt8,Nat.ble (0+o.length) o.length=true:=fun o=>by rw[Nat.ble_eq];omega
 unfold T
 dsimp only[]at a1 ⊢
 simp only[a1,g,q2,d0,e1,e2,e3,h0,u1,u2,pK,A46L0.oC,A46L0.Jc,vx,zh,Nat.beq_refl,decide_true,Bool.and_self,zn,hsh,GT.eval,Bool.and_true,cond_true]
 unfold Ref.j9
 dsimp only[]
 generalize ht:(l.headD v0).2.2=t at*
 cases n0:eqU s.data.toList [99,111,110,99,97,116]
 rotate_left
 ·simp only [cond_true]
  unfold Ref.QF Ref.WW Ref.jK
  cases hc:Ref.Zs [] l with
  |none=>rfl
  |some o=>
   simp only[Option.isNone,Option.getD_some,cond_false]
   cases ho:Nat.beq o.length 0
   ·have := A37.vC ⟨o.toArray⟩
    rw[List.toList_toArray]at this
    exact this
   ·have : o = [] := List.length_eq_zero_iff.1 (Nat.eq_of_beq_eq_true ho)
    subst this;rfl
 cases n1:eqU s.data.toList [108,101,110,103,116,104]
 rotate_left
 ·simp only [cond_true, cond_false]
  cases ho:Nat.beq (Ref.pieces t.data.toList).length 0
  ·rfl
  ·rw[Nat.eq_of_beq_eq_true ho];rfl
 cases n2:eqU s.data.toList [108,111,119,101,114]
 rotate_left
 ·exact A37.vC _
 cases n3:eqU s.data.toList [117,112,112,101,114]
 rotate_left
 ·exact A37.vC _
 cases n4:eqU s.data.toList [116,114,105,109]
 rotate_left
 ·have := A37.vC ⟨(Ref.ab t.data.toList).toArray⟩
  rw[List.toList_toArray]at this
  exact this
 rw[n0,n1,n2,n3,n4]at h3
 have k2:2<l.length:=by
  have:Nat.blt 2 l.length=true:=h3
  rwa [Nat.blt_eq]at this
 have k1:1<l.length:=by omega
 have b1:Nat.blt 1 l.length=true:=by rw[Nat.blt_eq];exact k1
 have b2:Nat.blt 2 l.length=true:=by rw[Nat.blt_eq];exact k2
 have c1:rdI (qq l) 4=(l.getD 1 v0).2.1:=by have:=kc l k1;rw[A37.atj l 1 k1]at this;exact this
 have c2:rdI (qq l) 7=(l.getD 2 v0).2.1:=by have:=kc l k2;rw[A37.atj l 2 k2]at this;exact this
 have d1:isV (qq l) 4 (.i .i64)=true:=by have:=vo 1 (by omega) l k1;unfold isV;rw[show (4:Nat)=1*3+1 from rfl,this];rfl
 have d2:isV (qq l) 7 (.i .i64)=true:=by have:=vo 1 (by omega) l k2;unfold isV;rw[show (7:Nat)=2*3+1 from rfl,this];rfl
 have pl:(Ref.pieces t.data.toList).length≤1000000:=by
  have:=ZJ t.data.toList.length t.data.toList
  unfold Ref.pieces
  omega
 simp only[b1,b2,c1,c2,d1,d2,cond_true,cond_false]
 generalize (l.getD 1 v0).2.1=a
 generalize (l.getD 2 v0).2.1=b
 have fin:=A37.vC ⟨(Ref.jx t a b).toArray⟩
 rw[List.toList_toArray]at fin
 cases ho:Nat.beq (Ref.pieces t.data.toList).length 0
 ·simp only [cond_false]
  rw[gK,lQ _ pl]
  have f0:0≤Ref.kT (Ref.pieces t.data.toList) a∧Ref.kT (Ref.pieces t.data.toList) a≤((Ref.pieces t.data.toList).length:Int):=by
   unfold Ref.kT
   show 0≤max 0 (min a (((Ref.pieces t.data.toList).length:Nat):Int))∧max 0 (min a (((Ref.pieces t.data.toList).length:Nat):Int))≤_
   omega
  have f1:0≤Ref.ZP (Ref.pieces t.data.toList) a b∧Ref.kT (Ref.pieces t.data.toList) a+Ref.ZP (Ref.pieces t.data.toList) a b≤((Ref.pieces t.data.toList).length:Int):=by
   unfold Ref.ZP
   show 0≤max 0 (min b ((((Ref.pieces t.data.toList).length:Nat):Int) - Ref.kT (Ref.pieces t.data.toList) a))∧Ref.kT (Ref.pieces t.data.toList) a+max 0 (min b ((((Ref.pieces t.data.toList).length:Nat):Int) - Ref.kT (Ref.pieces t.data.toList) a))≤_
   omega
  have w1:Nat.ble ((Ref.kT (Ref.pieces t.data.toList) a).toNat+(Ref.ZP (Ref.pieces t.data.toList) a b).toNat) (Ref.pieces t.data.toList).length=true:=by rw[Nat.ble_eq];omega
  have w2:Nat.ble (Ref.pieces t.data.toList).length 1000000=true:=by rw[Nat.ble_eq];exact pl
  have w3:Nat.ble (A46L3.join (Ref.kT (Ref.pieces t.data.toList) a).toNat (Ref.ZP (Ref.pieces t.data.toList) a b).toNat (A102L0.strs (Ref.pieces t.data.toList))).length 1000000=true:=by
   have:=join_le t.data.toList (Ref.kT (Ref.pieces t.data.toList) a).toNat (Ref.ZP (Ref.pieces t.data.toList) a b).toNat
   rw[Nat.ble_eq];omega
  have w4:A46L3.join (Ref.kT (Ref.pieces t.data.toList) a).toNat (Ref.ZP (Ref.pieces t.data.toList) a b).toNat (A102L0.strs (Ref.pieces t.data.toList))=Ref.jx t a b:=by rw[A46L3.VH];rfl
  simp only[w1,w2,w3,A46L3.eE,A102L0.yM,A102L0.KE,Nat.beq_refl,decide_eq_true f0.1,decide_eq_true f1.1,Bool.and_self,cond_true]
  rw[w4]
  exact fin
 ·have hp : Ref.pieces t.data.toList = [] := List.length_eq_zero_iff.1 (Nat.eq_of_beq_eq_true ho)
  have hs:Ref.jx t a b=[]:=by unfold Ref.jx;rw[hp,List.drop_nil,List.take_nil];rfl
  rw[hs]
  have hx:(if(if(IntKind.wrap .i64 (0 - 0))<b then(IntKind.wrap .i64 (0 - 0))else b)>0 then(if(IntKind.wrap .i64 (0 - 0))<b then(IntKind.wrap .i64 (0 - 0))else b)else 0)=0:=z3 b
  simp only[z3,hx,decide_true,Bool.and_self,cond_true]
  rfl
def spec:Spec:=fun aa=>match aa with
 |[.v (.string s),.sl n 3 cs]=>some (.qI (wo n (Int.ofNat n) cs&&guard s (qj cs)) (.out (ve (Ref.j9 s (qj cs)))))
 |_=>none
theorem qf:qu Tryz.prog La 46 spec:=⟨qE (by kernel_rfl),fun aa t v h e=>by
 unfold spec at h
 split at h
 ·rename_i s n cs
  cases h
  obtain⟨g1,g2⟩:=GT.qh e
  cases g2
  simp only[Bool.and_eq_true]at g1
  obtain⟨_,hn,h4,h5⟩:=kB g1.1
  have hg:=g1.2
  generalize qj cs=l at h4 h5 hg
  subst h4 h5
  exact⟨rfl,qR qx qg qd (by simpa using oP) (by simpa using⟨A46L0.qG,A46L1.qG,A46L2.qG,A46L3.qG,A102L0.qG⟩) (by decide) (by simp) rfl ((run _ _ _).trans (qL _ _ hn hg))⟩
 ·cases h⟩
end A46
namespace A11L0
noncomputable def cfg:Cfg:=zz Tryz.prog 4 (gpT []) (ltT 4 [])
def stN (nm:ByteArray) (n:Nat) (i:Int):KX:=⟨[(0,.string nm),(1,.slice (some ⟨1,0,none⟩) n 3),(4,.pointer (some ⟨4,0,none⟩)),(5,.int .i64 0),(6,.slice none 0 0),(7,.int .i64 i)],[]⟩
def stR (nm:ByteArray) (n:Nat) (i:Int) (k:Nat) (row:List Value):KX:=⟨[(0,.string nm),(1,.slice (some ⟨1,0,none⟩) n 3),(4,.pointer (some ⟨4,0,none⟩)),(5,.int .i64 0),(6,.slice (some ⟨5,0,none⟩) k 1),(7,.int .i64 i)],[row]⟩
def exN (nm:ByteArray) (n:Nat):KX:=⟨[(0,.string nm),(1,.slice (some ⟨1,0,none⟩) n 3),(4,.pointer (some ⟨4,0,none⟩)),(5,.int .i64 0),(6,.slice none 0 0)],[]⟩
def exR (nm:ByteArray) (n:Nat) (k:Nat) (row:List Value):KX:=⟨[(0,.string nm),(1,.slice (some ⟨1,0,none⟩) n 3),(4,.pointer (some ⟨4,0,none⟩)),(5,.int .i64 0),(6,.slice (some ⟨5,0,none⟩) k 1)],[row]⟩
def kp:Ex→List Nat
 | .normal=>[0,1,4,5,6,7]
 |_=>[0,1,4,5,6]
def cr:Ex→St→List (Nat×Bool):=fun _ s=>match s.T.get 6 with
 |some (.slice (some p) _ _)=>[(p.block,true)]
 |_=>[]
theorem vu (nm:ByteArray) (n:Nat) (i:Int) (cs:List Value):zW cfg [] [] 11 0 (stK 137 5 [(1,cs)] (stN nm n i)) (zD 5 100 137 kp cr)=
 (bif decide (i<(Int.ofNat n))then(bif decide (0≤i)then(bif Nat.blt (i).toNat n then(bif isV cs (0+((i).toNat*3)) (.i .i64)then(some (.normal,stR nm n (IntKind.wrap .i64 (i+1)) 1 [.int .i64 (rdI cs (0+((i).toNat*3)))]))else none)else none)else none)else(some (.exit 0,exN nm n))):=by kernel_rfl
theorem kh (nm:ByteArray) (n:Nat) (i:Int) (k:Nat) (row:List Value) (cs:List Value):zW cfg [] [] 11 0 (stK 137 5 [(1,cs)] (stR nm n i k row)) (zD 5 100 137 kp cr)=
 (let r2:=(((row).drop 0).take (k*1))++[.int .i64 (rdI cs (0+((i).toNat*3)))];bif decide (i<(Int.ofNat n))then(bif decide (0≤i)then(bif Nat.blt (i).toNat n then(bif isV cs (0+((i).toNat*3)) (.i .i64)then(bif Nat.ble (k+1) 140737488355328 then(bif Nat.ble ((k+1)*8) 140737488355328 then(bif Nat.ble (0+(k*1)) (row).length then(bif r2.all qo&&true then(some (.normal,stR nm n (IntKind.wrap .i64 (i+1)) (k+1) r2))else none)else none)else none)else none)else none)else none)else none)else(bif row.all qo&&true then(some (.exit 0,exR nm n k row))else none)):=by kernel_rfl
def row (l:List W3) (j:Nat):List Int:=(l.take j).map (·.1)
theorem vE (l:List W3) {j:Nat} (h:j<l.length):row l (j+1)=row l j++[l[j].1]:=by
 unfold row
 rw[←List.take_append_getElem h,List.map_append];rfl
theorem j7 (l:List W3) {j:Nat} (h:j≤l.length):(row l j).length=j:=by
 unfold row
 rw[List.length_map,List.length_take];omega
theorem cG (l:List W3) {j:Nat} (h:j<l.length):isV (qq l) (j*3) (.i .i64)=true:=by
 have:=vo 0 (by omega) l h
 unfold isV
 rw[show j*3=j*3+0 from rfl,this];rfl
def st (nm:ByteArray) (n:Nat) (l:List W3) (j:Nat):KX:=bif Nat.beq j 0 then stN nm n j else stR nm n j j (ints .i64 (row l j))
def fin (nm:ByteArray) (n:Nat) (l:List W3):KX:=bif Nat.beq n 0 then exN nm n else exR nm n n (ints .i64 (l.map (·.1)))
def nW (l:List W3):List Value:=ints .i64 (l.map (·.1))
def D:KD:=⟨137,5,100,[0,1,4,5,6,7],[1],fun _=>[],fun x ro=>match x.vs,x.cars,ro with
 |[(0,.string nm),(1,.slice (some ⟨1,0,none⟩) n 3),(4,.pointer (some ⟨4,0,none⟩)),(5,.int .i64 0),(6,.slice none 0 0),(7,.int .i64 0)],[],[(1,cs)]=>
  .qI (wo n (Int.ofNat n) cs) (.br (Nat.beq n 0) (.out (.exit 0,exN nm n)) (.out (.exit 0,exR nm n n (nW (qj cs)))))
 |_,_,_=> .no⟩
def lp:LpK:=⟨11,3,0,D⟩
theorem qG:zw Tryz.prog La 4 lp:=by
 refine⟨by kernel_rfl,fun c base I hP hn hG hI hIL x ro ex y e=> ?_⟩
 obtain⟨vs,cars⟩:=x
 simp only[lp,D]at e ⊢
 split at e
 ·rename_i nm n cs
  obtain⟨g1,g2⟩:=GT.qh e
  obtain⟨_,hn2,h4,h5⟩:=kB g1
  generalize qj cs=l at h4 h5 g2
  subst h4 h5
  have key:=zP (Step:= @zA (zV base) c base I (qW Tryz.prog 11 0) 137 5 100 [(1,qq l)]) (step:=fun(_:Unit) (_:W3)=> .inl ()) (fin:=fun _=>(.exit 0,fin nm l.length l)) (st:=fun _ j=>st nm l.length l j) (l:=l) (fun s=>by simp) (fun s a r h=>by cases h) (fun _ j hj=>by
    have h1:=ltI hj
    have h2:=geI j
    have h3:=xE hj
    have h4:(0+((j:Int)).toNat*3)=j*3:=by simp
    have h5:=wrI j (by omega)
    show @zA (zV base) c base I (qW Tryz.prog 11 0) 137 5 100 [(1,qq l)] (st nm l.length l j) .normal (st nm l.length l (j+1))
    cases j with
    |zero=>
     have hr:=vu nm l.length ((0:Nat):Int) (qq l)
     simp only[h1,h2,h3,h4,h5,cG l hj,zX l hj,cond_true]at hr
     have e1:st nm l.length l 0=stN nm l.length ((0:Nat):Int):=rfl
     have e2:st nm l.length l (0+1)=stR nm l.length ((0+1:Nat):Int) 1 [.int .i64 l[0].1]:=by
      show stR nm l.length ((0+1:Nat):Int) (0+1) (ints .i64 (row l (0+1)))=_
      rw[vE l hj];rfl
     rw[e1,e2]
     exact stepT qg qd (by simp) (by simp) hP hn hG hI hIL hr
    |succ j=>
     have hk:=j7 l (Nat.le_of_lt hj)
     have hr:=kh nm l.length ((j+1:Nat):Int) (j+1) (ints .i64 (row l (j+1))) (qq l)
     have q1:((ints .i64 (row l (j+1))).drop 0).take ((j+1)*1)++[.int .i64 (l[j+1]).1]=ints .i64 (row l (j+1+1)):=by
      rw[List.drop_zero,Nat.mul_one,List.take_of_length_le (by rw[zH,hk];exact Nat.le_refl _),vE l hj]
      unfold ints
      rw[List.map_append];rfl
     have q2:Nat.ble (j+1+1) 140737488355328=true:=by rw[Nat.ble_eq];omega
     have q3:Nat.ble ((j+1+1)*8) 140737488355328=true:=by rw[Nat.ble_eq];omega
     have q4:Nat.ble (0+(j+1)*1) (ints .i64 (row l (j+1))).length=true:=by rw[Nat.ble_eq,zH,hk];omega
     simp only[h1,h2,h3,h4,h5,cG l hj,zX l hj,q1,q2,q3,q4,qY,Bool.and_true,cond_true]at hr
     have e1:st nm l.length l (j+1)=stR nm l.length ((j+1:Nat):Int) (j+1) (ints .i64 (row l (j+1))):=rfl
     have e2:st nm l.length l (j+1+1)=stR nm l.length ((j+1+1:Nat):Int) (j+1+1) (ints .i64 (row l (j+1+1))):=rfl
     rw[e1,e2]
     exact stepT qg qd (by simp) (by simp) hP hn hG hI hIL hr) (fun _=>by
    have h1:=xZ l.length
    show @zA (zV base) c base I (qW Tryz.prog 11 0) 137 5 100 [(1,qq l)] (st nm l.length l l.length) (.exit 0) (fin nm l.length l)
    cases hl:l.length with
    |zero=>
     have hr:=vu nm l.length (l.length:Int) (qq l)
     simp only[h1,cond_false]at hr
     rw[hl]at hr
     exact stepT qg qd (by simp) (by simp) hP hn hG hI hIL hr
    |succ j=>
     have hr:=kh nm l.length (l.length:Int) l.length (ints .i64 (row l l.length)) (qq l)
     simp only[h1,cond_false,qY,Bool.and_true,cond_true]at hr
     have e3:row l l.length=l.map (·.1):=by unfold row;rw[List.take_length]
     rw[hl]at hr e3
     have e1:st nm (j+1) l (j+1)=stR nm (j+1) ((j+1:Nat):Int) (j+1) (ints .i64 (row l (j+1))):=rfl
     have e2:fin nm (j+1) l=exR nm (j+1) (j+1) (ints .i64 (l.map (·.1))):=rfl
     rw[e1,e2,←e3]
     exact stepT qg qd (by simp) (by simp) hP hn hG hI hIL hr) l.length 0 () (by omega)
  rw[List.drop_zero,kW]at key
  cases hb:Nat.beq l.length 0 with
  |true=>rw[GT.eval,hb]at g2;cases g2;unfold fin at key;rw[hb]at key;exact key
  |false=>rw[GT.eval,hb]at g2;cases g2;unfold fin at key;rw[hb]at key;exact key
 ·cases e
end A11L0
namespace A11L1
noncomputable def cfg:Cfg:=zz Tryz.prog 4 (gpT [(15,K0)]) (ltT 4 [])
def stA (nm:ByteArray) (n:Nat) (e kind:Int) (e2:Int) (sm:Bool) (i:Int):KX:=⟨[(0,.string nm),(1,.slice (some ⟨1,0,none⟩) n 3),(4,.pointer (some ⟨105,0,none⟩)),(5,.int .i64 e),(8,.int .i64 kind),(9,.int .i64 e2),(10,.bool sm),(11,.int .i64 i)],[[.int .i64 0,.int .i64 0,.string ⟨#[]⟩]]⟩
def kp:Ex→List Nat
 | .normal=>[0,1,4,5,8,9,10,11]
 | .exit _=>[0,1,4,5,8,10]
 | .ret=>[4,5]
def cr:Ex→St→List (Nat×Bool):=fun _ s=>[(105,true)]
theorem round (nm:ByteArray) (n:Nat) (e kind:Int) (e2:Int) (sm:Bool) (i:Int) (cs:List Value):zW cfg [(15,K0)] [] 11 1 (stK 137 105 [(1,cs)] (stA nm n e kind e2 sm i)) (zD 105 100 137 kp cr)=(let x1:=0+(i.toNat*3);let x2:=IntKind.wrap .i64 (i+1);(bif decide (i<(Int.ofNat n))then(bif decide (0≤i)then(bif Nat.blt i.toNat n then(bif isL cs x1 [(.i .i64),(.i .i64),.s]then(bif(!(A33.okv (rdI cs x1) (rdI cs (x1+1)) (rdS cs ((x1+1)+1))))then(some (.ret,⟨[(4,.pointer (some ⟨105,0,none⟩)),(5,.int .i64 22)],[[.int .i64 0,.int .i64 0,.string ⟨#[]⟩]]⟩))else(bif sm then(some (.normal,⟨[(0,.string nm),(1,.slice (some ⟨1,0,none⟩) n 3),(4,.pointer (some ⟨105,0,none⟩)),(5,.int .i64 e),(8,.int .i64 kind),(9,.int .i64 e2),(10,.bool true),(11,.int .i64 x2)],[[.int .i64 0,.int .i64 0,.string ⟨#[]⟩]]⟩))else(bif decide (0≤i)then(bif Nat.blt i.toNat n then(bif isV cs (x1+0) (.i .i64)then(some (.normal,⟨[(0,.string nm),(1,.slice (some ⟨1,0,none⟩) n 3),(4,.pointer (some ⟨105,0,none⟩)),(5,.int .i64 e),(8,.int .i64 kind),(9,.int .i64 e2),(10,.bool ((rdI cs (x1+0))==0)),(11,.int .i64 x2)],[[.int .i64 0,.int .i64 0,.string ⟨#[]⟩]]⟩))else none)else none)else none)))else none)else none)else none)else(some (.exit 2,⟨[(0,.string nm),(1,.slice (some ⟨1,0,none⟩) n 3),(4,.pointer (some ⟨105,0,none⟩)),(5,.int .i64 e),(8,.int .i64 kind),(10,.bool sm)],[[.int .i64 0,.int .i64 0,.string ⟨#[]⟩]]⟩)))):=by kernel_rfl
def stV (nm:ByteArray) (n:Nat) (e kind e2:Int) (sm:Bool) (i:Int):KX:=stA nm n e kind e2 sm i
def qV:KX:=⟨[(4,.pointer (some ⟨105,0,none⟩)),(5,.int .i64 22)],[[.int .i64 0,.int .i64 0,.string ⟨#[]⟩]]⟩
def stE (nm:ByteArray) (n:Nat) (e kind:Int) (sm:Bool):KX:=⟨[(0,.string nm),(1,.slice (some ⟨1,0,none⟩) n 3),(4,.pointer (some ⟨105,0,none⟩)),(5,.int .i64 e),(8,.int .i64 kind),(10,.bool sm)],[[.int .i64 0,.int .i64 0,.string ⟨#[]⟩]]⟩
def ki (sm:Bool) (v:W3):Bool ⊕ (Ex×KX):=bif A10L1.bad v then .inr (.ret,qV)else .inl (sm||v.1==0)
theorem Xm (f:Bool→Ex×KX): ∀(l:List W3) (sm:Bool),jq ki f sm l=bif l.any A10L1.bad then(.ret,qV)else f (sm||(l.map (·.1)).any (· ==0))
 |[],sm=>by rw[jq];simp
 |v::l,sm=>by
  rw[jq]
  unfold ki
  rw[List.any_cons,List.map_cons,List.any_cons]
  cases h:A10L1.bad v
  ·simp only [cond_false, Bool.false_or]
   rw[←Bool.or_assoc]
   exact Xm f l _
  ·rfl
def D:KD:=⟨137,105,100,[0,1,4,5,8,9,10,11],[1],fun _=>[(4,true)],fun x ro=>match x.vs,x.cars,ro with
 |[(0,.string nm),(1,.slice (some ⟨1,0,none⟩) n 3),(4,.pointer (some ⟨105,0,none⟩)),(5,.int .i64 e),(8,.int .i64 kind),(9,.int .i64 e2),(10,.bool sm),(11,.int .i64 0)],[[.int .i64 0,.int .i64 0,.string ⟨⟨[]⟩⟩]],[(1,cs)]=>
  .qI (wo n (Int.ofNat n) cs) (.br ((qj cs).any A10L1.bad) (.out (.ret,qV)) (.out (.exit 2,stE nm n e kind (sm||((qj cs).map (·.1)).any (· ==0)))))
 |_,_,_=> .no⟩
def lp:LpK:=⟨11,11,1,D⟩
theorem kG: ∀p∈[((15:FuncId),K0)],qu Tryz.prog La p.1 p.2:=by simpa using lS
theorem qG:zw Tryz.prog La 4 lp:=by
 refine⟨by kernel_rfl,fun c base I hP hn hG hI hIL x ro ex y e=> ?_⟩
 obtain⟨vs,cars⟩:=x
 simp only[lp,D]at e ⊢
 split at e
 ·rename_i nm n e0 kind e2 sm cs
  obtain⟨g1,g2⟩:=GT.qh e
  obtain⟨_,hn2,h4,h5⟩:=kB g1
  generalize qj cs=l at h4 h5 g2
  subst h4 h5
  have key:=zP (Step:= @zA (zV base) c base I (qW Tryz.prog 11 1) 137 105 100 [(1,qq l)]) (step:=ki) (fin:=fun sm=>(.exit 2,stE nm l.length e0 kind sm)) (st:=fun sm j=>stV nm l.length e0 kind e2 sm j) (l:=l) (fun s=>by simp) (fun s a r h=>by
    unfold ki at h
    cases hb:A10L1.bad a<;>rw[hb]at h<;>cases h;simp[qV]) (fun sm j hj=>by
    have h1:=ltI hj
    have h2:=geI j
    have h3:=xE hj
    have h4:(0+((j:Int)).toNat*3)=j*3:=by simp
    have h5:=wrI j (by omega)
    have hs:rdS (qq l) (j*3+1+1)=l[j].2.2:=kS l hj
    have hv:isV (qq l) (j*3+0) (.i .i64)=true:=by
     have:=vo 0 (by omega) l hj
     unfold isV;rw[this];rfl
    have hr0:rdI (qq l) (j*3+0)=l[j].1:=zX l hj
    have hr:=round nm l.length e0 kind e2 sm j (qq l)
    dsimp only[]at hr
    simp only[h1,h2,h3,h4,h5,kt l hj,zX l hj,kc l hj,hs,hv,hr0,cond_true]at hr
    unfold ki A10L1.bad
    cases hb:A33.okv l[j].1 l[j].2.1 l[j].2.2
    ·rw [hb] at hr
     exact stepT qg qd kG (by simp) hP hn hG hI hIL hr
    ·rw [hb] at hr
     simp only[Bool.not_true,cond_false]at hr ⊢
     cases sm
     ·exact stepT qg qd kG (by simp) hP hn hG hI hIL hr
     ·exact stepT qg qd kG (by simp) hP hn hG hI hIL hr) (fun sm=>by
    have h1:=xZ l.length
    have hr:=round nm l.length e0 kind e2 sm l.length (qq l)
    dsimp only[]at hr
    simp only[h1,cond_false]at hr
    exact stepT qg qd kG (by simp) hP hn hG hI hIL hr) l.length 0 sm (by omega)
  rw[List.drop_zero,Xm]at key
  cases hb:l.any A10L1.bad with
  |true=>rw[hb]at key;rw[GT.eval,hb]at g2;cases g2;exact key
  |false=>rw[hb]at key;rw[GT.eval,hb]at g2;cases g2;exact key
 ·cases e
end A11L1
namespace A41L0
noncomputable def cfg:Cfg:=zz Tryz.prog 4 (gpT [(97,A97.spec)]) (ltT 4 [])
def stN (n:Nat) (kind i:Int):KX:=⟨[(0,.slice (some ⟨1,0,none⟩) n 3),(1,.int .i64 kind),(4,.slice none 0 0),(5,.int .i64 0),(6,.slice none 0 0),(7,.int .i64 i)],[]⟩
def stR (n:Nat) (kind i:Int) (k:Nat) (row:List Value):KX:=⟨[(0,.slice (some ⟨1,0,none⟩) n 3),(1,.int .i64 kind),(4,.slice none 0 0),(5,.int .i64 0),(6,.slice (some ⟨205,0,none⟩) k 3),(7,.int .i64 i)],[row]⟩
def qV (e:Int):KX:=⟨[(4,.slice none 0 0),(5,.int .i64 e)],[]⟩
def exN:KX:=⟨[(6,.slice none 0 0)],[]⟩
def exR (k:Nat) (row:List Value):KX:=⟨[(6,.slice (some ⟨205,0,none⟩) k 3)],[row]⟩
def kp:Ex→List Nat
 | .normal=>[0,1,4,5,6,7]
 | .exit _=>[6]
 | .ret=>[4,5]
def cr:Ex→St→List (Nat×Bool):=fun ex s=>match ex,s.T.get 6 with
 | .ret,_=>[]
 |_,some (.slice (some p) _ _)=>[(p.block,true)]
 |_,_=>[]
theorem vu (n:Nat) (kind i:Int) (cs:List Value):zW cfg [(97,A97.spec)] [] 41 0 (stK 37 205 [(1,cs)] (stN n kind i)) (zD 205 100 37 kp cr)=
 (let x1:=0+((i).toNat*3);let x2:=IntKind.wrap .i64 (i+1);let d:=Ref.zQ (rdI cs x1) (rdI cs (x1+1));(bif decide (i<(Int.ofNat n))then(bif decide (0≤i)then(bif Nat.blt (i).toNat n then(bif isL cs x1 [(.i .i64),(.i .i64),.s]then(bif(kind==3)then(bif(d.2 != 0)then(some (.ret,qV d.2))else(some (.normal,stR n kind x2 1 [.int .i64 d.1.1,.int .i64 d.1.2.1,.string d.1.2.2])))else(some (.normal,stR n kind x2 1 [.int .i64 (rdI cs x1),.int .i64 (rdI cs (x1+1)),.string (rdS cs ((x1+1)+1))])))else none)else none)else none)else(some (.exit 0,exN)))):=by kernel_rfl
theorem kh (n:Nat) (kind i:Int) (k:Nat) (row:List Value) (cs:List Value):zW cfg [(97,A97.spec)] [] 41 0 (stK 37 205 [(1,cs)] (stR n kind i k row)) (zD 205 100 37 kp cr)=
 (let x1:=0+((i).toNat*3);let x2:=IntKind.wrap .i64 (i+1);let d:=Ref.zQ (rdI cs x1) (rdI cs (x1+1));let r1:=((row.drop 0).take (k*3))++[.int .i64 d.1.1,.int .i64 d.1.2.1,.string d.1.2.2];let r2:=((row.drop 0).take (k*3))++[.int .i64 (rdI cs x1),.int .i64 (rdI cs (x1+1)),.string (rdS cs ((x1+1)+1))];(bif decide (i<(Int.ofNat n))then(bif decide (0≤i)then(bif Nat.blt (i).toNat n then(bif isL cs x1 [(.i .i64),(.i .i64),.s]then(bif(kind==3)then(bif(d.2 != 0)then(some (.ret,qV d.2))else(bif Nat.ble (k+1) 140737488355328 then(bif Nat.ble ((k+1)*32) 140737488355328 then(bif Nat.ble (0+(k*3)) (row).length then(bif r1.all qo&&true then(some (.normal,stR n kind x2 (k+1) r1))else none)else none)else none)else none))else(bif Nat.ble (k+1) 140737488355328 then(bif Nat.ble ((k+1)*32) 140737488355328 then(bif Nat.ble (0+(k*3)) (row).length then(bif r2.all qo&&true then(some (.normal,stR n kind x2 (k+1) r2))else none)else none)else none)else none))else none)else none)else none)else(bif row.all qo&&true then(some (.exit 0,exR k row))else none))):=by kernel_rfl
def conv (kind:Int) (v:W3):W3:=bif kind==3 then(Ref.zQ v.1 v.2.1).1 else v
def err (kind:Int) (v:W3):Int:=bif kind==3 then(Ref.zQ v.1 v.2.1).2 else 0
def first (kind:Int):List W3→Int
 |[]=>0
 |v::l=>bif err kind v != 0 then err kind v else first kind l
def row (kind:Int) (l:List W3) (j:Nat):List W3:=(l.take j).map (conv kind)
theorem vE (kind:Int) (l:List W3) {j:Nat} (h:j<l.length):row kind l (j+1)=row kind l j++[conv kind l[j]]:=by
 unfold row
 rw[←List.take_append_getElem h,List.map_append];rfl
theorem j7 (kind:Int) (l:List W3) {j:Nat} (h:j≤l.length):(row kind l j).length=j:=by
 unfold row
 rw[List.length_map,List.length_take];omega
theorem da (a b:List W3):qq (a++b)=qq a++qq b:=by unfold qq;exact List.flatMap_append
def st (n:Nat) (kind:Int) (l:List W3) (j:Nat):KX:=bif Nat.beq j 0 then stN n kind j else stR n kind j j (qq (row kind l j))
def fin (n:Nat) (kind:Int) (l:List W3):KX:=bif Nat.beq n 0 then exN else exR n (qq (l.map (conv kind)))
def ki (kind:Int) (u:Unit) (v:W3):Unit ⊕ (Ex×KX):=bif err kind v != 0 then .inr (.ret,qV (err kind v))else .inl ()
theorem KM (kind:Int) (f:Ex×KX): ∀l:List W3,jq (ki kind) (fun _=>f) () l=bif first kind l != 0 then(.ret,qV (first kind l))else f
 |[]=>rfl
 |v::l=>by
  rw[jq,first]
  unfold ki
  cases h:err kind v != 0
  ·exact KM kind f l
  ·simp only[cond_true,h]
def gz (kind:Int) (l:List W3):List Value:=qq (l.map (conv kind))
def D:KD:=⟨37,205,100,[0,1,4,5,6,7],[1],fun _=>[],fun x ro=>match x.vs,x.cars,ro with
 |[(0,.slice (some ⟨1,0,none⟩) n 3),(1,.int .i64 kind),(4,.slice none 0 0),(5,.int .i64 0),(6,.slice none 0 0),(7,.int .i64 0)],[],[(1,cs)]=>
  .qI (wo n (Int.ofNat n) cs) (.br (first kind (qj cs) != 0) (.out (.ret,qV (first kind (qj cs)))) (.br (Nat.beq n 0) (.out (.exit 0,exN)) (.out (.exit 0,exR n (gz kind (qj cs))))))
 |_,_,_=> .no⟩
def lp:LpK:=⟨41,3,0,D⟩
theorem kG: ∀p∈[((97:FuncId),A97.spec)],qu Tryz.prog La p.1 p.2:=by simpa using A97.qf
theorem qG:zw Tryz.prog La 4 lp:=by
 refine⟨by kernel_rfl,fun c base I hP hn hG hI hIL x ro ex y e=> ?_⟩
 obtain⟨vs,cars⟩:=x
 simp only[lp,D]at e ⊢
 split at e
 ·rename_i n kind cs
  obtain⟨g1,g2⟩:=GT.qh e
  obtain⟨_,hn2,h4,h5⟩:=kB g1
  generalize qj cs=l at h4 h5 g2
  subst h4 h5
  have key:=zP (Step:= @zA (zV base) c base I (qW Tryz.prog 41 0) 37 205 100 [(1,qq l)]) (step:=ki kind) (fin:=fun _=>(.exit 0,fin l.length kind l)) (st:=fun _ j=>st l.length kind l j) (l:=l) (fun s=>by simp) (fun s a r h=>by
    unfold ki at h
    cases hb:err kind a != 0<;>rw[hb]at h<;>cases h;simp) (fun _ j hj=>by
    have h1:=ltI hj
    have h2:=geI j
    have h3:=xE hj
    have h4:(0+((j:Int)).toNat*3)=j*3:=by simp
    have h5:=wrI j (by omega)
    have hs:rdS (qq l) (j*3+1+1)=l[j].2.2:=kS l hj
    have hc: ∀v:W3,qq [v]=[.int .i64 v.1,.int .i64 v.2.1,.string v.2.2]:=fun v=>rfl
    cases j with
    |zero=>
     have hr:=vu l.length kind ((0:Nat):Int) (qq l)
     dsimp only[]at hr
     simp only[h1,h2,h3,h4,h5,kt l hj,zX l hj,kc l hj,hs,cond_true]at hr
     have e1:st l.length kind l 0=stN l.length kind ((0:Nat):Int):=rfl
     have e2:st l.length kind l (0+1)=stR l.length kind ((0+1:Nat):Int) 1 (qq [conv kind l[0]]):=by
      show stR l.length kind ((0+1:Nat):Int) (0+1) (qq (row kind l (0+1)))=_
      rw[vE kind l hj];rfl
     rw[e1,e2]
     unfold ki err conv
     cases hk:kind==3
     ·rw [hk] at hr
      exact stepT qg qd kG (by simp) hP hn hG hI hIL hr
     ·rw [hk] at hr
      simp only[cond_true]at hr ⊢
      cases hd:(Ref.zQ l[0].1 l[0].2.1).2 != 0
      ·rw [hd] at hr
       exact stepT qg qd kG (by simp) hP hn hG hI hIL hr
      ·rw [hd] at hr
       exact stepT qg qd kG (by simp) hP hn hG hI hIL hr
    |succ j=>
     have hk:=j7 kind l (Nat.le_of_lt hj)
     have hr:=kh l.length kind ((j+1:Nat):Int) (j+1) (qq (row kind l (j+1))) (qq l)
     dsimp only[]at hr
     have q1: ∀v:W3,((qq (row kind l (j+1))).drop 0).take ((j+1)*3)++[.int .i64 v.1,.int .i64 v.2.1,.string v.2.2]=qq (row kind l (j+1)++[v]):=fun v=>by
      rw[List.drop_zero,List.take_of_length_le (by rw[zh,hk];exact Nat.le_refl _),da];rfl
     have q2:Nat.ble (j+1+1) 140737488355328=true:=by rw[Nat.ble_eq];omega
     have q3:Nat.ble ((j+1+1)*32) 140737488355328=true:=by rw[Nat.ble_eq];omega
     have q4:Nat.ble (0+(j+1)*3) (qq (row kind l (j+1))).length=true:=by rw[Nat.ble_eq,zh,hk];omega
     simp only[h1,h2,h3,h4,h5,kt l hj,zX l hj,kc l hj,hs,q1,q2,q3,q4,qZ,Bool.and_true,cond_true]at hr
     have e1:st l.length kind l (j+1)=stR l.length kind ((j+1:Nat):Int) (j+1) (qq (row kind l (j+1))):=rfl
     have e2:st l.length kind l (j+1+1)=stR l.length kind ((j+1+1:Nat):Int) (j+1+1) (qq (row kind l (j+1)++[conv kind l[j+1]])):=by
      show stR l.length kind ((j+1+1:Nat):Int) (j+1+1) (qq (row kind l (j+1+1)))=_
      rw[vE kind l hj]
     rw[e1,e2]
     unfold ki err
     have ec:conv kind l[j+1]=bif kind==3 then(Ref.zQ l[j+1].1 l[j+1].2.1).1 else l[j+1]:=rfl
     rw[ec]
     cases hk:kind==3
     ·rw [hk] at hr
      exact stepT qg qd kG (by simp) hP hn hG hI hIL (hr.trans (by rw[cond_false,cond_false]))
     ·rw [hk] at hr
      simp only[cond_true]at hr ⊢
      cases hd:(Ref.zQ l[j+1].1 l[j+1].2.1).2 != 0
      ·rw [hd] at hr
       exact stepT qg qd kG (by simp) hP hn hG hI hIL hr
      ·rw [hd] at hr
       exact stepT qg qd kG (by simp) hP hn hG hI hIL hr) (fun _=>by
    have h1:=xZ l.length
    show @zA (zV base) c base I (qW Tryz.prog 41 0) 37 205 100 [(1,qq l)] (st l.length kind l l.length) (.exit 0) (fin l.length kind l)
    cases hl:l.length with
    |zero=>
     have hr:=vu l.length kind (l.length:Int) (qq l)
     dsimp only[]at hr
     simp only[h1,cond_false]at hr
     rw[hl]at hr
     exact stepT qg qd kG (by simp) hP hn hG hI hIL hr
    |succ j=>
     have hr:=kh l.length kind (l.length:Int) l.length (qq (row kind l l.length)) (qq l)
     dsimp only[]at hr
     simp only[h1,cond_false,qZ,Bool.and_true,cond_true]at hr
     have e3:row kind l l.length=l.map (conv kind):=by unfold row;rw[List.take_length]
     rw[hl]at hr e3
     have e1:st (j+1) kind l (j+1)=stR (j+1) kind ((j+1:Nat):Int) (j+1) (qq (row kind l (j+1))):=rfl
     have e2:fin (j+1) kind l=exR (j+1) (qq (l.map (conv kind))):=rfl
     rw[e1,e2,←e3]
     exact stepT qg qd kG (by simp) hP hn hG hI hIL hr) l.length 0 () (by omega)
  rw[List.drop_zero,KM]at key
  cases hf:first kind l != 0 with
  |true=>rw[GT.eval,hf]at g2;cases g2;rw[hf]at key;exact key
  |false=>
   rw[hf]at key
   rw[GT.eval,hf]at g2
   simp only[cond_false]at g2 key
   cases hb:Nat.beq l.length 0 with
   |true=>rw[GT.eval,hb]at g2;cases g2;unfold fin at key;rw[hb]at key;exact key
   |false=>rw[GT.eval,hb]at g2;cases g2;unfold fin at key;rw[hb]at key;exact key
 ·cases e
end A41L0
namespace A11
def T (s0:ByteArray) (m1:Nat) (c1:List Value):GT Value:=let x3:=(rdI c1 0,rdI c1 1,rdS c1 2);let x5:=A11L0.nW (qj c1);let x1:=A41L0.gz (Ref.wG s0 (List.map kX (List.take (m1*1) (List.drop 0 x5)))).fst (qj c1);let x2:=A41L0.first (Ref.wG s0 (((x5.drop 0).take (m1*1)).map kX)).1 (qj c1);let x4:=A41L0.gz (Ref.wG s0 (((x5.drop 0).take (m1*1)).map kX)).1 (qj c1);let x6:=A46.guard s0 (qj (List.take (m1*3) (List.drop 0 c1)));let x7:=(rdI c1 3,rdI c1 4,rdS c1 5);let o1:GT Value:=(.br (Nat.blt 0 m1) (.br (isL c1 0 [(.i .i64),(.i .i64),.s]) (.out (.tuple #[.agg #[.int .i64 (rdI c1 0),.int .i64 (rdI c1 1),.string (rdS c1 2)],.int .i64 0])) .no) .no);let o2:GT Value:=(.out (.tuple #[.agg #[.int .i64 0,.int .i64 0,.string ⟨#[]⟩],.int .i64 0]));let o3:GT Value:=(.br (true&&([((1:Nat),c1)]).all fun p=>p.snd.all qo) (.br (decide ((Int.ofNat m1)=(Int.ofNat m1))&&((kR c1)&&(Nat.beq c1.length (m1*3)&&Nat.blt m1 4398046511104))) (.br (x2 != 0) (.br (x2 != 0) (.out (.tuple #[.agg #[.int .i64 0,.int .i64 0,.string ⟨#[]⟩],.int .i64 x2])) .no) (.br (Nat.beq m1 0) .no (.br (([(true,AA.v (.string s0)),((fun(cs:List Value)=>((0+m1*3).ble cs.length&&(List.take (m1*3) (List.drop 0 cs)).all qo,AA.sl m1 3 (List.take (m1*3) (List.drop 0 cs)))) x1)]).all fun x=>x.fst) (.br ((decide ((Int.ofNat m1)=(Int.ofNat m1))&&((kR (List.take (m1*3) (List.drop 0 x1)))&&(Nat.beq ((x4.drop 0).take (m1*3)).length (m1*3)&&Nat.blt m1 4398046511104)))&&Nat.blt 0 m1) (.out (.tuple #[.agg #[.int .i64 (Ref.wF s0 (qj (List.take (m1*3) (List.drop 0 x1)))).1,.int .i64 (Ref.wF s0 (qj (List.take (m1*3) (List.drop 0 x1)))).2.1,.string (Ref.wF s0 (qj (List.take (m1*3) (List.drop 0 x1)))).2.2],.int .i64 0])) .no) .no))) .no) .no);let o4:GT Value:=(.br (Nat.blt 0 m1) (.br (isL c1 0 [(.i .i64),(.i .i64),.s]) (.out (.tuple #[.agg #[.int .i64 (Ref.kC s0 x3).1.1,.int .i64 (Ref.kC s0 x3).1.2.1,.string (Ref.kC s0 x3).1.2.2],.int .i64 (Ref.kC s0 x3).2])) .no) .no);let o5:GT Value:=(.br (eqU s0.data.toList [99,111,97,108,101,115,99,101]) o3 (.br (eqU s0.data.toList [103,114,101,97,116,101,115,116]) o3 (.br (eqU s0.data.toList [108,101,97,115,116]) o3 (.br (eqU s0.data.toList [97,98,115]) o4 (.br (eqU s0.data.toList [99,101,105,108]) o4 (.br (eqU s0.data.toList [102,108,111,111,114]) o4 (.br (eqU s0.data.toList [114,111,117,110,100]) o4 (.br (eqU s0.data.toList [115,105,103,110]) o4 (.br (eqU s0.data.toList [116,111,100,101,99]) o4 (.br (eqU s0.data.toList [116,111,105,110,116]) o4 (.br (eqU s0.data.toList [116,111,116,101,120,116]) (.br (Nat.blt 0 m1) (.br (isV c1 0 (.i .i64)) (.br ((rdI c1 0)==4) o1 (.br (Nat.blt 0 m1) (.br (isL c1 0 [(.i .i64),(.i .i64),.s]) (.br (inR (rdI c1 1)) (.br (decide ((Int.ofNat ((Fit.j8 (rdI c1 0) (rdI c1 1) (rdS c1 2)).data.toList).length)>1024)) (.out (.tuple #[.agg #[.int .i64 0,.int .i64 0,.string ⟨#[]⟩],.int .i64 20])) (.out (.tuple #[.agg #[.int .i64 4,.int .i64 0,.string (Fit.j8 (rdI c1 0) (rdI c1 1) (rdS c1 2))],.int .i64 0]))) .no) .no) .no)) .no) .no) (.br (([(true,AA.v (.string s0)),((fun(cs:List Value)=>((0+m1*3).ble cs.length&&(List.take (m1*3) (List.drop 0 cs)).all qo,AA.sl m1 3 (List.take (m1*3) (List.drop 0 cs)))) c1)]).all fun x=>x.fst) (.br ((decide ((Int.ofNat m1)=(Int.ofNat m1))&&((kR (List.take (m1*3) (List.drop 0 c1)))&&(Nat.beq ((c1.drop 0).take (m1*3)).length (m1*3)&&Nat.blt m1 4398046511104)))&&x6) (.out (.tuple #[.agg #[.int .i64 (Ref.j9 s0 (qj (List.take (m1*3) (List.drop 0 c1)))).1.1,.int .i64 (Ref.j9 s0 (qj (List.take (m1*3) (List.drop 0 c1)))).1.2.1,.string (Ref.j9 s0 (qj (List.take (m1*3) (List.drop 0 c1)))).1.2.2],.int .i64 (Ref.j9 s0 (qj (List.take (m1*3) (List.drop 0 c1)))).2])) .no) .no))))))))))));(.br (true&&([((1:Nat),c1)]).all fun p=>p.snd.all qo) (.br (decide ((Int.ofNat m1)=(Int.ofNat m1))&&((kR c1)&&(Nat.beq c1.length (m1*3)&&Nat.blt m1 4398046511104))) (.br (Nat.beq m1 0) (.out (.tuple #[.agg #[.int .i64 0,.int .i64 0,.string ⟨#[]⟩],.int .i64 100])) (.br (([(true,AA.v (.string s0)),((fun(cs:List Value)=>((0+m1*1).ble cs.length&&(List.take (m1*1) (List.drop 0 cs)).all qo,AA.sl m1 1 (List.take (m1*1) (List.drop 0 cs)))) x5)]).all fun x=>x.fst) (.br (vO m1 (Int.ofNat m1) ((x5.drop 0).take (m1*1))) (.br ((Ref.wG s0 (((x5.drop 0).take (m1*1)).map kX)).2 != 0) (.out (.tuple #[.agg #[.int .i64 0,.int .i64 0,.string ⟨#[]⟩],.int .i64 (Ref.wG s0 (((x5.drop 0).take (m1*1)).map kX)).2])) (.br (true&&([((1:Nat),c1)]).all fun p=>p.snd.all qo) (.br (decide ((Int.ofNat m1)=(Int.ofNat m1))&&((kR c1)&&(Nat.beq c1.length (m1*3)&&Nat.blt m1 4398046511104))) (.br ((qj c1).any A10L1.bad) (.out (.tuple #[.agg #[.int .i64 0,.int .i64 0,.string ⟨#[]⟩],.int .i64 22])) (.br (eqU s0.data.toList [110,117,108,108,105,102]) (.br (Nat.blt 0 m1) (.br (isL c1 0 [(.i .i64),(.i .i64),.s]) (.br (Nat.blt 1 m1) (.br (isL c1 3 [(.i .i64),(.i .i64),.s]) (.br ((A40.eqK x3 x7) != 1) o1 (.br ((A40.eqN x3 x7) != 0) o2 o1)) .no) .no) .no) .no) (.br (false||((List.map (fun(x:W3)=>x.fst) (qj c1)).any fun x=>x==0)) (.br (!eqU s0.data.toList [99,111,97,108,101,115,99,101]) o2 o5) o5))) .no) .no)) .no) .no)) .no) .no)
theorem run (s0:ByteArray) (m1:Nat) (c1:List Value):runK 4 [(15,K0),(38,A38.spec),(40,A40.spec),(42,A42.spec),(43,A43.spec),(45,XW),(46,A46.spec),(97,A97.spec)] [A11L0.lp,A11L1.lp,A41L0.lp] 11 [.v (.string s0),.sl m1 3 c1]=(T s0 m1 c1).eval:=by kernel_rfl
open Fit
theorem VC: ∀l:List W3,A41L0.first 3 l=(Ref.kO l).2
 |[]=>rfl
 |v::l=>by
  rw[A41L0.first,Ref.kO,VC l]
  show (bif(Ref.zQ v.1 v.2.1).2 != 0 then(Ref.zQ v.1 v.2.1).2 else(Ref.kO l).2)=_
  by_cases h:(Ref.zQ v.1 v.2.1).2=0
  ·rw [if_neg (by simpa using h), h]
   by_cases h2:(Ref.kO l).2=0
   ·rw[if_neg (by simpa using h2),h2];rfl
   ·rw[if_pos h2];rfl
  ·rw [if_pos h]
   have:((Ref.zQ v.1 v.2.1).2 != 0)=true:=bne_iff_ne.2 h
   rw[this];rfl
theorem YV: ∀l:List W3,(Ref.kO l).2=0→l.map (A41L0.conv 3)=(Ref.kO l).1
 |[],_=>rfl
 |v::l,h=>by
  rw[Ref.kO]at h ⊢
  by_cases h1:(Ref.zQ v.1 v.2.1).2=0
  ·rw [if_neg (by simpa using h1)] at h ⊢
   by_cases h2:(Ref.kO l).2=0
   ·rw [if_neg (by simpa using h2)] at h ⊢
    rw[List.map_cons,YV l h2];rfl
   ·rw[if_pos h2]at h;exact absurd h h2
  ·rw[if_pos h1]at h;exact absurd h h1
theorem Kg {k:Int} (h:(k==3)=false): ∀l:List W3,A41L0.first k l=0
 |[]=>rfl
 |v::l=>by
  rw[A41L0.first,Kg h l]
  unfold A41L0.err
  rw[h];rfl
theorem cI {k:Int} (h:(k==3)=false) (l:List W3):l.map (A41L0.conv k)=l:=by
 have:A41L0.conv k=id:=by
  funext v
  unfold A41L0.conv
  rw[h];rfl
 rw[this,List.map_id]
theorem jc (s:ByteArray) (k:Int) (l:List W3):(bif A41L0.first k l != 0 then(v0,A41L0.first k l)else(Ref.wF s (l.map (A41L0.conv k)),0))=Ref.yr s k l:=by
 unfold Ref.yr
 cases h:k==3
 ·rw[Kg h,cI h];rfl
 ·obtain rfl : k = 3 := eq_of_beq h
  rw[VC]
  cases h2:(Ref.kO l).2 != 0
  ·rw[YV l (bne_eq_false_iff_eq.1 h2)];rfl
  ·rfl
theorem dZ {x:Option Value} (s:ByteArray) (k:Int) (l:List W3) (h:x=some (ve (bif A41L0.first k l != 0 then(v0,A41L0.first k l)else(Ref.wF s (l.map (A41L0.conv k)),0)))):x=some (ve (Ref.yr s k l)):=by rw[h,jc]
theorem xl {s:ByteArray} {l:List W3} (h:(Ref.wG s (l.map (·.1))).2=0):0<l.length:=by
 rw[Ref.QP]at h
 exact A10.xl h
theorem Kw {s:ByteArray} {l:List W3} (hk:(Ref.wG s (l.map (·.1))).2=0) (hb:l.any A10L1.bad=false) (h: ∀t∈([[110,117,108,108,105,102],[99,111,97,108,101,115,99,101],[103,114,101,97,116,101,115,116],[108,101,97,115,116],[116,111,116,101,120,116],[97,98,115],[99,101,105,108],[102,108,111,111,114],[114,111,117,110,100],[115,105,103,110],[116,111,100,101,99],[116,111,105,110,116]]:List (List UInt8)),eqU s.data.toList t=false):A46.guard s l=true:=by
 unfold A46.guard
 have h1:l.all A37L0.jk=true:=List.all_eq_true.2 fun v hv=>A10.Jy (XU hb v hv)
 have h2:Nat.blt 0 l.length=true:=by rw[Nat.blt_eq];exact xl hk
 rw[h1,h2]
 rw[Ref.QP]at hk
 simp only[List.mem_cons,List.not_mem_nil,or_false,forall_eq_or_imp,forall_eq]at h
 obtain⟨p1,p2,p3,p4,p5,p6,p7,p8,p9,p10,p11,p12⟩:=h
 cases q1:eqU s.data.toList [99,111,110,99,97,116]
 rotate_left
 ·rfl
 cases q2:eqU s.data.toList [108,101,110,103,116,104]
 rotate_left
 ·rfl
 cases q3:eqU s.data.toList [108,111,119,101,114]
 rotate_left
 ·rfl
 cases q4:eqU s.data.toList [117,112,112,101,114]
 rotate_left
 ·rfl
 cases q5:eqU s.data.toList [116,114,105,109]
 rotate_left
 ·rfl
 unfold kA at hk
 rw[p1,p2,p3,p4,p5,p6,p7,p8,p9,p10,p11,p12,q1,q2,q3,q4,q5]at hk
 simp only[cond_false]at hk
 cases hb:(l.map (·.1)).any A14L0.bad
 rotate_left
 ·rw[hb]at hk;cases hk
 rw[hb]at hk
 simp only[cond_false]at hk
 cases q6:eqU s.data.toList [115,117,98,115,116,114]
 ·rw[q6]at hk;cases hk
 ·rw [q6] at hk
  obtain⟨a,b,c,e,_⟩:=XY (rP0 hk).1
  have:=congrArg List.length e
  rw[List.length_map]at this
  have:Nat.blt 2 l.length=true:=by rw[this];rfl
  rw[this];rfl
set_option maxHeartbeats 0 in
theorem qL (s:ByteArray) (l:List W3) (hl:l.length<4398046511104) (hin:l.all (fun v=>inR v.2.1)=true):(T s l.length (qq l)).eval=some (ve (Ref.yO s l)):=by
 cases hb0:Nat.beq l.length 0
 rotate_left
 ·have : l = [] := List.length_eq_zero_iff.1 (Nat.eq_of_beq_eq_true hb0)
  subst this
  unfold Ref.yO
  rw[List.map_nil,Ref.QP,A10.yj];rfl
 have h0:0<l.length:=by
  cases l with
  |nil=>cases hb0
  |cons v l=>simp
 have g:Nat.blt l.length 4398046511104=true:=by rw[Nat.blt_eq];exact hl
 have gs:=qZ l
 have g2:=xM (l:=l.map (·.1)) (by rw[List.length_map];omega)
 rw[List.length_map]at g2
 have a1:(true&&[((1:Nat),qq l)].all fun p=>p.2.all qo)=true:=by simp[qZ]
 have a3:((ints .i64 (l.map (·.1))).drop 0).take (l.length*1)=ints .i64 (l.map (·.1)):=by rw[List.drop_zero,Nat.mul_one];exact List.take_of_length_le (by rw[zH,List.length_map];exact Nat.le_refl _)
 have a4:((qq l).drop 0).take (l.length*3)=qq l:=by rw[List.drop_zero];exact List.take_of_length_le (by rw[zh];exact Nat.le_refl _)
 have a7: ∀k:Int,((qq (l.map (A41L0.conv k))).drop 0).take (l.length*3)=qq (l.map (A41L0.conv k)):=fun k=>by rw[List.drop_zero];exact List.take_of_length_le (by rw[zh,List.length_map];exact Nat.le_refl _)
 have a5:(0+l.length*1).ble l.length=true:=by rw[Nat.ble_eq];omega
 have a6:(0+l.length*3).ble (l.length*3)=true:=by rw[Nat.ble_eq];omega
 have r0:A11L0.nW l=ints .i64 (l.map (·.1)):=rfl
 have r1: ∀k,A41L0.gz k l=qq (l.map (A41L0.conv k)):=fun _=>rfl
 have b0:Nat.blt 0 l.length=true:=by rw[Nat.blt_eq];exact h0
 have q0:rdI (qq l) 0=(l.headD v0).1:=by have:=zX l h0;rw[A37.at0 l h0]at this;exact this
 have q1:rdI (qq l) 1=(l.headD v0).2.1:=by have:=kc l h0;rw[A37.at0 l h0]at this;exact this
 have q2:rdS (qq l) 2=(l.headD v0).2.2:=by have:=kS l h0;rw[A37.at0 l h0]at this;exact this
 have q3:isL (qq l) 0 [.i .i64,.i .i64,.s]=true:=kt l h0
 have q4:isV (qq l) 0 (.i .i64)=true:=A11L0.cG l h0
 have q5:inR (l.headD v0).2.1=true:=List.all_eq_true.1 hin _ (A37.head_mem l h0)
 unfold T
 dsimp only[]at a1 ⊢
 simp only[hb0,b0,q0,q1,q2,q3,q4,q5,r0,r1,a1,a3,a4,a5,a6,a7,g,gs,g2,vx,zh,zH,List.length_map,Nat.beq_refl,decide_true,Bool.and_self,zn,jE,qY,qZ,GT.eval,Bool.true_and,Bool.and_true,Bool.false_or,cond_true,cond_false,List.all_cons,List.all_nil]
 unfold Ref.yO
 generalize hK:(Ref.wG s (l.map (·.1))).1=K
 cases hk:(Ref.wG s (l.map (·.1))).2 != 0
 rotate_left
 ·rfl
 have hk:=bne_eq_false_iff_eq.1 hk
 simp only[cond_false]
 cases fb:l.any A10L1.bad
 rotate_left
 ·rfl
 simp only[cond_false]
 cases n2:eqU s.data.toList [110,117,108,108,105,102]
 rotate_left
 ·obtain rfl := zO n2
  have k1:1<l.length:=A10.ZE (by rw[←Ref.QP];exact hk)
  have t0:rdI (qq l) 3=(l.getD 1 v0).1:=by have:=zX l k1;rw[A37.atj l 1 k1]at this;exact this
  have t1:rdI (qq l) 4=(l.getD 1 v0).2.1:=by have:=kc l k1;rw[A37.atj l 1 k1]at this;exact this
  have t2:rdS (qq l) 5=(l.getD 1 v0).2.2:=by have:=kS l k1;rw[A37.atj l 1 k1]at this;exact this
  have t3:isL (qq l) 3 [.i .i64,.i .i64,.s]=true:=kt l k1
  have b1:Nat.blt 1 l.length=true:=by rw[Nat.blt_eq];exact k1
  simp only[t0,t1,t2,t3,b1,cond_true]
  generalize l.headD v0=v
  generalize l.getD 1 v0=u
  unfold A40.eqK A40.eqN Ref.same A35.tru
  dsimp only
  cases v.1==0||u.1==0
  ·cases (Ref.zx v.1 v.2.1 v.2.2 u.1 u.2.1 u.2.2).2&&(Ref.zx v.1 v.2.1 v.2.2 u.1 u.2.1 u.2.2).1==0<;>rfl
  ·rfl
 simp only[cond_false]
 cases n1:eqU s.data.toList [99,111,97,108,101,115,99,101]
 rotate_left
 ·simp only [Bool.not_true, Bool.and_false, cond_false, cond_true]
  refine dZ s K l ?_
  cases (l.map (·.1)).any (· ==0)<;>cases A41L0.first K l != 0<;>rfl
 simp only[Bool.not_false,Bool.and_true,cond_true,cond_false]
 cases hz:(l.map (·.1)).any (· ==0)
 rotate_left
 ·rfl
 simp only[cond_false]
 cases n3:eqU s.data.toList [103,114,101,97,116,101,115,116]
 rotate_left
 ·simp only [cond_true]
  refine dZ s K l ?_
  cases A41L0.first K l != 0<;>rfl
 cases n4:eqU s.data.toList [108,101,97,115,116]
 rotate_left
 ·simp only [cond_true, cond_false]
  refine dZ s K l ?_
  cases A41L0.first K l != 0<;>rfl
 cases KG:eqU s.data.toList [97,98,115]
 rotate_left
 ·rfl
 cases Qv:eqU s.data.toList [99,101,105,108]
 rotate_left
 ·rfl
 cases xL:eqU s.data.toList [102,108,111,111,114]
 rotate_left
 ·rfl
 cases xR:eqU s.data.toList [114,111,117,110,100]
 rotate_left
 ·rfl
 cases Qq:eqU s.data.toList [115,105,103,110]
 rotate_left
 ·rfl
 cases xI:eqU s.data.toList [116,111,100,101,99]
 rotate_left
 ·rfl
 cases xH:eqU s.data.toList [116,111,105,110,116]
 rotate_left
 ·rfl
 cases n5:eqU s.data.toList [116,111,116,101,120,116]
 rotate_left
 ·cases (l.headD v0).1 == 4
  ·exact A37.vC _
  ·rfl
 rw[Kw hk fb (by
  simp only[List.mem_cons,List.not_mem_nil,or_false,forall_eq_or_imp,forall_eq]
  exact⟨n2,n1,n3,n4,n5,KG,Qv,xL,xR,Qq,xI,xH⟩)]
 rfl
def spec:Spec:=fun aa=>match aa with
 |[.v (.string s),.sl n 3 cs]=>some (.qI (wo n (Int.ofNat n) cs&&(qj cs).all (fun v=>inR v.2.1)) (.out (ve (Ref.yO s (qj cs)))))
 |_=>none
theorem qf:qu Tryz.prog La 11 spec:=⟨qE (by kernel_rfl),fun aa t v h e=>by
 unfold spec at h
 split at h
 ·rename_i s n cs
  cases h
  obtain⟨g1,g2⟩:=GT.qh e
  cases g2
  simp only[Bool.and_eq_true]at g1
  obtain⟨_,hn,h4,h5⟩:=kB g1.1
  have hin:=g1.2
  generalize qj cs=l at h4 h5 hin
  subst h4 h5
  exact⟨rfl,qR qx qg qd (by simpa using⟨lS,A38.qf,A40.qf,A42.qf,A43.qf,sr,A46.qf,A97.qf⟩) (by simpa using⟨A11L0.qG,A11L1.qG,A41L0.qG⟩) (by decide) (by simp) rfl ((run _ _ _).trans (qL _ _ hn hin))⟩
 ·cases h⟩
end A11
namespace A11n
theorem run (s0:ByteArray):runK 4 [(38,A38.spec)] [] 11 [.v (.string s0),.nil]=some (ve (v0,100)):=by kernel_rfl
def spec:Spec:=fun aa=>match aa with
 |[.v (.string s),.nil]=>some (.out (ve (v0,100)))
 |_=>none
theorem qf:qu Tryz.prog La 11 spec:=⟨qE (by kernel_rfl),fun aa t v h e=>by
 unfold spec at h
 split at h
 ·rename_i s
  cases h;cases e
  exact⟨rfl,qR qx qg qd (by simpa using A38.qf) (by simp) (by decide) (by simp) rfl (run s)⟩
 ·cases h⟩
end A11n
namespace A11m
def spec:Spec:=fun aa=>match aa with
 |[.v (.string s),.sl n 3 cs]=>some (.qI (wo n (Int.ofNat n) cs&&(qj cs).all (fun v=>inR v.2.1)) (.out (ve (Fit.zR s (qj cs)))))
 |[.v (.string s),.nil]=>some (.out (ve (v0,100)))
 |_=>none
theorem qf:qu Tryz.prog La 11 spec:=⟨qE (by kernel_rfl),fun aa t v e1 e2=>by
 unfold spec at e1
 split at e1
 ·rename_i s n cs
  cases e1
  obtain⟨g1,g2⟩:=GT.qh e2
  cases g2
  have g:=g1
  rw[Bool.and_eq_true]at g
  refine A11.qf.2 [.v (.string s),.sl n 3 cs] _ _ rfl ?_
  rw[←Ref.fC s (qj cs) (fun v hv=>List.all_eq_true.1 g.2 v hv)]
  show (bif _ then _ else _)=_
  rw[g1];rfl
 ·rename_i s
  cases e1
  exact A11n.qf.2 [.v (.string s),.nil] _ _ rfl e2
 ·cases e1⟩
end A11m
namespace A39
def T (k0 n0:Int) (s0:ByteArray):GT Value:=(.br (k0 != 1) (.out (.bool false)) (.br (n0 != 0) (.out (.bool true)) (.out (.bool false))))
theorem run (k0 n0:Int) (s0:ByteArray):runK 4 [] [] 39 [.v (.agg #[.int .i64 k0,.int .i64 n0,.string s0])]=(T k0 n0 s0).eval:=by kernel_rfl
theorem qL (k n:Int) (s:ByteArray):(T k n s).eval=some (.bool (A35.tru k n)):=by
 unfold A35.tru
 cases h:k==1<;>cases h2:n==0<;>simp[T,GT.eval,bne,h,h2]
def spec:Spec:=fun aa=>match aa with
 |[a]=>(vOf a).bind fun x=>some (.out (.bool (A35.tru x.1 x.2.1)))
 |_=>none
theorem qf:qu Tryz.prog La 39 spec:=⟨qE (by kernel_rfl),fun aa t v h e=>by
 unfold spec at h
 split at h
 ·rename_i a
  obtain⟨⟨k0,n0,s0⟩,h1,h⟩:=qi h
  cases h;cases e
  rw[qN h1]
  exact⟨rfl,qR (l:=[]) (L:=[]) (n0:=4) (k:=12) qx qg qd (by simp) (by simp) (by decide) (by simp) rfl ((run k0 n0 s0).trans (qL _ _ _))⟩
 ·cases h⟩
end A39
namespace A17L0N
noncomputable def cfg:Cfg:=zz Tryz.prog 4 (gpT [(15,K0),(113,A113.spec),(112,A112.spec),(114,yD fun t x y=>ve (Ari.wK t x y)),(11,A11m.spec),(97,sp1 fun x=>ve (A75.kl x.1 x.2.1)),(39,A39.spec)]) (ltT 4 [])
def stA (n nr na:Nat) (i:Int):KX:=⟨[(0,.slice (some ⟨0,0,none⟩) n 6),(1,.slice (some ⟨1,0,none⟩) nr 3),(2,.slice (some ⟨2,0,none⟩) na 3),(6,.pointer (some ⟨5,0,none⟩)),(7,.int .i64 0),(8,.slice none 0 0),(9,.int .i64 i)],[[.int .i64 0,.int .i64 0,.string ⟨#[]⟩]]⟩
def kp:Ex→List Nat
 | .normal=>[0,1,2,6,7,8,9]
 | .exit _=>[6,8]
 | .ret=>[6,7]
def cr:Ex→St→List (Nat×Bool):=fun e s=>match s.T.get 6 with
 |some (.pointer (some r))=>(match e with
  | .ret=>[(r.block,true)]
  |_=>match s.T.get 8 with
   |some (.slice (some q) _ _)=>[(r.block,true),(q.block,true)]
   |_=>[(r.block,true)])
 |_=>[]
theorem round (n nr na:Nat) (i:Int) (cs:List Value) (rs:List Value) (as_:List Value):zW cfg [(15,K0),(113,A113.spec),(112,A112.spec),(114,yD fun t x y=>ve (Ari.wK t x y)),(11,A11m.spec),(97,sp1 fun x=>ve (A75.kl x.1 x.2.1)),(39,A39.spec)] [] 17 0 (stK 47 5 [(0,cs),(1,rs),(2,as_)] (stA n nr na i)) (zD 5 100 47 kp cr)=(let x2:=0+(i.toNat*6);let x1:=rdI cs (x2+1);let x3:=0+(x1.toNat*3);let x4:=IntKind.wrap .i64 (0 - x1);let x5:=IntKind.wrap .i64 (i+1);let x6:=rdS cs (((((x2+1)+1)+1)+1)+1);let x7:=rdI cs ((((x2+1)+1)+1)+1);let x8:=rdI cs (((x2+1)+1)+1);let x9:=rdS as_ ((x3+1)+1);let x10:=rdS rs ((x3+1)+1);let o1:Option (Ex×KX):=(some (.ret,⟨[(6,.pointer (some ⟨5,0,none⟩)),(7,.int .i64 22)],[[.int .i64 0,.int .i64 0,.string ⟨#[]⟩]]⟩));(bif decide (i<(Int.ofNat n))then(bif decide (0≤i)then(bif Nat.blt i.toNat n then(bif isL cs x2 [(.i .i64),(.i .i64),.s,(.i .i64),(.i .i64),.s]then(bif((rdI cs x2)==1)then(bif(!(A33.okv x8 x7 x6))then o1 else(some (.normal,⟨[(0,.slice (some ⟨0,0,none⟩) n 6),(1,.slice (some ⟨1,0,none⟩) nr 3),(2,.slice (some ⟨2,0,none⟩) na 3),(6,.pointer (some ⟨5,0,none⟩)),(7,.int .i64 0),(8,.slice (some ⟨6,0,none⟩) 1 3),(9,.int .i64 x5)],[[.int .i64 0,.int .i64 0,.string ⟨#[]⟩],[.int .i64 x8,.int .i64 x7,.string x6]]⟩)))else(bif((rdI cs x2)==2)then(bif decide (0≤x1)then(bif Nat.blt x1.toNat nr then(bif isL rs x3 [(.i .i64),(.i .i64),.s]then(bif(!(A33.okv (rdI rs x3) (rdI rs (x3+1)) x10))then o1 else(some (.normal,⟨[(0,.slice (some ⟨0,0,none⟩) n 6),(1,.slice (some ⟨1,0,none⟩) nr 3),(2,.slice (some ⟨2,0,none⟩) na 3),(6,.pointer (some ⟨5,0,none⟩)),(7,.int .i64 0),(8,.slice (some ⟨6,0,none⟩) 1 3),(9,.int .i64 x5)],[[.int .i64 0,.int .i64 0,.string ⟨#[]⟩],[.int .i64 (rdI rs x3),.int .i64 (rdI rs (x3+1)),.string x10]]⟩)))else none)else none)else none)else(bif((rdI cs x2)==9)then(bif decide (0≤x1)then(bif Nat.blt x1.toNat na then(bif isL as_ x3 [(.i .i64),(.i .i64),.s]then(bif(!(A33.okv (rdI as_ x3) (rdI as_ (x3+1)) x9))then o1 else(some (.normal,⟨[(0,.slice (some ⟨0,0,none⟩) n 6),(1,.slice (some ⟨1,0,none⟩) nr 3),(2,.slice (some ⟨2,0,none⟩) na 3),(6,.pointer (some ⟨5,0,none⟩)),(7,.int .i64 0),(8,.slice (some ⟨6,0,none⟩) 1 3),(9,.int .i64 x5)],[[.int .i64 0,.int .i64 0,.string ⟨#[]⟩],[.int .i64 (rdI as_ x3),.int .i64 (rdI as_ (x3+1)),.string x9]]⟩)))else none)else none)else none)else(bif((rdI cs x2)==3)then none else(bif((rdI cs x2)==4)then none else(bif((rdI cs x2)==5)then none else(bif((rdI cs x2)==6)then(bif(decide (0≤x4)&&Nat.ble x4.toNat 0)then(bif(decide (0≤x4)&&Nat.ble x4.toNat 0)then(some (.ret,⟨[(6,.pointer (some ⟨5,0,none⟩)),(7,.int .i64 100)],[[.int .i64 0,.int .i64 0,.string ⟨#[]⟩]]⟩))else none)else none)else(bif((rdI cs x2)==10)then none else(bif((rdI cs x2)==7)then(some (.normal,⟨[(0,.slice (some ⟨0,0,none⟩) n 6),(1,.slice (some ⟨1,0,none⟩) nr 3),(2,.slice (some ⟨2,0,none⟩) na 3),(6,.pointer (some ⟨5,0,none⟩)),(7,.int .i64 0),(8,.slice none 0 0),(9,.int .i64 x1)],[[.int .i64 0,.int .i64 0,.string ⟨#[]⟩]]⟩))else(bif((rdI cs x2)==8)then none else(some (.normal,⟨[(0,.slice (some ⟨0,0,none⟩) n 6),(1,.slice (some ⟨1,0,none⟩) nr 3),(2,.slice (some ⟨2,0,none⟩) na 3),(6,.pointer (some ⟨5,0,none⟩)),(7,.int .i64 0),(8,.slice (some ⟨6,0,none⟩) 1 3),(9,.int .i64 x5)],[[.int .i64 0,.int .i64 0,.string ⟨#[]⟩],[.int .i64 0,.int .i64 0,.string ⟨#[]⟩]]⟩))))))))))))else none)else none)else none)else(some (.exit 0,⟨[(6,.pointer (some ⟨5,0,none⟩)),(8,.slice none 0 0)],[[.int .i64 0,.int .i64 0,.string ⟨#[]⟩]]⟩)))):=by kernel_rfl
end A17L0N
namespace A17L0R
noncomputable def cfg:Cfg:=zz Tryz.prog 4 (gpT [(15,K0),(113,A113.spec),(112,A112.spec),(114,yD fun t x y=>ve (Ari.wK t x y)),(11,A11m.spec),(97,sp1 fun x=>ve (A75.kl x.1 x.2.1)),(39,A39.spec)]) (ltT 4 [])
def stA (n nr na k:Nat) (i:Int) (row:List Value):KX:=⟨[(0,.slice (some ⟨0,0,none⟩) n 6),(1,.slice (some ⟨1,0,none⟩) nr 3),(2,.slice (some ⟨2,0,none⟩) na 3),(6,.pointer (some ⟨5,0,none⟩)),(7,.int .i64 0),(8,.slice (some ⟨6,0,none⟩) k 3),(9,.int .i64 i)],[[.int .i64 0,.int .i64 0,.string ⟨#[]⟩],row]⟩
def kp:Ex→List Nat
 | .normal=>[0,1,2,6,7,8,9]
 | .exit _=>[6,8]
 | .ret=>[6,7]
def cr:Ex→St→List (Nat×Bool):=fun e s=>match s.T.get 6 with
 |some (.pointer (some r))=>(match e with
  | .ret=>[(r.block,true)]
  |_=>match s.T.get 8 with
   |some (.slice (some q) _ _)=>[(r.block,true),(q.block,true)]
   |_=>[(r.block,true)])
 |_=>[]
theorem round (n nr na k:Nat) (i:Int) (row:List Value) (cs:List Value) (rs:List Value) (as_:List Value):zW cfg [(15,K0),(113,A113.spec),(112,A112.spec),(114,yD fun t x y=>ve (Ari.wK t x y)),(11,A11m.spec),(97,sp1 fun x=>ve (A75.kl x.1 x.2.1)),(39,A39.spec)] [] 17 0 (stK 47 5 [(0,cs),(1,rs),(2,as_)] (stA n nr na k i row)) (zD 5 100 47 kp cr)=(let x3:=IntKind.wrap .i64 ((Int.ofNat k) - 1);let x4:=IntKind.wrap .i64 ((Int.ofNat k) - 0);let x5:=0+(x3.toNat*3);let x6:=0+(i.toNat*6);let x2:=IntKind.wrap .i64 ((Int.ofNat k) - (rdI cs (x6+1)));let x7:=IntKind.wrap .i64 ((Int.ofNat k) - 2);let x10:=0+(x2.toNat*3);let x11:=rdS cs ((x6+1)+1);let x12:=0+((rdI cs (x6+1)).toNat*3);let x13:=IntKind.wrap .i64 (i+1);let x14:=0+((x4.toNat - 0)*3);let x15:=0+((x3.toNat - 0)*3);let x16:=0+(x4.toNat - 0);let x17:=0+(x3.toNat - 0);let x18:=rdI row (x5+1);let x8:=A79.xi (rdI row x5) x18;let x9:=A75.kl (rdI row x5) x18;let x19:=0+((x2.toNat - 0)*3);let x20:=rdS row ((x5+1)+1);let x21:=0+(x2.toNat - 0);let x22:=rdS cs (((((x6+1)+1)+1)+1)+1);let x23:=rdI cs ((((x6+1)+1)+1)+1);let x24:=rdI cs (((x6+1)+1)+1);let x25:=0+((x7.toNat - 0)*3);let x26:=rdS as_ ((x12+1)+1);let x27:=rdS rs ((x12+1)+1);let x28:=0+(x7.toNat - 0);let x29:=rdI as_ (x12+1);let x30:=rdI rs (x12+1);let x31:=0+(x7.toNat*3);let x1:=Ari.wK x11 ((rdI row x31),((rdI row (x31+1)),(rdS row ((x31+1)+1)))) ((rdI row x5),(x18,x20));let o1:Option (Ex×KX):=(bif(decide (0≤x2)&&Nat.ble x2.toNat k)then(bif Nat.beq (x2.toNat - 0) 0 then(bif((Fit.zR x11 (qj ((row.drop x10).take ((k - x2.toNat)*3)))).2 != 0)then(some (.ret,⟨[(6,.pointer (some ⟨5,0,none⟩)),(7,.int .i64 (Fit.zR x11 (qj ((row.drop x10).take ((k - x2.toNat)*3)))).2)],[[.int .i64 0,.int .i64 0,.string ⟨#[]⟩]]⟩))else(some (.normal,⟨[(0,.slice (some ⟨0,0,none⟩) n 6),(1,.slice (some ⟨1,0,none⟩) nr 3),(2,.slice (some ⟨2,0,none⟩) na 3),(6,.pointer (some ⟨5,0,none⟩)),(7,.int .i64 0),(8,.slice (some ⟨6,0,none⟩) 1 3),(9,.int .i64 x13)],[[.int .i64 0,.int .i64 0,.string ⟨#[]⟩],[.int .i64 (Fit.zR x11 (qj ((row.drop x10).take ((k - x2.toNat)*3)))).1.1,.int .i64 (Fit.zR x11 (qj ((row.drop x10).take ((k - x2.toNat)*3)))).1.2.1,.string (Fit.zR x11 (qj ((row.drop x10).take ((k - x2.toNat)*3)))).1.2.2]]⟩)))else(bif Nat.ble x21 140737488355328 then(bif Nat.ble (x21*32) 140737488355328 then(bif Nat.ble x19 row.length then(bif((row.drop 0).take ((x2.toNat - 0)*3)).all wb then(bif Nat.ble ((x2.toNat - 0)+1) 140737488355328 then(bif Nat.ble (((x2.toNat - 0)+1)*32) 140737488355328 then(bif Nat.ble x19 ((row.drop 0).take ((x2.toNat - 0)*3)).length then(bif((Fit.zR x11 (qj ((row.drop x10).take ((k - x2.toNat)*3)))).2 != 0)then(some (.ret,⟨[(6,.pointer (some ⟨5,0,none⟩)),(7,.int .i64 (Fit.zR x11 (qj ((row.drop x10).take ((k - x2.toNat)*3)))).2)],[[.int .i64 0,.int .i64 0,.string ⟨#[]⟩]]⟩))else(bif(true&&((((((row.drop 0).take ((x2.toNat - 0)*3)).drop 0).take ((x2.toNat - 0)*3))++[Value.int .i64 (Fit.zR x11 (qj ((row.drop x10).take ((k - x2.toNat)*3)))).1.1,.int .i64 (Fit.zR x11 (qj ((row.drop x10).take ((k - x2.toNat)*3)))).1.2.1,.string (Fit.zR x11 (qj ((row.drop x10).take ((k - x2.toNat)*3)))).1.2.2]).all qo&&true))then(some (.normal,⟨[(0,.slice (some ⟨0,0,none⟩) n 6),(1,.slice (some ⟨1,0,none⟩) nr 3),(2,.slice (some ⟨2,0,none⟩) na 3),(6,.pointer (some ⟨5,0,none⟩)),(7,.int .i64 0),(8,.slice (some ⟨6,0,none⟩) ((x2.toNat - 0)+1) 3),(9,.int .i64 x13)],[[.int .i64 0,.int .i64 0,.string ⟨#[]⟩],(((((row.drop 0).take ((x2.toNat - 0)*3)).drop 0).take ((x2.toNat - 0)*3))++[Value.int .i64 (Fit.zR x11 (qj ((row.drop x10).take ((k - x2.toNat)*3)))).1.1,.int .i64 (Fit.zR x11 (qj ((row.drop x10).take ((k - x2.toNat)*3)))).1.2.1,.string (Fit.zR x11 (qj ((row.drop x10).take ((k - x2.toNat)*3)))).1.2.2])]⟩))else none))else none)else none)else none)else none)else none)else none)else none))else none);let o2:Option (Ex×KX):=(bif(decide (0≤x7)&&Nat.ble x7.toNat k)then(bif Nat.beq (x7.toNat - 0) 0 then(bif(x1.2 != 0)then(some (.ret,⟨[(6,.pointer (some ⟨5,0,none⟩)),(7,.int .i64 x1.2)],[[.int .i64 0,.int .i64 0,.string ⟨#[]⟩]]⟩))else(some (.normal,⟨[(0,.slice (some ⟨0,0,none⟩) n 6),(1,.slice (some ⟨1,0,none⟩) nr 3),(2,.slice (some ⟨2,0,none⟩) na 3),(6,.pointer (some ⟨5,0,none⟩)),(7,.int .i64 0),(8,.slice (some ⟨6,0,none⟩) 1 3),(9,.int .i64 x13)],[[.int .i64 0,.int .i64 0,.string ⟨#[]⟩],[.int .i64 x1.1.1,.int .i64 x1.1.2.1,.string x1.1.2.2]]⟩)))else(bif Nat.ble x28 140737488355328 then(bif Nat.ble (x28*32) 140737488355328 then(bif Nat.ble x25 row.length then(bif((row.drop 0).take ((x7.toNat - 0)*3)).all wb then(bif Nat.ble ((x7.toNat - 0)+1) 140737488355328 then(bif Nat.ble (((x7.toNat - 0)+1)*32) 140737488355328 then(bif Nat.ble x25 ((row.drop 0).take ((x7.toNat - 0)*3)).length then(bif(x1.2 != 0)then(some (.ret,⟨[(6,.pointer (some ⟨5,0,none⟩)),(7,.int .i64 x1.2)],[[.int .i64 0,.int .i64 0,.string ⟨#[]⟩]]⟩))else(bif(true&&((((((row.drop 0).take ((x7.toNat - 0)*3)).drop 0).take ((x7.toNat - 0)*3))++[Value.int .i64 x1.1.1,.int .i64 x1.1.2.1,.string x1.1.2.2]).all qo&&true))then(some (.normal,⟨[(0,.slice (some ⟨0,0,none⟩) n 6),(1,.slice (some ⟨1,0,none⟩) nr 3),(2,.slice (some ⟨2,0,none⟩) na 3),(6,.pointer (some ⟨5,0,none⟩)),(7,.int .i64 0),(8,.slice (some ⟨6,0,none⟩) ((x7.toNat - 0)+1) 3),(9,.int .i64 x13)],[[.int .i64 0,.int .i64 0,.string ⟨#[]⟩],(((((row.drop 0).take ((x7.toNat - 0)*3)).drop 0).take ((x7.toNat - 0)*3))++[Value.int .i64 x1.1.1,.int .i64 x1.1.2.1,.string x1.1.2.2])]⟩))else none))else none)else none)else none)else none)else none)else none)else none))else none);let o3:Option (Ex×KX):=(bif(decide (0≤x3)&&Nat.ble x3.toNat k)then(bif Nat.beq (x3.toNat - 0) 0 then(bif(x9.2 != 0)then(some (.ret,⟨[(6,.pointer (some ⟨5,0,none⟩)),(7,.int .i64 x9.2)],[[.int .i64 0,.int .i64 0,.string ⟨#[]⟩]]⟩))else(some (.normal,⟨[(0,.slice (some ⟨0,0,none⟩) n 6),(1,.slice (some ⟨1,0,none⟩) nr 3),(2,.slice (some ⟨2,0,none⟩) na 3),(6,.pointer (some ⟨5,0,none⟩)),(7,.int .i64 0),(8,.slice (some ⟨6,0,none⟩) 1 3),(9,.int .i64 x13)],[[.int .i64 0,.int .i64 0,.string ⟨#[]⟩],[.int .i64 x9.1.1,.int .i64 x9.1.2.1,.string x9.1.2.2]]⟩)))else(bif Nat.ble x17 140737488355328 then(bif Nat.ble (x17*32) 140737488355328 then(bif Nat.ble x15 row.length then(bif((row.drop 0).take ((x3.toNat - 0)*3)).all wb then(bif Nat.ble ((x3.toNat - 0)+1) 140737488355328 then(bif Nat.ble (((x3.toNat - 0)+1)*32) 140737488355328 then(bif Nat.ble x15 ((row.drop 0).take ((x3.toNat - 0)*3)).length then(bif(x9.2 != 0)then(some (.ret,⟨[(6,.pointer (some ⟨5,0,none⟩)),(7,.int .i64 x9.2)],[[.int .i64 0,.int .i64 0,.string ⟨#[]⟩]]⟩))else(bif(true&&((((((row.drop 0).take ((x3.toNat - 0)*3)).drop 0).take ((x3.toNat - 0)*3))++[Value.int .i64 x9.1.1,.int .i64 x9.1.2.1,.string x9.1.2.2]).all qo&&true))then(some (.normal,⟨[(0,.slice (some ⟨0,0,none⟩) n 6),(1,.slice (some ⟨1,0,none⟩) nr 3),(2,.slice (some ⟨2,0,none⟩) na 3),(6,.pointer (some ⟨5,0,none⟩)),(7,.int .i64 0),(8,.slice (some ⟨6,0,none⟩) ((x3.toNat - 0)+1) 3),(9,.int .i64 x13)],[[.int .i64 0,.int .i64 0,.string ⟨#[]⟩],(((((row.drop 0).take ((x3.toNat - 0)*3)).drop 0).take ((x3.toNat - 0)*3))++[Value.int .i64 x9.1.1,.int .i64 x9.1.2.1,.string x9.1.2.2])]⟩))else none))else none)else none)else none)else none)else none)else none)else none))else none);let o4:Option (Ex×KX):=(bif(decide (0≤x3)&&Nat.ble x3.toNat k)then(bif Nat.beq (x3.toNat - 0) 0 then(bif(x8.2 != 0)then(some (.ret,⟨[(6,.pointer (some ⟨5,0,none⟩)),(7,.int .i64 x8.2)],[[.int .i64 0,.int .i64 0,.string ⟨#[]⟩]]⟩))else(some (.normal,⟨[(0,.slice (some ⟨0,0,none⟩) n 6),(1,.slice (some ⟨1,0,none⟩) nr 3),(2,.slice (some ⟨2,0,none⟩) na 3),(6,.pointer (some ⟨5,0,none⟩)),(7,.int .i64 0),(8,.slice (some ⟨6,0,none⟩) 1 3),(9,.int .i64 x13)],[[.int .i64 0,.int .i64 0,.string ⟨#[]⟩],[.int .i64 x8.1.1,.int .i64 x8.1.2.1,.string x8.1.2.2]]⟩)))else(bif Nat.ble x17 140737488355328 then(bif Nat.ble (x17*32) 140737488355328 then(bif Nat.ble x15 row.length then(bif((row.drop 0).take ((x3.toNat - 0)*3)).all wb then(bif Nat.ble ((x3.toNat - 0)+1) 140737488355328 then(bif Nat.ble (((x3.toNat - 0)+1)*32) 140737488355328 then(bif Nat.ble x15 ((row.drop 0).take ((x3.toNat - 0)*3)).length then(bif(x8.2 != 0)then(some (.ret,⟨[(6,.pointer (some ⟨5,0,none⟩)),(7,.int .i64 x8.2)],[[.int .i64 0,.int .i64 0,.string ⟨#[]⟩]]⟩))else(bif(true&&((((((row.drop 0).take ((x3.toNat - 0)*3)).drop 0).take ((x3.toNat - 0)*3))++[Value.int .i64 x8.1.1,.int .i64 x8.1.2.1,.string x8.1.2.2]).all qo&&true))then(some (.normal,⟨[(0,.slice (some ⟨0,0,none⟩) n 6),(1,.slice (some ⟨1,0,none⟩) nr 3),(2,.slice (some ⟨2,0,none⟩) na 3),(6,.pointer (some ⟨5,0,none⟩)),(7,.int .i64 0),(8,.slice (some ⟨6,0,none⟩) ((x3.toNat - 0)+1) 3),(9,.int .i64 x13)],[[.int .i64 0,.int .i64 0,.string ⟨#[]⟩],(((((row.drop 0).take ((x3.toNat - 0)*3)).drop 0).take ((x3.toNat - 0)*3))++[Value.int .i64 x8.1.1,.int .i64 x8.1.2.1,.string x8.1.2.2])]⟩))else none))else none)else none)else none)else none)else none)else none)else none))else none);let o6:Option (Ex×KX):=(some (.ret,⟨[(6,.pointer (some ⟨5,0,none⟩)),(7,.int .i64 22)],[[.int .i64 0,.int .i64 0,.string ⟨#[]⟩]]⟩));let o5:Option (Ex×KX):=(bif(decide (0≤x4)&&Nat.ble x4.toNat k)then(bif Nat.beq (x4.toNat - 0) 0 then o6 else(bif Nat.ble x16 140737488355328 then(bif Nat.ble (x16*32) 140737488355328 then(bif Nat.ble x14 row.length then(bif((row.drop 0).take ((x4.toNat - 0)*3)).all wb then(bif Nat.ble ((x4.toNat - 0)+1) 140737488355328 then(bif Nat.ble (((x4.toNat - 0)+1)*32) 140737488355328 then(bif Nat.ble x14 ((row.drop 0).take ((x4.toNat - 0)*3)).length then o6 else none)else none)else none)else none)else none)else none)else none))else none);(bif decide (i<(Int.ofNat n))then(bif decide (0≤i)then(bif Nat.blt i.toNat n then(bif isL cs x6 [(.i .i64),(.i .i64),.s,(.i .i64),(.i .i64),.s]then(bif((rdI cs x6)==1)then(bif(!(A33.okv x24 x23 x22))then o5 else(bif(decide (0≤x4)&&Nat.ble x4.toNat k)then(bif Nat.beq (x4.toNat - 0) 0 then(some (.normal,⟨[(0,.slice (some ⟨0,0,none⟩) n 6),(1,.slice (some ⟨1,0,none⟩) nr 3),(2,.slice (some ⟨2,0,none⟩) na 3),(6,.pointer (some ⟨5,0,none⟩)),(7,.int .i64 0),(8,.slice (some ⟨6,0,none⟩) 1 3),(9,.int .i64 x13)],[[.int .i64 0,.int .i64 0,.string ⟨#[]⟩],[.int .i64 x24,.int .i64 x23,.string x22]]⟩))else(bif Nat.ble x16 140737488355328 then(bif Nat.ble (x16*32) 140737488355328 then(bif Nat.ble x14 row.length then(bif((row.drop 0).take ((x4.toNat - 0)*3)).all wb then(bif Nat.ble ((x4.toNat - 0)+1) 140737488355328 then(bif Nat.ble (((x4.toNat - 0)+1)*32) 140737488355328 then(bif Nat.ble x14 ((row.drop 0).take ((x4.toNat - 0)*3)).length then(bif(true&&((((((row.drop 0).take ((x4.toNat - 0)*3)).drop 0).take ((x4.toNat - 0)*3))++[Value.int .i64 x24,.int .i64 x23,.string x22]).all qo&&true))then(some (.normal,⟨[(0,.slice (some ⟨0,0,none⟩) n 6),(1,.slice (some ⟨1,0,none⟩) nr 3),(2,.slice (some ⟨2,0,none⟩) na 3),(6,.pointer (some ⟨5,0,none⟩)),(7,.int .i64 0),(8,.slice (some ⟨6,0,none⟩) ((x4.toNat - 0)+1) 3),(9,.int .i64 x13)],[[.int .i64 0,.int .i64 0,.string ⟨#[]⟩],(((((row.drop 0).take ((x4.toNat - 0)*3)).drop 0).take ((x4.toNat - 0)*3))++[Value.int .i64 x24,.int .i64 x23,.string x22])]⟩))else none)else none)else none)else none)else none)else none)else none)else none))else none))else(bif((rdI cs x6)==2)then(bif decide (0≤(rdI cs (x6+1)))then(bif Nat.blt (rdI cs (x6+1)).toNat nr then(bif isL rs x12 [(.i .i64),(.i .i64),.s]then(bif(!(A33.okv (rdI rs x12) x30 x27))then o5 else(bif(decide (0≤x4)&&Nat.ble x4.toNat k)then(bif Nat.beq (x4.toNat - 0) 0 then(some (.normal,⟨[(0,.slice (some ⟨0,0,none⟩) n 6),(1,.slice (some ⟨1,0,none⟩) nr 3),(2,.slice (some ⟨2,0,none⟩) na 3),(6,.pointer (some ⟨5,0,none⟩)),(7,.int .i64 0),(8,.slice (some ⟨6,0,none⟩) 1 3),(9,.int .i64 x13)],[[.int .i64 0,.int .i64 0,.string ⟨#[]⟩],[.int .i64 (rdI rs x12),.int .i64 x30,.string x27]]⟩))else(bif Nat.ble x16 140737488355328 then(bif Nat.ble (x16*32) 140737488355328 then(bif Nat.ble x14 row.length then(bif((row.drop 0).take ((x4.toNat - 0)*3)).all wb then(bif Nat.ble ((x4.toNat - 0)+1) 140737488355328 then(bif Nat.ble (((x4.toNat - 0)+1)*32) 140737488355328 then(bif Nat.ble x14 ((row.drop 0).take ((x4.toNat - 0)*3)).length then(bif(true&&((((((row.drop 0).take ((x4.toNat - 0)*3)).drop 0).take ((x4.toNat - 0)*3))++[Value.int .i64 (rdI rs x12),.int .i64 x30,.string x27]).all qo&&true))then(some (.normal,⟨[(0,.slice (some ⟨0,0,none⟩) n 6),(1,.slice (some ⟨1,0,none⟩) nr 3),(2,.slice (some ⟨2,0,none⟩) na 3),(6,.pointer (some ⟨5,0,none⟩)),(7,.int .i64 0),(8,.slice (some ⟨6,0,none⟩) ((x4.toNat - 0)+1) 3),(9,.int .i64 x13)],[[.int .i64 0,.int .i64 0,.string ⟨#[]⟩],(((((row.drop 0).take ((x4.toNat - 0)*3)).drop 0).take ((x4.toNat - 0)*3))++[Value.int .i64 (rdI rs x12),.int .i64 x30,.string x27])]⟩))else none)else none)else none)else none)else none)else none)else none)else none))else none))else none)else none)else none)else(bif((rdI cs x6)==9)then(bif decide (0≤(rdI cs (x6+1)))then(bif Nat.blt (rdI cs (x6+1)).toNat na then(bif isL as_ x12 [(.i .i64),(.i .i64),.s]then(bif(!(A33.okv (rdI as_ x12) x29 x26))then o5 else(bif(decide (0≤x4)&&Nat.ble x4.toNat k)then(bif Nat.beq (x4.toNat - 0) 0 then(some (.normal,⟨[(0,.slice (some ⟨0,0,none⟩) n 6),(1,.slice (some ⟨1,0,none⟩) nr 3),(2,.slice (some ⟨2,0,none⟩) na 3),(6,.pointer (some ⟨5,0,none⟩)),(7,.int .i64 0),(8,.slice (some ⟨6,0,none⟩) 1 3),(9,.int .i64 x13)],[[.int .i64 0,.int .i64 0,.string ⟨#[]⟩],[.int .i64 (rdI as_ x12),.int .i64 x29,.string x26]]⟩))else(bif Nat.ble x16 140737488355328 then(bif Nat.ble (x16*32) 140737488355328 then(bif Nat.ble x14 row.length then(bif((row.drop 0).take ((x4.toNat - 0)*3)).all wb then(bif Nat.ble ((x4.toNat - 0)+1) 140737488355328 then(bif Nat.ble (((x4.toNat - 0)+1)*32) 140737488355328 then(bif Nat.ble x14 ((row.drop 0).take ((x4.toNat - 0)*3)).length then(bif(true&&((((((row.drop 0).take ((x4.toNat - 0)*3)).drop 0).take ((x4.toNat - 0)*3))++[Value.int .i64 (rdI as_ x12),.int .i64 x29,.string x26]).all qo&&true))then(some (.normal,⟨[(0,.slice (some ⟨0,0,none⟩) n 6),(1,.slice (some ⟨1,0,none⟩) nr 3),(2,.slice (some ⟨2,0,none⟩) na 3),(6,.pointer (some ⟨5,0,none⟩)),(7,.int .i64 0),(8,.slice (some ⟨6,0,none⟩) ((x4.toNat - 0)+1) 3),(9,.int .i64 x13)],[[.int .i64 0,.int .i64 0,.string ⟨#[]⟩],(((((row.drop 0).take ((x4.toNat - 0)*3)).drop 0).take ((x4.toNat - 0)*3))++[Value.int .i64 (rdI as_ x12),.int .i64 x29,.string x26])]⟩))else none)else none)else none)else none)else none)else none)else none)else none))else none))else none)else none)else none)else(bif((rdI cs x6)==3)then(bif decide (0≤x3)then(bif Nat.blt x3.toNat k then(bif isL row x5 [(.i .i64),(.i .i64),.s]then(bif eqU x11.data.toList [45]then(bif decide (0≤x3)then(bif Nat.blt x3.toNat k then(bif isL row x5 [(.i .i64),(.i .i64),.s]then(bif(inR x18)then(bif(x8.2==0)then o4 else o4)else none)else none)else none)else none)else(bif(decide (0≤x3)&&Nat.ble x3.toNat k)then(bif Nat.beq (x3.toNat - 0) 0 then(some (.normal,⟨[(0,.slice (some ⟨0,0,none⟩) n 6),(1,.slice (some ⟨1,0,none⟩) nr 3),(2,.slice (some ⟨2,0,none⟩) na 3),(6,.pointer (some ⟨5,0,none⟩)),(7,.int .i64 0),(8,.slice (some ⟨6,0,none⟩) 1 3),(9,.int .i64 x13)],[[.int .i64 0,.int .i64 0,.string ⟨#[]⟩],[.int .i64 (Ref.wi ((rdI row x5),(x18,x20))).1,.int .i64 (Ref.wi ((rdI row x5),(x18,x20))).2.1,.string (Ref.wi ((rdI row x5),(x18,x20))).2.2]]⟩))else(bif Nat.ble x17 140737488355328 then(bif Nat.ble (x17*32) 140737488355328 then(bif Nat.ble x15 row.length then(bif((row.drop 0).take ((x3.toNat - 0)*3)).all wb then(bif Nat.ble ((x3.toNat - 0)+1) 140737488355328 then(bif Nat.ble (((x3.toNat - 0)+1)*32) 140737488355328 then(bif Nat.ble x15 ((row.drop 0).take ((x3.toNat - 0)*3)).length then(bif(true&&((((((row.drop 0).take ((x3.toNat - 0)*3)).drop 0).take ((x3.toNat - 0)*3))++[Value.int .i64 (Ref.wi ((rdI row x5),(x18,x20))).1,.int .i64 (Ref.wi ((rdI row x5),(x18,x20))).2.1,.string (Ref.wi ((rdI row x5),(x18,x20))).2.2]).all qo&&true))then(some (.normal,⟨[(0,.slice (some ⟨0,0,none⟩) n 6),(1,.slice (some ⟨1,0,none⟩) nr 3),(2,.slice (some ⟨2,0,none⟩) na 3),(6,.pointer (some ⟨5,0,none⟩)),(7,.int .i64 0),(8,.slice (some ⟨6,0,none⟩) ((x3.toNat - 0)+1) 3),(9,.int .i64 x13)],[[.int .i64 0,.int .i64 0,.string ⟨#[]⟩],(((((row.drop 0).take ((x3.toNat - 0)*3)).drop 0).take ((x3.toNat - 0)*3))++[Value.int .i64 (Ref.wi ((rdI row x5),(x18,x20))).1,.int .i64 (Ref.wi ((rdI row x5),(x18,x20))).2.1,.string (Ref.wi ((rdI row x5),(x18,x20))).2.2])]⟩))else none)else none)else none)else none)else none)else none)else none)else none))else none))else none)else none)else none)else(bif((rdI cs x6)==4)then(bif decide (0≤x7)then(bif Nat.blt x7.toNat k then(bif isL row x31 [(.i .i64),(.i .i64),.s]then(bif decide (0≤x3)then(bif Nat.blt x3.toNat k then(bif isL row x5 [(.i .i64),(.i .i64),.s]then(bif((inR (rdI row (x31+1)))&&(inR x18))then(bif(x1.2==0)then o2 else o2)else none)else none)else none)else none)else none)else none)else none)else(bif((rdI cs x6)==5)then(bif decide (0≤x3)then(bif Nat.blt x3.toNat k then(bif isV row (x5+0) (.i .i64)then(bif(((rdI row (x5+0))==0)==((rdI cs (x6+1))==0))then(bif(decide (0≤x3)&&Nat.ble x3.toNat k)then(bif Nat.beq (x3.toNat - 0) 0 then(some (.normal,⟨[(0,.slice (some ⟨0,0,none⟩) n 6),(1,.slice (some ⟨1,0,none⟩) nr 3),(2,.slice (some ⟨2,0,none⟩) na 3),(6,.pointer (some ⟨5,0,none⟩)),(7,.int .i64 0),(8,.slice (some ⟨6,0,none⟩) 1 3),(9,.int .i64 x13)],[[.int .i64 0,.int .i64 0,.string ⟨#[]⟩],[.int .i64 1,.int .i64 1,.string ⟨#[]⟩]]⟩))else(bif Nat.ble x17 140737488355328 then(bif Nat.ble (x17*32) 140737488355328 then(bif Nat.ble x15 row.length then(bif((row.drop 0).take ((x3.toNat - 0)*3)).all wb then(bif Nat.ble ((x3.toNat - 0)+1) 140737488355328 then(bif Nat.ble (((x3.toNat - 0)+1)*32) 140737488355328 then(bif Nat.ble x15 ((row.drop 0).take ((x3.toNat - 0)*3)).length then(bif(true&&((((((row.drop 0).take ((x3.toNat - 0)*3)).drop 0).take ((x3.toNat - 0)*3))++[Value.int .i64 1,.int .i64 1,.string ⟨#[]⟩]).all qo&&true))then(some (.normal,⟨[(0,.slice (some ⟨0,0,none⟩) n 6),(1,.slice (some ⟨1,0,none⟩) nr 3),(2,.slice (some ⟨2,0,none⟩) na 3),(6,.pointer (some ⟨5,0,none⟩)),(7,.int .i64 0),(8,.slice (some ⟨6,0,none⟩) ((x3.toNat - 0)+1) 3),(9,.int .i64 x13)],[[.int .i64 0,.int .i64 0,.string ⟨#[]⟩],(((((row.drop 0).take ((x3.toNat - 0)*3)).drop 0).take ((x3.toNat - 0)*3))++[Value.int .i64 1,.int .i64 1,.string ⟨#[]⟩])]⟩))else none)else none)else none)else none)else none)else none)else none)else none))else none)else(bif(decide (0≤x3)&&Nat.ble x3.toNat k)then(bif Nat.beq (x3.toNat - 0) 0 then(some (.normal,⟨[(0,.slice (some ⟨0,0,none⟩) n 6),(1,.slice (some ⟨1,0,none⟩) nr 3),(2,.slice (some ⟨2,0,none⟩) na 3),(6,.pointer (some ⟨5,0,none⟩)),(7,.int .i64 0),(8,.slice (some ⟨6,0,none⟩) 1 3),(9,.int .i64 x13)],[[.int .i64 0,.int .i64 0,.string ⟨#[]⟩],[.int .i64 1,.int .i64 0,.string ⟨#[]⟩]]⟩))else(bif Nat.ble x17 140737488355328 then(bif Nat.ble (x17*32) 140737488355328 then(bif Nat.ble x15 row.length then(bif((row.drop 0).take ((x3.toNat - 0)*3)).all wb then(bif Nat.ble ((x3.toNat - 0)+1) 140737488355328 then(bif Nat.ble (((x3.toNat - 0)+1)*32) 140737488355328 then(bif Nat.ble x15 ((row.drop 0).take ((x3.toNat - 0)*3)).length then(bif(true&&((((((row.drop 0).take ((x3.toNat - 0)*3)).drop 0).take ((x3.toNat - 0)*3))++[Value.int .i64 1,.int .i64 0,.string ⟨#[]⟩]).all qo&&true))then(some (.normal,⟨[(0,.slice (some ⟨0,0,none⟩) n 6),(1,.slice (some ⟨1,0,none⟩) nr 3),(2,.slice (some ⟨2,0,none⟩) na 3),(6,.pointer (some ⟨5,0,none⟩)),(7,.int .i64 0),(8,.slice (some ⟨6,0,none⟩) ((x3.toNat - 0)+1) 3),(9,.int .i64 x13)],[[.int .i64 0,.int .i64 0,.string ⟨#[]⟩],(((((row.drop 0).take ((x3.toNat - 0)*3)).drop 0).take ((x3.toNat - 0)*3))++[Value.int .i64 1,.int .i64 0,.string ⟨#[]⟩])]⟩))else none)else none)else none)else none)else none)else none)else none)else none))else none))else none)else none)else none)else(bif((rdI cs x6)==6)then(bif(decide (0≤x2)&&Nat.ble x2.toNat k)then(bif(true&&((Nat.ble (x10+((k - x2.toNat)*3)) row.length&&((row.drop x10).take ((k - x2.toNat)*3)).all qo)&&true))then(bif((wo (k - x2.toNat) (Int.ofNat (k - x2.toNat)) ((row.drop x10).take ((k - x2.toNat)*3)))&&(qj ((row.drop x10).take ((k - x2.toNat)*3))).all fun v=>inR v.snd.fst)then(bif((Fit.zR x11 (qj ((row.drop x10).take ((k - x2.toNat)*3)))).2==0)then(bif((rdI cs (x6+1))==0)then(bif(!(A33.okv (Fit.zR x11 (qj ((row.drop x10).take ((k - x2.toNat)*3)))).1.1 (Fit.zR x11 (qj ((row.drop x10).take ((k - x2.toNat)*3)))).1.2.1 (Fit.zR x11 (qj ((row.drop x10).take ((k - x2.toNat)*3)))).1.2.2))then(bif(decide (0≤x2)&&Nat.ble x2.toNat k)then(bif Nat.beq (x2.toNat - 0) 0 then o6 else(bif Nat.ble x21 140737488355328 then(bif Nat.ble (x21*32) 140737488355328 then(bif Nat.ble x19 row.length then(bif((row.drop 0).take ((x2.toNat - 0)*3)).all wb then(bif Nat.ble ((x2.toNat - 0)+1) 140737488355328 then(bif Nat.ble (((x2.toNat - 0)+1)*32) 140737488355328 then(bif Nat.ble x19 ((row.drop 0).take ((x2.toNat - 0)*3)).length then o6 else none)else none)else none)else none)else none)else none)else none))else none)else o1)else o1)else o1)else none)else none)else none)else(bif((rdI cs x6)==10)then(bif decide (0≤x3)then(bif Nat.blt x3.toNat k then(bif isL row x5 [(.i .i64),(.i .i64),.s]then(bif(inR x18)then(bif(x9.2==0)then o3 else o3)else none)else none)else none)else none)else(bif((rdI cs x6)==7)then(bif(true&&(row.all qo&&true))then(some (.normal,⟨[(0,.slice (some ⟨0,0,none⟩) n 6),(1,.slice (some ⟨1,0,none⟩) nr 3),(2,.slice (some ⟨2,0,none⟩) na 3),(6,.pointer (some ⟨5,0,none⟩)),(7,.int .i64 0),(8,.slice (some ⟨6,0,none⟩) k 3),(9,.int .i64 (rdI cs (x6+1)))],[[.int .i64 0,.int .i64 0,.string ⟨#[]⟩],row]⟩))else none)else(bif((rdI cs x6)==8)then(bif decide (0≤x3)then(bif Nat.blt x3.toNat k then(bif isL row x5 [(.i .i64),(.i .i64),.s]then(bif(A35.tru (rdI row x5) x18)then(bif(decide (0≤x3)&&Nat.ble x3.toNat k)then(bif(true&&(row.all qo&&true))then(some (.normal,⟨[(0,.slice (some ⟨0,0,none⟩) n 6),(1,.slice (some ⟨1,0,none⟩) nr 3),(2,.slice (some ⟨2,0,none⟩) na 3),(6,.pointer (some ⟨5,0,none⟩)),(7,.int .i64 0),(8,.slice (some ⟨6,0,none⟩) (x3.toNat - 0) 3),(9,.int .i64 x13)],[[.int .i64 0,.int .i64 0,.string ⟨#[]⟩],row]⟩))else none)else none)else(bif(decide (0≤x3)&&Nat.ble x3.toNat k)then(bif(true&&(row.all qo&&true))then(some (.normal,⟨[(0,.slice (some ⟨0,0,none⟩) n 6),(1,.slice (some ⟨1,0,none⟩) nr 3),(2,.slice (some ⟨2,0,none⟩) na 3),(6,.pointer (some ⟨5,0,none⟩)),(7,.int .i64 0),(8,.slice (some ⟨6,0,none⟩) (x3.toNat - 0) 3),(9,.int .i64 (rdI cs (x6+1)))],[[.int .i64 0,.int .i64 0,.string ⟨#[]⟩],row]⟩))else none)else none))else none)else none)else none)else(bif(decide (0≤x4)&&Nat.ble x4.toNat k)then(bif Nat.beq (x4.toNat - 0) 0 then(some (.normal,⟨[(0,.slice (some ⟨0,0,none⟩) n 6),(1,.slice (some ⟨1,0,none⟩) nr 3),(2,.slice (some ⟨2,0,none⟩) na 3),(6,.pointer (some ⟨5,0,none⟩)),(7,.int .i64 0),(8,.slice (some ⟨6,0,none⟩) 1 3),(9,.int .i64 x13)],[[.int .i64 0,.int .i64 0,.string ⟨#[]⟩],[.int .i64 0,.int .i64 0,.string ⟨#[]⟩]]⟩))else(bif Nat.ble x16 140737488355328 then(bif Nat.ble (x16*32) 140737488355328 then(bif Nat.ble x14 row.length then(bif((row.drop 0).take ((x4.toNat - 0)*3)).all wb then(bif Nat.ble ((x4.toNat - 0)+1) 140737488355328 then(bif Nat.ble (((x4.toNat - 0)+1)*32) 140737488355328 then(bif Nat.ble x14 ((row.drop 0).take ((x4.toNat - 0)*3)).length then(bif(true&&((((((row.drop 0).take ((x4.toNat - 0)*3)).drop 0).take ((x4.toNat - 0)*3))++[Value.int .i64 0,.int .i64 0,.string ⟨#[]⟩]).all qo&&true))then(some (.normal,⟨[(0,.slice (some ⟨0,0,none⟩) n 6),(1,.slice (some ⟨1,0,none⟩) nr 3),(2,.slice (some ⟨2,0,none⟩) na 3),(6,.pointer (some ⟨5,0,none⟩)),(7,.int .i64 0),(8,.slice (some ⟨6,0,none⟩) ((x4.toNat - 0)+1) 3),(9,.int .i64 x13)],[[.int .i64 0,.int .i64 0,.string ⟨#[]⟩],(((((row.drop 0).take ((x4.toNat - 0)*3)).drop 0).take ((x4.toNat - 0)*3))++[Value.int .i64 0,.int .i64 0,.string ⟨#[]⟩])]⟩))else none)else none)else none)else none)else none)else none)else none)else none))else none)))))))))))else none)else none)else none)else(bif(true&&(row.all qo&&true))then(some (.exit 0,⟨[(6,.pointer (some ⟨5,0,none⟩)),(8,.slice (some ⟨6,0,none⟩) k 3)],[[.int .i64 0,.int .i64 0,.string ⟨#[]⟩],row]⟩))else none))):=by kernel_rfl
end A17L0R
namespace A17L0
abbrev sp:List (FuncId×Spec):=[(15,K0),(113,A113.spec),(112,A112.spec),(114,yD fun t x y=>ve (Ari.wK t x y)),(11,A11m.spec),(97,sp1 fun x=>ve (A75.kl x.1 x.2.1)),(39,A39.spec)]
theorem kG: ∀p∈sp,qu Tryz.prog La p.1 p.2:=by simpa[sp]using⟨lS,A113.qf,A112.qf,A114.qf,A11m.qf,oH,A39.qf⟩
def qV (e:Int):KX:=⟨[(6,.pointer (some ⟨5,0,none⟩)),(7,.int .i64 e)],[[.int .i64 0,.int .i64 0,.string ⟨#[]⟩]]⟩
def stS (n nr na:Nat) (i:Nat) (st:List W3) (qD:List Value):KX:=A17L0R.stA n nr na st.length i (qq st++qD)
theorem xz (n nr na i:Nat) (l:List W3) (v:W3):A17L0R.stA n nr na (l.length+1) i (qq l++[.int .i64 v.1,.int .i64 v.2.1,.string v.2.2])=stS n nr na i (l++[v]) []:=by
 unfold stS
 rw[List.append_nil,←Vt,List.length_append];rfl
open A16L0 (dn vU)
def res (n nr na:Nat) (qD:List Value):(List W3×Nat) ⊕ Int→Ex×KX
 | .inl p=>(.normal,stS n nr na p.2 p.1 qD)
 | .inr e=>(.ret,qV e)
theorem jh (l:List W3):(qq l).all wb=true:=List.all_eq_true.2 fun x hx=>by
 have:=List.all_eq_true.1 (qZ l) x hx
 cases x<;>first|rfl|cases this
set_option maxHeartbeats 0 in
theorem dE (ops:List O6) (row aggs:List W3) (hl:ops.length≤4096) {i:Nat} (hi:i<ops.length) {st:List W3} {qD:List Value} (hj:qD.all qo=true) (hf:AMac.Q9 row aggs ops[i] i ops.length st):
  zW A17L0R.cfg sp [] 17 0 (stK 47 5 [(0,zu ops),(1,qq row),(2,qq aggs)] (stS ops.length row.length aggs.length i st qD)) (zD 5 100 47 A17L0R.kp A17L0R.cr)=
  some (res ops.length row.length aggs.length (AMac.qD ops[i].1 st qD) (AMac.step row aggs ops[i] i st)):=by
 unfold stS
 rw[A17L0R.round]
 dsimp only[]
 have h1:decide ((i:Int)<(ops.length:Int))=true:=decide_eq_true (by omega)
 have h2:=geI i
 have h3:Nat.blt i ops.length=true:=by rw[Nat.blt_eq];exact hi
 have h4:(0+i*6)=i*6:=by omega
 have h5:=wrI i (by omega)
 have i1: ∀n:Nat,Int.ofNat n=(n:Int):=fun _=>rfl
 have hsc:(qq st++qD).all qo=true:=by rw[List.all_append,qZ,hj];rfl
 have Yc:=hf.small
 have big: ∀p:Nat,p≤1024→Nat.ble (p+1) 140737488355328=true∧Nat.ble ((p+1)*32) 140737488355328=true∧Nat.ble p 140737488355328=true∧Nat.ble (p*32) 140737488355328=true:=fun p hp=>⟨by rw[Nat.ble_eq];omega,by rw[Nat.ble_eq];omega,by rw[Nat.ble_eq];omega,by rw[Nat.ble_eq];omega⟩
 have len: ∀p:Nat,p≤st.length→Nat.ble (p*3) (qq st++qD).length=true:=fun p hp=>by rw[Nat.ble_eq,List.length_append,zh];omega
 have ZQ: ∀p:Nat,p≤st.length→(st.take p).length=p:=fun p hp=>by rw[List.length_take];omega
 have bA: ∀p:Nat,p≤st.length→Nat.ble (p*3) (qq (st.take p)).length=true:=fun p hp=>by rw[Nat.ble_eq,zh,ZQ p hp];exact Nat.le_refl _
 have tk2: ∀p:Nat,p≤st.length→((qq (st.take p)).drop 0).take (p*3)=qq (st.take p):=fun p hp=>by rw[List.drop_zero,List.take_of_length_le (by rw[zh,ZQ p hp];exact Nat.le_refl _)]
 have sc3: ∀(l:List W3) (a b:Int) (c:ByteArray),(qq l++[Value.int .i64 a,.int .i64 b,.string c]).all qo=true:=fun l a b c=>by rw[List.all_append,qZ];rfl
 have fin: ∀(p:Nat) (hp:p≤st.length) (j:Nat) (v:W3),A17L0R.stA ops.length row.length aggs.length (p+1) j (qq (st.take p)++[.int .i64 v.1,.int .i64 v.2.1,.string v.2.2])=stS ops.length row.length aggs.length j (st.take p++[v]) []:=fun p hp j v=>by
  have:=xz ops.length row.length aggs.length j (st.take p) v
  rw[ZQ p hp]at this;exact this
 have gS: ∀(p:Nat) (hp:p≤st.length) (j:Nat) (v:W3),(bif Nat.beq p 0 then some (Ex.normal,A17L0R.stA ops.length row.length aggs.length 1 j [.int .i64 v.1,.int .i64 v.2.1,.string v.2.2])else some (Ex.normal,A17L0R.stA ops.length row.length aggs.length (p+1) j (qq (st.take p)++[.int .i64 v.1,.int .i64 v.2.1,.string v.2.2])))=some (Ex.normal,stS ops.length row.length aggs.length j (st.take p++[v]) []):=fun p hp j v=>by
  rw[←fin p hp j v]
  cases hb:Nat.beq p 0
  ·rfl
  ·obtain rfl := Nat.eq_of_beq_eq_true hb
   rfl
 obtain⟨k6,hneed,_,hist,eB,eX,XX⟩:=hf
 simp only[h1,h2,h3,h4,h5,xG ops hi,JM ops hi,XM ops hi,aX ops hi,YQ ops hi,Y6 ops hi,ar ops hi,Int.toNat_natCast,cond_true,Bool.true_and,Bool.and_true,hsc,i1]
 generalize ops[i]=o at*
 obtain⟨k,n,t,vk,vn,vs⟩:=o
 dsimp only[]at k6 hneed XX ⊢
 have w0:IntKind.wrap .i64 ((st.length:Int) - 0)=(st.length:Int):=by rw[zZ (by omega) (by omega)];omega
 have nx:st.take st.length=st:=List.take_length
 have t0:=vB st qD (Nat.le_refl _)
 have b0:=big st.length Yc
 have l0:=len st.length (Nat.le_refl _)
 have l1:=bA st.length (Nat.le_refl _)
 have k1:=tk2 st.length (Nat.le_refl _)
 have nu:Nat.ble st.length st.length=true:=by rw[Nat.ble_eq];exact Nat.le_refl _
 have top1:1≤st.length→Nat.blt (st.length - 1) st.length=true∧Nat.ble (st.length - 1) st.length=true:=fun h=>⟨by rw[Nat.blt_eq];omega,by rw[Nat.ble_eq];omega⟩
 have w1:1≤st.length→IntKind.wrap .i64 ((st.length:Int) - 1)=((st.length - 1:Nat):Int):=fun h=>by rw[zZ (by omega) (by omega)];omega
 have giv: ∀v:W3,(bif !A33.okv v.1 v.2.1 v.2.2 then(bif Nat.beq st.length 0 then some (Ex.ret,qV 22)else some (Ex.ret,qV 22))else(bif Nat.beq st.length 0 then some (Ex.normal,A17L0R.stA ops.length row.length aggs.length 1 ((i+1:Nat):Int) [.int .i64 v.1,.int .i64 v.2.1,.string v.2.2])else some (Ex.normal,A17L0R.stA ops.length row.length aggs.length (st.length+1) ((i+1:Nat):Int) (qq (st.take st.length)++[.int .i64 v.1,.int .i64 v.2.1,.string v.2.2]))))=some (res ops.length row.length aggs.length [] (AMac.given v st i)):=fun v=>by
  rw[gS st.length (Nat.le_refl _) (i+1) v,nx]
  unfold AMac.given Ref.chk
  cases A33.okv v.1 v.2.1 v.2.2
  ·cases Nat.beq st.length 0<;>rfl
  ·rfl
 have pt: ∀(p:W3×Int) (q:Nat),q≤st.length→(bif Nat.beq q 0 then(bif p.2 != 0 then some (Ex.ret,qV p.2)else some (Ex.normal,A17L0R.stA ops.length row.length aggs.length 1 ((i+1:Nat):Int) [.int .i64 p.1.1,.int .i64 p.1.2.1,.string p.1.2.2]))else(bif p.2 != 0 then some (Ex.ret,qV p.2)else some (Ex.normal,A17L0R.stA ops.length row.length aggs.length (q+1) ((i+1:Nat):Int) (qq (st.take q)++[.int .i64 p.1.1,.int .i64 p.1.2.1,.string p.1.2.2]))))=some (res ops.length row.length aggs.length [] (AMac.put p (st.take q) i)):=fun p q hq=>by
  have f:=gS q hq (i+1) p.1
  unfold AMac.put
  cases p.2 != 0
  ·exact f
  ·cases Nat.beq q 0<;>rfl
 unfold AMac.step AMac.qD
 dsimp only[]
 cases q1:k==1
 rotate_left
 ·simp only [cond_true, w0, dn, nu, Int.toNat_natCast, Nat.sub_zero, t0, b0.1, b0.2.1, b0.2.2.1, b0.2.2.2, l0, l1, k1, jh, Nat.zero_add, sc3, Bool.and_self, Bool.true_and]
  exact giv (vk,vn,vs)
 cases q2:k==2
 rotate_left
 ·obtain rfl := beq_iff_eq.1 q2
  have hm:0≤n∧n<row.length:=by
   have:(decide (n≥0)&&decide (n<(row.length:Int)))=true:=k6
   simp only[Bool.and_eq_true,decide_eq_true_eq]at this
   omega
  obtain⟨N,rfl⟩:=Int.eq_ofNat_of_zero_le hm.1
  have hN:N<row.length:=by omega
  have a1:Nat.blt N row.length=true:=by rw[Nat.blt_eq];exact hN
  have a2:=ky row [] hN
  have a3:=km row [] hN
  have a4:=kz row [] hN
  have a5:=kN row [] hN
  rw[List.append_nil]at a2 a3 a4 a5
  simp only[dn,Int.toNat_natCast,a1,Nat.zero_add,a2,a3,a4,a5,cond_true,cond_false,w0,nu,Nat.sub_zero,t0,b0.1,b0.2.1,b0.2.2.1,b0.2.2.2,l0,l1,k1,jh,sc3,Bool.and_self,Bool.true_and]
  exact giv (row.getD N v0)
 cases q9:k==9
 rotate_left
 ·obtain rfl := beq_iff_eq.1 q9
  have hm:0≤n∧n<aggs.length:=by
   have:(decide (n≥0)&&decide (n<(aggs.length:Int)))=true:=k6
   simp only[Bool.and_eq_true,decide_eq_true_eq]at this
   omega
  obtain⟨N,rfl⟩:=Int.eq_ofNat_of_zero_le hm.1
  have hN:N<aggs.length:=by omega
  have a1:Nat.blt N aggs.length=true:=by rw[Nat.blt_eq];exact hN
  have a2:=ky aggs [] hN
  have a3:=km aggs [] hN
  have a4:=kz aggs [] hN
  have a5:=kN aggs [] hN
  rw[List.append_nil]at a2 a3 a4 a5
  simp only[dn,Int.toNat_natCast,a1,Nat.zero_add,a2,a3,a4,a5,cond_true,cond_false,w0,nu,Nat.sub_zero,t0,b0.1,b0.2.1,b0.2.2.1,b0.2.2.2,l0,l1,k1,jh,sc3,Bool.and_self,Bool.true_and]
  exact giv (aggs.getD N v0)
 cases q3:k==3
 rotate_left
 ·obtain rfl := beq_iff_eq.1 q3
  have hm:1≤st.length:=by have:(1:Int)≤st.length:=hneed;omega
  have hp:st.length - 1<st.length:=by omega
  have hq:=Nat.le_of_lt hp
  have t1:=vB st qD hq
  have b1:=big (st.length - 1) (by omega)
  have g2:inR (st.getD (st.length - 1) v0).2.1=true:=AMac.xh hist _
  simp only[w1 hm,dn,Int.toNat_natCast,(top1 hm).1,(top1 hm).2,Nat.zero_add,Nat.sub_zero,ky st qD hp,km st qD hp,kz st qD hp,kN st qD hp,g2,cond_true,cond_false,Bool.true_and,Bool.and_self,t1,b1.1,b1.2.1,b1.2.2.1,b1.2.2.2,len _ hq,bA _ hq,tk2 _ hq,jh,sc3]
  cases eqU t.data.toList [45]
  ·exact gS (st.length - 1) hq (i+1) (Ref.wi (st.getD (st.length - 1) v0))
  ·cases (A79.xi (st.getD (st.length - 1) v0).1 (st.getD (st.length - 1) v0).2.1).2==0<;>exact pt (A79.xi (st.getD (st.length - 1) v0).1 (st.getD (st.length - 1) v0).2.1) (st.length - 1) hq
 cases q4:k==4
 rotate_left
 ·obtain rfl := beq_iff_eq.1 q4
  have hm:2≤st.length:=by have:(2:Int)≤st.length:=hneed;omega
  have hp:st.length - 1<st.length:=by omega
  have hp2:st.length - 2<st.length:=by omega
  have hq:=Nat.le_of_lt hp2
  have t1:=vB st qD hq
  have b1:=big (st.length - 2) (by omega)
  have w2:IntKind.wrap .i64 ((st.length:Int) - 2)=((st.length - 2:Nat):Int):=by rw[zZ (by omega) (by omega)];omega
  have a1:Nat.blt (st.length - 2) st.length=true:=by rw[Nat.blt_eq];omega
  have a2:Nat.ble (st.length - 2) st.length=true:=by rw[Nat.ble_eq];omega
  have g1:inR (st.getD (st.length - 2) v0).2.1=true:=AMac.xh hist _
  have g2:inR (st.getD (st.length - 1) v0).2.1=true:=AMac.xh hist _
  simp only[w1 (by omega),w2,dn,Int.toNat_natCast,(top1 (by omega)).1,(top1 (by omega)).2,a1,a2,Nat.zero_add,Nat.sub_zero,ky st qD hp,km st qD hp,kz st qD hp,kN st qD hp,ky st qD hp2,km st qD hp2,kz st qD hp2,kN st qD hp2,g1,g2,cond_true,cond_false,Bool.true_and,Bool.and_self,t1,b1.1,b1.2.1,b1.2.2.1,b1.2.2.2,len _ hq,bA _ hq,tk2 _ hq,jh,sc3]
  cases (Ari.wK t (st.getD (st.length - 2) v0) (st.getD (st.length - 1) v0)).2==0<;>exact pt (Ari.wK t (st.getD (st.length - 2) v0) (st.getD (st.length - 1) v0)) (st.length - 2) hq
 cases q5:k==5
 rotate_left
 ·obtain rfl := beq_iff_eq.1 q5
  have hm:1≤st.length:=by have:(1:Int)≤st.length:=hneed;omega
  have hp:st.length - 1<st.length:=by omega
  have hq:=Nat.le_of_lt hp
  have t1:=vB st qD hq
  have b1:=big (st.length - 1) (by omega)
  have a1:isV (qq st++qD) ((st.length - 1)*3+0) (.i .i64)=true:=by unfold isV;rw[jN st qD hp 0 (by omega)];rfl
  have a2:rdI (qq st++qD) ((st.length - 1)*3+0)=(st.getD (st.length - 1) v0).1:=km st qD hp
  simp only[a1,a2,w1 hm,dn,Int.toNat_natCast,(top1 hm).1,(top1 hm).2,Nat.zero_add,Nat.sub_zero,ky st qD hp,km st qD hp,kz st qD hp,kN st qD hp,cond_true,cond_false,Bool.true_and,Bool.and_self,t1,b1.1,b1.2.1,b1.2.2.1,b1.2.2.2,len _ hq,bA _ hq,tk2 _ hq,jh,sc3]
  have:=gS (st.length - 1) hq (i+1)
  cases ((st.getD (st.length - 1) v0).1==0)==(n==0)
  ·exact this (1,0,⟨#[]⟩)
  ·exact this (1,1,⟨#[]⟩)
 cases q6:k==6
 rotate_left
 ·obtain rfl := beq_iff_eq.1 q6
  obtain⟨m1,m2⟩:=AHei.ZY k6 rfl
  obtain⟨N,rfl⟩:=Int.eq_ofNat_of_zero_le m1
  have hm:N≤st.length:=by have:(N:Int)≤st.length:=hneed;omega
  have hp:st.length - N≤st.length:=by omega
  have w3:IntKind.wrap .i64 ((st.length:Int) - (N:Int))=((st.length - N:Nat):Int):=by rw[zZ (by omega) (by omega)];omega
  have t1:=vB st qD hp
  have t2:=Xp st qD hp
  have b1:=big (st.length - N) (by omega)
  have a1:Nat.ble (st.length - N) st.length=true:=by rw[Nat.ble_eq];omega
  have a2:Nat.ble ((st.length - N)*3+(st.length - (st.length - N))*3) (qq st++qD).length=true:=by rw[Nat.ble_eq,List.length_append,zh];omega
  have hlen:(st.drop (st.length - N)).length=st.length - (st.length - N):=List.length_drop
  have a3:=vU (st.drop (st.length - N)) (by rw[hlen];omega)
  rw[hlen]at a3
  have a4:((st.drop (st.length - N)).all fun v=>inR v.snd.fst)=true:=List.all_eq_true.2 fun v hv=>hist v (List.mem_of_mem_drop hv)
  have a3':wo (st.length - (st.length - N)) ((st.length - (st.length - N):Nat):Int) (qq (st.drop (st.length - N)))=true:=a3
  simp only[w3,dn,Int.toNat_natCast,Nat.zero_add,Nat.sub_zero,t1,t2,a1,a2,a3',a4,zn,qZ,cond_true,cond_false,Bool.true_and,Bool.and_true,Bool.and_self,b1.1,b1.2.1,b1.2.2.1,b1.2.2.2,len _ hp,bA _ hp,tk2 _ hp,jh,sc3]
  have p6:=pt (Fit.zR t (st.drop (st.length - N))) (st.length - N) hp
  cases e0:(Fit.zR t (st.drop (st.length - N))).2==0
  ·exact p6
  ·cases n0 : (N : Int) == 0
   ·exact p6
   ·have hz : N = 0 := by have := beq_iff_eq.1 n0; omega
    rw[hz,Nat.sub_zero,List.drop_length,AMac.Kh]at e0
    cases e0
 cases q10:k==10
 rotate_left
 ·obtain rfl := beq_iff_eq.1 q10
  have hm:1≤st.length:=by have:(1:Int)≤st.length:=hneed;omega
  have hp:st.length - 1<st.length:=by omega
  have hq:=Nat.le_of_lt hp
  have t1:=vB st qD hq
  have b1:=big (st.length - 1) (by omega)
  have g2:inR (st.getD (st.length - 1) v0).2.1=true:=AMac.xh hist _
  simp only[w1 hm,dn,Int.toNat_natCast,(top1 hm).1,(top1 hm).2,Nat.zero_add,Nat.sub_zero,ky st qD hp,km st qD hp,kz st qD hp,kN st qD hp,g2,cond_true,cond_false,Bool.true_and,Bool.and_self,t1,b1.1,b1.2.1,b1.2.2.1,b1.2.2.2,len _ hq,bA _ hq,tk2 _ hq,jh,sc3]
  cases (A75.kl (st.getD (st.length - 1) v0).1 (st.getD (st.length - 1) v0).2.1).2==0<;>exact pt (A75.kl (st.getD (st.length - 1) v0).1 (st.getD (st.length - 1) v0).2.1) (st.length - 1) hq
 cases q8:k==8
 ·have h7:k=7:=by
   by_cases h7:k=7
   ·exact h7
   ·have e7 : (k == 7 || k == 8) = false := by rw [q8, beq_eq_false_iff_ne.2 h7]; rfl
    unfold Ref.we at k6
    rw[q1,q2,q9,q3,q4,q5,q6,q10,e7]at k6
    cases k6
  subst h7
  obtain⟨m1,m2⟩:=AHei.xw k6 (.inl rfl)
  obtain⟨N,rfl⟩:=Int.eq_ofNat_of_zero_le (show 0≤n by omega)
  rfl
 ·obtain rfl := beq_iff_eq.1 q8
  obtain⟨m1,m2⟩:=AHei.xw k6 (.inr rfl)
  obtain⟨N,rfl⟩:=Int.eq_ofNat_of_zero_le (show 0≤n by omega)
  have hm:1≤st.length:=by have:(1:Int)≤st.length:=hneed;omega
  have hp:st.length - 1<st.length:=by omega
  have dq:qq st++qD=qq (st.take (st.length - 1))++(vt (st.getD (st.length - 1) v0)++qD):=by
   rw[←List.append_assoc]
   congr 1
   have:st=st.take (st.length - 1)++[st.getD (st.length - 1) v0]:=by
    rw[List.getD_eq_getElem?_getD,List.getElem?_eq_getElem hp]
    show st=st.take (st.length - 1)++[st[st.length - 1]]
    rw[List.take_append_getElem hp,Nat.sub_add_cancel hm,List.take_length]
   conv=>lhs;rw[this]
   rw[yw];rfl
  simp only[show ((8:Int)==7)=false from rfl,w1 hm,dn,Int.toNat_natCast,(top1 hm).1,(top1 hm).2,Nat.zero_add,Nat.sub_zero,ky st qD hp,km st qD hp,kz st qD hp,cond_true,cond_false,Bool.true_and,Bool.and_self]
  have hst: ∀j:Nat,A17L0R.stA ops.length row.length aggs.length (st.length - 1) j (qq st++qD)=stS ops.length row.length aggs.length j (st.take (st.length - 1)) (vt (st.getD (st.length - 1) v0)++qD):=fun j=>by
   unfold stS;rw[ZQ _ (Nat.le_of_lt hp),dq]
  cases A35.tru (st.getD (st.length - 1) v0).1 (st.getD (st.length - 1) v0).2.1
  ·exact congrArg (fun z=>some (Ex.normal,z)) (hst N)
  ·exact congrArg (fun z=>some (Ex.normal,z)) (hst (i+1))
end A17L0
namespace A17L0
open A16L0 (dn)
def jl (nr na:Nat) (row:List Value):KX:=⟨[(6,.pointer (some ⟨5,0,none⟩)),(8,.slice (some ⟨6,0,none⟩) 1 3)],[[.int .i64 0,.int .i64 0,.string ⟨#[]⟩],row]⟩
theorem cL (ops:List O6) (row aggs:List W3) {v:W3} {qD:List Value} (hj:qD.all qo=true):
  zW A17L0R.cfg sp [] 17 0 (stK 47 5 [(0,zu ops),(1,qq row),(2,qq aggs)] (stS ops.length row.length aggs.length ops.length [v] qD)) (zD 5 100 47 A17L0R.kp A17L0R.cr)=
  some (.exit 0,jl row.length aggs.length (qq [v]++qD)):=by
 unfold stS
 rw[A17L0R.round]
 dsimp only[]
 have h1:decide ((ops.length:Int)<Int.ofNat ops.length)=false:=decide_eq_false (by show¬(ops.length:Int)<(ops.length:Int);omega)
 have hsc:(qq [v]++qD).all qo=true:=by rw[List.all_append,qZ,hj];rfl
 simp only[h1,hsc,cond_false,Bool.and_true,Bool.true_and,cond_true]
 rfl
def Zc (n nr na:Nat) (k:Int):(List W3×Nat) ⊕ Int→Ex×KX
 | .inl p=>(.normal,bif k==7 then A17L0N.stA n nr na p.2 else stS n nr na p.2 p.1 [])
 | .inr e=>(.ret,qV e)
set_option maxHeartbeats 0 in
theorem dD (ops:List O6) (row aggs:List W3) (hl:ops.length≤4096) {i:Nat} (hi:i<ops.length) (hf:AMac.Q9 row aggs ops[i] i ops.length []):
  zW A17L0N.cfg sp [] 17 0 (stK 47 5 [(0,zu ops),(1,qq row),(2,qq aggs)] (A17L0N.stA ops.length row.length aggs.length i)) (zD 5 100 47 A17L0N.kp A17L0N.cr)=
  some (Zc ops.length row.length aggs.length ops[i].1 (AMac.step row aggs ops[i] i [])):=by
 rw[A17L0N.round]
 dsimp only[]
 have h1:decide ((i:Int)<(ops.length:Int))=true:=decide_eq_true (by omega)
 have h2:=geI i
 have h3:Nat.blt i ops.length=true:=by rw[Nat.blt_eq];exact hi
 have h4:(0+i*6)=i*6:=by omega
 have h5:=wrI i (by omega)
 have i1: ∀n:Nat,Int.ofNat n=(n:Int):=fun _=>rfl
 obtain⟨k6,hneed,_,hist,eB,eX,XX⟩:=hf
 simp only[h1,h2,h3,h4,h5,xG ops hi,JM ops hi,XM ops hi,aX ops hi,YQ ops hi,Y6 ops hi,ar ops hi,Int.toNat_natCast,cond_true,Bool.true_and,Bool.and_true,i1]
 generalize ops[i]=o at*
 obtain⟨k,n,t,vk,vn,vs⟩:=o
 dsimp only[]at k6 hneed XX ⊢
 have giv: ∀(k:Int) (v:W3),(k==7)=false→(bif !A33.okv v.1 v.2.1 v.2.2 then some (Ex.ret,qV 22)else some (.normal,A17L0R.stA ops.length row.length aggs.length 1 ((i+1:Nat):Int) [.int .i64 v.1,.int .i64 v.2.1,.string v.2.2]))=some (Zc ops.length row.length aggs.length k (AMac.given v [] i)):=fun k v hk=>by
  unfold AMac.given Ref.chk
  cases A33.okv v.1 v.2.1 v.2.2
  ·rfl
  ·show _ = some (Ex.normal, bif k == 7 then _ else _)
   rw[hk]
   exact congrArg (fun z=>some (Ex.normal,z)) (xz ops.length row.length aggs.length (i+1) [] v)
 unfold AMac.step
 dsimp only[]
 cases q1:k==1
 rotate_left
 ·obtain rfl := beq_iff_eq.1 q1
  simp only[cond_true]
  exact giv 1 (vk,vn,vs) rfl
 cases q2:k==2
 rotate_left
 ·obtain rfl := beq_iff_eq.1 q2
  have hm:0≤n∧n<row.length:=by
   have:(decide (n≥0)&&decide (n<(row.length:Int)))=true:=k6
   simp only[Bool.and_eq_true,decide_eq_true_eq]at this
   omega
  obtain⟨N,rfl⟩:=Int.eq_ofNat_of_zero_le hm.1
  have hN:N<row.length:=by omega
  have a1:Nat.blt N row.length=true:=by rw[Nat.blt_eq];exact hN
  have a2:=ky row [] hN
  have a3:=km row [] hN
  have a4:=kz row [] hN
  have a5:=kN row [] hN
  rw[List.append_nil]at a2 a3 a4 a5
  simp only[dn,Int.toNat_natCast,a1,Nat.zero_add,a2,a3,a4,a5,cond_true,cond_false]
  exact giv 2 (row.getD N v0) rfl
 cases q9:k==9
 rotate_left
 ·obtain rfl := beq_iff_eq.1 q9
  have hm:0≤n∧n<aggs.length:=by
   have:(decide (n≥0)&&decide (n<(aggs.length:Int)))=true:=k6
   simp only[Bool.and_eq_true,decide_eq_true_eq]at this
   omega
  obtain⟨N,rfl⟩:=Int.eq_ofNat_of_zero_le hm.1
  have hN:N<aggs.length:=by omega
  have a1:Nat.blt N aggs.length=true:=by rw[Nat.blt_eq];exact hN
  have a2:=ky aggs [] hN
  have a3:=km aggs [] hN
  have a4:=kz aggs [] hN
  have a5:=kN aggs [] hN
  rw[List.append_nil]at a2 a3 a4 a5
  simp only[dn,Int.toNat_natCast,a1,Nat.zero_add,a2,a3,a4,a5,cond_true,cond_false]
  exact giv 9 (aggs.getD N v0) rfl
 cases q3:k==3
 rotate_left
 ·obtain rfl := beq_iff_eq.1 q3
  have:(1:Int)≤0:=hneed
  omega
 cases q4:k==4
 rotate_left
 ·obtain rfl := beq_iff_eq.1 q4
  have:(2:Int)≤0:=hneed
  omega
 cases q5:k==5
 rotate_left
 ·obtain rfl := beq_iff_eq.1 q5
  have:(1:Int)≤0:=hneed
  omega
 cases q6:k==6
 rotate_left
 ·obtain rfl := beq_iff_eq.1 q6
  obtain⟨m1,m2⟩:=AHei.ZY k6 rfl
  have:n≤0:=hneed
  obtain rfl:n=0:=by omega
  have e:AMac.put (Fit.zR t (([]:List W3).drop (([]:List W3).length - (0:Int).toNat))) (([]:List W3).take (([]:List W3).length - (0:Int).toNat)) i= .inr 100:=by
   rw[List.drop_nil,AMac.Kh];rfl
  simp only[cond_true,cond_false,e]
  rfl
 cases q10:k==10
 rotate_left
 ·obtain rfl := beq_iff_eq.1 q10
  have:(1:Int)≤0:=hneed
  omega
 cases q8:k==8
 rotate_left
 ·obtain rfl := beq_iff_eq.1 q8
  have:(1:Int)≤0:=hneed
  omega
 have hk:k=7:=by
  by_cases h7:k=7
  ·exact h7
  ·have e7 : (k == 7 || k == 8) = false := by rw [q8, beq_eq_false_iff_ne.2 h7]; rfl
   unfold Ref.we at k6
   rw[q1,q2,q9,q3,q4,q5,q6,q10,e7]at k6
   cases k6
 subst hk
 obtain⟨m1,m2⟩:=AHei.xw k6 (.inl rfl)
 obtain⟨N,rfl⟩:=Int.eq_ofNat_of_zero_le (show 0≤n by omega)
 rfl
section
variable {Step:KX→Ex→KX→Prop} {ops:List O6} {row aggs:List W3} {T:List Int}
theorem Yb (hT: ∀j (hj:j<ops.length),AHei.Ok ops.length row.length aggs.length T j ops[j]) (hT1:T.getD ops.length 0=1) (hr: ∀v∈row,Ari.I v) (ha: ∀v∈aggs,Ari.I v) (ho: ∀o∈ops,Ari.I o.2.2.2)
  (hn: ∀i (hi:i<ops.length) st qD,qD.all qo=true→AMac.Q9 row aggs ops[i] i ops.length st→Step (stS ops.length row.length aggs.length i st qD) (res ops.length row.length aggs.length (AMac.qD ops[i].1 st qD) (AMac.step row aggs ops[i] i st)).1 (res ops.length row.length aggs.length (AMac.qD ops[i].1 st qD) (AMac.step row aggs ops[i] i st)).2)
  (he: ∀v qD,qD.all qo=true→Step (stS ops.length row.length aggs.length ops.length [v] qD) (.exit 0) (jl row.length aggs.length (qq [v]++qD))):
  ∀(f i:Nat) (st:List W3) (qD:List Value),ops.length≤i+f→qD.all qo=true→AMac.At row aggs ops T i st→match AMac.ja row aggs ops f i st qD with
   | .inl p=>zF Step (stS ops.length row.length aggs.length i st qD) (.exit 0) (jl row.length aggs.length (qq p.1++p.2))∧p.1.length=1
   | .inr e=>zF Step (stS ops.length row.length aggs.length i st qD) .ret (qV e):=by
 have fin: ∀(i:Nat) (st:List W3) (qD:List Value),i=ops.length→qD.all qo=true→AMac.At row aggs ops T i st→zF Step (stS ops.length row.length aggs.length i st qD) (.exit 0) (jl row.length aggs.length (qq st++qD))∧st.length=1:=fun i st qD h hj hat=>by
  subst h
  have:=hat.len
  rw[hT1]at this
  match st,this with
  |[v],_=>exact⟨.stop (by simp) (he v qD hj),rfl⟩
  |[],h=>cases h
  |_::_::l,h=>rw[List.length_cons,List.length_cons]at h;omega
 intro f
 induction f with
 |zero=>
  intro i st qD h hj hat
  have:=hat.le
  exact fin i st qD (by omega) hj hat
 |succ f ih=>
  intro i st qD h hj hat
  unfold AMac.ja
  by_cases hi:i<ops.length
  ·rw [List.getElem?_eq_getElem hi]
   dsimp only[]
   have hf:=hat.j4 hi hT hr ha ho
   have hs:=hn i hi st qD hj hf
   cases e:AMac.step row aggs ops[i] i st with
   |inr x=>rw[e]at hs;exact .stop (by simp[res]) hs
   |inl p=>
    rw[e]at hs
    obtain⟨a,b⟩:=hat.next hi hT hf e
    have:=ih p.2 p.1 (AMac.qD ops[i].1 st qD) (by omega) (AMac.VJ hj) b
    dsimp only[]
    cases e2:AMac.ja row aggs ops f p.2 p.1 (AMac.qD ops[i].1 st qD)with
    |inl q=>rw[e2]at this;exact⟨.next hs this.1,this.2⟩
    |inr x=>rw[e2]at this;exact .next hs this
  ·have := hat.le
   rw[List.getElem?_eq_none (by omega)]
   exact fin i st qD (by omega) hj hat
theorem Ww (hT: ∀j (hj:j<ops.length),AHei.Ok ops.length row.length aggs.length T j ops[j]) (hT1:T.getD ops.length 0=1) (hr: ∀v∈row,Ari.I v) (ha: ∀v∈aggs,Ari.I v) (ho: ∀o∈ops,Ari.I o.2.2.2)
  (hn: ∀i (hi:i<ops.length) st qD,qD.all qo=true→AMac.Q9 row aggs ops[i] i ops.length st→Step (stS ops.length row.length aggs.length i st qD) (res ops.length row.length aggs.length (AMac.qD ops[i].1 st qD) (AMac.step row aggs ops[i] i st)).1 (res ops.length row.length aggs.length (AMac.qD ops[i].1 st qD) (AMac.step row aggs ops[i] i st)).2)
  (he: ∀v qD,qD.all qo=true→Step (stS ops.length row.length aggs.length ops.length [v] qD) (.exit 0) (jl row.length aggs.length (qq [v]++qD)))
  (h0: ∀i (hi:i<ops.length),AMac.Q9 row aggs ops[i] i ops.length []→Step (A17L0N.stA ops.length row.length aggs.length i) (Zc ops.length row.length aggs.length ops[i].1 (AMac.step row aggs ops[i] i [])).1 (Zc ops.length row.length aggs.length ops[i].1 (AMac.step row aggs ops[i] i [])).2):
  ∀(f i:Nat),ops.length≤i+f→AMac.At row aggs ops T i []→match AMac.ja row aggs ops f i [] []with
   | .inl p=>zF Step (A17L0N.stA ops.length row.length aggs.length i) (.exit 0) (jl row.length aggs.length (qq p.1++p.2))∧p.1.length=1
   | .inr e=>zF Step (A17L0N.stA ops.length row.length aggs.length i) .ret (qV e):=by
 have no: ∀i,i=ops.length→AMac.At row aggs ops T i []→False:=fun i h hat=>by
  subst h
  have:=hat.len
  rw[hT1]at this
  cases this
 intro f
 induction f with
 |zero=>
  intro i h hat
  have:=hat.le
  exact(no i (by omega) hat).elim
 |succ f ih=>
  intro i h hat
  unfold AMac.ja
  by_cases hi:i<ops.length
  ·rw [List.getElem?_eq_getElem hi]
   dsimp only[]
   have hf:=hat.j4 hi hT hr ha ho
   have hs:=h0 i hi hf
   cases e:AMac.step row aggs ops[i] i []with
   |inr x=>rw[e]at hs;exact .stop (by simp[Zc]) hs
   |inl p=>
    rw[e]at hs
    obtain⟨a,b⟩:=hat.next hi hT hf e
    obtain⟨i',hi'⟩: ∃x,p.2=x:=⟨_,rfl⟩
    obtain⟨st',hst⟩: ∃x,p.1=x:=⟨_,rfl⟩
    obtain⟨p1,p2⟩:=p
    subst hi' hst
    dsimp only[]at a b hs ⊢
    unfold Zc at hs
    dsimp only[]at hs
    cases h7:ops[i].1==7
    ·rw [h7] at hs
     have hj:AMac.qD ops[i].1 [] []=[]:=by
      have hm:=hf.may
      have hnd:=hf.qI
      generalize ops[i]=o at*
      obtain⟨k,n,t,v⟩:=o
      dsimp only[]at hm hnd h7 ⊢
      unfold AMac.qD
      cases h8:k==8
      ·simp only[cond_false,Bool.cond_self]
      ·obtain rfl := beq_iff_eq.1 h8
       have:(1:Int)≤0:=hnd
       omega
     rw[hj]
     have:=Yb hT hT1 hr ha ho hn he f p2 p1 [] (by omega) rfl b
     cases e2:AMac.ja row aggs ops f p2 p1 []with
     |inl q=>rw[e2]at this;exact⟨.next hs this.1,this.2⟩
     |inr x=>rw[e2]at this;exact .next hs this
    ·rw [h7] at hs
     have h7':=beq_iff_eq.1 h7
     have hp1:p1=[]:=by
      obtain⟨l,_⟩:=AMac.KC hf e
      rw[h7']at l
      have:(p1.length:Int)=0+0:=l
      exact List.eq_nil_of_length_eq_zero (by omega)
     subst hp1
     have hj:AMac.qD ops[i].1 [] []=[]:=by rw[h7'];rfl
     rw[hj]
     have:=ih p2 (by omega) b
     cases e2:AMac.ja row aggs ops f p2 [] []with
     |inl q=>rw[e2]at this;exact⟨.next hs this.1,this.2⟩
     |inr x=>rw[e2]at this;exact .next hs this
  ·have := hat.le
   exact(no i (by omega) hat).elim
end
def D:KD:=⟨47,5,100,[0,1,2,6,7,8,9],[0,1,2],fun s=>match s.T.get 6 with
 |some (.pointer (some r))=>[(r.block,true)]
 |_=>[],fun x ro=>match x.vs,x.cars,ro with
 |[(0,.slice (some ⟨0,0,none⟩) n 6),(1,.slice (some ⟨1,0,none⟩) nr 3),(2,.slice (some ⟨2,0,none⟩) na 3),(6,.pointer (some ⟨5,0,none⟩)),(7,.int .i64 0),(8,.slice none 0 0),(9,.int .i64 0)],[[.int .i64 0,.int .i64 0,.string ⟨⟨[]⟩⟩]],[(0,cs),(1,rs),(2,as_)]=>
  .qI (AMac.gd n nr na cs rs as_) (.br (AMac.ZA cs rs as_) (.out (.ret,qV (AMac.err cs rs as_))) (.out (.exit 0,jl nr na (AMac.ZD cs rs as_))))
 |_,_,_=> .no⟩
def lp:LpK:=⟨17,5,0,D⟩
theorem qG:zw Tryz.prog La 4 lp:=by
 refine⟨by kernel_rfl,fun c base I hP hn hG hI hIL x ro ex y e=> ?_⟩
 obtain⟨vs,cars⟩:=x
 simp only[lp,D]at e ⊢
 split at e
 ·rename_i n nr na cs rs as_
  obtain⟨g1,g2⟩:=GT.qh e
  obtain⟨ops,row,aggs,rfl,rfl,rfl,rfl,rfl,rfl,ho,hr,ha,hc⟩:=A16L0.iX g1
  obtain⟨hl,T,T0,T1,hT⟩:=AHei.Qn hc
  have key:=Ww (Step:= @zA (zV base) c base I (qW Tryz.prog 17 0) 47 5 100 [(0,zu ops),(1,qq row),(2,qq aggs)]) hT T1 hr ha ho
   (fun i hi st qD hj hf=>stepT qg qd kG (by simp) hP hn hG hI hIL (dE ops row aggs hl hi hj hf))
   (fun v qD hj=>stepT qg qd kG (by simp) hP hn hG hI hIL (cL ops row aggs hj))
   (fun i hi hf=>stepT qg qd kG (by simp) hP hn hG hI hIL (dD ops row aggs hl hi hf)) ops.length 0 (by omega) ⟨by omega,by rw[T0];rfl,fun v hv=>absurd hv (List.not_mem_nil)⟩
  unfold AMac.ZA AMac.err AMac.ZD at g2
  rw[zy,zn,zn]at g2
  cases hrun:AMac.ja row aggs ops ops.length 0 [] []with
  |inl p=>rw[hrun]at key g2;cases g2;exact key.1
  |inr x=>rw[hrun]at key g2;cases g2;exact key
 ·cases e
end A17L0
namespace A17
def T (m0:Nat) (c0:List Value) (m1:Nat) (c1:List Value) (m2:Nat) (c2:List Value):GT Value:=let x1:=AMac.ZD c0 c1 c2;(.br ((Nat.ble (0+(m0*6)) c0.length&&((c0.drop 0).take (m0*6)).all qo)&&(true&&(true&&true))) (.br (je m0 (Int.ofNat m0) ((c0.drop 0).take (m0*6))) (.br ((AHei.kM (Int.ofNat m1) (Int.ofNat m2) (opsOf ((c0.drop 0).take (m0*6)))) != 0) (.out (.tuple #[.agg #[.int .i64 0,.int .i64 0,.string ⟨#[]⟩],.int .i64 120])) (.br (true&&(c0.all qo&&(c1.all qo&&(c2.all qo&&true)))) (.br (AMac.gd m0 m1 m2 c0 c1 c2) (.br (AMac.ZA c0 c1 c2) (.out (.tuple #[.agg #[.int .i64 0,.int .i64 0,.string ⟨#[]⟩],.int .i64 (AMac.err c0 c1 c2)])) (.br (isL x1 0 [(.i .i64),(.i .i64),.s]) (.out (.tuple #[.agg #[.int .i64 (rdI x1 0),.int .i64 (rdI x1 1),.string (rdS x1 2)],.int .i64 0])) .no)) .no) .no)) .no) .no)
theorem run (m0:Nat) (c0:List Value) (m1:Nat) (c1:List Value) (m2:Nat) (c2:List Value):runK 4 [(21,A21.spec)] [A17L0.lp] 17 [.sl m0 6 c0,.sl m1 3 c1,.sl m2 3 c2]=(T m0 c0 m1 c1 m2 c2).eval:=by kernel_rfl
theorem qL (ops:List O6) (row aggs:List W3) (hl:ops.length<2199023255552) (hrl:row.length<4398046511104) (hal:aggs.length<4398046511104) (ho: ∀o∈ops,Ari.I o.2.2.2) (hr: ∀v∈row,Ari.I v) (ha: ∀v∈aggs,Ari.I v):
  (T ops.length (zu ops) row.length (qq row) aggs.length (qq aggs)).eval=some (ve (AMac.xN row aggs ops)):=by
 have e1:Nat.ble (0+ops.length*6) (zu ops).length=true:=by rw[Nat.ble_eq,kK];omega
 have e2:je ops.length (Int.ofNat ops.length) (zu ops)=true:=jM ops hl
 have e3: ∀n:Nat,n<4398046511104→inR (Int.ofNat n)=true:=fun n h=>Ari.vN.2 (by show -9223372036854775808≤(n:Int)∧(n:Int)<_;omega)
 unfold T
 simp only[A21.xQ,e1,e2,vw,qZ,zy,GT.eval,Bool.and_self,Bool.and_true,Bool.true_and,cond_true]
 cases hc:AHei.kM (Int.ofNat row.length) (Int.ofNat aggs.length) ops != 0
 rotate_left
 ·have hc' : (AHei.kM (row.length : Int) (aggs.length : Int) ops != 0) = true := hc
  unfold AMac.xN
  rw[hc'];rfl
 have hc0:AHei.kM (row.length:Int) (aggs.length:Int) ops=0:=by
  have:(AHei.kM (row.length:Int) (aggs.length:Int) ops != 0)=false:=hc
  simpa[bne]using this
 have hh:(AHei.kf row.length aggs.length ops).2=true:=by
  unfold AHei.kM at hc0
  cases e:(AHei.kf row.length aggs.length ops).2
  ·rw[e]at hc0;cases hc0
  ·rfl
 have hgd:AMac.gd ops.length row.length aggs.length (zu ops) (qq row) (qq aggs)=true:=by
  unfold AMac.gd
  rw[zy,zn,zn]
  simp only[Bool.and_eq_true,List.all_eq_true]
  exact⟨e2,A16L0.vU row hrl,A16L0.vU aggs hal,ho,hr,ha,by rw[hc0];rfl⟩
 rw[A16.dc hc0]
 simp only[hgd,cond_true,cond_false]
 unfold AMac.ZA AMac.err AMac.ZD
 rw[zy,zn,zn]
 cases hrun:AMac.ja row aggs ops ops.length 0 [] []with
 |inr x=>rfl
 |inl p=>
  obtain⟨v,hv⟩:=A16.JP hh ho hr ha hrun
  dsimp only[]
  rw[hv]
  rfl
def spec:Spec:=fun aa=>match aa with
 |[.sl n 6 cs,.sl nr 3 rs,.sl na 3 as_]=>some (.qI (AMac.gd0 n nr na cs rs as_) (.out (ve (AMac.xN (qj rs) (qj as_) (opsOf cs)))))
 |_=>none
theorem qf:qu Tryz.prog La 17 spec:=⟨qE (by kernel_rfl),fun aa t v h e=>by
 unfold spec at h
 split at h
 ·rename_i n cs nr rs na as_
  cases h
  obtain⟨g1,g2⟩:=GT.qh e
  cases g2
  obtain⟨ops,row,aggs,rfl,rfl,rfl,rfl,rfl,rfl,ho,hr,ha,h1,h2,h3⟩:=A16.KP g1
  rw[zy,zn,zn]
  exact⟨rfl,qR (n0:=4) (k:=12) qx qg qd (by simpa using A21.qf) (by simpa using A17L0.qG) (by decide) (by simp) rfl ((run _ _ _ _ _ _).trans (qL ops row aggs h1 h2 h3 ho hr ha))⟩
 ·cases h⟩
end A17
namespace A19
def T (m0:Nat) (c0:List Value) (m1:Nat) (c1:List Value) (m2:Nat) (c2:List Value):GT Value:=let x1:=AMac.xN (qj ((c1.drop 0).take (m1*3))) (qj ((c2.drop 0).take (m2*3))) (opsOf ((c0.drop 0).take (m0*6)));(.br ((Int.ofNat m0)==0) (.out (.tuple #[.bool true,.int .i64 0])) (.br ((Nat.ble (0+(m0*6)) c0.length&&((c0.drop 0).take (m0*6)).all qo)&&((Nat.ble (0+(m1*3)) c1.length&&((c1.drop 0).take (m1*3)).all qo)&&((Nat.ble (0+(m2*3)) c2.length&&((c2.drop 0).take (m2*3)).all qo)&&true))) (.br (AMac.gd0 m0 m1 m2 ((c0.drop 0).take (m0*6)) ((c1.drop 0).take (m1*3)) ((c2.drop 0).take (m2*3))) (.br (x1.2==0) (.out (.tuple #[.bool (A35.tru x1.1.1 x1.1.2.1),.int .i64 x1.2])) (.out (.tuple #[.bool false,.int .i64 x1.2]))) .no) .no))
theorem run (m0:Nat) (c0:List Value) (m1:Nat) (c1:List Value) (m2:Nat) (c2:List Value):runK 4 [(17,A17.spec),(39,A39.spec)] [] 19 [.sl m0 6 c0,.sl m1 3 c1,.sl m2 3 c2]=(T m0 c0 m1 c1 m2 c2).eval:=by kernel_rfl
theorem qL (ops:List O6) (row aggs:List W3) (h:AMac.gd0 ops.length row.length aggs.length (zu ops) (qq row) (qq aggs)=true):(T ops.length (zu ops) row.length (qq row) aggs.length (qq aggs)).eval=some (.tuple #[.bool (AMac.xq row aggs ops).1,.int .i64 (AMac.xq row aggs ops).2]):=by
 have e1:Nat.ble (0+ops.length*6) (zu ops).length=true:=by rw[Nat.ble_eq,kK];omega
 have e2: ∀l:List W3,Nat.ble (0+l.length*3) (qq l).length=true:=fun l=>by rw[Nat.ble_eq,zh];omega
 have e3: ∀l:List W3,((qq l).drop 0).take (l.length*3)=qq l:=fun l=>by rw[List.drop_zero,List.take_of_length_le (by rw[zh];exact Nat.le_refl _)]
 unfold T AMac.xq
 simp only[A21.xQ,e1,e2,e3,vw,qZ,zy,zn,h,GT.eval,Bool.and_self,Bool.and_true,cond_true]
 cases Int.ofNat ops.length==0
 ·simp only [cond_false]
  cases (AMac.xN row aggs ops).2==0<;>rfl
 ·rfl
def spec:Spec:=fun aa=>match aa with
 |[.sl n 6 cs,.sl nr 3 rs,.sl na 3 as_]=>some (.qI (AMac.gd0 n nr na cs rs as_) (.out (.tuple #[.bool (AMac.xq (qj rs) (qj as_) (opsOf cs)).1,.int .i64 (AMac.xq (qj rs) (qj as_) (opsOf cs)).2])))
 |_=>none
theorem qf:qu Tryz.prog La 19 spec:=⟨qE (by kernel_rfl),fun aa t v h e=>by
 unfold spec at h
 split at h
 ·rename_i n cs nr rs na as_
  cases h
  obtain⟨g1,g2⟩:=GT.qh e
  cases g2
  obtain⟨ops,row,aggs,rfl,rfl,rfl,rfl,rfl,rfl,ho,hr,ha,h1,h2,h3⟩:=A16.KP g1
  rw[zy,zn,zn]
  exact⟨rfl,qR (n0:=4) (k:=12) qx qg qd (by simpa using⟨A17.qf,A39.qf⟩) (by simp) (by decide) (by simp) rfl ((run _ _ _ _ _ _).trans (qL ops row aggs g1))⟩
 ·cases h⟩
end A19
namespace A20
def T:GT Value:=(.out (.bool true))
theorem run:runK 4 [(16,fun aa=>A16.spec (nzs [6,3,3] aa)),(18,fun aa=>A18.spec (nzs [6,3,3] aa))] [] 20 []=(T).eval:=by kernel_rfl
def spec:Spec:=fun aa=>match aa with
 |[]=>some (.out (.bool true))
 |_=>none
theorem qf:qu Tryz.prog La 20 spec:=⟨qE (by kernel_rfl),fun aa t v h e=>by
 unfold spec at h
 split at h
 ·cases h; cases e
  exact⟨rfl,qR (n0:=4) (k:=12) qx qg qd (by simpa using⟨A16.qf.nil [6,3,3],A18.qf.nil [6,3,3]⟩) (by simp) (by decide) (by simp) rfl run⟩
 ·cases h⟩
end A20
end
end Go.Proofs.YtaiokpmmjbiajaaGreatDoorDx
