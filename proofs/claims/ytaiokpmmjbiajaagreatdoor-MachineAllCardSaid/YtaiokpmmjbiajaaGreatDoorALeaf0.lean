/- A part of the proof of this claim. No condition beyond those that each theorem names. -/
import Derived.Test.YtaiokpmmjbiajaaGreatDoorAPLeafx2
import Derived.Lib.ValidLaws
import Derived.Lib.MapLaws
import Derived.Lib.TrimUEq
import Derived.DataShut
import Derived.WideShapes
namespace Go.Proofs.YtaiokpmmjbiajaaGreatDoor.Pure
set_option linter.unusedSimpArgs false
set_option linter.unusedVariables false
set_option maxRecDepth 4000
open Go.RowKit Go.Proofs.YtaiokpmmjbiajaaGreatDoor.PLeaf Go.Proofs.YtaiokpmmjbiajaaGreatDoorW.PrintWords
open Go.WideShapes (bytes_inj)
theorem Qo (s:ByteArray) (i:Int) (r:Bool) (k:Nat) (h:qc.l0 k s i=some r): ∀j,qc.l0 (k+j) s i=some r
 |0=>h
 |j+1=>(qc.wq (k+j)).1 s i r (Qo s i r k h j)
theorem wr {n:Int} (h1: -4611686018427387904≤n) (h2:n<4611686018427387904):wrap64 n=n:=by unfold wrap64;omega
theorem xF (s:ByteArray) (i j:Nat) (h:i+j<s.size):bt s ((i:Int)+(j:Int))=(((s.data.toList.drop i).getD j 0).toNat:Int):=by
 unfold bt
 have e:((i:Int)+(j:Int)).toNat=i+j:=by omega
 rw[dif_pos (by omega)]
 have h':i+j<s.data.toList.length:=by rw[zY];exact h
 simp only[e,List.getD,List.getElem?_drop,List.getElem?_eq_getElem h',Option.getD_some]
 rfl
theorem rY (s:ByteArray) (i:Int):0≤bt s i∧bt s i<256:=by
 unfold bt
 split
 ·have := UInt8.toNat_lt (s[i.toNat])
  omega
 ·omega
theorem wY (k:Nat) (s:ByteArray) (i n least v c:Int) (hc:c<n) (h0:0≤i) (hc0:0≤c) (hi:i+c<s.size) (hs:(s.size:Int)<1073741824) (hv:0≤v) (hv2:v<1073741824):
  qc.l1 (k+1) s i n least v c=if 128≤bt s (i+c)∧bt s (i+c)<192 then qc.l1 k s i n least (v*64+bt s (i+c) - 128) (c+1)else some false:=by
 have hb:=rY s (i+c)
 rw[qc.l1]
 rw[if_pos hc,wr (n:=i+c) (by omega) (by omega),if_pos (by omega),if_pos (by omega),wr (n:=bt s (i+c)) (by omega) (by omega),wr (n:=v*64) (by omega) (by omega),wr (n:=v*64+_) (by omega) (by omega),wr (n:=_ - 128) (by omega) (by omega),wr (n:=c+1) (by omega) (by omega)]
 by_cases h1:bt s (i+c)<128
 ·rw[if_pos h1,if_neg (by omega)]
 ·rw [if_neg h1]
  by_cases h2:bt s (i+c)≥192
  ·rw[if_pos h2,if_neg (by omega)]
  ·rw[if_neg h2,if_pos (by omega)]
theorem yV (k:Nat) (s:ByteArray) (i n least v:Int) (h0:0≤i) (hn:0≤n) (hi:i+n≤s.size) (hs:(s.size:Int)<1073741824):
  qc.l1 (k+1) s i n least v n=if least≤v∧v≤1114111∧(v<55296∨57344≤v)then qc.l0 k s (i+n)else some false:=by
 rw[qc.l1]
 rw[if_neg (Int.lt_irrefl n),wr (n:=i+n) (by omega) (by omega)]
 by_cases h1:v<least
 ·rw[if_pos h1,if_neg (by omega)]
 rw[if_neg h1]
 by_cases h2:v>1114111
 ·rw[if_pos h2,if_neg (by omega)]
 rw[if_neg h2]
 by_cases h3:v≥55296
 ·rw [if_pos h3]
  by_cases h4:v<57344
  ·rw[if_pos h4,if_neg (by omega)]
  ·rw[if_neg h4,if_pos (by omega)]
 ·rw[if_neg h3,if_pos (by omega)]
theorem Q0 (k:Nat) (s:ByteArray) (i n least v:Int) (h0:0≤i) (hi:i≤s.size) (hs:(s.size:Int)<1073741824):
  qc.j3 (k+1) s i n least v=if s.size - i<n then some false else qc.l1 k s i n least v 1:=by
 rw[qc.j3,wr (n:=(s.size:Int) - i) (by omega) (by omega)]
theorem Yr (k:Nat) (s:ByteArray) (i:Nat) (hi:i<s.size) (hs:(s.size:Int)<1073741824) (r:Bool)
  (h:(if(Lib.decodeL (s.data.toList.drop i)).1=65533∧(Lib.decodeL (s.data.toList.drop i)).2=1 then some false else qc.l0 k s ((i+(Lib.decodeL (s.data.toList.drop i)).2:Nat):Int))=some r):
  qc.l0 (k+9) s (i:Int)=some r:=by
 have hb0:=xF s i 0 (by omega)
 have hb1:=xF s i 1
 have hb2:=xF s i 2
 have hb3:=xF s i 3
 rw[Lib.decodeL_N,List.length_drop,zY]at h
 generalize e0:((s.data.toList.drop i).getD 0 0).toNat=b0 at*
 generalize e1:((s.data.toList.drop i).getD 1 0).toNat=b1 at*
 generalize e2:((s.data.toList.drop i).getD 2 0).toNat=b2 at*
 generalize e3:((s.data.toList.drop i).getD 3 0).toNat=b3 at*
 have l0:b0<256:=by rw[←e0];exact UInt8.toNat_lt _
 have l1:b1<256:=by rw[←e1];exact UInt8.toNat_lt _
 have l2:b2<256:=by rw[←e2];exact UInt8.toNat_lt _
 have l3:b3<256:=by rw[←e3];exact UInt8.toNat_lt _
 clear e0 e1 e2 e3
 have tt:bt s (i:Int)=b0:=by simpa using hb0
 rw[qc.l0,if_pos (by omega),if_pos (by omega),tt,wr (n:=(b0:Int)) (by omega) (by omega)]
 generalize hd:Lib.decodeN (s.size - i) b0 b1 b2 b3=d at h
 unfold Lib.decodeN at hd
 have up: ∀w j:Nat,qc.l0 k s ((i+w:Nat):Int)=some r→qc.l0 (k+j) s ((i:Int)+(w:Int))=some r:=fun w j g=>by
  have:=Qo s _ r k g j
  simpa using this
 by_cases c1:b0<128
 ·rw [if_pos c1] at hd
  subst hd
  rw[if_pos (by omega),Q0 _ _ _ _ _ _ (by omega) (by omega) hs,if_neg (by omega),yV _ _ _ _ _ _ (by omega) (by omega) (by omega) hs,if_pos (by omega)]
  rw[if_neg (by simp;omega)]at h
  exact up 1 6 h
 rw[if_neg c1]at hd
 rw[if_neg (by omega)]
 by_cases c2:192≤b0
 ·rw [if_pos (by omega), qc.j1]
  by_cases c3:b0<224
  ·rw [if_pos (by simp; omega), wr (n := (b0 : Int) - 192) (by omega) (by omega), Q0 _ _ _ _ _ _ (by omega) (by omega) hs]
   by_cases n2:1<s.size - i
   ·rw [if_neg (by omega), wY _ _ _ _ _ _ _ (by omega) (by omega) (by omega) (by omega) hs (by omega) (by omega), show (i : Int) + 1 = (i : Int) + (1 : Nat) by rfl, hb1 (by omega)]
    by_cases d1:b1 / 64=2
    ·rw [if_pos (by omega)]
     rw[if_pos (by omega)]at hd
     rw[show ((1:Int)+1)=2 by rfl,yV _ _ _ _ _ _ (by omega) (by omega) (by omega) hs]
     by_cases g:b0 % 32*64+b1 % 64≥128
     ·rw [if_pos g] at hd
      subst hd
      rw[if_neg (by simp)]at h
      rw[if_pos (by omega)]
      exact up 2 4 h
     ·rw [if_neg g] at hd
      subst hd
      rw[if_pos (by simp)]at h
      rw[if_neg (by omega)]
      exact h
    ·rw [if_neg (by omega)]
     rw[if_neg (by omega),if_neg (by omega),if_neg (by omega)]at hd
     subst hd
     rw[if_pos (by simp)]at h
     exact h
   ·rw [if_pos (by omega)]
    rw[if_neg (by omega),if_neg (by omega),if_neg (by omega)]at hd
    subst hd
    rw[if_pos (by simp)]at h
    exact h
  ·rw [if_neg (by simp; omega), if_pos (by omega), qc.j2]
   rw[if_neg (by omega)]at hd
   by_cases c4:b0<240
   ·rw [if_pos (by simp; omega), wr (n := (b0 : Int) - 224) (by omega) (by omega), Q0 _ _ _ _ _ _ (by omega) (by omega) hs]
    by_cases n3:2<s.size - i
    ·rw [if_neg (by omega), wY _ _ _ _ _ _ _ (by omega) (by omega) (by omega) (by omega) hs (by omega) (by omega), show (i : Int) + 1 = (i : Int) + (1 : Nat) by rfl, hb1 (by omega)]
     by_cases d1:b1 / 64=2
     ·rw [if_pos (by omega), show ((1 : Int) + 1) = 2 by rfl, wY _ _ _ _ _ _ _ (by omega) (by omega) (by omega) (by omega) hs (by omega) (by omega), show (i : Int) + 2 = (i : Int) + (2 : Nat) by rfl, hb2 (by omega)]
      by_cases d2:b2 / 64=2
      ·rw [if_pos (by omega), show ((2 : Int) + 1) = 3 by rfl, yV _ _ _ _ _ _ (by omega) (by omega) (by omega) hs]
       rw[if_pos (by omega)]at hd
       by_cases g:b0 % 16*4096+b1 % 64*64+b2 % 64≥2048∧(b0 % 16*4096+b1 % 64*64+b2 % 64<55296∨(57344≤b0 % 16*4096+b1 % 64*64+b2 % 64∧b0 % 16*4096+b1 % 64*64+b2 % 64≤1114111))
       ·rw [if_pos g] at hd
        subst hd
        rw[if_neg (by simp)]at h
        rw[if_pos (by omega)]
        exact up 3 2 h
       ·rw [if_neg g] at hd
        subst hd
        rw[if_pos (by simp)]at h
        rw[if_neg (by omega)]
        exact h
      ·rw [if_neg (by omega)]
       rw[if_neg (by omega),if_neg (by omega)]at hd
       subst hd
       rw[if_pos (by simp)]at h
       exact h
     ·rw [if_neg (by omega)]
      rw[if_neg (by omega),if_neg (by omega)]at hd
      subst hd
      rw[if_pos (by simp)]at h
      exact h
    ·rw [if_pos (by omega)]
     rw[if_neg (by omega),if_neg (by omega)]at hd
     subst hd
     rw[if_pos (by simp)]at h
     exact h
   ·rw [if_neg (by simp; omega), if_pos (by omega)]
    rw[if_neg (by omega)]at hd
    by_cases c5:b0<248
    ·rw [if_pos (by omega), wr (n := (b0 : Int) - 240) (by omega) (by omega), Q0 _ _ _ _ _ _ (by omega) (by omega) hs]
     by_cases n4:3<s.size - i
     ·rw [if_neg (by omega), wY _ _ _ _ _ _ _ (by omega) (by omega) (by omega) (by omega) hs (by omega) (by omega), show (i : Int) + 1 = (i : Int) + (1 : Nat) by rfl, hb1 (by omega)]
      by_cases d1:b1 / 64=2
      ·rw [if_pos (by omega), show ((1 : Int) + 1) = 2 by rfl, wY _ _ _ _ _ _ _ (by omega) (by omega) (by omega) (by omega) hs (by omega) (by omega), show (i : Int) + 2 = (i : Int) + (2 : Nat) by rfl, hb2 (by omega)]
       by_cases d2:b2 / 64=2
       ·rw [if_pos (by omega), show ((2 : Int) + 1) = 3 by rfl, wY _ _ _ _ _ _ _ (by omega) (by omega) (by omega) (by omega) hs (by omega) (by omega), show (i : Int) + 3 = (i : Int) + (3 : Nat) by rfl, hb3 (by omega)]
        by_cases d3:b3 / 64=2
        ·rw [if_pos (by omega), show ((3 : Int) + 1) = 4 by rfl, yV _ _ _ _ _ _ (by omega) (by omega) (by omega) hs]
         rw[if_pos (by omega)]at hd
         by_cases g:b0 % 8*262144+b1 % 64*4096+b2 % 64*64+b3 % 64≥65536∧(b0 % 8*262144+b1 % 64*4096+b2 % 64*64+b3 % 64<55296∨(57344≤b0 % 8*262144+b1 % 64*4096+b2 % 64*64+b3 % 64∧b0 % 8*262144+b1 % 64*4096+b2 % 64*64+b3 % 64≤1114111))
         ·rw [if_pos g] at hd
          subst hd
          rw[if_neg (by simp)]at h
          rw[if_pos (by omega)]
          exact up 4 1 h
         ·rw [if_neg g] at hd
          subst hd
          rw[if_pos (by simp)]at h
          rw[if_neg (by omega)]
          exact h
        ·rw [if_neg (by omega)]
         rw[if_neg (by omega)]at hd
         subst hd
         rw[if_pos (by simp)]at h
         exact h
       ·rw [if_neg (by omega)]
        rw[if_neg (by omega)]at hd
        subst hd
        rw[if_pos (by simp)]at h
        exact h
      ·rw [if_neg (by omega)]
       rw[if_neg (by omega)]at hd
       subst hd
       rw[if_pos (by simp)]at h
       exact h
     ·rw [if_pos (by omega)]
      rw[if_neg (by omega)]at hd
      subst hd
      rw[if_pos (by simp)]at h
      exact h
    ·rw [if_neg (by omega)]
     rw[if_neg (by omega)]at hd
     subst hd
     rw[if_pos (by simp)]at h
     exact h
 ·rw [if_neg (by omega), qc.j1, if_neg (by simp), if_neg (by omega), qc.j2, if_neg (by simp), if_neg (by omega)]
  rw[if_neg (by omega),if_neg (by omega),if_neg (by omega)]at hd
  subst hd
  rw[if_pos (by simp)]at h
  exact h
theorem Vc (s:ByteArray) (hs:(s.size:Int)<1073741824): ∀(f i:Nat),i≤s.size→s.size - i≤f→qc.l0 (9*f+1) s (i:Int)=some (Lib.validD (s.data.toList.drop i))
 |0,i,h,h2=>by
  obtain rfl:i=s.size:=by omega
  rw[qc.l0,if_neg (by omega),List.drop_of_length_le (by rw[zY];exact Nat.le_refl _)]
  rfl
 |f+1,i,h,h2=>by
  by_cases hi:i<s.size
  ·have hne : s.data.toList.drop i ≠ [] := fun e => by have := congrArg List.length e; rw [List.length_drop, zY] at this; simp at this; omega
   have hw:=Lib.decodeL_le _ hne
   have hw1:=Lib.decodeL_width (s.data.toList.drop i)
   rw[List.length_drop,zY]at hw
   refine Yr (9*f+1) s i hi hs _ ?_
   rw[Lib.validD_step _ hne]
   by_cases g:(Lib.decodeL (s.data.toList.drop i)).1=65533∧(Lib.decodeL (s.data.toList.drop i)).2=1
   ·rw[if_pos g,if_pos g]
   ·rw [if_neg g, if_neg g, List.drop_drop]
    exact Vc s hs f _ (by omega) (by omega)
  ·obtain rfl : i = s.size := by omega
   rw[show 9*(f+1)+1=(9*f+9)+1 by omega,qc.l0,if_neg (by omega),List.drop_of_length_le (by rw[zY];exact Nat.le_refl _)]
   rfl
theorem dt (s:ByteArray) (hs:s.size≤1024) (k:Nat):qc.f (9300+k) s=some (Lib.validD s.data.toList):=by
 have h:=Vc s (by omega) 1024 0 (by omega) (by omega)
 have:=Qo s _ _ _ h (83+k)
 unfold qc.f
 rw[show 9300+k=9*1024+1+(83+k)by omega]
 simpa using this
theorem kinds (k:Int):k=0∨k=1∨k=2∨k=3∨k=4∨(¬k=0∧ ¬k=1∧ ¬k=2∧ ¬k=3∧ ¬k=4):=by omega
def okB (k n:Int) (s:ByteArray):Bool:=if k=0 then n=0&&s.size=0 else if k=1 then s.size=0&&(n=0||n=1)else if k=2 then s.size=0 else if k=3 then s.size=0 else if k=4 then n=0&&s.size≤1024&&Lib.validD s.data.toList else false
theorem toList_nil (s:ByteArray):(s.toList==([]:List UInt8))=decide (s.size=0):=by
 rw[ByteArray.toList_eq]
 by_cases h:s.size=0
 ·have : s.data.toList = [] := List.length_eq_zero_iff.1 (by rw [zY]; exact h)
  simp[this,h]
 ·have : s.data.toList ≠ [] := fun e => h (by rw [← zY, e]; rfl)
  rw[decide_eq_false h]
  exact beq_eq_false_iff_ne.2 this
theorem xg (s:ByteArray):(s.toList=([]:List UInt8))↔s.size=0:=by
 have:=toList_nil s
 constructor
 ·intro h;rw[h]at this;simpa using this.symm
 ·intro h;rw[decide_eq_true h]at this;simpa using this
theorem QM (s:ByteArray):s.toList.isEmpty=decide (s=ByteArray.empty):=by
 have:=toList_nil s
 simpa using this
theorem YM (j:Nat) (k n:Int) (s:ByteArray):qq.f (9301+j) k n s=some (okB k n s):=by
 unfold qq.f okB
 rcases kinds k with rfl|rfl|rfl|rfl|rfl|⟨h0,h1,h2,h3,h4⟩
 ·by_cases hn:n=0<;>simp[hn,QM]
 ·by_cases hz : s.size = 0
  ·by_cases hn : n = 0
   ·simp[hn,xg,hz]
   ·by_cases h1:n=1<;>simp[hn,xg,hz,h1]
  ·simp[xg,hz]
 ·rw [show 9301 + j = (9300 + j) + 1 by omega]
  simp[qq.j0,QM]
 ·rw [show 9301 + j = (9300 + j) + 1 by omega]
  simp[qq.j0,QM]
 ·rw [show 9301 + j = (9300 + j) + 1 by omega]
  by_cases hn:n=0
  ·by_cases hz : s.size ≤ 1024
   ·have hz' : (s.size : Int) ≤ 1024 := by omega
    simp[qq.j0,hn,hz,hz',dt s hz j]
   ·have hz' : ¬ (s.size : Int) ≤ 1024 := by omega
    simp[qq.j0,hn,hz,hz']
  ·simp[qq.j0,hn]
 ·rw [show 9301 + j = (9300 + j) + 1 by omega]
  simp[qq.j0,h0,h1,h2,h3,h4]
end Go.Proofs.YtaiokpmmjbiajaaGreatDoor.Pure
