/- A part of the proof of this claim. No condition beyond those that each theorem names. -/
import Derived.Test.YtaiokpmmjbiajaaGreatDoorRPLeafx0
namespace Go.Proofs.YtaiokpmmjbiajaaGreatDoor.PLeaf
open Go.RowKit Go.Proofs.YtaiokpmmjbiajaaGreatDoorW.PrintWords Go.Proofs.YtaiokpmmjbiajaaGreatDoorW.PrintLast Go.Proofs.YtaiokpmmjbiajaaGreatDoorW.PrintMore
attribute [local go_sem] yC yE Q6 Q5 xr xp yk yl
set_option linter.unusedVariables false
set_option linter.unusedSimpArgs false
mutual
def qc.l0:Nat→ByteArray→Int→Option (Bool)
 |0,_,_=>none
 |k+1,x0,x3=>if x3<(x0.size:Int)then(if 0≤x3 then(if(wrap64 (bt x0 x3))<128 then(qc.j3 k x0 x3 1 0 (wrap64 (bt x0 x3)))else(if(wrap64 (bt x0 x3))≥192 then(qc.j1 k x0 x3 (wrap64 (bt x0 x3)) (decide ((wrap64 (bt x0 x3))<224)))else(qc.j1 k x0 x3 (wrap64 (bt x0 x3)) false)))else(none))else(some true)
def qc.j3:Nat→ByteArray→Int→Int→Int→Int→Option (Bool)
 |0,_,_,_,_,_=>none
 |k+1,x0,x3,x5,x6,x7=>if(wrap64 ((x0.size:Int) - x3))<x5 then(some false)else(qc.l1 k x0 x3 x5 x6 x7 1)
def qc.l1:Nat→ByteArray→Int→Int→Int→Int→Int→Option (Bool)
 |0,_,_,_,_,_,_=>none
 |k+1,x0,x3,x5,x6,x7,x8=>if x8<x5 then(if 0≤(wrap64 (x3+x8))then(if(wrap64 (x3+x8))<(x0.size:Int)then(if(wrap64 (bt x0 (wrap64 (x3+x8))))<128 then(some false)else(if(wrap64 (bt x0 (wrap64 (x3+x8))))≥192 then(some false)else(qc.l1 k x0 x3 x5 x6 (wrap64 ((wrap64 ((wrap64 (x7*64))+(wrap64 (bt x0 (wrap64 (x3+x8)))))) - 128)) (wrap64 (x8+1)))))else(none))else(none))else(if x7<x6 then(some false)else(if x7>1114111 then(some false)else(if x7≥55296 then(if x7<57344 then(some false)else(qc.l0 k x0 (wrap64 (x3+x5))))else(qc.l0 k x0 (wrap64 (x3+x5))))))
def qc.j1:Nat→ByteArray→Int→Int→Bool→Option (Bool)
 |0,_,_,_,_=>none
 |k+1,x0,x3,x4,x22=>if x22=true then(qc.j3 k x0 x3 2 128 (wrap64 (x4 - 192)))else(if x4≥224 then(qc.j2 k x0 x3 x4 (decide (x4<240)))else(qc.j2 k x0 x3 x4 false))
def qc.j2:Nat→ByteArray→Int→Int→Bool→Option (Bool)
 |0,_,_,_,_=>none
 |k+1,x0,x3,x4,x31=>if x31=true then(qc.j3 k x0 x3 3 2048 (wrap64 (x4 - 224)))else(if x4≥240 then(if x4<248 then(qc.j3 k x0 x3 4 65536 (wrap64 (x4 - 240)))else(some false))else(some false))
end
def qc.f (k:Nat) (a0:ByteArray):Option (Bool):=qc.l0 k a0 0
theorem qc.wm: ∀k,(∀y0 y1,LeO (qc.l0 k y0 y1) (qc.l0 (k+1) y0 y1))∧(∀y0 y1 y2 y3 y4,LeO (qc.j3 k y0 y1 y2 y3 y4) (qc.j3 (k+1) y0 y1 y2 y3 y4))∧(∀y0 y1 y2 y3 y4 y5,LeO (qc.l1 k y0 y1 y2 y3 y4 y5) (qc.l1 (k+1) y0 y1 y2 y3 y4 y5))∧(∀y0 y1 y2 y3,LeO (qc.j1 k y0 y1 y2 y3) (qc.j1 (k+1) y0 y1 y2 y3))∧(∀y0 y1 y2 y3,LeO (qc.j2 k y0 y1 y2 y3) (qc.j2 (k+1) y0 y1 y2 y3))
 |0=>⟨fun _ _ r h=>by simp[qc.l0]at h,fun _ _ _ _ _ r h=>by simp[qc.j3]at h,fun _ _ _ _ _ _ r h=>by simp[qc.l1]at h,fun _ _ _ _ r h=>by simp[qc.j1]at h,fun _ _ _ _ r h=>by simp[qc.j2]at h⟩
 |k+1=>by
  obtain⟨ih0,ih1,ih2,ih3,ih4⟩:=qc.wm k
  refine⟨?_,?_,?_,?_,?_⟩
  ·intro y0 y1
   unfold qc.l0
   exact z2
  ·intro y0 y1 y2 y3 y4
   unfold qc.j3
   exact z2
  ·intro y0 y1 y2 y3 y4 y5
   unfold qc.l1
   exact z2
  ·intro y0 y1 y2 y3
   unfold qc.j1
   exact z2
  ·intro y0 y1 y2 y3
   unfold qc.j2
   exact z2
theorem qc.mono: ∀a0 k,LeO (qc.f k a0) (qc.f (k+1) a0):=by
 intro a0 k
 obtain⟨ih0,ih1,ih2,ih3,ih4⟩:=qc.wm k
 unfold qc.f
 exact z2
set_option maxHeartbeats 8000000 in
set_option maxRecDepth 100000 in
theorem qc.calls (k:Nat) (a0:ByteArray) (r:Bool) (w:World) (h:qc.f k a0=some r):
  Calls Tryz.prog 54 #[.string a0] w fun e w'=>e= .returned (.bool r)∧zi w w':=by
 have H:(qc.l0 k a0 0)=some r:=h
 clear h
 have H':=qn.mk H
 clear H
 go_enter Tryz.func54,Tryz.ntmps54
 go_wp2
 go_loopg [3] k (fun kq v3 w'=> ∃(x3_1:Int),v3= .int .i64 x3_1∧qn (qc.l0 kq a0 x3_1=some r)∧qn (kq≤k)∧zi w w')
 case atStart=>exact⟨(0),z11,H',⟨Nat.le_refl _⟩,by repeat (first|exact zi.refl _|apply zi.step)⟩
 case round=>
  clear H'
  obtain⟨x3_1,rfl,HA,HK1,⟨m1,rfl⟩⟩:=hrel
  cases gk with
  |zero=>exact absurd HA.out (by simp[qc.l0])
  |succ k1=>
   have H:=HA.out
   clear HA
   simp only[qc.l0]at H
   by_cases c2:x3_1<(a0.size:Int)
   ·rw [if_pos c2] at H
    have Vj:=decide_eq_true c2
    clear c2
    by_cases c3:0≤x3_1
    ·rw [if_pos c3] at H
     have Qm:=decide_eq_true c3
     clear c3
     have HC5:=qn.mk H
     clear H
     have p4:0≤(x3_1:Int):=of_decide_eq_true z10
     have q4:x3_1<(a0.size:Int):=of_decide_eq_true z10
     have hx4:=xo a0 x3_1
     replace p4:=eq_true p4
     replace q4:=eq_true q4
     go_upto_block 2 with(fail)
     go_cut [5,6,7] (fun v5 v6 v7 wc=> ∃(kq:Nat) (x5_4:Int) (x6_4:Int) (x7_4:Int),v5= .int .i64 x5_4∧v6= .int .i64 x6_4∧v7= .int .i64 x7_4∧qn (qc.j3 kq a0 x3_1 x5_4 x6_4 x7_4=some r)∧qn (kq≤k1)∧zi w wc)
     case first=>
      have H:=HC5.out
      clear HC5
      by_cases c6:(wrap64 (bt a0 x3_1))<128
      ·rw [if_pos c6] at H
       have Vo:=decide_eq_true c6
       clear c6
       (first|rw[Vo]|(simp only[yc,Qc];rw[Vo])|skip)
       have H':=qn.mk H
       clear H
       go_wp2
       go_meet
       case rel=>exact⟨_,(1),(0),(wrap64 (bt a0 x3_1)),z11,z11,z11,H',⟨by have:=HK1.out;first|omega|exact Nat.le_refl _⟩,by repeat (first|exact zi.refl _|apply zi.step)⟩
      ·rw [if_neg c6] at H
       have Vo:=decide_eq_false c6
       clear c6
       (first|rw[Vo]|(simp only[yc,Qc];rw[Vo])|skip)
       have HC7:=qn.mk H
       clear H
       go_upto_region 7 with(fail)
       go_cut [22] (fun v22 wc=> ∃(kq:Nat) (x22_6:Bool),v22= .bool x22_6∧qn (qc.j1 kq a0 x3_1 (wrap64 (bt a0 x3_1)) x22_6=some r)∧qn (kq≤k1)∧zi w wc)
       case first=>
        have H:=HC7.out
        clear HC7
        by_cases c8:(wrap64 (bt a0 x3_1))≥192
        ·rw [if_pos c8] at H
         have Z0:=decide_eq_true c8
         clear c8
         (first|rw[Z0]|(simp only[yc,Qc];rw[Z0])|skip)
         have H':=qn.mk H
         clear H
         go_wp2
         go_meet
         case rel=>exact⟨_,(decide ((wrap64 (bt a0 x3_1))<224)),z11,H',⟨by have:=HK1.out;first|omega|exact Nat.le_refl _⟩,by repeat (first|exact zi.refl _|apply zi.step)⟩
        ·rw [if_neg c8] at H
         have Z0:=decide_eq_false c8
         clear c8
         (first|rw[Z0]|(simp only[yc,Qc];rw[Z0])|skip)
         have H':=qn.mk H
         clear H
         go_wp2
         go_meet
         case rel=>exact⟨_,(false),z11,H',⟨by have:=HK1.out;first|omega|exact Nat.le_refl _⟩,by repeat (first|exact zi.refl _|apply zi.step)⟩
       case rest=>
        clear HC7
        try clear c2
        try clear Vj
        try clear p2
        try clear c3
        try clear Qm
        try clear p4
        try clear q4
        try clear hx4
        try clear c5
        try clear c6
        try clear Vo
        try clear p6
        try clear c8
        try clear Z0
        try clear p4
        try clear q4
        obtain⟨kq,x22_6,rfl,HA,HJ6,⟨mc6,rfl⟩⟩:=hcut
        cases kq with
        |zero=>exact absurd HA.out (by simp[qc.j1])
        |succ kj6=>
         have H:=HA.out
         clear HA
         simp only[qc.j1]at H
         by_cases c9:x22_6=true
         ·subst c9
          rw[if_pos rfl]at H
          have H':=qn.mk H
          clear H
          go_wp2
          go_meet
          case rel=>exact⟨_,(2),(128),(wrap64 ((wrap64 (bt a0 x3_1)) - 192)),z11,z11,z11,H',⟨by have:=HK1.out;have:=HJ6.out;first|omega|exact Nat.le_refl _⟩,by repeat (first|exact zi.refl _|apply zi.step)⟩
         ·replace c9 := Bool.eq_false_iff.mpr c9
          subst c9
          rw[if_neg (show¬(false=true)by decide)]at H
          have nU:=qn.mk H
          clear H
          go_upto_region 9 with(fail)
          go_cut [31] (fun v31 wc=> ∃(kq:Nat) (x31_9:Bool),v31= .bool x31_9∧qn (qc.j2 kq a0 x3_1 (wrap64 (bt a0 x3_1)) x31_9=some r)∧qn (kq≤kj6)∧zi w wc)
          case first=>
           have H:=nU.out
           clear nU
           by_cases c11:(wrap64 (bt a0 x3_1))≥224
           ·rw [if_pos c11] at H
            have ZG:=decide_eq_true c11
            clear c11
            (first|rw[ZG]|(simp only[yc,Qc];rw[ZG])|skip)
            have H':=qn.mk H
            clear H
            go_wp2
            go_meet
            case rel=>exact⟨_,(decide ((wrap64 (bt a0 x3_1))<240)),z11,H',⟨by have:=HK1.out;have:=HJ6.out;first|omega|exact Nat.le_refl _⟩,by repeat (first|exact zi.refl _|apply zi.step)⟩
           ·rw [if_neg c11] at H
            have ZG:=decide_eq_false c11
            clear c11
            (first|rw[ZG]|(simp only[yc,Qc];rw[ZG])|skip)
            have H':=qn.mk H
            clear H
            go_wp2
            go_meet
            case rel=>exact⟨_,(false),z11,H',⟨by have:=HK1.out;have:=HJ6.out;first|omega|exact Nat.le_refl _⟩,by repeat (first|exact zi.refl _|apply zi.step)⟩
          case rest=>
           clear nU
           try clear c1
           try clear c2
           try clear Vj
           try clear p2
           try clear c3
           try clear Qm
           try clear p4
           try clear q4
           try clear hx4
           try clear c5
           try clear c6
           try clear Vo
           try clear p6
           try clear c8
           try clear Z0
           try clear c9
           try clear c11
           try clear ZG
           try clear p2
           try clear p4
           try clear p6
           try clear q4
           obtain⟨kq,x31_9,rfl,HA,HJ9,⟨mc9,rfl⟩⟩:=hcut
           cases kq with
           |zero=>exact absurd HA.out (by simp[qc.j2])
           |succ kj9=>
            have H:=HA.out
            clear HA
            simp only[qc.j2]at H
            by_cases c12:x31_9=true
            ·subst c12
             rw[if_pos rfl]at H
             have H':=qn.mk H
             clear H
             go_wp2
             go_meet
             case rel=>exact⟨_,(3),(2048),(wrap64 ((wrap64 (bt a0 x3_1)) - 224)),z11,z11,z11,H',⟨by have:=HK1.out;have:=HJ6.out;have:=HJ9.out;first|omega|exact Nat.le_refl _⟩,by repeat (first|exact zi.refl _|apply zi.step)⟩
            ·replace c12 := Bool.eq_false_iff.mpr c12
             subst c12
             rw[if_neg (show¬(false=true)by decide)]at H
             by_cases c13:(wrap64 (bt a0 x3_1))≥240
             ·rw [if_pos c13] at H
              have YD:=decide_eq_true c13
              clear c13
              by_cases c14:(wrap64 (bt a0 x3_1))<248
              ·rw [if_pos c14] at H
               have az:=decide_eq_true c14
               clear c14
               have H':=qn.mk H
               clear H
               go_wp2
               go_meet
               case rel=>exact⟨_,(4),(65536),(wrap64 ((wrap64 (bt a0 x3_1)) - 240)),z11,z11,z11,H',⟨by have:=HK1.out;have:=HJ6.out;have:=HJ9.out;first|omega|exact Nat.le_refl _⟩,by repeat (first|exact zi.refl _|apply zi.step)⟩
              ·rw [if_neg c14] at H
               have az:=decide_eq_false c14
               clear c14
               obtain rfl:=Option.some.inj H
               go_wp2
               go_ret
               exact za
             ·rw [if_neg c13] at H
              have YD:=decide_eq_false c13
              clear c13
              obtain rfl:=Option.some.inj H
              go_wp2
              go_ret
              exact za
     case rest=>
      clear HC5
      try clear c1
      try clear c2
      try clear Vj
      try clear p2
      try clear c3
      try clear Qm
      try clear p4
      try clear q4
      try clear hx4
      try clear c5
      try clear c6
      try clear Vo
      try clear p6
      try clear c8
      try clear Z0
      try clear c9
      try clear c11
      try clear ZG
      try clear c12
      try clear c13
      try clear YD
      try clear c14
      try clear az
      try clear p2
      try clear p4
      try clear p6
      try clear q4
      obtain⟨kq,x5_4,x6_4,x7_4,rfl,rfl,rfl,HA,HJ4,⟨mc4,rfl⟩⟩:=hcut
      cases kq with
      |zero=>exact absurd HA.out (by simp[qc.j3])
      |succ kj4=>
       have H:=HA.out
       clear HA
       simp only[qc.j3]at H
       by_cases c15:(wrap64 ((a0.size:Int) - x3_1))<x5_4
       ·rw [if_pos c15] at H
        have lB:=decide_eq_true c15
        clear c15
        obtain rfl:=Option.some.inj H
        go_wp2
        go_ret
        exact za
       ·rw [if_neg c15] at H
        have lB:=decide_eq_false c15
        clear c15
        have H':=qn.mk H
        clear H
        go_wp2
        go_loopg [7,8] kj4 (fun kq v7 v8 w'=> ∃(x7_3:Int) (x8_3:Int),v7= .int .i64 x7_3∧v8= .int .i64 x8_3∧qn (qc.l1 kq a0 x3_1 x5_4 x6_4 x7_3 x8_3=some r)∧qn (kq≤kj4)∧zi w w')
        case atStart=>exact⟨(x7_4),(1),z11,z11,H',⟨Nat.le_refl _⟩,by repeat (first|exact zi.refl _|apply zi.step)⟩
        case round=>
         clear H'
         try clear c1
         try clear c2
         try clear Vj
         try clear p2
         try clear c3
         try clear Qm
         try clear c4
         try clear p4
         try clear q4
         try clear hx4
         try clear c5
         try clear c6
         try clear Vo
         try clear p6
         try clear c8
         try clear Z0
         try clear c9
         try clear c11
         try clear ZG
         try clear c12
         try clear c13
         try clear YD
         try clear c14
         try clear az
         try clear c15
         try clear lB
         try clear p2
         try clear p4
         try clear p6
         try clear q4
         obtain⟨x7_3,x8_3,rfl,rfl,HA,HK3,⟨m3,rfl⟩⟩:=hrel
         cases gk with
         |zero=>exact absurd HA.out (by simp[qc.l1])
         |succ k3=>
          have H:=HA.out
          clear HA
          simp only[qc.l1]at H
          by_cases c16:x8_3<x5_4
          ·rw [if_pos c16] at H
           have iW:=decide_eq_true c16
           clear c16
           obtain⟨ji17,Jo⟩: ∃j_:Int,(wrap64 (x3_1+x8_3))=j_:=⟨_,rfl⟩
           replace H:(if 0≤(ji17)then(if(ji17)<(a0.size:Int)then(if(wrap64 (bt a0 (ji17)))<128 then(some false)else(if(wrap64 (bt a0 (ji17)))≥192 then(some false)else(qc.l1 k3 a0 x3_1 x5_4 x6_4 (wrap64 ((wrap64 ((wrap64 (x7_3*64))+(wrap64 (bt a0 (ji17))))) - 128)) (wrap64 (x8_3+1)))))else(none))else(none))=some r:=by first|(rw[Jo]at H;exact H)|(simp only[Jo]at H ⊢;exact H)
           have si:(IntKind.i64.wrap (x3_1+x8_3))=ji17:=(yc _).trans Jo
           by_cases c18:0≤(ji17)
           ·rw [if_pos c18] at H
            have pA:=decide_eq_true c18
            clear c18
            by_cases c19:(ji17)<(a0.size:Int)
            ·rw [if_pos c19] at H
             have dR:=decide_eq_true c19
             clear c19
             by_cases c21:(wrap64 (bt a0 (ji17)))<128
             ·rw [if_pos c21] at H
              have ln:=decide_eq_true c21
              clear c21
              obtain rfl:=Option.some.inj H
              have p20:0≤((ji17):Int):=of_decide_eq_true z10
              have q20:(ji17)<(a0.size:Int):=of_decide_eq_true z10
              have pO:=xo a0 (ji17)
              replace p20:=eq_true p20
              replace q20:=eq_true q20
              go_wp2
              go_ret
              exact z9
             ·rw [if_neg c21] at H
              have ln:=decide_eq_false c21
              clear c21
              by_cases c22:(wrap64 (bt a0 (ji17)))≥192
              ·rw [if_pos c22] at H
               have lF:=decide_eq_true c22
               clear c22
               obtain rfl:=Option.some.inj H
               have p20:0≤((ji17):Int):=of_decide_eq_true z10
               have q20:(ji17)<(a0.size:Int):=of_decide_eq_true z10
               have pO:=xo a0 (ji17)
               replace p20:=eq_true p20
               replace q20:=eq_true q20
               go_wp2
               go_ret
               exact z9
              ·rw [if_neg c22] at H
               have lF:=decide_eq_false c22
               clear c22
               have H':=qn.mk H
               clear H
               have p20:0≤((ji17):Int):=of_decide_eq_true z10
               have q20:(ji17)<(a0.size:Int):=of_decide_eq_true z10
               have pO:=xo a0 (ji17)
               replace p20:=eq_true p20
               replace q20:=eq_true q20
               go_wp2
               go_roundg k3
               case measure=>have:=HK1.out;have:=HJ4.out;have:=HK3.out;omega
               case rel=>exact⟨(wrap64 ((wrap64 ((wrap64 (x7_3*64))+(wrap64 (bt a0 (ji17))))) - 128)),(wrap64 (x8_3+1)),(by first|rfl|(simp;done)|(simp only[←Jo]<;>(first|rfl|simp))|(simp[*];done)),z11,H',⟨by have:=HK1.out;have:=HJ4.out;have:=HK3.out;omega⟩,by repeat (first|exact zi.refl _|apply zi.step)⟩
            ·rw [if_neg c19] at H
             exact absurd H z15
           ·rw [if_neg c18] at H
            exact absurd H z15
          ·rw [if_neg c16] at H
           have iW:=decide_eq_false c16
           clear c16
           by_cases c23:x7_3<x6_4
           ·rw [if_pos c23] at H
            have Yr:=decide_eq_true c23
            clear c23
            obtain rfl:=Option.some.inj H
            go_wp2
            go_ret
            exact za
           ·rw [if_neg c23] at H
            have Yr:=decide_eq_false c23
            clear c23
            by_cases c24:x7_3>1114111
            ·rw [if_pos c24] at H
             have dA:=decide_eq_true c24
             clear c24
             obtain rfl:=Option.some.inj H
             go_wp2
             go_ret
             exact za
            ·rw [if_neg c24] at H
             have dA:=decide_eq_false c24
             clear c24
             by_cases c25:x7_3≥55296
             ·rw [if_pos c25] at H
              have cZ:=decide_eq_true c25
              clear c25
              by_cases c26:x7_3<57344
              ·rw [if_pos c26] at H
               have aG:=decide_eq_true c26
               clear c26
               obtain rfl:=Option.some.inj H
               go_wp2
               go_ret
               exact za
              ·rw [if_neg c26] at H
               have aG:=decide_eq_false c26
               clear c26
               have H':=qn.mk H
               clear H
               go_wp2
               go_roundg k3
               case measure=>have:=HK1.out;have:=HJ4.out;have:=HK3.out;omega
               case rel=>exact⟨(wrap64 (x3_1+x5_4)),z11,H',⟨by have:=HK1.out;have:=HJ4.out;have:=HK3.out;omega⟩,by repeat (first|exact zi.refl _|apply zi.step)⟩
             ·rw [if_neg c25] at H
              have cZ:=decide_eq_false c25
              clear c25
              have H':=qn.mk H
              clear H
              go_wp2
              go_roundg k3
              case measure=>have:=HK1.out;have:=HJ4.out;have:=HK3.out;omega
              case rel=>exact⟨(wrap64 (x3_1+x5_4)),z11,H',⟨by have:=HK1.out;have:=HJ4.out;have:=HK3.out;omega⟩,by repeat (first|exact zi.refl _|apply zi.step)⟩
    ·rw [if_neg c3] at H
     exact absurd H z15
   ·rw [if_neg c2] at H
    have Vj:=decide_eq_false c2
    clear c2
    obtain rfl:=Option.some.inj H
    go_wp2
    go_ret
    exact za
def qp.j0:Nat→Int→Bool→Int→Int→ByteArray→Option (Bool)
 |0,_,_,_,_,_=>none
 |k+1,x4,x30,x102000,x102001,x102002=>if x30=true then(some (x102002.toList==([]:List UInt8)))else(if x4=4 then(if x102001=0 then(if(x102002.size:Int)≤1024 then((qc.f k x102002).bind fun t102=>(some t102))else(some false))else(some false))else(some false))
def qp.f (k:Nat) (a0_0:Int) (a0_1:Int) (a0_2:ByteArray):Option (Bool):=if a0_0=0 then(if a0_1=0 then(some (a0_2.toList==([]:List UInt8)))else(some false))else(if a0_0=1 then(if a0_2.toList=([]:List UInt8)then(if a0_1=0 then(some true)else(some (a0_1==1)))else(some false))else(if a0_0=2 then(qp.j0 k a0_0 (a0_0==2) a0_0 a0_1 a0_2)else(qp.j0 k a0_0 (a0_0==3) a0_0 a0_1 a0_2)))
theorem qp.wm: ∀k,(∀y0 y1 y2 y3 y4,LeO (qp.j0 k y0 y1 y2 y3 y4) (qp.j0 (k+1) y0 y1 y2 y3 y4))
 |0=>fun _ _ _ _ _ r h=>by simp[qp.j0]at h
 |k+1=>by
  have ih0:=qp.wm k
  ·intro y0 y1 y2 y3 y4
   unfold qp.j0
   exact z4
theorem qp.mono: ∀a0 a1 a2 k,LeO (qp.f k a0 a1 a2) (qp.f (k+1) a0 a1 a2):=by
 intro a0 a1 a2 k
 have ih0:=qp.wm k
 unfold qp.f
 exact z4
set_option maxHeartbeats 8000000 in
set_option maxRecDepth 100000 in
theorem qp.calls (k:Nat) (a0_0:Int) (a0_1:Int) (a0_2:ByteArray) (r:Bool) (w:World) (h:qp.f k a0_0 a0_1 a0_2=some r):
  Calls Tryz.prog 15 #[.agg #[.int .i64 a0_0,.int .i64 a0_1,.string a0_2]] w fun e w'=>e= .returned (.bool r)∧Below w.heap.size w w':=by
 have sa:=Tryz.underlying24
 have HB:=qn.mk (Below.refl w.heap.size w)
 have H:(if a0_0=0 then(if a0_1=0 then(some (a0_2.toList==([]:List UInt8)))else(some false))else(if a0_0=1 then(if a0_2.toList=([]:List UInt8)then(if a0_1=0 then(some true)else(some (a0_1==1)))else(some false))else(if a0_0=2 then(qp.j0 k a0_0 (a0_0==2) a0_0 a0_1 a0_2)else(qp.j0 k a0_0 (a0_0==3) a0_0 a0_1 a0_2))))=some r:=h
 clear h
 by_cases c2:a0_0=0
 ·rw [if_pos c2] at H
  have Vj:=beq_iff_eq.mpr c2
  have oK:=bne_eq_false_iff_eq.mpr c2
  clear c2
  by_cases c3:a0_1=0
  ·rw [if_pos c3] at H
   have Qm:=beq_iff_eq.mpr c3
   have oN:=bne_eq_false_iff_eq.mpr c3
   clear c3
   obtain rfl:=Option.some.inj H
   go_enter Tryz.func15,Tryz.ntmps15
   go_wp2_with (first|((with_reducible refine kI (N:=1) rfl ?_);(try (refine wU (by rfl) ?_;dsimp only));refine kF ?hg (N:=1) ?hd (cs:= #[.int .i64 a0_0,.int .i64 a0_1,.string a0_2]) (t:=24) ?hr ?_;(case hd=>rfl);(case hg=>rfl);(case hr=>first|(go_simp;done)|(go_simp;rfl));intro zB hg w4 hbox hb;have n0_:=qn.mk (qT zd hb);have n1_:=qn.mk (hbox);have n2_:=qn.mk ((by rw[hg];exact(qX zd):w.heap.size≤zB));have n3_:=qn.mk ((by rw[hg];exact(qX zd):w.heap.size≤zB));clear HB;have HB:=n0_;have zg:=n1_;have Xa:=n2_;have ZK:=n3_;clear n0_ n1_ n2_ n3_;clear hb hbox hg;have nL:w4.cell? ⟨zB,0,none⟩=some (.int .i64 a0_0):=(qy zg.out 0).trans rfl;have nz:w4.cell? ⟨zB,1,none⟩=some (.int .i64 a0_1):=(qy zg.out 1).trans rfl;have l8:w4.cell? ⟨zB,2,none⟩=some (.string a0_2):=(qy zg.out 2).trans rfl;have mb:=qm zg.out 0;have ng:=qm zg.out 1;have nZ:=qm zg.out 2))
   go_ret
   exact z7
  ·rw [if_neg c3] at H
   have Qm:=beq_eq_false_iff_ne.mpr c3
   have oN:=bne_iff_ne.mpr c3
   obtain rfl:=Option.some.inj H
   go_enter Tryz.func15,Tryz.ntmps15
   go_wp2_with (first|((with_reducible refine kI (N:=1) rfl ?_);(try (refine wU (by rfl) ?_;dsimp only));refine kF ?hg (N:=1) ?hd (cs:= #[.int .i64 a0_0,.int .i64 a0_1,.string a0_2]) (t:=24) ?hr ?_;(case hd=>rfl);(case hg=>rfl);(case hr=>first|(go_simp;done)|(go_simp;rfl));intro zB hg w6 hbox hb;have n0_:=qn.mk (qT zd hb);have n1_:=qn.mk (hbox);have n2_:=qn.mk ((by rw[hg];exact(qX zd):w.heap.size≤zB));have n3_:=qn.mk ((by rw[hg];exact(qX zd):w.heap.size≤zB));clear HB;have HB:=n0_;have zg:=n1_;have Xa:=n2_;have ZK:=n3_;clear n0_ n1_ n2_ n3_;clear hb hbox hg;have nJ:w6.cell? ⟨zB,0,none⟩=some (.int .i64 a0_0):=(qy zg.out 0).trans rfl;have mo:w6.cell? ⟨zB,1,none⟩=some (.int .i64 a0_1):=(qy zg.out 1).trans rfl;have mT:w6.cell? ⟨zB,2,none⟩=some (.string a0_2):=(qy zg.out 2).trans rfl;have nh:=qm zg.out 0;have mf:=qm zg.out 1;have nC:=qm zg.out 2))
   go_ret
   exact z7
 ·rw [if_neg c2] at H
  have Vj:=beq_eq_false_iff_ne.mpr c2
  have oK:=bne_iff_ne.mpr c2
  by_cases c8:a0_0=1
  ·rw [if_pos c8] at H
   have Z0:=beq_iff_eq.mpr c8
   have pC:=bne_eq_false_iff_eq.mpr c8
   clear c8
   by_cases c9:a0_2.toList=([]:List UInt8)
   ·rw [if_pos c9] at H
    have bk:=beq_iff_eq.mpr c9
    have dC:=bne_eq_false_iff_eq.mpr c9
    clear c9
    by_cases c10:a0_1=0
    ·rw [if_pos c10] at H
     have VL:=beq_iff_eq.mpr c10
     have JJ:=bne_eq_false_iff_eq.mpr c10
     clear c10
     obtain rfl:=Option.some.inj H
     go_enter Tryz.func15,Tryz.ntmps15
     go_wp2_with (first|((with_reducible refine kI (N:=1) rfl ?_);(try (refine wU (by rfl) ?_;dsimp only));refine kF ?hg (N:=1) ?hd (cs:= #[.int .i64 a0_0,.int .i64 a0_1,.string a0_2]) (t:=24) ?hr ?_;(case hd=>rfl);(case hg=>rfl);(case hr=>first|(go_simp;done)|(go_simp;rfl));intro zB hg w11 hbox hb;have n0_:=qn.mk (qT zd hb);have n1_:=qn.mk (hbox);have n2_:=qn.mk ((by rw[hg];exact(qX zd):w.heap.size≤zB));have n3_:=qn.mk ((by rw[hg];exact(qX zd):w.heap.size≤zB));clear HB;have HB:=n0_;have zg:=n1_;have Xa:=n2_;have ZK:=n3_;clear n0_ n1_ n2_ n3_;clear hb hbox hg;have Wn:w11.cell? ⟨zB,0,none⟩=some (.int .i64 a0_0):=(qy zg.out 0).trans rfl;have Wi:w11.cell? ⟨zB,1,none⟩=some (.int .i64 a0_1):=(qy zg.out 1).trans rfl;have Jd:w11.cell? ⟨zB,2,none⟩=some (.string a0_2):=(qy zg.out 2).trans rfl;have W5:=qm zg.out 0;have Wg:=qm zg.out 1;have V9:=qm zg.out 2))
     go_ret
     exact z7
    ·rw [if_neg c10] at H
     have VL:=beq_eq_false_iff_ne.mpr c10
     have JJ:=bne_iff_ne.mpr c10
     obtain rfl:=Option.some.inj H
     go_enter Tryz.func15,Tryz.ntmps15
     go_wp2_with (first|((with_reducible refine kI (N:=1) rfl ?_);(try (refine wU (by rfl) ?_;dsimp only));refine kF ?hg (N:=1) ?hd (cs:= #[.int .i64 a0_0,.int .i64 a0_1,.string a0_2]) (t:=24) ?hr ?_;(case hd=>rfl);(case hg=>rfl);(case hr=>first|(go_simp;done)|(go_simp;rfl));intro zB hg w13 hbox hb;have n0_:=qn.mk (qT zd hb);have n1_:=qn.mk (hbox);have n2_:=qn.mk ((by rw[hg];exact(qX zd):w.heap.size≤zB));have n3_:=qn.mk ((by rw[hg];exact(qX zd):w.heap.size≤zB));clear HB;have HB:=n0_;have zg:=n1_;have Xa:=n2_;have ZK:=n3_;clear n0_ n1_ n2_ n3_;clear hb hbox hg;have Wd:w13.cell? ⟨zB,0,none⟩=some (.int .i64 a0_0):=(qy zg.out 0).trans rfl;have Wx:w13.cell? ⟨zB,1,none⟩=some (.int .i64 a0_1):=(qy zg.out 1).trans rfl;have WI:w13.cell? ⟨zB,2,none⟩=some (.string a0_2):=(qy zg.out 2).trans rfl;have Wj:=qm zg.out 0;have WS:=qm zg.out 1;have WU:=qm zg.out 2))
     go_ret
     exact z7
   ·rw [if_neg c9] at H
    have bk:=beq_eq_false_iff_ne.mpr c9
    have dC:=bne_iff_ne.mpr c9
    obtain rfl:=Option.some.inj H
    go_enter Tryz.func15,Tryz.ntmps15
    go_wp2_with (first|((with_reducible refine kI (N:=1) rfl ?_);(try (refine wU (by rfl) ?_;dsimp only));refine kF ?hg (N:=1) ?hd (cs:= #[.int .i64 a0_0,.int .i64 a0_1,.string a0_2]) (t:=24) ?hr ?_;(case hd=>rfl);(case hg=>rfl);(case hr=>first|(go_simp;done)|(go_simp;rfl));intro zB hg w15 hbox hb;have n0_:=qn.mk (qT zd hb);have n1_:=qn.mk (hbox);have n2_:=qn.mk ((by rw[hg];exact(qX zd):w.heap.size≤zB));have n3_:=qn.mk ((by rw[hg];exact(qX zd):w.heap.size≤zB));clear HB;have HB:=n0_;have zg:=n1_;have Xa:=n2_;have ZK:=n3_;clear n0_ n1_ n2_ n3_;clear hb hbox hg;have Wl:w15.cell? ⟨zB,0,none⟩=some (.int .i64 a0_0):=(qy zg.out 0).trans rfl;have W6:w15.cell? ⟨zB,1,none⟩=some (.int .i64 a0_1):=(qy zg.out 1).trans rfl;have Jj:w15.cell? ⟨zB,2,none⟩=some (.string a0_2):=(qy zg.out 2).trans rfl;have W9:=qm zg.out 0;have WM:=qm zg.out 1;have Wc:=qm zg.out 2))
    go_ret
    exact z7
  ·rw [if_neg c8] at H
   have Z0:=beq_eq_false_iff_ne.mpr c8
   have pC:=bne_iff_ne.mpr c8
   have mi:=qn.mk H
   clear H
   go_enter Tryz.func15,Tryz.ntmps15
   go_upto_if 30 with(first|((with_reducible refine kI (N:=1) rfl ?_);(try (refine wU (by rfl) ?_;dsimp only));refine kF ?hg (N:=1) ?hd (cs:= #[.int .i64 a0_0,.int .i64 a0_1,.string a0_2]) (t:=24) ?hr ?_;(case hd=>rfl);(case hg=>rfl);(case hr=>first|(go_simp;done)|(go_simp;rfl));intro zB hg w18 hbox hb;have n0_:=qn.mk (qT zd hb);have n1_:=qn.mk (hbox);have n2_:=qn.mk ((by rw[hg];exact(qX zd):w.heap.size≤zB));have n3_:=qn.mk ((by rw[hg];exact(qX zd):w.heap.size≤zB));clear HB;have HB:=n0_;have zg:=n1_;have Xa:=n2_;have ZK:=n3_;clear n0_ n1_ n2_ n3_;clear hb hbox hg;have hY:w18.cell? ⟨zB,0,none⟩=some (.int .i64 a0_0):=(qy zg.out 0).trans rfl;have fK:w18.cell? ⟨zB,1,none⟩=some (.int .i64 a0_1):=(qy zg.out 1).trans rfl;have ft:w18.cell? ⟨zB,2,none⟩=some (.string a0_2):=(qy zg.out 2).trans rfl;have iy:=qm zg.out 0;have hZ:=qm zg.out 1;have ig:=qm zg.out 2))
   (try simp only[Act.put,List.setIfInBounds_toArray,List.set_cons_zero,List.set_cons_succ])
   go_cut [30] (fun v30 wc=> ∃(kq:Nat) (x30_16:Bool),v30= .bool x30_16∧qn (qp.j0 kq a0_0 x30_16 a0_0 a0_1 a0_2=some r)∧qn (kq≤k)∧qn (wc.heap[zB]? =some (.cells #[.int .i64 a0_0,.int .i64 a0_1,.string a0_2] 24 (0,0)))∧qn (Below w.heap.size w wc))
   case first=>
    have H:=mi.out
    clear mi
    by_cases c20:a0_0=2
    ·rw [if_pos c20] at H
     have VX:=beq_iff_eq.mpr c20
     have lu:=bne_eq_false_iff_eq.mpr c20
     clear c20
     (first|rw[VX]|(simp only[yc,Qc];rw[VX])|skip)
     have H':=qn.mk H
     clear H
     go_wp2
     go_meet
     case rel=>exact⟨_,((a0_0==2)),z11,H',⟨by first|omega|exact Nat.le_refl _⟩,⟨by(with_reducible repeat (first|refine jF ?_ _|refine xB ?_|refine jB ?_ _));exact zg.out⟩,⟨by repeat (first|(with_reducible first|exact HB.out|apply zl|apply q7|apply zt|refine wy ?_ ZK.out)|exact HB.out)⟩⟩
    ·rw [if_neg c20] at H
     have VX:=beq_eq_false_iff_ne.mpr c20
     have lu:=bne_iff_ne.mpr c20
     (first|rw[VX]|(simp only[yc,Qc];rw[VX])|skip)
     have H':=qn.mk H
     clear H
     go_wp2
     go_meet
     case rel=>exact⟨_,((a0_0==3)),z11,H',⟨by first|omega|exact Nat.le_refl _⟩,⟨by(with_reducible repeat (first|refine jF ?_ _|refine xB ?_|refine jB ?_ _));exact zg.out⟩,⟨by repeat (first|(with_reducible first|exact HB.out|apply zl|apply q7|apply zt|refine wy ?_ ZK.out)|exact HB.out)⟩⟩
   case rest=>
    clear mi
    try clear c1
    try clear c2
    try clear Vj
    try clear oK
    try clear p2
    try clear c3
    try clear Qm
    try clear oN
    try clear c8
    try clear Z0
    try clear pC
    try clear c9
    try clear bk
    try clear dC
    try clear c10
    try clear VL
    try clear JJ
    try clear c15
    try clear c20
    try clear VX
    try clear lu
    try clear Wn
    try clear Wi
    try clear Jd
    try clear Wd
    try clear Wx
    try clear WI
    try clear Wl
    try clear W6
    try clear Jj
    try clear hY
    try clear fK
    try clear ft
    try clear nL
    try clear nz
    try clear l8
    try clear nJ
    try clear mo
    try clear mT
    try clear W5
    try clear Wg
    try clear V9
    try clear Wj
    try clear WS
    try clear WU
    try clear W9
    try clear WM
    try clear Wc
    try clear iy
    try clear hZ
    try clear ig
    try clear mb
    try clear ng
    try clear nZ
    try clear nh
    try clear mf
    try clear nC
    obtain⟨kq,x30_16,rfl,HA,tV,zg,HB⟩:=hcut
    cases kq with
    |zero=>exact absurd HA.out (by simp[qp.j0])
    |succ kj16=>
     have H:=HA.out
     clear HA
     simp only[qp.j0]at H
     by_cases c21:x30_16=true
     ·subst c21
      rw[if_pos rfl]at H
      obtain rfl:=Option.some.inj H
      have ay:wc.cell? ⟨zB,0,none⟩=some (.int .i64 a0_0):=(qy zg.out 0).trans rfl
      have YK:wc.cell? ⟨zB,1,none⟩=some (.int .i64 a0_1):=(qy zg.out 1).trans rfl
      have YE:wc.cell? ⟨zB,2,none⟩=some (.string a0_2):=(qy zg.out 2).trans rfl
      have Yq:=qm zg.out 0
      have Y4:=qm zg.out 1
      have YY:=qm zg.out 2
      go_wp2
      go_ret
      exact z7
     ·replace c21 := Bool.eq_false_iff.mpr c21
      subst c21
      rw[if_neg (show¬(false=true)by decide)]at H
      by_cases c23:a0_0=4
      ·rw [if_pos c23] at H
       have Yr:=beq_iff_eq.mpr c23
       have iO:=bne_eq_false_iff_eq.mpr c23
       clear c23
       by_cases c24:a0_1=0
       ·rw [if_pos c24] at H
        have dA:=beq_iff_eq.mpr c24
        have pq:=bne_eq_false_iff_eq.mpr c24
        clear c24
        by_cases c25:(a0_2.size:Int)≤1024
        ·rw [if_pos c25] at H
         have cZ:=decide_eq_true c25
         have px:decide (a0_2.size≤1024)=true:=decide_eq_true z14
         clear c25
         replace H:=Option.bind_eq_some_iff.mp H
         obtain⟨t102,om,H⟩:=H
         replace H:(some t102)=some r:=H
         have A26:=qn.mk om
         clear om
         obtain rfl:=Option.some.inj H
         have rb:wc.cell? ⟨zB,0,none⟩=some (.int .i64 a0_0):=(qy zg.out 0).trans rfl
         have rK:wc.cell? ⟨zB,1,none⟩=some (.int .i64 a0_1):=(qy zg.out 1).trans rfl
         have rj:wc.cell? ⟨zB,2,none⟩=some (.string a0_2):=(qy zg.out 2).trans rfl
         have pV:=qm zg.out 0
         have pW:=qm zg.out 1
         have rL:=qm zg.out 2
         go_wp2_with (first|(go_at_call 54;(with_reducible refine(qc.calls kj16 a0_2 t102 _ A26.out).mono ?_);rintro e w' ⟨rfl,⟨nd,rfl⟩⟩))
         go_ret
         exact z7
        ·rw [if_neg c25] at H
         have cZ:=decide_eq_false c25
         have px:decide (a0_2.size≤1024)=false:=decide_eq_false z14
         clear c25
         obtain rfl:=Option.some.inj H
         have rH:wc.cell? ⟨zB,0,none⟩=some (.int .i64 a0_0):=(qy zg.out 0).trans rfl
         have pY:wc.cell? ⟨zB,1,none⟩=some (.int .i64 a0_1):=(qy zg.out 1).trans rfl
         have rJ:wc.cell? ⟨zB,2,none⟩=some (.string a0_2):=(qy zg.out 2).trans rfl
         have rD:=qm zg.out 0
         have rS:=qm zg.out 1
         have rF:=qm zg.out 2
         go_wp2
         go_ret
         exact z7
       ·rw [if_neg c24] at H
        have dA:=beq_eq_false_iff_ne.mpr c24
        have pq:=bne_iff_ne.mpr c24
        obtain rfl:=Option.some.inj H
        have au:wc.cell? ⟨zB,0,none⟩=some (.int .i64 a0_0):=(qy zg.out 0).trans rfl
        have YA:wc.cell? ⟨zB,1,none⟩=some (.int .i64 a0_1):=(qy zg.out 1).trans rfl
        have aj:wc.cell? ⟨zB,2,none⟩=some (.string a0_2):=(qy zg.out 2).trans rfl
        have av:=qm zg.out 0
        have YF:=qm zg.out 1
        have Yl:=qm zg.out 2
        go_wp2
        go_ret
        exact z7
      ·rw [if_neg c23] at H
       have Yr:=beq_eq_false_iff_ne.mpr c23
       have iO:=bne_iff_ne.mpr c23
       obtain rfl:=Option.some.inj H
       go_wp2
       go_ret
       exact z7
end Go.Proofs.YtaiokpmmjbiajaaGreatDoor.PLeaf
