/- A part of the proof of this claim. No condition beyond those that each theorem names. -/
import Derived.Test.YtaiokpmmjbiajaaGreatDoorAPLeafx0
namespace Go.Proofs.YtaiokpmmjbiajaaGreatDoor.PLeaf
open Go.RowKit Go.Proofs.YtaiokpmmjbiajaaGreatDoorW.PrintWords Go.Proofs.YtaiokpmmjbiajaaGreatDoorW.PrintLast Go.Proofs.YtaiokpmmjbiajaaGreatDoorW.PrintMore
attribute [local go_sem] yD yn QO QU xu xH yE yI
set_option linter.unusedVariables false
set_option linter.unusedSimpArgs false
mutual
def qc.l0:Nat→ByteArray→Int→Option (Bool)
 |0,_,_=>none
 |k+1,x0,x3=>if x3<(x0.size:Int)then(if 0≤x3 then(if(wrap64 (bt x0 x3))<128 then(qc.j3 k x0 x3 1 0 (wrap64 (bt x0 x3)))else(if(wrap64 (bt x0 x3))≥192 then(qc.j1 k x0 x3 (wrap64 (bt x0 x3)) (decide ((wrap64 (bt x0 x3))<224)))else(qc.j1 k x0 x3 (wrap64 (bt x0 x3)) false)))else(none))else(some true)
def qc.j3:Nat→ByteArray→Int→Int→Int→Int→Option (Bool)
 |0,_,_,_,_,_=>none
 |k+1,x0,x3,x5,x6,x7=>if(wrap64 ((x0.size:Int) - x3))<x5 then(some false)else(qc.l1 k x0 x3 x5 x6 x7 1)
def qc.l1:Nat→ByteArray→Int→Int→Int→Int→Int→Option (Bool)
 |0,_,_,_,_,_,_=>none
 |k+1,x0,x3,x5,x6,x7,x8=>if x8<x5 then(if 0≤(wrap64 (x3+x8))then(if(wrap64 (x3+x8))<(x0.size:Int)then(if(wrap64 (bt x0 (wrap64 (x3+x8))))<128 then(some false)else(if(wrap64 (bt x0 (wrap64 (x3+x8))))≥192 then(some false)else(qc.l1 k x0 x3 x5 x6 (wrap64 ((wrap64 ((wrap64 (x7*64))+(wrap64 (bt x0 (wrap64 (x3+x8)))))) - 128)) (wrap64 (x8+1)))))else(none))else(none))else(if x7<x6 then(some false)else(if x7>1114111 then(some false)else(if x7≥55296 then(if x7<57344 then(some false)else(qc.l0 k x0 (wrap64 (x3+x5))))else(qc.l0 k x0 (wrap64 (x3+x5))))))
def qc.j1:Nat→ByteArray→Int→Int→Bool→Option (Bool)
 |0,_,_,_,_=>none
 |k+1,x0,x3,x4,x22=>if x22=true then(qc.j3 k x0 x3 2 128 (wrap64 (x4 - 192)))else(if x4≥224 then(qc.j2 k x0 x3 x4 (decide (x4<240)))else(qc.j2 k x0 x3 x4 false))
def qc.j2:Nat→ByteArray→Int→Int→Bool→Option (Bool)
 |0,_,_,_,_=>none
 |k+1,x0,x3,x4,x31=>if x31=true then(qc.j3 k x0 x3 3 2048 (wrap64 (x4 - 224)))else(if x4≥240 then(if x4<248 then(qc.j3 k x0 x3 4 65536 (wrap64 (x4 - 240)))else(some false))else(some false))
end
def qc.f (k:Nat) (a0:ByteArray):Option (Bool):=qc.l0 k a0 0
theorem qc.wq: ∀k,(∀y0 y1,LeO (qc.l0 k y0 y1) (qc.l0 (k+1) y0 y1))∧(∀y0 y1 y2 y3 y4,LeO (qc.j3 k y0 y1 y2 y3 y4) (qc.j3 (k+1) y0 y1 y2 y3 y4))∧(∀y0 y1 y2 y3 y4 y5,LeO (qc.l1 k y0 y1 y2 y3 y4 y5) (qc.l1 (k+1) y0 y1 y2 y3 y4 y5))∧(∀y0 y1 y2 y3,LeO (qc.j1 k y0 y1 y2 y3) (qc.j1 (k+1) y0 y1 y2 y3))∧(∀y0 y1 y2 y3,LeO (qc.j2 k y0 y1 y2 y3) (qc.j2 (k+1) y0 y1 y2 y3))
 |0=>⟨fun _ _ r h=>by simp[qc.l0]at h,fun _ _ _ _ _ r h=>by simp[qc.j3]at h,fun _ _ _ _ _ _ r h=>by simp[qc.l1]at h,fun _ _ _ _ r h=>by simp[qc.j1]at h,fun _ _ _ _ r h=>by simp[qc.j2]at h⟩
 |k+1=>by
  obtain⟨ih0,ih1,ih2,ih3,ih4⟩:=qc.wq k
  refine⟨?_,?_,?_,?_,?_⟩
  ·intro y0 y1
   unfold qc.l0
   exact z2
  ·intro y0 y1 y2 y3 y4
   unfold qc.j3
   exact z2
  ·intro y0 y1 y2 y3 y4 y5
   unfold qc.l1
   exact z2
  ·intro y0 y1 y2 y3
   unfold qc.j1
   exact z2
  ·intro y0 y1 y2 y3
   unfold qc.j2
   exact z2
theorem qc.mono: ∀a0 k,LeO (qc.f k a0) (qc.f (k+1) a0):=by
 intro a0 k
 obtain⟨ih0,ih1,ih2,ih3,ih4⟩:=qc.wq k
 unfold qc.f
 exact z2
set_option maxHeartbeats 8000000 in
set_option maxRecDepth 100000 in
theorem qc.calls (k:Nat) (a0:ByteArray) (r:Bool) (w:World) (h:qc.f k a0=some r):
  Calls Tryz.prog 54 #[.string a0] w fun e w'=>e= .returned (.bool r)∧zk w w':=by
 have H:(qc.l0 k a0 0)=some r:=h
 clear h
 have H':=qo.mk H
 clear H
 go_enter Tryz.func54,Tryz.ntmps54
 go_wp2
 go_loopg [3] k (fun kq v3 w'=> ∃(x3_1:Int),v3= .int .i64 x3_1∧qo (qc.l0 kq a0 x3_1=some r)∧qo (kq≤k)∧zk w w')
 case atStart=>exact⟨(0),z11,H',⟨Nat.le_refl _⟩,by repeat (first|exact zk.refl _|apply zk.step)⟩
 case round=>
  clear H'
  obtain⟨x3_1,rfl,HA,HK1,⟨m1,rfl⟩⟩:=hrel
  cases gk with
  |zero=>exact absurd HA.out (by simp[qc.l0])
  |succ k1=>
   have H:=HA.out
   clear HA
   simp only[qc.l0]at H
   by_cases c2:x3_1<(a0.size:Int)
   ·rw [if_pos c2] at H
    have VA:=decide_eq_true c2
    clear c2
    by_cases c3:0≤x3_1
    ·rw [if_pos c3] at H
     have Qu:=decide_eq_true c3
     clear c3
     have HC5:=qo.mk H
     clear H
     have p4:0≤(x3_1:Int):=of_decide_eq_true z10
     have q4:x3_1<(a0.size:Int):=of_decide_eq_true z10
     have hx4:=xF a0 x3_1
     replace p4:=eq_true p4
     replace q4:=eq_true q4
     go_upto_block 2 with(fail)
     go_cut [5,6,7] (fun v5 v6 v7 wc=> ∃(kq:Nat) (x5_4:Int) (x6_4:Int) (x7_4:Int),v5= .int .i64 x5_4∧v6= .int .i64 x6_4∧v7= .int .i64 x7_4∧qo (qc.j3 kq a0 x3_1 x5_4 x6_4 x7_4=some r)∧qo (kq≤k1)∧zk w wc)
     case first=>
      have H:=HC5.out
      clear HC5
      by_cases c6:(wrap64 (bt a0 x3_1))<128
      ·rw [if_pos c6] at H
       have VC:=decide_eq_true c6
       clear c6
       (first|rw[VC]|(simp only[yd,Qd];rw[VC])|skip)
       have H':=qo.mk H
       clear H
       go_wp2
       go_meet
       case rel=>exact⟨_,(1),(0),(wrap64 (bt a0 x3_1)),z11,z11,z11,H',⟨by have:=HK1.out;first|omega|exact Nat.le_refl _⟩,by repeat (first|exact zk.refl _|apply zk.step)⟩
      ·rw [if_neg c6] at H
       have VC:=decide_eq_false c6
       clear c6
       (first|rw[VC]|(simp only[yd,Qd];rw[VC])|skip)
       have HC7:=qo.mk H
       clear H
       go_upto_region 7 with(fail)
       go_cut [22] (fun v22 wc=> ∃(kq:Nat) (x22_6:Bool),v22= .bool x22_6∧qo (qc.j1 kq a0 x3_1 (wrap64 (bt a0 x3_1)) x22_6=some r)∧qo (kq≤k1)∧zk w wc)
       case first=>
        have H:=HC7.out
        clear HC7
        by_cases c8:(wrap64 (bt a0 x3_1))≥192
        ·rw [if_pos c8] at H
         have Z5:=decide_eq_true c8
         clear c8
         (first|rw[Z5]|(simp only[yd,Qd];rw[Z5])|skip)
         have H':=qo.mk H
         clear H
         go_wp2
         go_meet
         case rel=>exact⟨_,(decide ((wrap64 (bt a0 x3_1))<224)),z11,H',⟨by have:=HK1.out;first|omega|exact Nat.le_refl _⟩,by repeat (first|exact zk.refl _|apply zk.step)⟩
        ·rw [if_neg c8] at H
         have Z5:=decide_eq_false c8
         clear c8
         (first|rw[Z5]|(simp only[yd,Qd];rw[Z5])|skip)
         have H':=qo.mk H
         clear H
         go_wp2
         go_meet
         case rel=>exact⟨_,(false),z11,H',⟨by have:=HK1.out;first|omega|exact Nat.le_refl _⟩,by repeat (first|exact zk.refl _|apply zk.step)⟩
       case rest=>
        clear HC7
        try clear c2
        try clear VA
        try clear p2
        try clear c3
        try clear Qu
        try clear p4
        try clear q4
        try clear hx4
        try clear c5
        try clear c6
        try clear VC
        try clear p6
        try clear c8
        try clear Z5
        try clear p4
        try clear q4
        obtain⟨kq,x22_6,rfl,HA,HJ6,⟨mc6,rfl⟩⟩:=hcut
        cases kq with
        |zero=>exact absurd HA.out (by simp[qc.j1])
        |succ kj6=>
         have H:=HA.out
         clear HA
         simp only[qc.j1]at H
         by_cases c9:x22_6=true
         ·subst c9
          rw[if_pos rfl]at H
          have H':=qo.mk H
          clear H
          go_wp2
          go_meet
          case rel=>exact⟨_,(2),(128),(wrap64 ((wrap64 (bt a0 x3_1)) - 192)),z11,z11,z11,H',⟨by have:=HK1.out;have:=HJ6.out;first|omega|exact Nat.le_refl _⟩,by repeat (first|exact zk.refl _|apply zk.step)⟩
         ·replace c9 := Bool.eq_false_iff.mpr c9
          subst c9
          rw[if_neg (show¬(false=true)by decide)]at H
          have oT:=qo.mk H
          clear H
          go_upto_region 9 with(fail)
          go_cut [31] (fun v31 wc=> ∃(kq:Nat) (x31_9:Bool),v31= .bool x31_9∧qo (qc.j2 kq a0 x3_1 (wrap64 (bt a0 x3_1)) x31_9=some r)∧qo (kq≤kj6)∧zk w wc)
          case first=>
           have H:=oT.out
           clear oT
           by_cases c11:(wrap64 (bt a0 x3_1))≥224
           ·rw [if_pos c11] at H
            have ZM:=decide_eq_true c11
            clear c11
            (first|rw[ZM]|(simp only[yd,Qd];rw[ZM])|skip)
            have H':=qo.mk H
            clear H
            go_wp2
            go_meet
            case rel=>exact⟨_,(decide ((wrap64 (bt a0 x3_1))<240)),z11,H',⟨by have:=HK1.out;have:=HJ6.out;first|omega|exact Nat.le_refl _⟩,by repeat (first|exact zk.refl _|apply zk.step)⟩
           ·rw [if_neg c11] at H
            have ZM:=decide_eq_false c11
            clear c11
            (first|rw[ZM]|(simp only[yd,Qd];rw[ZM])|skip)
            have H':=qo.mk H
            clear H
            go_wp2
            go_meet
            case rel=>exact⟨_,(false),z11,H',⟨by have:=HK1.out;have:=HJ6.out;first|omega|exact Nat.le_refl _⟩,by repeat (first|exact zk.refl _|apply zk.step)⟩
          case rest=>
           clear oT
           try clear c1
           try clear c2
           try clear VA
           try clear p2
           try clear c3
           try clear Qu
           try clear p4
           try clear q4
           try clear hx4
           try clear c5
           try clear c6
           try clear VC
           try clear p6
           try clear c8
           try clear Z5
           try clear c9
           try clear c11
           try clear ZM
           try clear p2
           try clear p4
           try clear p6
           try clear q4
           obtain⟨kq,x31_9,rfl,HA,HJ9,⟨mc9,rfl⟩⟩:=hcut
           cases kq with
           |zero=>exact absurd HA.out (by simp[qc.j2])
           |succ kj9=>
            have H:=HA.out
            clear HA
            simp only[qc.j2]at H
            by_cases c12:x31_9=true
            ·subst c12
             rw[if_pos rfl]at H
             have H':=qo.mk H
             clear H
             go_wp2
             go_meet
             case rel=>exact⟨_,(3),(2048),(wrap64 ((wrap64 (bt a0 x3_1)) - 224)),z11,z11,z11,H',⟨by have:=HK1.out;have:=HJ6.out;have:=HJ9.out;first|omega|exact Nat.le_refl _⟩,by repeat (first|exact zk.refl _|apply zk.step)⟩
            ·replace c12 := Bool.eq_false_iff.mpr c12
             subst c12
             rw[if_neg (show¬(false=true)by decide)]at H
             by_cases c13:(wrap64 (bt a0 x3_1))≥240
             ·rw [if_pos c13] at H
              have aE:=decide_eq_true c13
              clear c13
              by_cases c14:(wrap64 (bt a0 x3_1))<248
              ·rw [if_pos c14] at H
               have YZ:=decide_eq_true c14
               clear c14
               have H':=qo.mk H
               clear H
               go_wp2
               go_meet
               case rel=>exact⟨_,(4),(65536),(wrap64 ((wrap64 (bt a0 x3_1)) - 240)),z11,z11,z11,H',⟨by have:=HK1.out;have:=HJ6.out;have:=HJ9.out;first|omega|exact Nat.le_refl _⟩,by repeat (first|exact zk.refl _|apply zk.step)⟩
              ·rw [if_neg c14] at H
               have YZ:=decide_eq_false c14
               clear c14
               obtain rfl:=Option.some.inj H
               go_wp2
               go_ret
               exact za
             ·rw [if_neg c13] at H
              have aE:=decide_eq_false c13
              clear c13
              obtain rfl:=Option.some.inj H
              go_wp2
              go_ret
              exact za
     case rest=>
      clear HC5
      try clear c1
      try clear c2
      try clear VA
      try clear p2
      try clear c3
      try clear Qu
      try clear p4
      try clear q4
      try clear hx4
      try clear c5
      try clear c6
      try clear VC
      try clear p6
      try clear c8
      try clear Z5
      try clear c9
      try clear c11
      try clear ZM
      try clear c12
      try clear c13
      try clear aE
      try clear c14
      try clear YZ
      try clear p2
      try clear p4
      try clear p6
      try clear q4
      obtain⟨kq,x5_4,x6_4,x7_4,rfl,rfl,rfl,HA,HJ4,⟨mc4,rfl⟩⟩:=hcut
      cases kq with
      |zero=>exact absurd HA.out (by simp[qc.j3])
      |succ kj4=>
       have H:=HA.out
       clear HA
       simp only[qc.j3]at H
       by_cases c15:(wrap64 ((a0.size:Int) - x3_1))<x5_4
       ·rw [if_pos c15] at H
        have mv:=decide_eq_true c15
        clear c15
        obtain rfl:=Option.some.inj H
        go_wp2
        go_ret
        exact za
       ·rw [if_neg c15] at H
        have mv:=decide_eq_false c15
        clear c15
        have H':=qo.mk H
        clear H
        go_wp2
        go_loopg [7,8] kj4 (fun kq v7 v8 w'=> ∃(x7_3:Int) (x8_3:Int),v7= .int .i64 x7_3∧v8= .int .i64 x8_3∧qo (qc.l1 kq a0 x3_1 x5_4 x6_4 x7_3 x8_3=some r)∧qo (kq≤kj4)∧zk w w')
        case atStart=>exact⟨(x7_4),(1),z11,z11,H',⟨Nat.le_refl _⟩,by repeat (first|exact zk.refl _|apply zk.step)⟩
        case round=>
         clear H'
         try clear c1
         try clear c2
         try clear VA
         try clear p2
         try clear c3
         try clear Qu
         try clear c4
         try clear p4
         try clear q4
         try clear hx4
         try clear c5
         try clear c6
         try clear VC
         try clear p6
         try clear c8
         try clear Z5
         try clear c9
         try clear c11
         try clear ZM
         try clear c12
         try clear c13
         try clear aE
         try clear c14
         try clear YZ
         try clear c15
         try clear mv
         try clear p2
         try clear p4
         try clear p6
         try clear q4
         obtain⟨x7_3,x8_3,rfl,rfl,HA,HK3,⟨m3,rfl⟩⟩:=hrel
         cases gk with
         |zero=>exact absurd HA.out (by simp[qc.l1])
         |succ k3=>
          have H:=HA.out
          clear HA
          simp only[qc.l1]at H
          by_cases c16:x8_3<x5_4
          ·rw [if_pos c16] at H
           have mi:=decide_eq_true c16
           clear c16
           obtain⟨ji17,Xo⟩: ∃j_:Int,(wrap64 (x3_1+x8_3))=j_:=⟨_,rfl⟩
           replace H:(if 0≤(ji17)then(if(ji17)<(a0.size:Int)then(if(wrap64 (bt a0 (ji17)))<128 then(some false)else(if(wrap64 (bt a0 (ji17)))≥192 then(some false)else(qc.l1 k3 a0 x3_1 x5_4 x6_4 (wrap64 ((wrap64 ((wrap64 (x7_3*64))+(wrap64 (bt a0 (ji17))))) - 128)) (wrap64 (x8_3+1)))))else(none))else(none))=some r:=by first|(rw[Xo]at H;exact H)|(simp only[Xo]at H ⊢;exact H)
           have tZ:(IntKind.i64.wrap (x3_1+x8_3))=ji17:=(yd _).trans Xo
           by_cases c18:0≤(ji17)
           ·rw [if_pos c18] at H
            have sf:=decide_eq_true c18
            clear c18
            by_cases c19:(ji17)<(a0.size:Int)
            ·rw [if_pos c19] at H
             have fB:=decide_eq_true c19
             clear c19
             by_cases c21:(wrap64 (bt a0 (ji17)))<128
             ·rw [if_pos c21] at H
              have mA:=decide_eq_true c21
              clear c21
              obtain rfl:=Option.some.inj H
              have p20:0≤((ji17):Int):=of_decide_eq_true z10
              have q20:(ji17)<(a0.size:Int):=of_decide_eq_true z10
              have pC:=xF a0 (ji17)
              replace p20:=eq_true p20
              replace q20:=eq_true q20
              go_wp2
              go_ret
              exact z9
             ·rw [if_neg c21] at H
              have mA:=decide_eq_false c21
              clear c21
              by_cases c22:(wrap64 (bt a0 (ji17)))≥192
              ·rw [if_pos c22] at H
               have mE:=decide_eq_true c22
               clear c22
               obtain rfl:=Option.some.inj H
               have p20:0≤((ji17):Int):=of_decide_eq_true z10
               have q20:(ji17)<(a0.size:Int):=of_decide_eq_true z10
               have pC:=xF a0 (ji17)
               replace p20:=eq_true p20
               replace q20:=eq_true q20
               go_wp2
               go_ret
               exact z9
              ·rw [if_neg c22] at H
               have mE:=decide_eq_false c22
               clear c22
               have H':=qo.mk H
               clear H
               have p20:0≤((ji17):Int):=of_decide_eq_true z10
               have q20:(ji17)<(a0.size:Int):=of_decide_eq_true z10
               have pC:=xF a0 (ji17)
               replace p20:=eq_true p20
               replace q20:=eq_true q20
               go_wp2
               go_roundg k3
               case measure=>have:=HK1.out;have:=HJ4.out;have:=HK3.out;omega
               case rel=>exact⟨(wrap64 ((wrap64 ((wrap64 (x7_3*64))+(wrap64 (bt a0 (ji17))))) - 128)),(wrap64 (x8_3+1)),(by first|rfl|(simp;done)|(simp only[←Xo]<;>(first|rfl|simp))|(simp[*];done)),z11,H',⟨by have:=HK1.out;have:=HJ4.out;have:=HK3.out;omega⟩,by repeat (first|exact zk.refl _|apply zk.step)⟩
            ·rw [if_neg c19] at H
             exact absurd H z15
           ·rw [if_neg c18] at H
            exact absurd H z15
          ·rw [if_neg c16] at H
           have mi:=decide_eq_false c16
           clear c16
           by_cases c23:x7_3<x6_4
           ·rw [if_pos c23] at H
            have aS:=decide_eq_true c23
            clear c23
            obtain rfl:=Option.some.inj H
            go_wp2
            go_ret
            exact za
           ·rw [if_neg c23] at H
            have aS:=decide_eq_false c23
            clear c23
            by_cases c24:x7_3>1114111
            ·rw [if_pos c24] at H
             have dW:=decide_eq_true c24
             clear c24
             obtain rfl:=Option.some.inj H
             go_wp2
             go_ret
             exact za
            ·rw [if_neg c24] at H
             have dW:=decide_eq_false c24
             clear c24
             by_cases c25:x7_3≥55296
             ·rw [if_pos c25] at H
              have eF:=decide_eq_true c25
              clear c25
              by_cases c26:x7_3<57344
              ·rw [if_pos c26] at H
               have bG:=decide_eq_true c26
               clear c26
               obtain rfl:=Option.some.inj H
               go_wp2
               go_ret
               exact za
              ·rw [if_neg c26] at H
               have bG:=decide_eq_false c26
               clear c26
               have H':=qo.mk H
               clear H
               go_wp2
               go_roundg k3
               case measure=>have:=HK1.out;have:=HJ4.out;have:=HK3.out;omega
               case rel=>exact⟨(wrap64 (x3_1+x5_4)),z11,H',⟨by have:=HK1.out;have:=HJ4.out;have:=HK3.out;omega⟩,by repeat (first|exact zk.refl _|apply zk.step)⟩
             ·rw [if_neg c25] at H
              have eF:=decide_eq_false c25
              clear c25
              have H':=qo.mk H
              clear H
              go_wp2
              go_roundg k3
              case measure=>have:=HK1.out;have:=HJ4.out;have:=HK3.out;omega
              case rel=>exact⟨(wrap64 (x3_1+x5_4)),z11,H',⟨by have:=HK1.out;have:=HJ4.out;have:=HK3.out;omega⟩,by repeat (first|exact zk.refl _|apply zk.step)⟩
    ·rw [if_neg c3] at H
     exact absurd H z15
   ·rw [if_neg c2] at H
    have VA:=decide_eq_false c2
    clear c2
    obtain rfl:=Option.some.inj H
    go_wp2
    go_ret
    exact za
def qq.j0:Nat→Int→Bool→Int→Int→ByteArray→Option (Bool)
 |0,_,_,_,_,_=>none
 |k+1,x4,x30,x102000,x102001,x102002=>if x30=true then(some (x102002.toList==([]:List UInt8)))else(if x4=4 then(if x102001=0 then(if(x102002.size:Int)≤1024 then((qc.f k x102002).bind fun t102=>(some t102))else(some false))else(some false))else(some false))
def qq.f (k:Nat) (a0_0:Int) (a0_1:Int) (a0_2:ByteArray):Option (Bool):=if a0_0=0 then(if a0_1=0 then(some (a0_2.toList==([]:List UInt8)))else(some false))else(if a0_0=1 then(if a0_2.toList=([]:List UInt8)then(if a0_1=0 then(some true)else(some (a0_1==1)))else(some false))else(if a0_0=2 then(qq.j0 k a0_0 (a0_0==2) a0_0 a0_1 a0_2)else(qq.j0 k a0_0 (a0_0==3) a0_0 a0_1 a0_2)))
theorem qq.wq: ∀k,(∀y0 y1 y2 y3 y4,LeO (qq.j0 k y0 y1 y2 y3 y4) (qq.j0 (k+1) y0 y1 y2 y3 y4))
 |0=>fun _ _ _ _ _ r h=>by simp[qq.j0]at h
 |k+1=>by
  have ih0:=qq.wq k
  ·intro y0 y1 y2 y3 y4
   unfold qq.j0
   exact z4
theorem qq.mono: ∀a0 a1 a2 k,LeO (qq.f k a0 a1 a2) (qq.f (k+1) a0 a1 a2):=by
 intro a0 a1 a2 k
 have ih0:=qq.wq k
 unfold qq.f
 exact z4
set_option maxHeartbeats 8000000 in
set_option maxRecDepth 100000 in
theorem qq.calls (k:Nat) (a0_0:Int) (a0_1:Int) (a0_2:ByteArray) (r:Bool) (w:World) (h:qq.f k a0_0 a0_1 a0_2=some r):
  Calls Tryz.prog 15 #[.agg #[.int .i64 a0_0,.int .i64 a0_1,.string a0_2]] w fun e w'=>e= .returned (.bool r)∧Below w.heap.size w w':=by
 have tR:=Tryz.underlying24
 have HB:=qo.mk (Below.refl w.heap.size w)
 have H:(if a0_0=0 then(if a0_1=0 then(some (a0_2.toList==([]:List UInt8)))else(some false))else(if a0_0=1 then(if a0_2.toList=([]:List UInt8)then(if a0_1=0 then(some true)else(some (a0_1==1)))else(some false))else(if a0_0=2 then(qq.j0 k a0_0 (a0_0==2) a0_0 a0_1 a0_2)else(qq.j0 k a0_0 (a0_0==3) a0_0 a0_1 a0_2))))=some r:=h
 clear h
 by_cases c2:a0_0=0
 ·rw [if_pos c2] at H
  have VA:=beq_iff_eq.mpr c2
  have rF:=bne_eq_false_iff_eq.mpr c2
  clear c2
  by_cases c3:a0_1=0
  ·rw [if_pos c3] at H
   have Qu:=beq_iff_eq.mpr c3
   have sh:=bne_eq_false_iff_eq.mpr c3
   clear c3
   obtain rfl:=Option.some.inj H
   go_enter Tryz.func15,Tryz.ntmps15
   go_wp2_with (first|((with_reducible refine kH (N:=1) rfl ?_);(try (refine wX (by rfl) ?_;dsimp only));refine kG ?hg (N:=1) ?hd (cs:= #[.int .i64 a0_0,.int .i64 a0_1,.string a0_2]) (t:=24) ?hr ?_;(case hd=>rfl);(case hg=>rfl);(case hr=>first|(go_simp;done)|(go_simp;rfl));intro zE hg w4 hbox hb;have n0_:=qo.mk (qW zd hb);have n1_:=qo.mk (hbox);have n2_:=qo.mk ((by rw[hg];exact(qY zd):w.heap.size≤zE));have n3_:=qo.mk ((by rw[hg];exact(qY zd):w.heap.size≤zE));clear HB;have HB:=n0_;have zg:=n1_;have Xk:=n2_;have ZZ:=n3_;clear n0_ n1_ n2_ n3_;clear hb hbox hg;have nC:w4.cell? ⟨zE,0,none⟩=some (.int .i64 a0_0):=(qy zg.out 0).trans rfl;have mY:w4.cell? ⟨zE,1,none⟩=some (.int .i64 a0_1):=(qy zg.out 1).trans rfl;have pq:w4.cell? ⟨zE,2,none⟩=some (.string a0_2):=(qy zg.out 2).trans rfl;have mV:=qn zg.out 0;have oO:=qn zg.out 1;have ov:=qn zg.out 2))
   go_ret
   exact z7
  ·rw [if_neg c3] at H
   have Qu:=beq_eq_false_iff_ne.mpr c3
   have sh:=bne_iff_ne.mpr c3
   obtain rfl:=Option.some.inj H
   go_enter Tryz.func15,Tryz.ntmps15
   go_wp2_with (first|((with_reducible refine kH (N:=1) rfl ?_);(try (refine wX (by rfl) ?_;dsimp only));refine kG ?hg (N:=1) ?hd (cs:= #[.int .i64 a0_0,.int .i64 a0_1,.string a0_2]) (t:=24) ?hr ?_;(case hd=>rfl);(case hg=>rfl);(case hr=>first|(go_simp;done)|(go_simp;rfl));intro zE hg w6 hbox hb;have n0_:=qo.mk (qW zd hb);have n1_:=qo.mk (hbox);have n2_:=qo.mk ((by rw[hg];exact(qY zd):w.heap.size≤zE));have n3_:=qo.mk ((by rw[hg];exact(qY zd):w.heap.size≤zE));clear HB;have HB:=n0_;have zg:=n1_;have Xk:=n2_;have ZZ:=n3_;clear n0_ n1_ n2_ n3_;clear hb hbox hg;have nc:w6.cell? ⟨zE,0,none⟩=some (.int .i64 a0_0):=(qy zg.out 0).trans rfl;have nE:w6.cell? ⟨zE,1,none⟩=some (.int .i64 a0_1):=(qy zg.out 1).trans rfl;have oK:w6.cell? ⟨zE,2,none⟩=some (.string a0_2):=(qy zg.out 2).trans rfl;have nV:=qn zg.out 0;have oz:=qn zg.out 1;have nI:=qn zg.out 2))
   go_ret
   exact z7
 ·rw [if_neg c2] at H
  have VA:=beq_eq_false_iff_ne.mpr c2
  have rF:=bne_iff_ne.mpr c2
  by_cases c8:a0_0=1
  ·rw [if_pos c8] at H
   have Z5:=beq_iff_eq.mpr c8
   have rW:=bne_eq_false_iff_eq.mpr c8
   clear c8
   by_cases c9:a0_2.toList=([]:List UInt8)
   ·rw [if_pos c9] at H
    have cb:=beq_iff_eq.mpr c9
    have dc:=bne_eq_false_iff_eq.mpr c9
    clear c9
    by_cases c10:a0_1=0
    ·rw [if_pos c10] at H
     have VZ:=beq_iff_eq.mpr c10
     have XL:=bne_eq_false_iff_eq.mpr c10
     clear c10
     obtain rfl:=Option.some.inj H
     go_enter Tryz.func15,Tryz.ntmps15
     go_wp2_with (first|((with_reducible refine kH (N:=1) rfl ?_);(try (refine wX (by rfl) ?_;dsimp only));refine kG ?hg (N:=1) ?hd (cs:= #[.int .i64 a0_0,.int .i64 a0_1,.string a0_2]) (t:=24) ?hr ?_;(case hd=>rfl);(case hg=>rfl);(case hr=>first|(go_simp;done)|(go_simp;rfl));intro zE hg w11 hbox hb;have n0_:=qo.mk (qW zd hb);have n1_:=qo.mk (hbox);have n2_:=qo.mk ((by rw[hg];exact(qY zd):w.heap.size≤zE));have n3_:=qo.mk ((by rw[hg];exact(qY zd):w.heap.size≤zE));clear HB;have HB:=n0_;have zg:=n1_;have Xk:=n2_;have ZZ:=n3_;clear n0_ n1_ n2_ n3_;clear hb hbox hg;have Jh:w11.cell? ⟨zE,0,none⟩=some (.int .i64 a0_0):=(qy zg.out 0).trans rfl;have WJ:w11.cell? ⟨zE,1,none⟩=some (.int .i64 a0_1):=(qy zg.out 1).trans rfl;have WT:w11.cell? ⟨zE,2,none⟩=some (.string a0_2):=(qy zg.out 2).trans rfl;have Ww:=qn zg.out 0;have JD:=qn zg.out 1;have Jy:=qn zg.out 2))
     go_ret
     exact z7
    ·rw [if_neg c10] at H
     have VZ:=beq_eq_false_iff_ne.mpr c10
     have XL:=bne_iff_ne.mpr c10
     obtain rfl:=Option.some.inj H
     go_enter Tryz.func15,Tryz.ntmps15
     go_wp2_with (first|((with_reducible refine kH (N:=1) rfl ?_);(try (refine wX (by rfl) ?_;dsimp only));refine kG ?hg (N:=1) ?hd (cs:= #[.int .i64 a0_0,.int .i64 a0_1,.string a0_2]) (t:=24) ?hr ?_;(case hd=>rfl);(case hg=>rfl);(case hr=>first|(go_simp;done)|(go_simp;rfl));intro zE hg w13 hbox hb;have n0_:=qo.mk (qW zd hb);have n1_:=qo.mk (hbox);have n2_:=qo.mk ((by rw[hg];exact(qY zd):w.heap.size≤zE));have n3_:=qo.mk ((by rw[hg];exact(qY zd):w.heap.size≤zE));clear HB;have HB:=n0_;have zg:=n1_;have Xk:=n2_;have ZZ:=n3_;clear n0_ n1_ n2_ n3_;clear hb hbox hg;have WY:w13.cell? ⟨zE,0,none⟩=some (.int .i64 a0_0):=(qy zg.out 0).trans rfl;have WC:w13.cell? ⟨zE,1,none⟩=some (.int .i64 a0_1):=(qy zg.out 1).trans rfl;have WA:w13.cell? ⟨zE,2,none⟩=some (.string a0_2):=(qy zg.out 2).trans rfl;have JC:=qn zg.out 0;have JA:=qn zg.out 1;have WX:=qn zg.out 2))
     go_ret
     exact z7
   ·rw [if_neg c9] at H
    have cb:=beq_eq_false_iff_ne.mpr c9
    have dc:=bne_iff_ne.mpr c9
    obtain rfl:=Option.some.inj H
    go_enter Tryz.func15,Tryz.ntmps15
    go_wp2_with (first|((with_reducible refine kH (N:=1) rfl ?_);(try (refine wX (by rfl) ?_;dsimp only));refine kG ?hg (N:=1) ?hd (cs:= #[.int .i64 a0_0,.int .i64 a0_1,.string a0_2]) (t:=24) ?hr ?_;(case hd=>rfl);(case hg=>rfl);(case hr=>first|(go_simp;done)|(go_simp;rfl));intro zE hg w15 hbox hb;have n0_:=qo.mk (qW zd hb);have n1_:=qo.mk (hbox);have n2_:=qo.mk ((by rw[hg];exact(qY zd):w.heap.size≤zE));have n3_:=qo.mk ((by rw[hg];exact(qY zd):w.heap.size≤zE));clear HB;have HB:=n0_;have zg:=n1_;have Xk:=n2_;have ZZ:=n3_;clear n0_ n1_ n2_ n3_;clear hb hbox hg;have WI:w15.cell? ⟨zE,0,none⟩=some (.int .i64 a0_0):=(qy zg.out 0).trans rfl;have Jt:w15.cell? ⟨zE,1,none⟩=some (.int .i64 a0_1):=(qy zg.out 1).trans rfl;have Jx:w15.cell? ⟨zE,2,none⟩=some (.string a0_2):=(qy zg.out 2).trans rfl;have JB:=qn zg.out 0;have Jr:=qn zg.out 1;have WQ:=qn zg.out 2))
    go_ret
    exact z7
  ·rw [if_neg c8] at H
   have Z5:=beq_eq_false_iff_ne.mpr c8
   have rW:=bne_iff_ne.mpr c8
   have mT:=qo.mk H
   clear H
   go_enter Tryz.func15,Tryz.ntmps15
   go_upto_if 30 with(first|((with_reducible refine kH (N:=1) rfl ?_);(try (refine wX (by rfl) ?_;dsimp only));refine kG ?hg (N:=1) ?hd (cs:= #[.int .i64 a0_0,.int .i64 a0_1,.string a0_2]) (t:=24) ?hr ?_;(case hd=>rfl);(case hg=>rfl);(case hr=>first|(go_simp;done)|(go_simp;rfl));intro zE hg w18 hbox hb;have n0_:=qo.mk (qW zd hb);have n1_:=qo.mk (hbox);have n2_:=qo.mk ((by rw[hg];exact(qY zd):w.heap.size≤zE));have n3_:=qo.mk ((by rw[hg];exact(qY zd):w.heap.size≤zE));clear HB;have HB:=n0_;have zg:=n1_;have Xk:=n2_;have ZZ:=n3_;clear n0_ n1_ n2_ n3_;clear hb hbox hg;have iu:w18.cell? ⟨zE,0,none⟩=some (.int .i64 a0_0):=(qy zg.out 0).trans rfl;have gP:w18.cell? ⟨zE,1,none⟩=some (.int .i64 a0_1):=(qy zg.out 1).trans rfl;have gF:w18.cell? ⟨zE,2,none⟩=some (.string a0_2):=(qy zg.out 2).trans rfl;have gN:=qn zg.out 0;have iv:=qn zg.out 1;have lq:=qn zg.out 2))
   (try simp only[Act.put,List.setIfInBounds_toArray,List.set_cons_zero,List.set_cons_succ])
   go_cut [30] (fun v30 wc=> ∃(kq:Nat) (x30_16:Bool),v30= .bool x30_16∧qo (qq.j0 kq a0_0 x30_16 a0_0 a0_1 a0_2=some r)∧qo (kq≤k)∧qo (wc.heap[zE]? =some (.cells #[.int .i64 a0_0,.int .i64 a0_1,.string a0_2] 24 (0,0)))∧qo (Below w.heap.size w wc))
   case first=>
    have H:=mT.out
    clear mT
    by_cases c20:a0_0=2
    ·rw [if_pos c20] at H
     have VM:=beq_iff_eq.mpr c20
     have mP:=bne_eq_false_iff_eq.mpr c20
     clear c20
     (first|rw[VM]|(simp only[yd,Qd];rw[VM])|skip)
     have H':=qo.mk H
     clear H
     go_wp2
     go_meet
     case rel=>exact⟨_,((a0_0==2)),z11,H',⟨by first|omega|exact Nat.le_refl _⟩,⟨by(with_reducible repeat (first|refine jH ?_ _|refine xE ?_|refine jF ?_ _));exact zg.out⟩,⟨by repeat (first|(with_reducible first|exact HB.out|apply zm|apply q7|apply zr|refine wx ?_ ZZ.out)|exact HB.out)⟩⟩
    ·rw [if_neg c20] at H
     have VM:=beq_eq_false_iff_ne.mpr c20
     have mP:=bne_iff_ne.mpr c20
     (first|rw[VM]|(simp only[yd,Qd];rw[VM])|skip)
     have H':=qo.mk H
     clear H
     go_wp2
     go_meet
     case rel=>exact⟨_,((a0_0==3)),z11,H',⟨by first|omega|exact Nat.le_refl _⟩,⟨by(with_reducible repeat (first|refine jH ?_ _|refine xE ?_|refine jF ?_ _));exact zg.out⟩,⟨by repeat (first|(with_reducible first|exact HB.out|apply zm|apply q7|apply zr|refine wx ?_ ZZ.out)|exact HB.out)⟩⟩
   case rest=>
    clear mT
    try clear c1
    try clear c2
    try clear VA
    try clear rF
    try clear p2
    try clear c3
    try clear Qu
    try clear sh
    try clear c8
    try clear Z5
    try clear rW
    try clear c9
    try clear cb
    try clear dc
    try clear c10
    try clear VZ
    try clear XL
    try clear c15
    try clear c20
    try clear VM
    try clear mP
    try clear Jh
    try clear WJ
    try clear WT
    try clear WY
    try clear WC
    try clear WA
    try clear WI
    try clear Jt
    try clear Jx
    try clear iu
    try clear gP
    try clear gF
    try clear nC
    try clear mY
    try clear pq
    try clear nc
    try clear nE
    try clear oK
    try clear Ww
    try clear JD
    try clear Jy
    try clear JC
    try clear JA
    try clear WX
    try clear JB
    try clear Jr
    try clear WQ
    try clear gN
    try clear iv
    try clear lq
    try clear mV
    try clear oO
    try clear ov
    try clear nV
    try clear oz
    try clear nI
    obtain⟨kq,x30_16,rfl,HA,u5,zg,HB⟩:=hcut
    cases kq with
    |zero=>exact absurd HA.out (by simp[qq.j0])
    |succ kj16=>
     have H:=HA.out
     clear HA
     simp only[qq.j0]at H
     by_cases c21:x30_16=true
     ·subst c21
      rw[if_pos rfl]at H
      obtain rfl:=Option.some.inj H
      have YY:wc.cell? ⟨zE,0,none⟩=some (.int .i64 a0_0):=(qy zg.out 0).trans rfl
      have ae:wc.cell? ⟨zE,1,none⟩=some (.int .i64 a0_1):=(qy zg.out 1).trans rfl
      have aq:wc.cell? ⟨zE,2,none⟩=some (.string a0_2):=(qy zg.out 2).trans rfl
      have aZ:=qn zg.out 0
      have YX:=qn zg.out 1
      have bq:=qn zg.out 2
      go_wp2
      go_ret
      exact z7
     ·replace c21 := Bool.eq_false_iff.mpr c21
      subst c21
      rw[if_neg (show¬(false=true)by decide)]at H
      by_cases c23:a0_0=4
      ·rw [if_pos c23] at H
       have aS:=beq_iff_eq.mpr c23
       have mN:=bne_eq_false_iff_eq.mpr c23
       clear c23
       by_cases c24:a0_1=0
       ·rw [if_pos c24] at H
        have dW:=beq_iff_eq.mpr c24
        have sk:=bne_eq_false_iff_eq.mpr c24
        clear c24
        by_cases c25:(a0_2.size:Int)≤1024
        ·rw [if_pos c25] at H
         have eF:=decide_eq_true c25
         have sr:decide (a0_2.size≤1024)=true:=decide_eq_true z14
         clear c25
         replace H:=Option.bind_eq_some_iff.mp H
         obtain⟨t102,rb,H⟩:=H
         replace H:(some t102)=some r:=H
         have A26:=qo.mk rb
         clear rb
         obtain rfl:=Option.some.inj H
         have sv:wc.cell? ⟨zE,0,none⟩=some (.int .i64 a0_0):=(qy zg.out 0).trans rfl
         have sJ:wc.cell? ⟨zE,1,none⟩=some (.int .i64 a0_1):=(qy zg.out 1).trans rfl
         have sU:wc.cell? ⟨zE,2,none⟩=some (.string a0_2):=(qy zg.out 2).trans rfl
         have sx:=qn zg.out 0
         have sG:=qn zg.out 1
         have sV:=qn zg.out 2
         go_wp2_with (first|(go_at_call 54;(with_reducible refine(qc.calls kj16 a0_2 t102 _ A26.out).mono ?_);rintro e w' ⟨rfl,⟨nd,rfl⟩⟩))
         go_ret
         exact z7
        ·rw [if_neg c25] at H
         have eF:=decide_eq_false c25
         have sr:decide (a0_2.size≤1024)=false:=decide_eq_false z14
         clear c25
         obtain rfl:=Option.some.inj H
         have sE:wc.cell? ⟨zE,0,none⟩=some (.int .i64 a0_0):=(qy zg.out 0).trans rfl
         have su:wc.cell? ⟨zE,1,none⟩=some (.int .i64 a0_1):=(qy zg.out 1).trans rfl
         have sK:wc.cell? ⟨zE,2,none⟩=some (.string a0_2):=(qy zg.out 2).trans rfl
         have sW:=qn zg.out 0
         have sF:=qn zg.out 1
         have sX:=qn zg.out 2
         go_wp2
         go_ret
         exact z7
       ·rw [if_neg c24] at H
        have dW:=beq_eq_false_iff_ne.mpr c24
        have sk:=bne_iff_ne.mpr c24
        obtain rfl:=Option.some.inj H
        have bF:wc.cell? ⟨zE,0,none⟩=some (.int .i64 a0_0):=(qy zg.out 0).trans rfl
        have Y6:wc.cell? ⟨zE,1,none⟩=some (.int .i64 a0_1):=(qy zg.out 1).trans rfl
        have YQ:wc.cell? ⟨zE,2,none⟩=some (.string a0_2):=(qy zg.out 2).trans rfl
        have aN:=qn zg.out 0
        have ar:=qn zg.out 1
        have ab:=qn zg.out 2
        go_wp2
        go_ret
        exact z7
      ·rw [if_neg c23] at H
       have aS:=beq_eq_false_iff_ne.mpr c23
       have mN:=bne_iff_ne.mpr c23
       obtain rfl:=Option.some.inj H
       go_wp2
       go_ret
       exact z7
end Go.Proofs.YtaiokpmmjbiajaaGreatDoor.PLeaf
