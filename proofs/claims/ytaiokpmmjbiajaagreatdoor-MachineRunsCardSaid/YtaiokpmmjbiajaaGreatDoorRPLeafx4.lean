/- A part of the proof of this claim. No condition beyond those that each theorem names. -/
import Derived.Test.YtaiokpmmjbiajaaGreatDoorRPLeafx0
import Derived.Test.YtaiokpmmjbiajaaGreatDoorRPLeafx2
import Derived.Test.YtaiokpmmjbiajaaGreatDoorRPLeafx3
namespace Go.Proofs.YtaiokpmmjbiajaaGreatDoor.PLeaf
open Go.RowKit Go.Proofs.YtaiokpmmjbiajaaGreatDoorW.PrintWords Go.Proofs.YtaiokpmmjbiajaaGreatDoorW.PrintLast Go.Proofs.YtaiokpmmjbiajaaGreatDoorW.PrintMore
attribute [local go_sem] yC yE Q6 Q5 xr xp yk yl
set_option linter.unusedVariables false
set_option linter.unusedSimpArgs false
def qC.l0:Nat→ByteArray→Int→Int→Int→ByteArray→Option (ByteArray)
 |0,_,_,_,_,_=>none
 |k+1,x3,x4,x115000,x115001,x115002=>if x4<(x115002.size:Int)then(if 0≤x4 then(if(bt x115002 x4)=39 then(if x3.size+1≤9223372036854775807 then(if x4≤(wrap64 (x4+1))then(if(wrap64 (x4+1))≤(x115002.size:Int)then(if(x3++(⟨#[39]⟩:ByteArray)).size+(x115002.extract (x4:Int).toNat ((wrap64 (x4+1)):Int).toNat).size≤9223372036854775807 then(qC.l0 k ((x3++(⟨#[39]⟩:ByteArray))++(x115002.extract (x4:Int).toNat ((wrap64 (x4+1)):Int).toNat)) (wrap64 (x4+1)) x115000 x115001 x115002)else(none))else(none))else(none))else(none))else(if x4≤(wrap64 (x4+1))then(if(wrap64 (x4+1))≤(x115002.size:Int)then(if x3.size+(x115002.extract (x4:Int).toNat ((wrap64 (x4+1)):Int).toNat).size≤9223372036854775807 then(qC.l0 k (x3++(x115002.extract (x4:Int).toNat ((wrap64 (x4+1)):Int).toNat)) (wrap64 (x4+1)) x115000 x115001 x115002)else(none))else(none))else(none)))else(none))else(if x3.size+1≤9223372036854775807 then(some (x3++(⟨#[39]⟩:ByteArray)))else(none))
def qC.f (k:Nat) (a0_0:Int) (a0_1:Int) (a0_2:ByteArray):Option (ByteArray):=(qp.f k a0_0 a0_1 a0_2).bind fun t115=>(if t115=true then(if a0_0=0 then(some (⟨#[110,117,108,108]⟩:ByteArray))else(if a0_0=1 then(if a0_1=1 then(some (⟨#[116,114,117,101]⟩:ByteArray))else(some (⟨#[102,97,108,115,101]⟩:ByteArray)))else(if a0_0=2 then((qQ.f k a0_1).bind fun t116=>(some t116))else(if a0_0=3 then((ql.f k a0_1).bind fun t117=>(some t117))else(qC.l0 k (⟨#[39]⟩:ByteArray) 0 a0_0 a0_1 a0_2)))))else(some (⟨#[]⟩:ByteArray)))
theorem qC.wm: ∀k,(∀y0 y1 y2 y3 y4,LeO (qC.l0 k y0 y1 y2 y3 y4) (qC.l0 (k+1) y0 y1 y2 y3 y4))
 |0=>fun _ _ _ _ _ r h=>by simp[qC.l0]at h
 |k+1=>by
  have ih0:=qC.wm k
  ·intro y0 y1 y2 y3 y4
   unfold qC.l0
   exact z1
theorem qC.mono: ∀a0 a1 a2 k,LeO (qC.f k a0 a1 a2) (qC.f (k+1) a0 a1 a2):=by
 intro a0 a1 a2 k
 have ih0:=qC.wm k
 unfold qC.f
 exact z1
set_option maxHeartbeats 8000000 in
set_option maxRecDepth 100000 in
theorem qC.calls (k:Nat) (a0_0:Int) (a0_1:Int) (a0_2:ByteArray) (r:ByteArray) (w:World) (h:qC.f k a0_0 a0_1 a0_2=some r):
  Calls Tryz.prog 45 #[.agg #[.int .i64 a0_0,.int .i64 a0_1,.string a0_2]] w fun e w'=>e= .returned (.string r)∧Below w.heap.size w w':=by
 have sa:=Tryz.underlying24
 have HB:=qn.mk (Below.refl w.heap.size w)
 have H:((qp.f k a0_0 a0_1 a0_2).bind fun t115=>(if t115=true then(if a0_0=0 then(some (⟨#[110,117,108,108]⟩:ByteArray))else(if a0_0=1 then(if a0_1=1 then(some (⟨#[116,114,117,101]⟩:ByteArray))else(some (⟨#[102,97,108,115,101]⟩:ByteArray)))else(if a0_0=2 then((qQ.f k a0_1).bind fun t116=>(some t116))else(if a0_0=3 then((ql.f k a0_1).bind fun t117=>(some t117))else(qC.l0 k (⟨#[39]⟩:ByteArray) 0 a0_0 a0_1 a0_2)))))else(some (⟨#[]⟩:ByteArray))))=some r:=h
 clear h
 replace H:=Option.bind_eq_some_iff.mp H
 obtain⟨t115,A20,H⟩:=H
 replace H:(if t115=true then(if a0_0=0 then(some (⟨#[110,117,108,108]⟩:ByteArray))else(if a0_0=1 then(if a0_1=1 then(some (⟨#[116,114,117,101]⟩:ByteArray))else(some (⟨#[102,97,108,115,101]⟩:ByteArray)))else(if a0_0=2 then((qQ.f k a0_1).bind fun t116=>(some t116))else(if a0_0=3 then((ql.f k a0_1).bind fun t117=>(some t117))else(qC.l0 k (⟨#[39]⟩:ByteArray) 0 a0_0 a0_1 a0_2)))))else(some (⟨#[]⟩:ByteArray)))=some r:=H
 have A2:=qn.mk A20
 clear A20
 by_cases c3:t115=true
 ·subst c3
  rw[if_pos rfl]at H
  by_cases c4:a0_0=0
  ·rw [if_pos c4] at H
   have lU:=beq_iff_eq.mpr c4
   have mD:=bne_eq_false_iff_eq.mpr c4
   clear c4
   obtain rfl:=Option.some.inj H
   go_enter Tryz.func45,Tryz.ntmps45
   go_wp2_with (first|((with_reducible refine kI (N:=1) rfl ?_);refine kF ?hg (N:=1) ?hd (cs:= #[.int .i64 a0_0,.int .i64 a0_1,.string a0_2]) (t:=24) ?hr ?_;(case hd=>rfl);(case hg=>rfl);(case hr=>first|(go_simp;done)|(go_simp;rfl));intro qU hg w5 hbox hb;have n0_:=qn.mk (qT zd hb);have n1_:=qn.mk (hbox);have n2_:=qn.mk ((by rw[hg];exact(qX zd):w.heap.size≤qU));have n3_:=qn.mk ((by rw[hg];exact(qX zd):w.heap.size≤qU));clear HB;have HB:=n0_;have qF:=n1_;have VB:=n2_;have yL:=n3_;clear n0_ n1_ n2_ n3_;clear hb hbox hg;have mc:w5.cell? ⟨qU,0,none⟩=some (.int .i64 a0_0):=(qy qF.out 0).trans rfl;have me:w5.cell? ⟨qU,1,none⟩=some (.int .i64 a0_1):=(qy qF.out 1).trans rfl;have mz:w5.cell? ⟨qU,2,none⟩=some (.string a0_2):=(qy qF.out 2).trans rfl;have my:=qm qF.out 0;have mw:=qm qF.out 1;have nF:=qm qF.out 2)|((with_reducible refine zN (f:=15) rfl ?_);refine wD (some 6) rfl rfl Tryz.func15 z13 rfl #[.agg #[.int .i64 a0_0,.int .i64 a0_1,.string a0_2]] rfl zc ?_;(with_reducible refine(qp.calls k a0_0 a0_1 a0_2 true _ A2.out).mono ?_);rintro e w7 ⟨rfl,hb⟩;refine⟨_,rfl,?_⟩;have n0_:=qn.mk (vW (g:=qU) (o:= .cells #[.int .i64 a0_0,.int .i64 a0_1,.string a0_2] 24 (0,0)) ze hb);have n1_:=qn.mk (qT zb hb);clear qF;clear HB;have qF:=n0_;have HB:=n1_;clear n0_ n1_;(try clear hb);(try clear hb2);(try clear hk);(try clear hi);have mr:w7.cell? ⟨qU,0,none⟩=some (.int .i64 a0_0):=(qy qF.out 0).trans rfl;have mE:w7.cell? ⟨qU,1,none⟩=some (.int .i64 a0_1):=(qy qF.out 1).trans rfl;have nI:w7.cell? ⟨qU,2,none⟩=some (.string a0_2):=(qy qF.out 2).trans rfl;have nk:=qm qF.out 0;have l5:=qm qF.out 1;have mj:=qm qF.out 2))
   go_ret
   exact z6
  ·rw [if_neg c4] at H
   have lU:=beq_eq_false_iff_ne.mpr c4
   have mD:=bne_iff_ne.mpr c4
   by_cases c9:a0_0=1
   ·rw [if_pos c9] at H
    have bk:=beq_iff_eq.mpr c9
    have dC:=bne_eq_false_iff_eq.mpr c9
    clear c9
    by_cases c10:a0_1=1
    ·rw [if_pos c10] at H
     have VL:=beq_iff_eq.mpr c10
     have JJ:=bne_eq_false_iff_eq.mpr c10
     clear c10
     obtain rfl:=Option.some.inj H
     go_enter Tryz.func45,Tryz.ntmps45
     go_wp2_with (first|((with_reducible refine kI (N:=1) rfl ?_);refine kF ?hg (N:=1) ?hd (cs:= #[.int .i64 a0_0,.int .i64 a0_1,.string a0_2]) (t:=24) ?hr ?_;(case hd=>rfl);(case hg=>rfl);(case hr=>first|(go_simp;done)|(go_simp;rfl));intro qU hg w11 hbox hb;have n0_:=qn.mk (qT zd hb);have n1_:=qn.mk (hbox);have n2_:=qn.mk ((by rw[hg];exact(qX zd):w.heap.size≤qU));have n3_:=qn.mk ((by rw[hg];exact(qX zd):w.heap.size≤qU));clear HB;have HB:=n0_;have qF:=n1_;have VB:=n2_;have yL:=n3_;clear n0_ n1_ n2_ n3_;clear hb hbox hg;have Wn:w11.cell? ⟨qU,0,none⟩=some (.int .i64 a0_0):=(qy qF.out 0).trans rfl;have Wi:w11.cell? ⟨qU,1,none⟩=some (.int .i64 a0_1):=(qy qF.out 1).trans rfl;have Jd:w11.cell? ⟨qU,2,none⟩=some (.string a0_2):=(qy qF.out 2).trans rfl;have W5:=qm qF.out 0;have Wg:=qm qF.out 1;have V9:=qm qF.out 2)|((with_reducible refine zN (f:=15) rfl ?_);refine wD (some 6) rfl rfl Tryz.func15 z13 rfl #[.agg #[.int .i64 a0_0,.int .i64 a0_1,.string a0_2]] rfl zc ?_;(with_reducible refine(qp.calls k a0_0 a0_1 a0_2 true _ A2.out).mono ?_);rintro e w13 ⟨rfl,hb⟩;refine⟨_,rfl,?_⟩;have n0_:=qn.mk (vW (g:=qU) (o:= .cells #[.int .i64 a0_0,.int .i64 a0_1,.string a0_2] 24 (0,0)) ze hb);have n1_:=qn.mk (qT zb hb);clear qF;clear HB;have qF:=n0_;have HB:=n1_;clear n0_ n1_;(try clear hb);(try clear hb2);(try clear hk);(try clear hi);have Wd:w13.cell? ⟨qU,0,none⟩=some (.int .i64 a0_0):=(qy qF.out 0).trans rfl;have Wx:w13.cell? ⟨qU,1,none⟩=some (.int .i64 a0_1):=(qy qF.out 1).trans rfl;have WI:w13.cell? ⟨qU,2,none⟩=some (.string a0_2):=(qy qF.out 2).trans rfl;have Wj:=qm qF.out 0;have WS:=qm qF.out 1;have WU:=qm qF.out 2))
     go_ret
     exact z6
    ·rw [if_neg c10] at H
     have VL:=beq_eq_false_iff_ne.mpr c10
     have JJ:=bne_iff_ne.mpr c10
     obtain rfl:=Option.some.inj H
     go_enter Tryz.func45,Tryz.ntmps45
     go_wp2_with (first|((with_reducible refine kI (N:=1) rfl ?_);refine kF ?hg (N:=1) ?hd (cs:= #[.int .i64 a0_0,.int .i64 a0_1,.string a0_2]) (t:=24) ?hr ?_;(case hd=>rfl);(case hg=>rfl);(case hr=>first|(go_simp;done)|(go_simp;rfl));intro qU hg w15 hbox hb;have n0_:=qn.mk (qT zd hb);have n1_:=qn.mk (hbox);have n2_:=qn.mk ((by rw[hg];exact(qX zd):w.heap.size≤qU));have n3_:=qn.mk ((by rw[hg];exact(qX zd):w.heap.size≤qU));clear HB;have HB:=n0_;have qF:=n1_;have VB:=n2_;have yL:=n3_;clear n0_ n1_ n2_ n3_;clear hb hbox hg;have Wl:w15.cell? ⟨qU,0,none⟩=some (.int .i64 a0_0):=(qy qF.out 0).trans rfl;have W6:w15.cell? ⟨qU,1,none⟩=some (.int .i64 a0_1):=(qy qF.out 1).trans rfl;have Jj:w15.cell? ⟨qU,2,none⟩=some (.string a0_2):=(qy qF.out 2).trans rfl;have W9:=qm qF.out 0;have WM:=qm qF.out 1;have Wc:=qm qF.out 2)|((with_reducible refine zN (f:=15) rfl ?_);refine wD (some 6) rfl rfl Tryz.func15 z13 rfl #[.agg #[.int .i64 a0_0,.int .i64 a0_1,.string a0_2]] rfl zc ?_;(with_reducible refine(qp.calls k a0_0 a0_1 a0_2 true _ A2.out).mono ?_);rintro e w17 ⟨rfl,hb⟩;refine⟨_,rfl,?_⟩;have n0_:=qn.mk (vW (g:=qU) (o:= .cells #[.int .i64 a0_0,.int .i64 a0_1,.string a0_2] 24 (0,0)) ze hb);have n1_:=qn.mk (qT zb hb);clear qF;clear HB;have qF:=n0_;have HB:=n1_;clear n0_ n1_;(try clear hb);(try clear hb2);(try clear hk);(try clear hi);have fS:w17.cell? ⟨qU,0,none⟩=some (.int .i64 a0_0):=(qy qF.out 0).trans rfl;have gV:w17.cell? ⟨qU,1,none⟩=some (.int .i64 a0_1):=(qy qF.out 1).trans rfl;have fN:w17.cell? ⟨qU,2,none⟩=some (.string a0_2):=(qy qF.out 2).trans rfl;have fP:=qm qF.out 0;have fR:=qm qF.out 1;have gL:=qm qF.out 2))
     go_ret
     exact z6
   ·rw [if_neg c9] at H
    have bk:=beq_eq_false_iff_ne.mpr c9
    have dC:=bne_iff_ne.mpr c9
    by_cases c19:a0_0=2
    ·rw [if_pos c19] at H
     have dR:=beq_iff_eq.mpr c19
     have iY:=bne_eq_false_iff_eq.mpr c19
     clear c19
     replace H:=Option.bind_eq_some_iff.mp H
     obtain⟨t116,WZ,H⟩:=H
     replace H:(some t116)=some r:=H
     have A20:=qn.mk WZ
     clear WZ
     obtain rfl:=Option.some.inj H
     go_enter Tryz.func45,Tryz.ntmps45
     go_wp2_with (first|((with_reducible refine kI (N:=1) rfl ?_);refine kF ?hg (N:=1) ?hd (cs:= #[.int .i64 a0_0,.int .i64 a0_1,.string a0_2]) (t:=24) ?hr ?_;(case hd=>rfl);(case hg=>rfl);(case hr=>first|(go_simp;done)|(go_simp;rfl));intro qU hg w21 hbox hb;have n0_:=qn.mk (qT zd hb);have n1_:=qn.mk (hbox);have n2_:=qn.mk ((by rw[hg];exact(qX zd):w.heap.size≤qU));have n3_:=qn.mk ((by rw[hg];exact(qX zd):w.heap.size≤qU));clear HB;have HB:=n0_;have qF:=n1_;have VB:=n2_;have yL:=n3_;clear n0_ n1_ n2_ n3_;clear hb hbox hg;have ay:w21.cell? ⟨qU,0,none⟩=some (.int .i64 a0_0):=(qy qF.out 0).trans rfl;have YK:w21.cell? ⟨qU,1,none⟩=some (.int .i64 a0_1):=(qy qF.out 1).trans rfl;have YE:w21.cell? ⟨qU,2,none⟩=some (.string a0_2):=(qy qF.out 2).trans rfl;have Yq:=qm qF.out 0;have Y4:=qm qF.out 1;have YY:=qm qF.out 2)|((with_reducible refine zN (f:=15) rfl ?_);refine wD (some 6) rfl rfl Tryz.func15 z13 rfl #[.agg #[.int .i64 a0_0,.int .i64 a0_1,.string a0_2]] rfl zc ?_;(with_reducible refine(qp.calls k a0_0 a0_1 a0_2 true _ A2.out).mono ?_);rintro e w23 ⟨rfl,hb⟩;refine⟨_,rfl,?_⟩;have n0_:=qn.mk (vW (g:=qU) (o:= .cells #[.int .i64 a0_0,.int .i64 a0_1,.string a0_2] 24 (0,0)) ze hb);have n1_:=qn.mk (qT zb hb);clear qF;clear HB;have qF:=n0_;have HB:=n1_;clear n0_ n1_;(try clear hb);(try clear hb2);(try clear hk);(try clear hi);have gB:w23.cell? ⟨qU,0,none⟩=some (.int .i64 a0_0):=(qy qF.out 0).trans rfl;have gP:w23.cell? ⟨qU,1,none⟩=some (.int .i64 a0_1):=(qy qF.out 1).trans rfl;have fY:w23.cell? ⟨qU,2,none⟩=some (.string a0_2):=(qy qF.out 2).trans rfl;have fD:=qm qF.out 0;have fI:=qm qF.out 1;have gN:=qm qF.out 2)|((with_reducible refine zN (f:=100) rfl ?_);refine wD (some 21) rfl rfl Tryz.func100 z13 rfl #[.int .i64 a0_1] rfl zc ?_;(with_reducible refine(qQ.calls k a0_1 t116 _ A20.out).mono ?_);rintro e w25 ⟨rfl,hb⟩;refine⟨_,rfl,?_⟩;have n0_:=qn.mk (vW (g:=qU) (o:= .cells #[.int .i64 a0_0,.int .i64 a0_1,.string a0_2] 24 (0,0)) ze hb);have n1_:=qn.mk (qT zb hb);clear qF;clear HB;have qF:=n0_;have HB:=n1_;clear n0_ n1_;(try clear hb);(try clear hb2);(try clear hk);(try clear hi)))
     go_ret
     exact z6
    ·rw [if_neg c19] at H
     have dR:=beq_eq_false_iff_ne.mpr c19
     have iY:=bne_iff_ne.mpr c19
     by_cases c26:a0_0=3
     ·rw [if_pos c26] at H
      have aG:=beq_iff_eq.mpr c26
      have lL:=bne_eq_false_iff_eq.mpr c26
      clear c26
      replace H:=Option.bind_eq_some_iff.mp H
      obtain⟨t117,pH,H⟩:=H
      replace H:(some t117)=some r:=H
      have A27:=qn.mk pH
      clear pH
      obtain rfl:=Option.some.inj H
      go_enter Tryz.func45,Tryz.ntmps45
      go_wp2_with (first|((with_reducible refine kI (N:=1) rfl ?_);refine kF ?hg (N:=1) ?hd (cs:= #[.int .i64 a0_0,.int .i64 a0_1,.string a0_2]) (t:=24) ?hr ?_;(case hd=>rfl);(case hg=>rfl);(case hr=>first|(go_simp;done)|(go_simp;rfl));intro qU hg w28 hbox hb;have n0_:=qn.mk (qT zd hb);have n1_:=qn.mk (hbox);have n2_:=qn.mk ((by rw[hg];exact(qX zd):w.heap.size≤qU));have n3_:=qn.mk ((by rw[hg];exact(qX zd):w.heap.size≤qU));clear HB;have HB:=n0_;have qF:=n1_;have VB:=n2_;have yL:=n3_;clear n0_ n1_ n2_ n3_;clear hb hbox hg;have au:w28.cell? ⟨qU,0,none⟩=some (.int .i64 a0_0):=(qy qF.out 0).trans rfl;have YA:w28.cell? ⟨qU,1,none⟩=some (.int .i64 a0_1):=(qy qF.out 1).trans rfl;have aj:w28.cell? ⟨qU,2,none⟩=some (.string a0_2):=(qy qF.out 2).trans rfl;have av:=qm qF.out 0;have YF:=qm qF.out 1;have Yl:=qm qF.out 2)|((with_reducible refine zN (f:=15) rfl ?_);refine wD (some 6) rfl rfl Tryz.func15 z13 rfl #[.agg #[.int .i64 a0_0,.int .i64 a0_1,.string a0_2]] rfl zc ?_;(with_reducible refine(qp.calls k a0_0 a0_1 a0_2 true _ A2.out).mono ?_);rintro e w30 ⟨rfl,hb⟩;refine⟨_,rfl,?_⟩;have n0_:=qn.mk (vW (g:=qU) (o:= .cells #[.int .i64 a0_0,.int .i64 a0_1,.string a0_2] 24 (0,0)) ze hb);have n1_:=qn.mk (qT zb hb);clear qF;clear HB;have qF:=n0_;have HB:=n1_;clear n0_ n1_;(try clear hb);(try clear hb2);(try clear hk);(try clear hi);have iG:w30.cell? ⟨qU,0,none⟩=some (.int .i64 a0_0):=(qy qF.out 0).trans rfl;have iz:w30.cell? ⟨qU,1,none⟩=some (.int .i64 a0_1):=(qy qF.out 1).trans rfl;have gg:w30.cell? ⟨qU,2,none⟩=some (.string a0_2):=(qy qF.out 2).trans rfl;have iM:=qm qF.out 0;have fQ:=qm qF.out 1;have gR:=qm qF.out 2)|((with_reducible refine zN (f:=101) rfl ?_);refine wD (some 26) rfl rfl Tryz.func101 z13 rfl #[.int .i64 a0_1] rfl zc ?_;(with_reducible refine(ql.calls k a0_1 t117 _ A27.out).mono ?_);rintro e w32 ⟨rfl,hb⟩;refine⟨_,rfl,?_⟩;have n0_:=qn.mk (vW (g:=qU) (o:= .cells #[.int .i64 a0_0,.int .i64 a0_1,.string a0_2] 24 (0,0)) ze hb);have n1_:=qn.mk (qT zb hb);clear qF;clear HB;have qF:=n0_;have HB:=n1_;clear n0_ n1_;(try clear hb);(try clear hb2);(try clear hk);(try clear hi)))
      go_ret
      exact z6
     ·rw [if_neg c26] at H
      have aG:=beq_eq_false_iff_ne.mpr c26
      have lL:=bne_iff_ne.mpr c26
      have H':=qn.mk H
      clear H
      go_enter Tryz.func45,Tryz.ntmps45
      go_wp2_with (first|((with_reducible refine kI (N:=1) rfl ?_);refine kF ?hg (N:=1) ?hd (cs:= #[.int .i64 a0_0,.int .i64 a0_1,.string a0_2]) (t:=24) ?hr ?_;(case hd=>rfl);(case hg=>rfl);(case hr=>first|(go_simp;done)|(go_simp;rfl));intro qU hg w33 hbox hb;have n0_:=qn.mk (qT zd hb);have n1_:=qn.mk (hbox);have n2_:=qn.mk ((by rw[hg];exact(qX zd):w.heap.size≤qU));have n3_:=qn.mk ((by rw[hg];exact(qX zd):w.heap.size≤qU));clear HB;have HB:=n0_;have qF:=n1_;have VB:=n2_;have yL:=n3_;clear n0_ n1_ n2_ n3_;clear hb hbox hg;have fJ:w33.cell? ⟨qU,0,none⟩=some (.int .i64 a0_0):=(qy qF.out 0).trans rfl;have iD:w33.cell? ⟨qU,1,none⟩=some (.int .i64 a0_1):=(qy qF.out 1).trans rfl;have fO:w33.cell? ⟨qU,2,none⟩=some (.string a0_2):=(qy qF.out 2).trans rfl;have gh:=qm qF.out 0;have ia:=qm qF.out 1;have iq:=qm qF.out 2)|((with_reducible refine zN (f:=15) rfl ?_);refine wD (some 6) rfl rfl Tryz.func15 z13 rfl #[.agg #[.int .i64 a0_0,.int .i64 a0_1,.string a0_2]] rfl zc ?_;(with_reducible refine(qp.calls k a0_0 a0_1 a0_2 true _ A2.out).mono ?_);rintro e w35 ⟨rfl,hb⟩;refine⟨_,rfl,?_⟩;have n0_:=qn.mk (vW (g:=qU) (o:= .cells #[.int .i64 a0_0,.int .i64 a0_1,.string a0_2] 24 (0,0)) ze hb);have n1_:=qn.mk (qT zb hb);clear qF;clear HB;have qF:=n0_;have HB:=n1_;clear n0_ n1_;(try clear hb);(try clear hb2);(try clear hk);(try clear hi);have gn:w35.cell? ⟨qU,0,none⟩=some (.int .i64 a0_0):=(qy qF.out 0).trans rfl;have hX:w35.cell? ⟨qU,1,none⟩=some (.int .i64 a0_1):=(qy qF.out 1).trans rfl;have hU:w35.cell? ⟨qU,2,none⟩=some (.string a0_2):=(qy qF.out 2).trans rfl;have gA:=qm qF.out 0;have fM:=qm qF.out 1;have ic:=qm qF.out 2))
      go_loopg [3,4] k (fun kq v3 v4 w'=> ∃(x3_1:ByteArray) (x4_1:Int),v3= .string x3_1∧v4= .int .i64 x4_1∧qn (qC.l0 kq x3_1 x4_1 a0_0 a0_1 a0_2=some r)∧qn (kq≤k)∧qn (w'.heap[qU]? =some (.cells #[.int .i64 a0_0,.int .i64 a0_1,.string a0_2] 24 (0,0)))∧qn (Below w.heap.size w w'))
      case atStart=>exact⟨((⟨#[39]⟩:ByteArray)),(0),z11,z11,H',⟨Nat.le_refl _⟩,⟨by(with_reducible repeat (first|refine jF ?_ _|refine xB ?_|refine jB ?_ _));exact qF.out⟩,⟨by repeat (first|(with_reducible first|exact HB.out|apply zl|apply q7|apply zt|refine wy ?_ yL.out)|exact HB.out)⟩⟩
      case round=>
       clear H'
       try clear c1
       try clear c2
       try clear p2
       try clear c3
       try clear c4
       try clear lU
       try clear mD
       try clear c9
       try clear bk
       try clear dC
       try clear c10
       try clear VL
       try clear JJ
       try clear c15
       try clear c19
       try clear dR
       try clear iY
       try clear c26
       try clear aG
       try clear lL
       try clear Wn
       try clear Wi
       try clear Jd
       try clear Wd
       try clear Wx
       try clear WI
       try clear Wl
       try clear W6
       try clear Jj
       try clear fS
       try clear gV
       try clear fN
       try clear ay
       try clear YK
       try clear YE
       try clear gB
       try clear gP
       try clear fY
       try clear au
       try clear YA
       try clear aj
       try clear iG
       try clear iz
       try clear gg
       try clear fJ
       try clear iD
       try clear fO
       try clear gn
       try clear hX
       try clear hU
       try clear mc
       try clear me
       try clear mz
       try clear mr
       try clear mE
       try clear nI
       try clear W5
       try clear Wg
       try clear V9
       try clear Wj
       try clear WS
       try clear WU
       try clear W9
       try clear WM
       try clear Wc
       try clear fP
       try clear fR
       try clear gL
       try clear Yq
       try clear Y4
       try clear YY
       try clear fD
       try clear fI
       try clear gN
       try clear av
       try clear YF
       try clear Yl
       try clear iM
       try clear fQ
       try clear gR
       try clear gh
       try clear ia
       try clear iq
       try clear gA
       try clear fM
       try clear ic
       try clear my
       try clear mw
       try clear nF
       try clear nk
       try clear l5
       try clear mj
       obtain⟨x3_1,x4_1,rfl,rfl,HA,HK1,qF,HB⟩:=hrel
       cases gk with
       |zero=>exact absurd HA.out (by simp[qC.l0])
       |succ k1=>
        have H:=HA.out
        clear HA
        simp only[qC.l0]at H
        by_cases c37:x4_1<(a0_2.size:Int)
        ·rw [if_pos c37] at H
         have pM:=decide_eq_true c37
         clear c37
         by_cases c38:0≤x4_1
         ·rw [if_pos c38] at H
          have ti:=decide_eq_true c38
          clear c38
          by_cases c40:(bt a0_2 x4_1)=39
          ·rw [if_pos c40] at H
           have pD:=beq_iff_eq.mpr c40
           have oz:=bne_eq_false_iff_eq.mpr c40
           clear c40
           by_cases c41:x3_1.size+1≤9223372036854775807
           ·rw [if_pos c41] at H
            have th:=eq_true c41
            have sY:=decide_eq_true c41
            try have s8:(9223372036854775807<x3_1.size+1)=False:=eq_false (Nat.not_lt.2 c41)
            have tp:=eq_true (of_decide_eq_true z10:0≤x4_1)
            by_cases c43:x4_1≤(wrap64 (x4_1+1))
            ·rw [if_pos c43] at H
             have tq:=eq_true c43
             have ta:=decide_eq_true c43
             by_cases c44:(wrap64 (x4_1+1))≤(a0_2.size:Int)
             ·rw [if_pos c44] at H
              have tK:=eq_true c44
              have tL:=decide_eq_true c44
              by_cases c45:(x3_1++(⟨#[39]⟩:ByteArray)).size+(a0_2.extract (x4_1:Int).toNat ((wrap64 (x4_1+1)):Int).toNat).size≤9223372036854775807
              ·rw [if_pos c45] at H
               have tz:=eq_true c45
               have tM:=decide_eq_true c45
               try have tE:(9223372036854775807<(x3_1++(⟨#[39]⟩:ByteArray)).size+(a0_2.extract (x4_1:Int).toNat ((wrap64 (x4_1+1)):Int).toNat).size)=False:=eq_false (Nat.not_lt.2 c45)
               have H':=qn.mk H
               clear H
               have rA:wr.cell? ⟨qU,0,none⟩=some (.int .i64 a0_0):=(qy qF.out 0).trans rfl
               have rm:wr.cell? ⟨qU,1,none⟩=some (.int .i64 a0_1):=(qy qF.out 1).trans rfl
               have rR:wr.cell? ⟨qU,2,none⟩=some (.string a0_2):=(qy qF.out 2).trans rfl
               have pX:=qm qF.out 0
               have pZ:=qm qF.out 1
               have rz:=qm qF.out 2
               have p39:0≤(x4_1:Int):=of_decide_eq_true z10
               have q39:x4_1<(a0_2.size:Int):=of_decide_eq_true z10
               have sA:=xo a0_2 x4_1
               replace p39:=eq_true p39
               replace q39:=eq_true q39
               go_wp2
               go_roundg k1
               case measure=>have:=HK1.out;omega
               case rel=>exact⟨((x3_1++(⟨#[39]⟩:ByteArray))++(a0_2.extract (x4_1:Int).toNat ((wrap64 (x4_1+1)):Int).toNat)),(wrap64 (x4_1+1)),z11,z11,H',⟨by have:=HK1.out;omega⟩,⟨by(with_reducible repeat (first|refine jF ?_ _|refine xB ?_|refine jB ?_ _));exact qF.out⟩,⟨by repeat (first|(with_reducible first|exact HB.out|apply zl|apply q7|apply zt|refine wy ?_ yL.out)|exact HB.out)⟩⟩
              ·rw [if_neg c45] at H
               exact absurd H z15
             ·rw [if_neg c44] at H
              exact absurd H z15
            ·rw [if_neg c43] at H
             exact absurd H z15
           ·rw [if_neg c41] at H
            exact absurd H z15
          ·rw [if_neg c40] at H
           have pD:=beq_eq_false_iff_ne.mpr c40
           have oz:=bne_iff_ne.mpr c40
           have sW:=eq_true (of_decide_eq_true z10:0≤x4_1)
           by_cases c48:x4_1≤(wrap64 (x4_1+1))
           ·rw [if_pos c48] at H
            have tb:=eq_true c48
            have tf:=decide_eq_true c48
            by_cases c49:(wrap64 (x4_1+1))≤(a0_2.size:Int)
            ·rw [if_pos c49] at H
             have sS:=eq_true c49
             have tl:=decide_eq_true c49
             by_cases c50:x3_1.size+(a0_2.extract (x4_1:Int).toNat ((wrap64 (x4_1+1)):Int).toNat).size≤9223372036854775807
             ·rw [if_pos c50] at H
              have tB:=eq_true c50
              have sT:=decide_eq_true c50
              try have tc:(9223372036854775807<x3_1.size+(a0_2.extract (x4_1:Int).toNat ((wrap64 (x4_1+1)):Int).toNat).size)=False:=eq_false (Nat.not_lt.2 c50)
              have H':=qn.mk H
              clear H
              have rC:wr.cell? ⟨qU,0,none⟩=some (.int .i64 a0_0):=(qy qF.out 0).trans rfl
              have ru:wr.cell? ⟨qU,1,none⟩=some (.int .i64 a0_1):=(qy qF.out 1).trans rfl
              have rB:wr.cell? ⟨qU,2,none⟩=some (.string a0_2):=(qy qF.out 2).trans rfl
              have rI:=qm qF.out 0
              have rQ:=qm qF.out 1
              have rq:=qm qF.out 2
              have p39:0≤(x4_1:Int):=of_decide_eq_true z10
              have q39:x4_1<(a0_2.size:Int):=of_decide_eq_true z10
              have sA:=xo a0_2 x4_1
              replace p39:=eq_true p39
              replace q39:=eq_true q39
              go_wp2
              go_roundg k1
              case measure=>have:=HK1.out;omega
              case rel=>exact⟨(x3_1++(a0_2.extract (x4_1:Int).toNat ((wrap64 (x4_1+1)):Int).toNat)),(wrap64 (x4_1+1)),z11,z11,H',⟨by have:=HK1.out;omega⟩,⟨by(with_reducible repeat (first|refine jF ?_ _|refine xB ?_|refine jB ?_ _));exact qF.out⟩,⟨by repeat (first|(with_reducible first|exact HB.out|apply zl|apply q7|apply zt|refine wy ?_ yL.out)|exact HB.out)⟩⟩
             ·rw [if_neg c50] at H
              exact absurd H z15
            ·rw [if_neg c49] at H
             exact absurd H z15
           ·rw [if_neg c48] at H
            exact absurd H z15
         ·rw [if_neg c38] at H
          exact absurd H z15
        ·rw [if_neg c37] at H
         have pM:=decide_eq_false c37
         clear c37
         by_cases c52:x3_1.size+1≤9223372036854775807
         ·rw [if_pos c52] at H
          have tv:=eq_true c52
          have td:=decide_eq_true c52
          try have tD:(9223372036854775807<x3_1.size+1)=False:=eq_false (Nat.not_lt.2 c52)
          obtain rfl:=Option.some.inj H
          have rf:wr.cell? ⟨qU,0,none⟩=some (.int .i64 a0_0):=(qy qF.out 0).trans rfl
          have rn:wr.cell? ⟨qU,1,none⟩=some (.int .i64 a0_1):=(qy qF.out 1).trans rfl
          have rM:wr.cell? ⟨qU,2,none⟩=some (.string a0_2):=(qy qF.out 2).trans rfl
          have rp:=qm qF.out 0
          have rl:=qm qF.out 1
          have rT:=qm qF.out 2
          go_wp2
          go_ret
          exact z6
         ·rw [if_neg c52] at H
          exact absurd H z15
 ·replace c3 := Bool.eq_false_iff.mpr c3
  subst c3
  rw[if_neg (show¬(false=true)by decide)]at H
  obtain rfl:=Option.some.inj H
  go_enter Tryz.func45,Tryz.ntmps45
  go_wp2_with (first|((with_reducible refine kI (N:=1) rfl ?_);refine kF ?hg (N:=1) ?hd (cs:= #[.int .i64 a0_0,.int .i64 a0_1,.string a0_2]) (t:=24) ?hr ?_;(case hd=>rfl);(case hg=>rfl);(case hr=>first|(go_simp;done)|(go_simp;rfl));intro qU hg w54 hbox hb;have n0_:=qn.mk (qT zd hb);have n1_:=qn.mk (hbox);have n2_:=qn.mk ((by rw[hg];exact(qX zd):w.heap.size≤qU));have n3_:=qn.mk ((by rw[hg];exact(qX zd):w.heap.size≤qU));clear HB;have HB:=n0_;have qF:=n1_;have VB:=n2_;have yL:=n3_;clear n0_ n1_ n2_ n3_;clear hb hbox hg;have rO:w54.cell? ⟨qU,0,none⟩=some (.int .i64 a0_0):=(qy qF.out 0).trans rfl;have rE:w54.cell? ⟨qU,1,none⟩=some (.int .i64 a0_1):=(qy qF.out 1).trans rfl;have ri:w54.cell? ⟨qU,2,none⟩=some (.string a0_2):=(qy qF.out 2).trans rfl;have pU:=qm qF.out 0;have rG:=qm qF.out 1;have rN:=qm qF.out 2)|((with_reducible refine zN (f:=15) rfl ?_);refine wD (some 6) rfl rfl Tryz.func15 z13 rfl #[.agg #[.int .i64 a0_0,.int .i64 a0_1,.string a0_2]] rfl zc ?_;(with_reducible refine(qp.calls k a0_0 a0_1 a0_2 false _ A2.out).mono ?_);rintro e w56 ⟨rfl,hb⟩;refine⟨_,rfl,?_⟩;have n0_:=qn.mk (vW (g:=qU) (o:= .cells #[.int .i64 a0_0,.int .i64 a0_1,.string a0_2] 24 (0,0)) ze hb);have n1_:=qn.mk (qT zb hb);clear qF;clear HB;have qF:=n0_;have HB:=n1_;clear n0_ n1_;(try clear hb);(try clear hb2);(try clear hk);(try clear hi)))
  go_ret
  exact z6
end Go.Proofs.YtaiokpmmjbiajaaGreatDoor.PLeaf
