/- A part of the proof of this claim. No condition beyond those that each theorem names. -/
import Derived.Test.YtaiokpmmjbiajaaGreatDoorAPLeafx0
import Derived.Test.YtaiokpmmjbiajaaGreatDoorAPLeafx2
import Derived.Test.YtaiokpmmjbiajaaGreatDoorAPLeafx3
namespace Go.Proofs.YtaiokpmmjbiajaaGreatDoor.PLeaf
open Go.RowKit Go.Proofs.YtaiokpmmjbiajaaGreatDoorW.PrintWords Go.Proofs.YtaiokpmmjbiajaaGreatDoorW.PrintLast Go.Proofs.YtaiokpmmjbiajaaGreatDoorW.PrintMore
attribute [local go_sem] yD yn QO QU xu xH yE yI
set_option linter.unusedVariables false
set_option linter.unusedSimpArgs false
def qB.l0:Nat→ByteArray→Int→Int→Int→ByteArray→Option (ByteArray)
 |0,_,_,_,_,_=>none
 |k+1,x3,x4,x115000,x115001,x115002=>if x4<(x115002.size:Int)then(if 0≤x4 then(if(bt x115002 x4)=39 then(if x3.size+1≤9223372036854775807 then(if x4≤(wrap64 (x4+1))then(if(wrap64 (x4+1))≤(x115002.size:Int)then(if(x3++(⟨#[39]⟩:ByteArray)).size+(x115002.extract (x4:Int).toNat ((wrap64 (x4+1)):Int).toNat).size≤9223372036854775807 then(qB.l0 k ((x3++(⟨#[39]⟩:ByteArray))++(x115002.extract (x4:Int).toNat ((wrap64 (x4+1)):Int).toNat)) (wrap64 (x4+1)) x115000 x115001 x115002)else(none))else(none))else(none))else(none))else(if x4≤(wrap64 (x4+1))then(if(wrap64 (x4+1))≤(x115002.size:Int)then(if x3.size+(x115002.extract (x4:Int).toNat ((wrap64 (x4+1)):Int).toNat).size≤9223372036854775807 then(qB.l0 k (x3++(x115002.extract (x4:Int).toNat ((wrap64 (x4+1)):Int).toNat)) (wrap64 (x4+1)) x115000 x115001 x115002)else(none))else(none))else(none)))else(none))else(if x3.size+1≤9223372036854775807 then(some (x3++(⟨#[39]⟩:ByteArray)))else(none))
def qB.f (k:Nat) (a0_0:Int) (a0_1:Int) (a0_2:ByteArray):Option (ByteArray):=(qq.f k a0_0 a0_1 a0_2).bind fun t115=>(if t115=true then(if a0_0=0 then(some (⟨#[110,117,108,108]⟩:ByteArray))else(if a0_0=1 then(if a0_1=1 then(some (⟨#[116,114,117,101]⟩:ByteArray))else(some (⟨#[102,97,108,115,101]⟩:ByteArray)))else(if a0_0=2 then((qU.f k a0_1).bind fun t116=>(some t116))else(if a0_0=3 then((ql.f k a0_1).bind fun t117=>(some t117))else(qB.l0 k (⟨#[39]⟩:ByteArray) 0 a0_0 a0_1 a0_2)))))else(some (⟨#[]⟩:ByteArray)))
theorem qB.wq: ∀k,(∀y0 y1 y2 y3 y4,LeO (qB.l0 k y0 y1 y2 y3 y4) (qB.l0 (k+1) y0 y1 y2 y3 y4))
 |0=>fun _ _ _ _ _ r h=>by simp[qB.l0]at h
 |k+1=>by
  have ih0:=qB.wq k
  ·intro y0 y1 y2 y3 y4
   unfold qB.l0
   exact z1
theorem qB.mono: ∀a0 a1 a2 k,LeO (qB.f k a0 a1 a2) (qB.f (k+1) a0 a1 a2):=by
 intro a0 a1 a2 k
 have ih0:=qB.wq k
 unfold qB.f
 exact z1
set_option maxHeartbeats 8000000 in
set_option maxRecDepth 100000 in
theorem qB.calls (k:Nat) (a0_0:Int) (a0_1:Int) (a0_2:ByteArray) (r:ByteArray) (w:World) (h:qB.f k a0_0 a0_1 a0_2=some r):
  Calls Tryz.prog 45 #[.agg #[.int .i64 a0_0,.int .i64 a0_1,.string a0_2]] w fun e w'=>e= .returned (.string r)∧Below w.heap.size w w':=by
 have tR:=Tryz.underlying24
 have HB:=qo.mk (Below.refl w.heap.size w)
 have H:((qq.f k a0_0 a0_1 a0_2).bind fun t115=>(if t115=true then(if a0_0=0 then(some (⟨#[110,117,108,108]⟩:ByteArray))else(if a0_0=1 then(if a0_1=1 then(some (⟨#[116,114,117,101]⟩:ByteArray))else(some (⟨#[102,97,108,115,101]⟩:ByteArray)))else(if a0_0=2 then((qU.f k a0_1).bind fun t116=>(some t116))else(if a0_0=3 then((ql.f k a0_1).bind fun t117=>(some t117))else(qB.l0 k (⟨#[39]⟩:ByteArray) 0 a0_0 a0_1 a0_2)))))else(some (⟨#[]⟩:ByteArray))))=some r:=h
 clear h
 replace H:=Option.bind_eq_some_iff.mp H
 obtain⟨t115,A20,H⟩:=H
 replace H:(if t115=true then(if a0_0=0 then(some (⟨#[110,117,108,108]⟩:ByteArray))else(if a0_0=1 then(if a0_1=1 then(some (⟨#[116,114,117,101]⟩:ByteArray))else(some (⟨#[102,97,108,115,101]⟩:ByteArray)))else(if a0_0=2 then((qU.f k a0_1).bind fun t116=>(some t116))else(if a0_0=3 then((ql.f k a0_1).bind fun t117=>(some t117))else(qB.l0 k (⟨#[39]⟩:ByteArray) 0 a0_0 a0_1 a0_2)))))else(some (⟨#[]⟩:ByteArray)))=some r:=H
 have A2:=qo.mk A20
 clear A20
 by_cases c3:t115=true
 ·subst c3
  rw[if_pos rfl]at H
  by_cases c4:a0_0=0
  ·rw [if_pos c4] at H
   have nP:=beq_iff_eq.mpr c4
   have mZ:=bne_eq_false_iff_eq.mpr c4
   clear c4
   obtain rfl:=Option.some.inj H
   go_enter Tryz.func45,Tryz.ntmps45
   go_wp2_with (first|((with_reducible refine kH (N:=1) rfl ?_);refine kG ?hg (N:=1) ?hd (cs:= #[.int .i64 a0_0,.int .i64 a0_1,.string a0_2]) (t:=24) ?hr ?_;(case hd=>rfl);(case hg=>rfl);(case hr=>first|(go_simp;done)|(go_simp;rfl));intro qX hg w5 hbox hb;have n0_:=qo.mk (qW zd hb);have n1_:=qo.mk (hbox);have n2_:=qo.mk ((by rw[hg];exact(qY zd):w.heap.size≤qX));have n3_:=qo.mk ((by rw[hg];exact(qY zd):w.heap.size≤qX));clear HB;have HB:=n0_;have qF:=n1_;have Wl:=n2_;have yy:=n3_;clear n0_ n1_ n2_ n3_;clear hb hbox hg;have nO:w5.cell? ⟨qX,0,none⟩=some (.int .i64 a0_0):=(qy qF.out 0).trans rfl;have oJ:w5.cell? ⟨qX,1,none⟩=some (.int .i64 a0_1):=(qy qF.out 1).trans rfl;have nN:w5.cell? ⟨qX,2,none⟩=some (.string a0_2):=(qy qF.out 2).trans rfl;have nF:=qn qF.out 0;have oh:=qn qF.out 1;have oB:=qn qF.out 2)|((with_reducible refine zQ (f:=15) rfl ?_);refine wJ (some 6) rfl rfl Tryz.func15 z13 rfl #[.agg #[.int .i64 a0_0,.int .i64 a0_1,.string a0_2]] rfl zc ?_;(with_reducible refine(qq.calls k a0_0 a0_1 a0_2 true _ A2.out).mono ?_);rintro e w7 ⟨rfl,hb⟩;refine⟨_,rfl,?_⟩;have n0_:=qo.mk (vS (g:=qX) (o:= .cells #[.int .i64 a0_0,.int .i64 a0_1,.string a0_2] 24 (0,0)) ze hb);have n1_:=qo.mk (qW zb hb);clear qF;clear HB;have qF:=n0_;have HB:=n1_;clear n0_ n1_;(try clear hb);(try clear hb2);(try clear hk);(try clear hi);have oS:w7.cell? ⟨qX,0,none⟩=some (.int .i64 a0_0):=(qy qF.out 0).trans rfl;have oU:w7.cell? ⟨qX,1,none⟩=some (.int .i64 a0_1):=(qy qF.out 1).trans rfl;have oN:w7.cell? ⟨qX,2,none⟩=some (.string a0_2):=(qy qF.out 2).trans rfl;have nM:=qn qF.out 0;have pA:=qn qF.out 1;have nB:=qn qF.out 2))
   go_ret
   exact z6
  ·rw [if_neg c4] at H
   have nP:=beq_eq_false_iff_ne.mpr c4
   have mZ:=bne_iff_ne.mpr c4
   by_cases c9:a0_0=1
   ·rw [if_pos c9] at H
    have cb:=beq_iff_eq.mpr c9
    have dc:=bne_eq_false_iff_eq.mpr c9
    clear c9
    by_cases c10:a0_1=1
    ·rw [if_pos c10] at H
     have VZ:=beq_iff_eq.mpr c10
     have XL:=bne_eq_false_iff_eq.mpr c10
     clear c10
     obtain rfl:=Option.some.inj H
     go_enter Tryz.func45,Tryz.ntmps45
     go_wp2_with (first|((with_reducible refine kH (N:=1) rfl ?_);refine kG ?hg (N:=1) ?hd (cs:= #[.int .i64 a0_0,.int .i64 a0_1,.string a0_2]) (t:=24) ?hr ?_;(case hd=>rfl);(case hg=>rfl);(case hr=>first|(go_simp;done)|(go_simp;rfl));intro qX hg w11 hbox hb;have n0_:=qo.mk (qW zd hb);have n1_:=qo.mk (hbox);have n2_:=qo.mk ((by rw[hg];exact(qY zd):w.heap.size≤qX));have n3_:=qo.mk ((by rw[hg];exact(qY zd):w.heap.size≤qX));clear HB;have HB:=n0_;have qF:=n1_;have Wl:=n2_;have yy:=n3_;clear n0_ n1_ n2_ n3_;clear hb hbox hg;have Jh:w11.cell? ⟨qX,0,none⟩=some (.int .i64 a0_0):=(qy qF.out 0).trans rfl;have WJ:w11.cell? ⟨qX,1,none⟩=some (.int .i64 a0_1):=(qy qF.out 1).trans rfl;have WT:w11.cell? ⟨qX,2,none⟩=some (.string a0_2):=(qy qF.out 2).trans rfl;have Ww:=qn qF.out 0;have JD:=qn qF.out 1;have Jy:=qn qF.out 2)|((with_reducible refine zQ (f:=15) rfl ?_);refine wJ (some 6) rfl rfl Tryz.func15 z13 rfl #[.agg #[.int .i64 a0_0,.int .i64 a0_1,.string a0_2]] rfl zc ?_;(with_reducible refine(qq.calls k a0_0 a0_1 a0_2 true _ A2.out).mono ?_);rintro e w13 ⟨rfl,hb⟩;refine⟨_,rfl,?_⟩;have n0_:=qo.mk (vS (g:=qX) (o:= .cells #[.int .i64 a0_0,.int .i64 a0_1,.string a0_2] 24 (0,0)) ze hb);have n1_:=qo.mk (qW zb hb);clear qF;clear HB;have qF:=n0_;have HB:=n1_;clear n0_ n1_;(try clear hb);(try clear hb2);(try clear hk);(try clear hi);have WY:w13.cell? ⟨qX,0,none⟩=some (.int .i64 a0_0):=(qy qF.out 0).trans rfl;have WC:w13.cell? ⟨qX,1,none⟩=some (.int .i64 a0_1):=(qy qF.out 1).trans rfl;have WA:w13.cell? ⟨qX,2,none⟩=some (.string a0_2):=(qy qF.out 2).trans rfl;have JC:=qn qF.out 0;have JA:=qn qF.out 1;have WX:=qn qF.out 2))
     go_ret
     exact z6
    ·rw [if_neg c10] at H
     have VZ:=beq_eq_false_iff_ne.mpr c10
     have XL:=bne_iff_ne.mpr c10
     obtain rfl:=Option.some.inj H
     go_enter Tryz.func45,Tryz.ntmps45
     go_wp2_with (first|((with_reducible refine kH (N:=1) rfl ?_);refine kG ?hg (N:=1) ?hd (cs:= #[.int .i64 a0_0,.int .i64 a0_1,.string a0_2]) (t:=24) ?hr ?_;(case hd=>rfl);(case hg=>rfl);(case hr=>first|(go_simp;done)|(go_simp;rfl));intro qX hg w15 hbox hb;have n0_:=qo.mk (qW zd hb);have n1_:=qo.mk (hbox);have n2_:=qo.mk ((by rw[hg];exact(qY zd):w.heap.size≤qX));have n3_:=qo.mk ((by rw[hg];exact(qY zd):w.heap.size≤qX));clear HB;have HB:=n0_;have qF:=n1_;have Wl:=n2_;have yy:=n3_;clear n0_ n1_ n2_ n3_;clear hb hbox hg;have WI:w15.cell? ⟨qX,0,none⟩=some (.int .i64 a0_0):=(qy qF.out 0).trans rfl;have Jt:w15.cell? ⟨qX,1,none⟩=some (.int .i64 a0_1):=(qy qF.out 1).trans rfl;have Jx:w15.cell? ⟨qX,2,none⟩=some (.string a0_2):=(qy qF.out 2).trans rfl;have JB:=qn qF.out 0;have Jr:=qn qF.out 1;have WQ:=qn qF.out 2)|((with_reducible refine zQ (f:=15) rfl ?_);refine wJ (some 6) rfl rfl Tryz.func15 z13 rfl #[.agg #[.int .i64 a0_0,.int .i64 a0_1,.string a0_2]] rfl zc ?_;(with_reducible refine(qq.calls k a0_0 a0_1 a0_2 true _ A2.out).mono ?_);rintro e w17 ⟨rfl,hb⟩;refine⟨_,rfl,?_⟩;have n0_:=qo.mk (vS (g:=qX) (o:= .cells #[.int .i64 a0_0,.int .i64 a0_1,.string a0_2] 24 (0,0)) ze hb);have n1_:=qo.mk (qW zb hb);clear qF;clear HB;have qF:=n0_;have HB:=n1_;clear n0_ n1_;(try clear hb);(try clear hb2);(try clear hk);(try clear hi);have gU:w17.cell? ⟨qX,0,none⟩=some (.int .i64 a0_0):=(qy qF.out 0).trans rfl;have iL:w17.cell? ⟨qX,1,none⟩=some (.int .i64 a0_1):=(qy qF.out 1).trans rfl;have iO:w17.cell? ⟨qX,2,none⟩=some (.string a0_2):=(qy qF.out 2).trans rfl;have gT:=qn qF.out 0;have ia:=qn qF.out 1;have gQ:=qn qF.out 2))
     go_ret
     exact z6
   ·rw [if_neg c9] at H
    have cb:=beq_eq_false_iff_ne.mpr c9
    have dc:=bne_iff_ne.mpr c9
    by_cases c19:a0_0=2
    ·rw [if_pos c19] at H
     have fB:=beq_iff_eq.mpr c19
     have mL:=bne_eq_false_iff_eq.mpr c19
     clear c19
     replace H:=Option.bind_eq_some_iff.mp H
     obtain⟨t116,WL,H⟩:=H
     replace H:(some t116)=some r:=H
     have A20:=qo.mk WL
     clear WL
     obtain rfl:=Option.some.inj H
     go_enter Tryz.func45,Tryz.ntmps45
     go_wp2_with (first|((with_reducible refine kH (N:=1) rfl ?_);refine kG ?hg (N:=1) ?hd (cs:= #[.int .i64 a0_0,.int .i64 a0_1,.string a0_2]) (t:=24) ?hr ?_;(case hd=>rfl);(case hg=>rfl);(case hr=>first|(go_simp;done)|(go_simp;rfl));intro qX hg w21 hbox hb;have n0_:=qo.mk (qW zd hb);have n1_:=qo.mk (hbox);have n2_:=qo.mk ((by rw[hg];exact(qY zd):w.heap.size≤qX));have n3_:=qo.mk ((by rw[hg];exact(qY zd):w.heap.size≤qX));clear HB;have HB:=n0_;have qF:=n1_;have Wl:=n2_;have yy:=n3_;clear n0_ n1_ n2_ n3_;clear hb hbox hg;have YY:w21.cell? ⟨qX,0,none⟩=some (.int .i64 a0_0):=(qy qF.out 0).trans rfl;have ae:w21.cell? ⟨qX,1,none⟩=some (.int .i64 a0_1):=(qy qF.out 1).trans rfl;have aq:w21.cell? ⟨qX,2,none⟩=some (.string a0_2):=(qy qF.out 2).trans rfl;have aZ:=qn qF.out 0;have YX:=qn qF.out 1;have bq:=qn qF.out 2)|((with_reducible refine zQ (f:=15) rfl ?_);refine wJ (some 6) rfl rfl Tryz.func15 z13 rfl #[.agg #[.int .i64 a0_0,.int .i64 a0_1,.string a0_2]] rfl zc ?_;(with_reducible refine(qq.calls k a0_0 a0_1 a0_2 true _ A2.out).mono ?_);rintro e w23 ⟨rfl,hb⟩;refine⟨_,rfl,?_⟩;have n0_:=qo.mk (vS (g:=qX) (o:= .cells #[.int .i64 a0_0,.int .i64 a0_1,.string a0_2] 24 (0,0)) ze hb);have n1_:=qo.mk (qW zb hb);clear qF;clear HB;have qF:=n0_;have HB:=n1_;clear n0_ n1_;(try clear hb);(try clear hb2);(try clear hk);(try clear hi);have iY:w23.cell? ⟨qX,0,none⟩=some (.int .i64 a0_0):=(qy qF.out 0).trans rfl;have ly:w23.cell? ⟨qX,1,none⟩=some (.int .i64 a0_1):=(qy qF.out 1).trans rfl;have lM:w23.cell? ⟨qX,2,none⟩=some (.string a0_2):=(qy qF.out 2).trans rfl;have lv:=qn qF.out 0;have lz:=qn qF.out 1;have lN:=qn qF.out 2)|((with_reducible refine zQ (f:=100) rfl ?_);refine wJ (some 21) rfl rfl Tryz.func100 z13 rfl #[.int .i64 a0_1] rfl zc ?_;(with_reducible refine(qU.calls k a0_1 t116 _ A20.out).mono ?_);rintro e w25 ⟨rfl,hb⟩;refine⟨_,rfl,?_⟩;have n0_:=qo.mk (vS (g:=qX) (o:= .cells #[.int .i64 a0_0,.int .i64 a0_1,.string a0_2] 24 (0,0)) ze hb);have n1_:=qo.mk (qW zb hb);clear qF;clear HB;have qF:=n0_;have HB:=n1_;clear n0_ n1_;(try clear hb);(try clear hb2);(try clear hk);(try clear hi)))
     go_ret
     exact z6
    ·rw [if_neg c19] at H
     have fB:=beq_eq_false_iff_ne.mpr c19
     have mL:=bne_iff_ne.mpr c19
     by_cases c26:a0_0=3
     ·rw [if_pos c26] at H
      have bG:=beq_iff_eq.mpr c26
      have mr:=bne_eq_false_iff_eq.mpr c26
      clear c26
      replace H:=Option.bind_eq_some_iff.mp H
      obtain⟨t117,rJ,H⟩:=H
      replace H:(some t117)=some r:=H
      have A27:=qo.mk rJ
      clear rJ
      obtain rfl:=Option.some.inj H
      go_enter Tryz.func45,Tryz.ntmps45
      go_wp2_with (first|((with_reducible refine kH (N:=1) rfl ?_);refine kG ?hg (N:=1) ?hd (cs:= #[.int .i64 a0_0,.int .i64 a0_1,.string a0_2]) (t:=24) ?hr ?_;(case hd=>rfl);(case hg=>rfl);(case hr=>first|(go_simp;done)|(go_simp;rfl));intro qX hg w28 hbox hb;have n0_:=qo.mk (qW zd hb);have n1_:=qo.mk (hbox);have n2_:=qo.mk ((by rw[hg];exact(qY zd):w.heap.size≤qX));have n3_:=qo.mk ((by rw[hg];exact(qY zd):w.heap.size≤qX));clear HB;have HB:=n0_;have qF:=n1_;have Wl:=n2_;have yy:=n3_;clear n0_ n1_ n2_ n3_;clear hb hbox hg;have bF:w28.cell? ⟨qX,0,none⟩=some (.int .i64 a0_0):=(qy qF.out 0).trans rfl;have Y6:w28.cell? ⟨qX,1,none⟩=some (.int .i64 a0_1):=(qy qF.out 1).trans rfl;have YQ:w28.cell? ⟨qX,2,none⟩=some (.string a0_2):=(qy qF.out 2).trans rfl;have aN:=qn qF.out 0;have ar:=qn qF.out 1;have ab:=qn qF.out 2)|((with_reducible refine zQ (f:=15) rfl ?_);refine wJ (some 6) rfl rfl Tryz.func15 z13 rfl #[.agg #[.int .i64 a0_0,.int .i64 a0_1,.string a0_2]] rfl zc ?_;(with_reducible refine(qq.calls k a0_0 a0_1 a0_2 true _ A2.out).mono ?_);rintro e w30 ⟨rfl,hb⟩;refine⟨_,rfl,?_⟩;have n0_:=qo.mk (vS (g:=qX) (o:= .cells #[.int .i64 a0_0,.int .i64 a0_1,.string a0_2] 24 (0,0)) ze hb);have n1_:=qo.mk (qW zb hb);clear qF;clear HB;have qF:=n0_;have HB:=n1_;clear n0_ n1_;(try clear hb);(try clear hb2);(try clear hk);(try clear hi);have lY:w30.cell? ⟨qX,0,none⟩=some (.int .i64 a0_0):=(qy qF.out 0).trans rfl;have ig:w30.cell? ⟨qX,1,none⟩=some (.int .i64 a0_1):=(qy qF.out 1).trans rfl;have lg:w30.cell? ⟨qX,2,none⟩=some (.string a0_2):=(qy qF.out 2).trans rfl;have iV:=qn qF.out 0;have iF:=qn qF.out 1;have gO:=qn qF.out 2)|((with_reducible refine zQ (f:=101) rfl ?_);refine wJ (some 26) rfl rfl Tryz.func101 z13 rfl #[.int .i64 a0_1] rfl zc ?_;(with_reducible refine(ql.calls k a0_1 t117 _ A27.out).mono ?_);rintro e w32 ⟨rfl,hb⟩;refine⟨_,rfl,?_⟩;have n0_:=qo.mk (vS (g:=qX) (o:= .cells #[.int .i64 a0_0,.int .i64 a0_1,.string a0_2] 24 (0,0)) ze hb);have n1_:=qo.mk (qW zb hb);clear qF;clear HB;have qF:=n0_;have HB:=n1_;clear n0_ n1_;(try clear hb);(try clear hb2);(try clear hk);(try clear hi)))
      go_ret
      exact z6
     ·rw [if_neg c26] at H
      have bG:=beq_eq_false_iff_ne.mpr c26
      have mr:=bne_iff_ne.mpr c26
      have H':=qo.mk H
      clear H
      go_enter Tryz.func45,Tryz.ntmps45
      go_wp2_with (first|((with_reducible refine kH (N:=1) rfl ?_);refine kG ?hg (N:=1) ?hd (cs:= #[.int .i64 a0_0,.int .i64 a0_1,.string a0_2]) (t:=24) ?hr ?_;(case hd=>rfl);(case hg=>rfl);(case hr=>first|(go_simp;done)|(go_simp;rfl));intro qX hg w33 hbox hb;have n0_:=qo.mk (qW zd hb);have n1_:=qo.mk (hbox);have n2_:=qo.mk ((by rw[hg];exact(qY zd):w.heap.size≤qX));have n3_:=qo.mk ((by rw[hg];exact(qY zd):w.heap.size≤qX));clear HB;have HB:=n0_;have qF:=n1_;have Wl:=n2_;have yy:=n3_;clear n0_ n1_ n2_ n3_;clear hb hbox hg;have iM:w33.cell? ⟨qX,0,none⟩=some (.int .i64 a0_0):=(qy qF.out 0).trans rfl;have lF:w33.cell? ⟨qX,1,none⟩=some (.int .i64 a0_1):=(qy qF.out 1).trans rfl;have lL:w33.cell? ⟨qX,2,none⟩=some (.string a0_2):=(qy qF.out 2).trans rfl;have gK:=qn qF.out 0;have iN:=qn qF.out 1;have l9:=qn qF.out 2)|((with_reducible refine zQ (f:=15) rfl ?_);refine wJ (some 6) rfl rfl Tryz.func15 z13 rfl #[.agg #[.int .i64 a0_0,.int .i64 a0_1,.string a0_2]] rfl zc ?_;(with_reducible refine(qq.calls k a0_0 a0_1 a0_2 true _ A2.out).mono ?_);rintro e w35 ⟨rfl,hb⟩;refine⟨_,rfl,?_⟩;have n0_:=qo.mk (vS (g:=qX) (o:= .cells #[.int .i64 a0_0,.int .i64 a0_1,.string a0_2] 24 (0,0)) ze hb);have n1_:=qo.mk (qW zb hb);clear qF;clear HB;have qF:=n0_;have HB:=n1_;clear n0_ n1_;(try clear hb);(try clear hb2);(try clear hk);(try clear hi);have gR:w35.cell? ⟨qX,0,none⟩=some (.int .i64 a0_0):=(qy qF.out 0).trans rfl;have gG:w35.cell? ⟨qX,1,none⟩=some (.int .i64 a0_1):=(qy qF.out 1).trans rfl;have lB:w35.cell? ⟨qX,2,none⟩=some (.string a0_2):=(qy qF.out 2).trans rfl;have lU:=qn qF.out 0;have iB:=qn qF.out 1;have iR:=qn qF.out 2))
      go_loopg [3,4] k (fun kq v3 v4 w'=> ∃(x3_1:ByteArray) (x4_1:Int),v3= .string x3_1∧v4= .int .i64 x4_1∧qo (qB.l0 kq x3_1 x4_1 a0_0 a0_1 a0_2=some r)∧qo (kq≤k)∧qo (w'.heap[qX]? =some (.cells #[.int .i64 a0_0,.int .i64 a0_1,.string a0_2] 24 (0,0)))∧qo (Below w.heap.size w w'))
      case atStart=>exact⟨((⟨#[39]⟩:ByteArray)),(0),z11,z11,H',⟨Nat.le_refl _⟩,⟨by(with_reducible repeat (first|refine jH ?_ _|refine xE ?_|refine jF ?_ _));exact qF.out⟩,⟨by repeat (first|(with_reducible first|exact HB.out|apply zm|apply q7|apply zr|refine wx ?_ yy.out)|exact HB.out)⟩⟩
      case round=>
       clear H'
       try clear c1
       try clear c2
       try clear p2
       try clear c3
       try clear c4
       try clear nP
       try clear mZ
       try clear c9
       try clear cb
       try clear dc
       try clear c10
       try clear VZ
       try clear XL
       try clear c15
       try clear c19
       try clear fB
       try clear mL
       try clear c26
       try clear bG
       try clear mr
       try clear Jh
       try clear WJ
       try clear WT
       try clear WY
       try clear WC
       try clear WA
       try clear WI
       try clear Jt
       try clear Jx
       try clear gU
       try clear iL
       try clear iO
       try clear YY
       try clear ae
       try clear aq
       try clear iY
       try clear ly
       try clear lM
       try clear bF
       try clear Y6
       try clear YQ
       try clear lY
       try clear ig
       try clear lg
       try clear iM
       try clear lF
       try clear lL
       try clear gR
       try clear gG
       try clear lB
       try clear nO
       try clear oJ
       try clear nN
       try clear oS
       try clear oU
       try clear oN
       try clear Ww
       try clear JD
       try clear Jy
       try clear JC
       try clear JA
       try clear WX
       try clear JB
       try clear Jr
       try clear WQ
       try clear gT
       try clear ia
       try clear gQ
       try clear aZ
       try clear YX
       try clear bq
       try clear lv
       try clear lz
       try clear lN
       try clear aN
       try clear ar
       try clear ab
       try clear iV
       try clear iF
       try clear gO
       try clear gK
       try clear iN
       try clear l9
       try clear lU
       try clear iB
       try clear iR
       try clear nF
       try clear oh
       try clear oB
       try clear nM
       try clear pA
       try clear nB
       obtain⟨x3_1,x4_1,rfl,rfl,HA,HK1,qF,HB⟩:=hrel
       cases gk with
       |zero=>exact absurd HA.out (by simp[qB.l0])
       |succ k1=>
        have H:=HA.out
        clear HA
        simp only[qB.l0]at H
        by_cases c37:x4_1<(a0_2.size:Int)
        ·rw [if_pos c37] at H
         have rB:=decide_eq_true c37
         clear c37
         by_cases c38:0≤x4_1
         ·rw [if_pos c38] at H
          have uJ:=decide_eq_true c38
          clear c38
          by_cases c40:(bt a0_2 x4_1)=39
          ·rw [if_pos c40] at H
           have pK:=beq_iff_eq.mpr c40
           have r7:=bne_eq_false_iff_eq.mpr c40
           clear c40
           by_cases c41:x3_1.size+1≤9223372036854775807
           ·rw [if_pos c41] at H
            have uU:=eq_true c41
            have ud:=decide_eq_true c41
            try have uo:(9223372036854775807<x3_1.size+1)=False:=eq_false (Nat.not_lt.2 c41)
            have uL:=eq_true (of_decide_eq_true z10:0≤x4_1)
            by_cases c43:x4_1≤(wrap64 (x4_1+1))
            ·rw [if_pos c43] at H
             have uF:=eq_true c43
             have uC:=decide_eq_true c43
             by_cases c44:(wrap64 (x4_1+1))≤(a0_2.size:Int)
             ·rw [if_pos c44] at H
              have uD:=eq_true c44
              have ug:=decide_eq_true c44
              by_cases c45:(x3_1++(⟨#[39]⟩:ByteArray)).size+(a0_2.extract (x4_1:Int).toNat ((wrap64 (x4_1+1)):Int).toNat).size≤9223372036854775807
              ·rw [if_pos c45] at H
               have uq:=eq_true c45
               have uy:=decide_eq_true c45
               try have uj:(9223372036854775807<(x3_1++(⟨#[39]⟩:ByteArray)).size+(a0_2.extract (x4_1:Int).toNat ((wrap64 (x4_1+1)):Int).toNat).size)=False:=eq_false (Nat.not_lt.2 c45)
               have H':=qo.mk H
               clear H
               have td:wr.cell? ⟨qX,0,none⟩=some (.int .i64 a0_0):=(qy qF.out 0).trans rfl
               have ss:wr.cell? ⟨qX,1,none⟩=some (.int .i64 a0_1):=(qy qF.out 1).trans rfl
               have sH:wr.cell? ⟨qX,2,none⟩=some (.string a0_2):=(qy qF.out 2).trans rfl
               have sN:=qn qF.out 0
               have sD:=qn qF.out 1
               have sy:=qn qF.out 2
               have p39:0≤(x4_1:Int):=of_decide_eq_true z10
               have q39:x4_1<(a0_2.size:Int):=of_decide_eq_true z10
               have ua:=xF a0_2 x4_1
               replace p39:=eq_true p39
               replace q39:=eq_true q39
               go_wp2
               go_roundg k1
               case measure=>have:=HK1.out;omega
               case rel=>exact⟨((x3_1++(⟨#[39]⟩:ByteArray))++(a0_2.extract (x4_1:Int).toNat ((wrap64 (x4_1+1)):Int).toNat)),(wrap64 (x4_1+1)),z11,z11,H',⟨by have:=HK1.out;omega⟩,⟨by(with_reducible repeat (first|refine jH ?_ _|refine xE ?_|refine jF ?_ _));exact qF.out⟩,⟨by repeat (first|(with_reducible first|exact HB.out|apply zm|apply q7|apply zr|refine wx ?_ yy.out)|exact HB.out)⟩⟩
              ·rw [if_neg c45] at H
               exact absurd H z15
             ·rw [if_neg c44] at H
              exact absurd H z15
            ·rw [if_neg c43] at H
             exact absurd H z15
           ·rw [if_neg c41] at H
            exact absurd H z15
          ·rw [if_neg c40] at H
           have pK:=beq_eq_false_iff_ne.mpr c40
           have r7:=bne_iff_ne.mpr c40
           have uh:=eq_true (of_decide_eq_true z10:0≤x4_1)
           by_cases c48:x4_1≤(wrap64 (x4_1+1))
           ·rw [if_pos c48] at H
            have uT:=eq_true c48
            have uV:=decide_eq_true c48
            by_cases c49:(wrap64 (x4_1+1))≤(a0_2.size:Int)
            ·rw [if_pos c49] at H
             have uW:=eq_true c49
             have ux:=decide_eq_true c49
             by_cases c50:x3_1.size+(a0_2.extract (x4_1:Int).toNat ((wrap64 (x4_1+1)):Int).toNat).size≤9223372036854775807
             ·rw [if_pos c50] at H
              have ur:=eq_true c50
              have ui:=decide_eq_true c50
              try have uw:(9223372036854775807<x3_1.size+(a0_2.extract (x4_1:Int).toNat ((wrap64 (x4_1+1)):Int).toNat).size)=False:=eq_false (Nat.not_lt.2 c50)
              have H':=qo.mk H
              clear H
              have ta:wr.cell? ⟨qX,0,none⟩=some (.int .i64 a0_0):=(qy qF.out 0).trans rfl
              have sO:wr.cell? ⟨qX,1,none⟩=some (.int .i64 a0_1):=(qy qF.out 1).trans rfl
              have sC:wr.cell? ⟨qX,2,none⟩=some (.string a0_2):=(qy qF.out 2).trans rfl
              have sR:=qn qF.out 0
              have sS:=qn qF.out 1
              have sI:=qn qF.out 2
              have p39:0≤(x4_1:Int):=of_decide_eq_true z10
              have q39:x4_1<(a0_2.size:Int):=of_decide_eq_true z10
              have ua:=xF a0_2 x4_1
              replace p39:=eq_true p39
              replace q39:=eq_true q39
              go_wp2
              go_roundg k1
              case measure=>have:=HK1.out;omega
              case rel=>exact⟨(x3_1++(a0_2.extract (x4_1:Int).toNat ((wrap64 (x4_1+1)):Int).toNat)),(wrap64 (x4_1+1)),z11,z11,H',⟨by have:=HK1.out;omega⟩,⟨by(with_reducible repeat (first|refine jH ?_ _|refine xE ?_|refine jF ?_ _));exact qF.out⟩,⟨by repeat (first|(with_reducible first|exact HB.out|apply zm|apply q7|apply zr|refine wx ?_ yy.out)|exact HB.out)⟩⟩
             ·rw [if_neg c50] at H
              exact absurd H z15
            ·rw [if_neg c49] at H
             exact absurd H z15
           ·rw [if_neg c48] at H
            exact absurd H z15
         ·rw [if_neg c38] at H
          exact absurd H z15
        ·rw [if_neg c37] at H
         have rB:=decide_eq_false c37
         clear c37
         by_cases c52:x3_1.size+1≤9223372036854775807
         ·rw [if_pos c52] at H
          have uu:=eq_true c52
          have uI:=decide_eq_true c52
          try have uz:(9223372036854775807<x3_1.size+1)=False:=eq_false (Nat.not_lt.2 c52)
          obtain rfl:=Option.some.inj H
          have sA:wr.cell? ⟨qX,0,none⟩=some (.int .i64 a0_0):=(qy qF.out 0).trans rfl
          have sL:wr.cell? ⟨qX,1,none⟩=some (.int .i64 a0_1):=(qy qF.out 1).trans rfl
          have sQ:wr.cell? ⟨qX,2,none⟩=some (.string a0_2):=(qy qF.out 2).trans rfl
          have sP:=qn qF.out 0
          have sY:=qn qF.out 1
          have tc:=qn qF.out 2
          go_wp2
          go_ret
          exact z6
         ·rw [if_neg c52] at H
          exact absurd H z15
 ·replace c3 := Bool.eq_false_iff.mpr c3
  subst c3
  rw[if_neg (show¬(false=true)by decide)]at H
  obtain rfl:=Option.some.inj H
  go_enter Tryz.func45,Tryz.ntmps45
  go_wp2_with (first|((with_reducible refine kH (N:=1) rfl ?_);refine kG ?hg (N:=1) ?hd (cs:= #[.int .i64 a0_0,.int .i64 a0_1,.string a0_2]) (t:=24) ?hr ?_;(case hd=>rfl);(case hg=>rfl);(case hr=>first|(go_simp;done)|(go_simp;rfl));intro qX hg w54 hbox hb;have n0_:=qo.mk (qW zd hb);have n1_:=qo.mk (hbox);have n2_:=qo.mk ((by rw[hg];exact(qY zd):w.heap.size≤qX));have n3_:=qo.mk ((by rw[hg];exact(qY zd):w.heap.size≤qX));clear HB;have HB:=n0_;have qF:=n1_;have Wl:=n2_;have yy:=n3_;clear n0_ n1_ n2_ n3_;clear hb hbox hg;have sT:w54.cell? ⟨qX,0,none⟩=some (.int .i64 a0_0):=(qy qF.out 0).trans rfl;have s9:w54.cell? ⟨qX,1,none⟩=some (.int .i64 a0_1):=(qy qF.out 1).trans rfl;have s8:w54.cell? ⟨qX,2,none⟩=some (.string a0_2):=(qy qF.out 2).trans rfl;have sM:=qn qF.out 0;have sw:=qn qF.out 1;have sZ:=qn qF.out 2)|((with_reducible refine zQ (f:=15) rfl ?_);refine wJ (some 6) rfl rfl Tryz.func15 z13 rfl #[.agg #[.int .i64 a0_0,.int .i64 a0_1,.string a0_2]] rfl zc ?_;(with_reducible refine(qq.calls k a0_0 a0_1 a0_2 false _ A2.out).mono ?_);rintro e w56 ⟨rfl,hb⟩;refine⟨_,rfl,?_⟩;have n0_:=qo.mk (vS (g:=qX) (o:= .cells #[.int .i64 a0_0,.int .i64 a0_1,.string a0_2] 24 (0,0)) ze hb);have n1_:=qo.mk (qW zb hb);clear qF;clear HB;have qF:=n0_;have HB:=n1_;clear n0_ n1_;(try clear hb);(try clear hb2);(try clear hk);(try clear hi)))
  go_ret
  exact z6
end Go.Proofs.YtaiokpmmjbiajaaGreatDoor.PLeaf
