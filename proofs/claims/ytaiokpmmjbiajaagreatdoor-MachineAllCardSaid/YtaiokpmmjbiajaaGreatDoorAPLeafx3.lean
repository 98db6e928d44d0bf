/- A part of the proof of this claim. No condition beyond those that each theorem names. -/
import Derived.Test.YtaiokpmmjbiajaaGreatDoorAPLeafx0
namespace Go.Proofs.YtaiokpmmjbiajaaGreatDoor.PLeaf
open Go.RowKit Go.Proofs.YtaiokpmmjbiajaaGreatDoorW.PrintWords Go.Proofs.YtaiokpmmjbiajaaGreatDoorW.PrintLast Go.Proofs.YtaiokpmmjbiajaaGreatDoorW.PrintMore
attribute [local go_sem] yD yn QO QU xu xH yE yI
set_option linter.unusedVariables false
set_option linter.unusedSimpArgs false
def qz.one (fr tw:Int) (c:UInt8):UInt8:=if fr≤(c.toNat:Int)∧(c.toNat:Int)≤fr+25 then UInt8.ofNat ((c.toNat:Int) - fr+tw).toNat else c
def qz.g (a1 a2:Int) (s:ByteArray):ByteArray:=⟨(s.data.toList.map (qz.one a1 a2)).toArray⟩
def qz.f (a0:ByteArray) (a1 a2:Int):Option ByteArray:=if a0.size≤9223372036854775807 then(if 0≤a1 then(if a1≤200 then(if 0≤a2 then(if a2≤200 then some (qz.g a1 a2 a0)else none)else none)else none)else none)else none
def qz.R (lo d:Int) (s:ByteArray) (w:World) (k:Nat) (wr:World):Prop:=
 Below w.heap.size w wr∧w.heap.size<wr.heap.size∧
 (∀j,j<s.size→wr.cell? ⟨w.heap.size,j,none⟩=some (.int .u8 (if j<k then((qz.one lo d (s.data.toList.getD j 0)).toNat:Int)else((s.data.toList.getD j 0).toNat:Int))))∧
 (∀j,j<s.size→wr.frozen? ⟨w.heap.size,j,none⟩=false)
theorem qz.start (lo d:Int) (s:ByteArray) (w:World):qz.R lo d s w 0 (Lib.bytesWorld w 5 s):=by
 refine⟨⟨?_,?_,?_,?_,?_⟩,by rw[Lib.bytesWorld_size];omega,fun j hj=> ?_,fun j hj=> ?_⟩
 ·simp[Lib.bytesWorld,World.freeze,World.alloc,World.drew,-World.alloc_eq,-World.drew_eq]
 ·simp[Lib.bytesWorld,World.freeze,World.alloc,World.drew,-World.alloc_eq,-World.drew_eq]
 ·simp[Lib.bytesWorld,World.freeze,World.alloc,World.drew,-World.alloc_eq,-World.drew_eq]
 ·rw[Lib.bytesWorld_size];omega
 ·exact fun k hk=>Lib.bytesWorld_at_old w _ s k hk
 ·rw[Lib.bytesWorld_cell w _ s j hj,if_neg z14]
 ·unfold World.frozen?
  rw[Lib.bytesWorld_at_new]
  have:(Lib.bytesCells w 5 s).size=s.size+(grownCap w s.size 0 5 - s.size):=by
   unfold Lib.bytesCells
   simp
  simp
  omega
theorem qz.jT {lo d:Int} {s:ByteArray} {w:World} {k:Nat} {wr:World} (h:qz.R lo d s w k wr) (hk:k<s.size)
  (hn: ¬(lo≤((s.data.toList.getD k 0).toNat:Int)∧((s.data.toList.getD k 0).toNat:Int)≤lo+25)):qz.R lo d s w (k+1) wr:=by
 obtain⟨h1,h2,h3,h4⟩:=h
 refine⟨h1,h2,fun j hj=> ?_,h4⟩
 rw[h3 j hj]
 by_cases e:j=k
 ·subst e
  rw[if_neg z14,if_pos z14]
  unfold qz.one
  rw[if_neg hn]
 ·by_cases e2 : j < k
  ·rw[if_pos e2,if_pos z14]
  ·rw[if_neg e2,if_neg z14]
theorem qz.put {lo d:Int} {s:ByteArray} {w:World} {k:Nat} {wr:World} (h:qz.R lo d s w k wr) (hk:k<s.size) (d1:0≤d) (d2:d≤200)
  (hn:lo≤((s.data.toList.getD k 0).toNat:Int)∧((s.data.toList.getD k 0).toNat:Int)≤lo+25):
  qz.R lo d s w (k+1) (wr.setCell ⟨w.heap.size,k,none⟩ (.int .u8 (((s.data.toList.getD k 0).toNat:Int) - lo+d))):=by
 obtain⟨h1,h2,h3,h4⟩:=h
 refine⟨h1.setCell z15 _,by simpa using h2,fun j hj=> ?_,fun j hj=> ?_⟩
 ·by_cases e : j = k
  ·subst e
   rw[if_pos z14,World.cell?_setCell_same _ _ _ (h3 j hj)]
   unfold qz.one
   rw[if_pos hn]
   generalize s.data.toList.getD j 0=c at hn ⊢
   congr 2
   simp[UInt8.toNat_ofNat']
   omega
  ·rw [World.cell?_setCell_other _ _ _ _ (fun he => e (by simpa using (congrArg Addr.off he).symm)), h3 j hj]
   by_cases e2:j<k
   ·rw[if_pos e2,if_pos z14]
   ·rw[if_neg e2,if_neg z14]
 ·rw [World.frozen?_setCell]
  exact h4 j hj
set_option maxHeartbeats 4000000 in
theorem qz.calls (a0:ByteArray) (a1 a2:Int) (r:ByteArray) (w:World) (h:qz.f a0 a1 a2=some r):
  Calls Tryz.prog 103 #[.string a0,.int .u8 a1,.int .u8 a2] w fun e w'=>e= .returned (.string r)∧Below w.heap.size w w':=by
 unfold qz.f at h
 split at h;rotate_left;· cases h
 split at h;rotate_left;· cases h
 split at h;rotate_left;· cases h
 split at h;rotate_left;· cases h
 split at h;rotate_left;· cases h
 rename_i hs e1 e2 d1 d2
 obtain rfl:=Option.some.inj h
 clear h
 have Q6:=Lib.run_convert_string_bytes (P:=Tryz.prog) w 9 140 5 a0 Tryz.underlying9 Tryz.underlying140 Tryz.underlying5
 have H0:=qz.start a1 a2 a0 w
 obtain⟨W,hW⟩: ∃W,W=Lib.bytesWorld w 5 a0:=⟨_,rfl⟩
 obtain⟨cap,hc⟩: ∃cap,cap=grownCap w a0.size 0 5:=⟨_,rfl⟩
 rw[←hW,←hc]at Q6
 rw[←hW]at H0
 have H:=Lib.hid H0
 clear hW hc H0
 go_enter Tryz.func103,Tryz.ntmps103
 go_wp2
 go_loopw [8] (fun i wr=> ∃k:Nat,k≤a0.size∧i= .int .i64 k∧qz.R a1 a2 a0 w k wr) (fun i _=>a0.size - (intOf i).toNat)
 case atStart=>exact⟨0,Nat.zero_le _,rfl,H.out⟩
 case round=>
  obtain⟨k,hk,rfl,hR⟩:=hrel
  have HR:=Lib.hid hR
  clear hR
  by_cases hlt:k<a0.size
  ·have hcell := HR.out.2.2.1 k hlt
   rw[if_neg z14]at hcell
   have hfz:=HR.out.2.2.2 k hlt
   obtain⟨c,hcc⟩: ∃c,c=a0.data.toList.getD k 0:=⟨_,rfl⟩
   rw[←hcc]at hcell
   have hcb:(c.toNat:Int)≤255:=by have:=c.toNat_lt;omega
   have HC:=Lib.hid hcc
   clear hcc
   by_cases t1:a1≤(c.toNat:Int)
   ·by_cases t2 : (c.toNat : Int) ≤ a1 + 25
    ·have HP := Lib.hid (qz.put HR.out hlt d1 d2 (by rw [← HC.out]; exact ⟨t1, t2⟩))
     rw[←HC.out]at HP
     go_wp2
     go_roundw
     case rel=>exact⟨k+1,by omega,by go_num,HP.out⟩
     case measure=>simp[intOf];omega
    ·have HP := Lib.hid (qz.jT HR.out hlt (by rw [← HC.out]; exact fun h => t2 h.2))
     go_wp2
     go_roundw
     case rel=>exact⟨k+1,by omega,by go_num,HP.out⟩
     case measure=>simp[intOf];omega
   ·have HP := Lib.hid (qz.jT HR.out hlt (by rw [← HC.out]; exact fun h => t1 h.1))
    go_wp2
    go_roundw
    case rel=>exact⟨k+1,by omega,by go_num,HP.out⟩
    case measure=>simp[intOf];omega
  ·obtain rfl : k = a0.size := by omega
   have hlen:(a0.data.toList.map (qz.one a1 a2)).length=a0.size:=by simp
   have K0:=run_convert_bytes_back (P:=Tryz.prog) wr 140 9 5 ⟨w.heap.size,0,none⟩ cap (a0.data.toList.map (qz.one a1 a2)) Tryz.underlying140 Tryz.underlying5 Tryz.underlying9 (fun j hj=>by
    rw[hlen]at hj
    have:=HR.out.2.2.1 j hj
    rw[if_pos hj]at this
    have ha:(Addr.add ⟨w.heap.size,0,none⟩ j)=⟨w.heap.size,j,none⟩:=by unfold Addr.add;split<;>simp_all
    rw[ha,this]
    simp[List.getD,hj])
   rw[hlen]at K0
   go_wp2
   go_ret
   exact⟨rfl,HR.out.1⟩
def qk.l0:Nat→Int→ByteArray→Option (ByteArray)
 |0,_,_=>none
 |k+1,x0,x3=>if x0>0 then((some (([(IntKind.u64.wrap (48+(Int.tmod x0 10))) % 256]:List Int):List Int)).bind fun J7=>(if(strOfNums J7).size+x3.size≤9223372036854775807 then(qk.l0 k (IntKind.u64.wrap (Int.tdiv x0 10)) ((strOfNums J7)++x3))else(none)))else(some x3)
def qk.f (k:Nat) (a0:Int):Option (ByteArray):=qk.l0 k (IntKind.u64.wrap (Int.tdiv a0 10)) (strOfNums (([(IntKind.u64.wrap (48+(Int.tmod a0 10))) % 256]:List Int)))
theorem qk.wq: ∀k,(∀y0 y1,LeO (qk.l0 k y0 y1) (qk.l0 (k+1) y0 y1))
 |0=>fun _ _ r h=>by simp[qk.l0]at h
 |k+1=>by
  have ih0:=qk.wq k
  ·intro y0 y1
   unfold qk.l0
   exact z5
theorem qk.mono: ∀a0 k,LeO (qk.f k a0) (qk.f (k+1) a0):=by
 intro a0 k
 have ih0:=qk.wq k
 unfold qk.f
 exact z5
set_option maxHeartbeats 8000000 in
set_option maxRecDepth 100000 in
theorem qk.calls (k:Nat) (a0:Int) (r:ByteArray) (w:World) (h:qk.f k a0=some r):
  Calls Tryz.prog 153 #[.int .u64 a0] w fun e w'=>e= .returned (.string r)∧Below w.heap.size w w':=by
 have HB:=qo.mk (Below.refl w.heap.size w)
 have H:(qk.l0 k (IntKind.u64.wrap (Int.tdiv a0 10)) (strOfNums (([(IntKind.u64.wrap (48+(Int.tmod a0 10))) % 256]:List Int))))=some r:=h
 clear h
 obtain⟨pJ,Xx⟩: ∃y_:List Int,y_=(([(IntKind.u64.wrap (48+(Int.tmod a0 10))) % 256]:List Int)):=⟨_,rfl⟩
 replace H:(qk.l0 k (IntKind.u64.wrap (Int.tdiv a0 10)) (strOfNums pJ))=some r:=by first|(rw[Xx];with_reducible exact H)|(have H2_:=(Option.bind_some _ _).symm.trans H;rw[Xx];with_reducible exact H2_)|(have H2_:=(Option.bind_some _ _).symm.trans H;with_reducible exact H2_)|with_reducible exact H|(rw[Xx];exact H)|exact H
 have mD:=qo.mk Xx
 clear Xx
 have H':=qo.mk H
 clear H
 go_enter Tryz.func153,Tryz.ntmps153
 go_wp2_with (first|((with_reducible refine kH (N:=8) rfl ?_);refine Kd.mz (Kd.int .u8) _ 5 ?hg (N:=8) ?hd (xs:=([(IntKind.u64.wrap (48+(Int.tmod a0 10))) % 256]:List Int)) (inner:=[.int .u8 ((IntKind.u64.wrap (48+(Int.tmod a0 10))) % 256)]) (ok:=fun _=>True) (okp:=fun _=>True) ?hr ?hp (fun _ hk=>hk) trivial (Below.refl _ _) (Nat.le_refl _) z15 ?_;(case hd=>rfl);(case hg=>rfl);(case hr=>first|(go_simp;done)|(go_simp;rfl));(case hp=>exact(kf.one (show Kd.M (Kd.int .u8) _ _ _ ((IntKind.u64.wrap (48+(Int.tmod a0 10))) % 256) [.int .u8 ((IntKind.u64.wrap (48+(Int.tmod a0 10))) % 256)]from rfl) (kf.none _ _)));intro u7 w2 ho3 hb hg_ fc;clear hg_ fc;(first|rw[←mD.out]at ho3|(simp only[Int.reduceToNat]at ho3;rw[←mD.out]at ho3));have n0_:=qo.mk (Kd.WS ho3 (qY zd));have n1_:=qo.mk (qW zd hb);clear HB;have r9:=n0_;have HB:=n1_;clear n0_ n1_;clear hb ho3;have tu:=KZ (P:=Tryz.prog) Tryz.underlying140 Tryz.underlying5 Tryz.underlying9 (Kd.JN r9.out)))
 go_loopg [0,3] k (fun kq v0 v3 w'=> ∃(x0_1:Int) (x3_1:ByteArray),v0= .int .u64 x0_1∧v3= .string x3_1∧qo (qk.l0 kq x0_1 x3_1=some r)∧qo (kq≤k)∧qo (Below w.heap.size w w'))
 case atStart=>exact⟨(IntKind.u64.wrap (Int.tdiv a0 10)),(strOfNums pJ),z11,z11,H',⟨Nat.le_refl _⟩,⟨by repeat (first|(with_reducible first|exact HB.out|apply zm|apply q7|apply zr)|exact HB.out)⟩⟩
 case round=>
  clear H'
  try clear c1
  try clear p2
  try clear tu
  obtain⟨x0_1,x3_1,rfl,rfl,HA,HK1,HB⟩:=hrel
  cases gk with
  |zero=>exact absurd HA.out (by simp[qk.l0])
  |succ k1=>
   have H:=HA.out
   clear HA
   simp only[qk.l0]at H
   by_cases c5:x0_1>0
   ·rw [if_pos c5] at H
    have pc:=decide_eq_true c5
    clear c5
    obtain⟨J7,JP⟩: ∃y_:List Int,y_=(([(IntKind.u64.wrap (48+(Int.tmod x0_1 10))) % 256]:List Int)):=⟨_,rfl⟩
    replace H:(if(strOfNums J7).size+x3_1.size≤9223372036854775807 then(qk.l0 k1 (IntKind.u64.wrap (Int.tdiv x0_1 10)) ((strOfNums J7)++x3_1))else(none))=some r:=by first|(rw[JP];with_reducible exact H)|(have H2_:=(Option.bind_some _ _).symm.trans H;rw[JP];with_reducible exact H2_)|(have H2_:=(Option.bind_some _ _).symm.trans H;with_reducible exact H2_)|with_reducible exact H|(rw[JP];exact H)|exact H
    have mb:=qo.mk JP
    clear JP
    by_cases c6:(strOfNums J7).size+x3_1.size≤9223372036854775807
    ·rw [if_pos c6] at H
     have VC:=eq_true c6
     have Ae:=decide_eq_true c6
     try have Ac:(9223372036854775807<(strOfNums J7).size+x3_1.size)=False:=eq_false (Nat.not_lt.2 c6)
     have H':=qo.mk H
     clear H
     go_wp2_with (first|((with_reducible refine kH (N:=20) rfl ?_);refine Kd.mz (Kd.int .u8) _ 5 ?hg (N:=20) ?hd (xs:=([(IntKind.u64.wrap (48+(Int.tmod x0_1 10))) % 256]:List Int)) (inner:=[.int .u8 ((IntKind.u64.wrap (48+(Int.tmod x0_1 10))) % 256)]) (ok:=fun _=>True) (okp:=fun _=>True) ?hr ?hp (fun _ hk=>hk) trivial (Below.refl _ _) (Nat.le_refl _) z15 ?_;(case hd=>rfl);(case hg=>rfl);(case hr=>first|(go_simp;done)|(go_simp;rfl));(case hp=>exact(kf.one (show Kd.M (Kd.int .u8) _ _ _ ((IntKind.u64.wrap (48+(Int.tmod x0_1 10))) % 256) [.int .u8 ((IntKind.u64.wrap (48+(Int.tmod x0_1 10))) % 256)]from rfl) (kf.none _ _)));intro v107 w7 ho8 hb hg_ fc;clear hg_ fc;(first|rw[←mb.out]at ho8|(simp only[Int.reduceToNat]at ho8;rw[←mb.out]at ho8));have n0_:=qo.mk (Kd.WS ho8 (qY zd));have n1_:=qo.mk (qW zd hb);clear HB;have rN:=n0_;have HB:=n1_;clear n0_ n1_;clear hb ho8;have u9:=KZ (P:=Tryz.prog) Tryz.underlying140 Tryz.underlying5 Tryz.underlying9 (Kd.JN rN.out)))
     go_roundg k1
     case measure=>have:=HK1.out;omega
     case rel=>exact⟨(IntKind.u64.wrap (Int.tdiv x0_1 10)),((strOfNums J7)++x3_1),z11,z11,H',⟨by have:=HK1.out;omega⟩,⟨by repeat (first|(with_reducible first|exact HB.out|apply zm|apply q7|apply zr)|exact HB.out)⟩⟩
    ·rw [if_neg c6] at H
     exact absurd H z15
   ·rw [if_neg c5] at H
    have pc:=decide_eq_false c5
    clear c5
    obtain rfl:=Option.some.inj H
    go_wp2
    go_ret
    exact z8
def qU.f (k:Nat) (a0:Int):Option (ByteArray):=if a0<0 then((qk.f k (IntKind.u64.wrap (-(IntKind.u64.wrap (a0))))).bind fun t109=>(if 1+t109.size≤9223372036854775807 then(some ((⟨#[45]⟩:ByteArray)++t109))else(none)))else((qk.f k (IntKind.u64.wrap (a0))).bind fun t110=>(if 0+t110.size≤9223372036854775807 then(some ((⟨#[]⟩:ByteArray)++t110))else(none)))
theorem qU.mono: ∀a0 k,LeO (qU.f k a0) (qU.f (k+1) a0):=by
 intro a0 k
 unfold qU.f
 repeat' first|(with_reducible exact qk.mono _ _)|(with_reducible exact LeO.refl _)|(with_reducible exact LeO.none _)|(with_reducible refine LeO.ite ?_ ?_)|(with_reducible refine LeO.bind ?_ (fun _=> ?_))|exact qk.mono _ _|exact LeO.none _|refine LeO.ite ?_ ?_|refine LeO.bind ?_ (fun _=> ?_)
set_option maxHeartbeats 8000000 in
set_option maxRecDepth 100000 in
theorem qU.calls (k:Nat) (a0:Int) (r:ByteArray) (w:World) (h:qU.f k a0=some r):
  Calls Tryz.prog 100 #[.int .i64 a0] w fun e w'=>e= .returned (.string r)∧Below w.heap.size w w':=by
 have HB:=qo.mk (Below.refl w.heap.size w)
 have H:(if a0<0 then((qk.f k (IntKind.u64.wrap (-(IntKind.u64.wrap (a0))))).bind fun t109=>(if 1+t109.size≤9223372036854775807 then(some ((⟨#[45]⟩:ByteArray)++t109))else(none)))else((qk.f k (IntKind.u64.wrap (a0))).bind fun t110=>(if 0+t110.size≤9223372036854775807 then(some ((⟨#[]⟩:ByteArray)++t110))else(none))))=some r:=h
 clear h
 by_cases c2:a0<0
 ·rw [if_pos c2] at H
  have VA:=decide_eq_true c2
  clear c2
  replace H:=Option.bind_eq_some_iff.mp H
  obtain⟨t109,A30,H⟩:=H
  replace H:(if 1+t109.size≤9223372036854775807 then(some ((⟨#[45]⟩:ByteArray)++t109))else(none))=some r:=H
  have A3:=qo.mk A30
  clear A30
  by_cases c4:1+t109.size≤9223372036854775807
  ·rw [if_pos c4] at H
   have nP:=eq_true c4
   have mZ:=decide_eq_true c4
   try have uY:(9223372036854775807<1+t109.size)=False:=eq_false (Nat.not_lt.2 c4)
   obtain rfl:=Option.some.inj H
   go_enter Tryz.func100,Tryz.ntmps100
   go_wp2_with (first|((with_reducible refine zQ (f:=153) rfl ?_);refine wJ (some 13) rfl rfl Tryz.func153 z13 rfl #[.int .u64 (IntKind.u64.wrap (-(IntKind.u64.wrap (a0))))] rfl zc ?_;(with_reducible refine(qk.calls k (IntKind.u64.wrap (-(IntKind.u64.wrap (a0)))) t109 _ A3.out).mono ?_);rintro e w5 ⟨rfl,hb⟩;refine⟨_,rfl,?_⟩;have n0_:=qo.mk (qW zd hb);clear HB;have HB:=n0_;clear n0_;(try clear hb);(try clear hb2);(try clear hk);(try clear hi)))
   go_ret
   exact z8
  ·rw [if_neg c4] at H
   exact absurd H z15
 ·rw [if_neg c2] at H
  have VA:=decide_eq_false c2
  clear c2
  replace H:=Option.bind_eq_some_iff.mp H
  obtain⟨t110,A60,H⟩:=H
  replace H:(if 0+t110.size≤9223372036854775807 then(some ((⟨#[]⟩:ByteArray)++t110))else(none))=some r:=H
  have A6:=qo.mk A60
  clear A60
  by_cases c7:0+t110.size≤9223372036854775807
  ·rw [if_pos c7] at H
   have pR:=eq_true c7
   have rG:=decide_eq_true c7
   try have u6:(9223372036854775807<0+t110.size)=False:=eq_false (Nat.not_lt.2 c7)
   obtain rfl:=Option.some.inj H
   go_enter Tryz.func100,Tryz.ntmps100
   go_wp2_with (first|((with_reducible refine zQ (f:=153) rfl ?_);refine wJ (some 13) rfl rfl Tryz.func153 z13 rfl #[.int .u64 (IntKind.u64.wrap (a0))] rfl zc ?_;(with_reducible refine(qk.calls k (IntKind.u64.wrap (a0)) t110 _ A6.out).mono ?_);rintro e w8 ⟨rfl,hb⟩;refine⟨_,rfl,?_⟩;have n0_:=qo.mk (qW zd hb);clear HB;have HB:=n0_;clear n0_;(try clear hb);(try clear hb2);(try clear hk);(try clear hi)))
   go_ret
   exact z8
  ·rw [if_neg c7] at H
   exact absurd H z15
mutual
def ql.j0:Nat→Int→ByteArray→Option (ByteArray)
 |0,_,_=>none
 |k+1,x3,x4=>(qk.f k (IntKind.u64.wrap ((Int.tmod x3 10000)+10000))).bind fun t111=>(if 1≤(t111.size:Int)then(ql.l0 k x3 x4 (t111.extract 1 t111.size))else(none))
def ql.l0:Nat→Int→ByteArray→ByteArray→Option (ByteArray)
 |0,_,_,_=>none
 |k+1,x3,x4,x5=>if(x5.size:Int)>1 then(if 0≤(wrap64 ((x5.size:Int) - 1))then(if(wrap64 ((x5.size:Int) - 1))<(x5.size:Int)then(if(bt x5 (wrap64 ((x5.size:Int) - 1)))=48 then(if(wrap64 ((x5.size:Int) - 1))≤(x5.size:Int)then(ql.l0 k x3 x4 (x5.extract 0 ((wrap64 ((x5.size:Int) - 1)):Int).toNat))else(none))else((qk.f k (IntKind.u64.wrap (Int.tdiv x3 10000))).bind fun t112=>(if x4.size+t112.size≤9223372036854775807 then(if(x4++t112).size+1≤9223372036854775807 then(if((x4++t112)++(⟨#[46]⟩:ByteArray)).size+x5.size≤9223372036854775807 then(some (((x4++t112)++(⟨#[46]⟩:ByteArray))++x5))else(none))else(none))else(none))))else(none))else(none))else((qk.f k (IntKind.u64.wrap (Int.tdiv x3 10000))).bind fun t113=>(if x4.size+t113.size≤9223372036854775807 then(if(x4++t113).size+1≤9223372036854775807 then(if((x4++t113)++(⟨#[46]⟩:ByteArray)).size+x5.size≤9223372036854775807 then(some (((x4++t113)++(⟨#[46]⟩:ByteArray))++x5))else(none))else(none))else(none)))
end
def ql.f (k:Nat) (a0:Int):Option (ByteArray):=if a0<0 then(ql.j0 k (IntKind.u64.wrap (-(IntKind.u64.wrap (a0)))) (⟨#[45]⟩:ByteArray))else(ql.j0 k (IntKind.u64.wrap (a0)) (⟨#[]⟩:ByteArray))
theorem ql.wq: ∀k,(∀y0 y1,LeO (ql.j0 k y0 y1) (ql.j0 (k+1) y0 y1))∧(∀y0 y1 y2,LeO (ql.l0 k y0 y1 y2) (ql.l0 (k+1) y0 y1 y2))
 |0=>⟨fun _ _ r h=>by simp[ql.j0]at h,fun _ _ _ r h=>by simp[ql.l0]at h⟩
 |k+1=>by
  obtain⟨ih0,ih1⟩:=ql.wq k
  refine⟨?_,?_⟩
  ·intro y0 y1
   unfold ql.j0
   exact z3
  ·intro y0 y1 y2
   unfold ql.l0
   exact z3
theorem ql.mono: ∀a0 k,LeO (ql.f k a0) (ql.f (k+1) a0):=by
 intro a0 k
 obtain⟨ih0,ih1⟩:=ql.wq k
 unfold ql.f
 exact z3
set_option maxHeartbeats 8000000 in
set_option maxRecDepth 100000 in
theorem ql.calls (k:Nat) (a0:Int) (r:ByteArray) (w:World) (h:ql.f k a0=some r):
  Calls Tryz.prog 101 #[.int .i64 a0] w fun e w'=>e= .returned (.string r)∧Below w.heap.size w w':=by
 have HB:=qo.mk (Below.refl w.heap.size w)
 have H:(if a0<0 then(ql.j0 k (IntKind.u64.wrap (-(IntKind.u64.wrap (a0)))) (⟨#[45]⟩:ByteArray))else(ql.j0 k (IntKind.u64.wrap (a0)) (⟨#[]⟩:ByteArray)))=some r:=h
 clear h
 have HC2:=qo.mk H
 clear H
 go_enter Tryz.func101,Tryz.ntmps101
 go_upto_if 9 with(fail)
 go_cut [3,4] (fun v3 v4 wc=> ∃(kq:Nat) (x3_1:Int) (x4_1:ByteArray),v3= .int .u64 x3_1∧v4= .string x4_1∧qo (ql.j0 kq x3_1 x4_1=some r)∧qo (kq≤k)∧qo (Below w.heap.size w wc))
 case first=>
  have H:=HC2.out
  clear HC2
  by_cases c3:a0<0
  ·rw [if_pos c3] at H
   have Qu:=decide_eq_true c3
   clear c3
   (first|rw[Qu]|(simp only[yd,Qd];rw[Qu])|skip)
   have H':=qo.mk H
   clear H
   go_wp2
   go_meet
   case rel=>exact⟨_,(IntKind.u64.wrap (-(IntKind.u64.wrap (a0)))),((⟨#[45]⟩:ByteArray)),z11,z11,H',⟨by first|omega|exact Nat.le_refl _⟩,⟨by repeat (first|(with_reducible first|exact HB.out|apply zm|apply q7|apply zr)|exact HB.out)⟩⟩
  ·rw [if_neg c3] at H
   have Qu:=decide_eq_false c3
   clear c3
   (first|rw[Qu]|(simp only[yd,Qd];rw[Qu])|skip)
   have H':=qo.mk H
   clear H
   go_wp2
   go_meet
   case rel=>exact⟨_,(IntKind.u64.wrap (a0)),((⟨#[]⟩:ByteArray)),z11,z11,H',⟨by first|omega|exact Nat.le_refl _⟩,⟨by repeat (first|(with_reducible first|exact HB.out|apply zm|apply q7|apply zr)|exact HB.out)⟩⟩
 case rest=>
  clear HC2
  try clear c1
  try clear p2
  try clear c3
  try clear Qu
  obtain⟨kq,x3_1,x4_1,rfl,rfl,HA,HJ1,HB⟩:=hcut
  cases kq with
  |zero=>exact absurd HA.out (by simp[ql.j0])
  |succ kj1=>
   have H:=HA.out
   clear HA
   simp only[ql.j0]at H
   replace H:=Option.bind_eq_some_iff.mp H
   obtain⟨t111,A40,H⟩:=H
   replace H:(if 1≤(t111.size:Int)then(ql.l0 kj1 x3_1 x4_1 (t111.extract 1 t111.size))else(none))=some r:=H
   have A4:=qo.mk A40
   clear A40
   by_cases c5:1≤(t111.size:Int)
   ·rw [if_pos c5] at H
    have pc:=eq_true c5
    have tG:=decide_eq_true c5
    clear c5
    have H':=qo.mk H
    clear H
    go_wp2_with (first|((with_reducible refine zQ (f:=153) rfl ?_);refine wJ (some 15) rfl rfl Tryz.func153 z13 rfl #[.int .u64 (IntKind.u64.wrap ((Int.tmod x3_1 10000)+10000))] rfl zc ?_;(with_reducible refine(qk.calls kj1 (IntKind.u64.wrap ((Int.tmod x3_1 10000)+10000)) t111 _ A4.out).mono ?_);rintro e w6 ⟨rfl,hb⟩;refine⟨_,rfl,?_⟩;have n0_:=qo.mk (qW zd hb);clear HB;have HB:=n0_;clear n0_;(try clear hb);(try clear hb2);(try clear hk);(try clear hi)))
    go_loopg [5] kj1 (fun kq v5 w'=> ∃(x5_2:ByteArray),v5= .string x5_2∧qo (ql.l0 kq x3_1 x4_1 x5_2=some r)∧qo (kq≤kj1)∧qo (Below w.heap.size w w'))
    case atStart=>exact⟨(t111.extract 1 t111.size),z11,H',⟨Nat.le_refl _⟩,⟨by repeat (first|(with_reducible first|exact HB.out|apply zm|apply q7|apply zr)|exact HB.out)⟩⟩
    case round=>
     clear H'
     try clear c1
     try clear p2
     try clear c3
     try clear Qu
     try clear c5
     try clear pc
     try clear tG
     try clear p2
     obtain⟨x5_2,rfl,HA,HK2,HB⟩:=hrel
     cases gk with
     |zero=>exact absurd HA.out (by simp[ql.l0])
     |succ k2=>
      have H:=HA.out
      clear HA
      simp only[ql.l0]at H
      by_cases c7:(x5_2.size:Int)>1
      ·rw [if_pos c7] at H
       have pR:=decide_eq_true c7
       have rG:decide (1<x5_2.size)=true:=decide_eq_true z14
       clear c7
       obtain⟨ji8,fw⟩: ∃j_:Int,(wrap64 ((x5_2.size:Int) - 1))=j_:=⟨_,rfl⟩
       replace H:(if 0≤(ji8)then(if(ji8)<(x5_2.size:Int)then(if(bt x5_2 (ji8))=48 then(if(ji8)≤(x5_2.size:Int)then(ql.l0 k2 x3_1 x4_1 (x5_2.extract 0 ((ji8):Int).toNat))else(none))else((qk.f k2 (IntKind.u64.wrap (Int.tdiv x3_1 10000))).bind fun t112=>(if x4_1.size+t112.size≤9223372036854775807 then(if(x4_1++t112).size+1≤9223372036854775807 then(if((x4_1++t112)++(⟨#[46]⟩:ByteArray)).size+x5_2.size≤9223372036854775807 then(some (((x4_1++t112)++(⟨#[46]⟩:ByteArray))++x5_2))else(none))else(none))else(none))))else(none))else(none))=some r:=by first|(rw[fw]at H;exact H)|(simp only[fw]at H ⊢;exact H)
       have uc:(IntKind.i64.wrap ((x5_2.size:Int) - 1))=ji8:=(yd _).trans fw
       by_cases c9:0≤(ji8)
       ·rw [if_pos c9] at H
        have cb:=decide_eq_true c9
        clear c9
        by_cases c10:(ji8)<(x5_2.size:Int)
        ·rw [if_pos c10] at H
         have VZ:=decide_eq_true c10
         clear c10
         by_cases c12:(bt x5_2 (ji8))=48
         ·rw [if_pos c12] at H
          have rZ:=beq_iff_eq.mpr c12
          have rV:=bne_eq_false_iff_eq.mpr c12
          clear c12
          have aE:=eq_true (of_decide_eq_true z10:0≤(ji8))
          by_cases c14:(ji8)≤(x5_2.size:Int)
          ·rw [if_pos c14] at H
           have YZ:=eq_true c14
           have uH:=decide_eq_true c14
           clear c14
           have H':=qo.mk H
           clear H
           have p11:0≤((ji8):Int):=of_decide_eq_true z10
           have q11:(ji8)<(x5_2.size:Int):=of_decide_eq_true z10
           have tD:=xF x5_2 (ji8)
           replace p11:=eq_true p11
           replace q11:=eq_true q11
           go_wp2
           go_roundg k2
           case measure=>have:=HJ1.out;have:=HK2.out;omega
           case rel=>exact⟨(x5_2.extract 0 ((ji8):Int).toNat),(by first|rfl|(simp;done)|(simp only[←fw]<;>(first|rfl|simp))|(simp[*];done)),H',⟨by have:=HJ1.out;have:=HK2.out;omega⟩,⟨by repeat (first|(with_reducible first|exact HB.out|apply zm|apply q7|apply zr)|exact HB.out)⟩⟩
          ·rw [if_neg c14] at H
           exact absurd H z15
         ·rw [if_neg c12] at H
          have rZ:=beq_eq_false_iff_ne.mpr c12
          have rV:=bne_iff_ne.mpr c12
          replace H:=Option.bind_eq_some_iff.mp H
          obtain⟨t112,Ka,H⟩:=H
          replace H:(if x4_1.size+t112.size≤9223372036854775807 then(if(x4_1++t112).size+1≤9223372036854775807 then(if((x4_1++t112)++(⟨#[46]⟩:ByteArray)).size+x5_2.size≤9223372036854775807 then(some (((x4_1++t112)++(⟨#[46]⟩:ByteArray))++x5_2))else(none))else(none))else(none))=some r:=H
          have A15:=qo.mk Ka
          clear Ka
          by_cases c16:x4_1.size+t112.size≤9223372036854775807
          ·rw [if_pos c16] at H
           have mi:=eq_true c16
           have uQ:=decide_eq_true c16
           try have uG:(9223372036854775807<x4_1.size+t112.size)=False:=eq_false (Nat.not_lt.2 c16)
           by_cases c17:(x4_1++t112).size+1≤9223372036854775807
           ·rw [if_pos c17] at H
            have uS:=eq_true c17
            have uO:=decide_eq_true c17
            try have uN:(9223372036854775807<(x4_1++t112).size+1)=False:=eq_false (Nat.not_lt.2 c17)
            try have dB:x4_1.size+t112.size+1≤9223372036854775807:=by simpa only[ByteArray.size_append]using c17
            try have uv:(9223372036854775807<x4_1.size+t112.size+1)=False:=eq_false (Nat.not_lt.2 dB)
            try replace dB:=eq_true dB
            by_cases c18:((x4_1++t112)++(⟨#[46]⟩:ByteArray)).size+x5_2.size≤9223372036854775807
            ·rw [if_pos c18] at H
             have sf:=eq_true c18
             have uR:=decide_eq_true c18
             try have uK:(9223372036854775807<((x4_1++t112)++(⟨#[46]⟩:ByteArray)).size+x5_2.size)=False:=eq_false (Nat.not_lt.2 c18)
             obtain rfl:=Option.some.inj H
             have p11:0≤((ji8):Int):=of_decide_eq_true z10
             have q11:(ji8)<(x5_2.size:Int):=of_decide_eq_true z10
             have tD:=xF x5_2 (ji8)
             replace p11:=eq_true p11
             replace q11:=eq_true q11
             go_wp2_with (first|((with_reducible refine zQ (f:=153) rfl ?_);refine wJ (some 36) rfl rfl Tryz.func153 z13 rfl #[.int .u64 (IntKind.u64.wrap (Int.tdiv x3_1 10000))] rfl zc ?_;(with_reducible refine(qk.calls k2 (IntKind.u64.wrap (Int.tdiv x3_1 10000)) t112 _ A15.out).mono ?_);rintro e w19 ⟨rfl,hb⟩;refine⟨_,rfl,?_⟩;have n0_:=qo.mk (qW zd hb);clear HB;have HB:=n0_;clear n0_;(try clear hb);(try clear hb2);(try clear hk);(try clear hi)))
             go_ret
             exact⟨by first|rfl|(simp[vT,vW]<;>rfl)|(simp only[←fw];first|rfl|(simp[vT,vW]<;>rfl))|(simp[*,vT,vW]<;>rfl),by repeat (first|(with_reducible first|exact HB.out|apply zm|apply q7|apply zr)|exact HB.out)⟩
            ·rw [if_neg c18] at H
             exact absurd H z15
           ·rw [if_neg c17] at H
            exact absurd H z15
          ·rw [if_neg c16] at H
           exact absurd H z15
        ·rw [if_neg c10] at H
         exact absurd H z15
       ·rw [if_neg c9] at H
        exact absurd H z15
      ·rw [if_neg c7] at H
       have pR:=decide_eq_false c7
       have rG:decide (1<x5_2.size)=false:=decide_eq_false z14
       clear c7
       replace H:=Option.bind_eq_some_iff.mp H
       obtain⟨t113,WL,H⟩:=H
       replace H:(if x4_1.size+t113.size≤9223372036854775807 then(if(x4_1++t113).size+1≤9223372036854775807 then(if((x4_1++t113)++(⟨#[46]⟩:ByteArray)).size+x5_2.size≤9223372036854775807 then(some (((x4_1++t113)++(⟨#[46]⟩:ByteArray))++x5_2))else(none))else(none))else(none))=some r:=H
       have A20:=qo.mk WL
       clear WL
       by_cases c21:x4_1.size+t113.size≤9223372036854775807
       ·rw [if_pos c21] at H
        have mA:=eq_true c21
        have um:=decide_eq_true c21
        try have uE:(9223372036854775807<x4_1.size+t113.size)=False:=eq_false (Nat.not_lt.2 c21)
        by_cases c22:(x4_1++t113).size+1≤9223372036854775807
        ·rw [if_pos c22] at H
         have mE:=eq_true c22
         have uk:=decide_eq_true c22
         try have ue:(9223372036854775807<(x4_1++t113).size+1)=False:=eq_false (Nat.not_lt.2 c22)
         try have gr:x4_1.size+t113.size+1≤9223372036854775807:=by simpa only[ByteArray.size_append]using c22
         try have uP:(9223372036854775807<x4_1.size+t113.size+1)=False:=eq_false (Nat.not_lt.2 gr)
         try replace gr:=eq_true gr
         by_cases c23:((x4_1++t113)++(⟨#[46]⟩:ByteArray)).size+x5_2.size≤9223372036854775807
         ·rw [if_pos c23] at H
          have aS:=eq_true c23
          have mN:=decide_eq_true c23
          try have uA:(9223372036854775807<((x4_1++t113)++(⟨#[46]⟩:ByteArray)).size+x5_2.size)=False:=eq_false (Nat.not_lt.2 c23)
          obtain rfl:=Option.some.inj H
          go_wp2_with (first|((with_reducible refine zQ (f:=153) rfl ?_);refine wJ (some 36) rfl rfl Tryz.func153 z13 rfl #[.int .u64 (IntKind.u64.wrap (Int.tdiv x3_1 10000))] rfl zc ?_;(with_reducible refine(qk.calls k2 (IntKind.u64.wrap (Int.tdiv x3_1 10000)) t113 _ A20.out).mono ?_);rintro e w24 ⟨rfl,hb⟩;refine⟨_,rfl,?_⟩;have n0_:=qo.mk (qW zd hb);clear HB;have HB:=n0_;clear n0_;(try clear hb);(try clear hb2);(try clear hk);(try clear hi)))
          go_ret
          exact z8
         ·rw [if_neg c23] at H
          exact absurd H z15
        ·rw [if_neg c22] at H
         exact absurd H z15
       ·rw [if_neg c21] at H
        exact absurd H z15
   ·rw [if_neg c5] at H
    exact absurd H z15
end Go.Proofs.YtaiokpmmjbiajaaGreatDoor.PLeaf
