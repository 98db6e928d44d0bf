/- A part of the proof of this claim. No condition beyond those that each theorem names. -/
import Derived.Test.YtaiokpmmjbiajaaGreatDoorCards
import Derived.Test.YtaiokpmmjbiajaaGreatDoorTie
import Derived.Test.YtaiokpmmjbiajaaGreatDoorAK2
import Derived.Test.YtaiokpmmjbiajaaGreatDoorAK4
import Derived.WalkKit
import Derived.ProofKit
import Derived.OpenShut
import Derived.ShutString
import Derived.ChangeOld
import Derived.Below
import Derived.SizedLaws
import Derived.Deep.DeepHandedRow
import Derived.Lib.LaidTab
import Derived.Lib.SmallJoins
import Derived.JoinedOf
import Derived.JoinedAt
import Derived.RowKit3
import Derived.Lib.LaidIn
import Derived.Lib.LaidU8T
import Derived.Shelf.Vars
namespace Go.Proofs.YtaiokpmmjbiajaaGreatDoor.machineAll
open Go.ChangeShapes Go.WideShapes Go.ChangeAt Go.RowKit Go.Joins
open Go.ChangeMaps (open_string shut_string)
set_option linter.unusedVariables false
theorem own:ownKnob Tryz.prog.godebug=none:=by kernel_rfl
theorem laidOut:laidOutB Tryz.prog=true:=by kernel_rfl
noncomputable def yR (os:Os):World:=
 let w0:=World.holding Tryz.prog os ⟨#[],#[],[]⟩
 let put (h:Array Obj) (g:Nat) (cs:Array Value):Array Obj:=h.modify g fun
  | .cells _ t frozen=> .cells cs t frozen
  |o=>o
 let h0:=put w0.heap 6 #[.int .u8 0,.int .u8 1,.int .u8 28,.int .u8 2,.int .u8 29,.int .u8 14,.int .u8 24,.int .u8 3,.int .u8 30,.int .u8 22,.int .u8 20,.int .u8 15,.int .u8 25,.int .u8 17,.int .u8 4,.int .u8 8,.int .u8 31,.int .u8 27,.int .u8 13,.int .u8 23,.int .u8 21,.int .u8 19,.int .u8 16,.int .u8 7,.int .u8 26,.int .u8 12,.int .u8 18,.int .u8 6,.int .u8 11,.int .u8 5,.int .u8 10,.int .u8 9]
 let h1:=put h0 7 #[.int .u8 0,.int .u8 1,.int .u8 56,.int .u8 2,.int .u8 57,.int .u8 49,.int .u8 28,.int .u8 3,.int .u8 61,.int .u8 58,.int .u8 42,.int .u8 50,.int .u8 38,.int .u8 29,.int .u8 17,.int .u8 4,.int .u8 62,.int .u8 47,.int .u8 59,.int .u8 36,.int .u8 45,.int .u8 43,.int .u8 51,.int .u8 22,.int .u8 53,.int .u8 39,.int .u8 33,.int .u8 30,.int .u8 24,.int .u8 18,.int .u8 12,.int .u8 5,.int .u8 63,.int .u8 55,.int .u8 48,.int .u8 27,.int .u8 60,.int .u8 41,.int .u8 37,.int .u8 16,.int .u8 46,.int .u8 35,.int .u8 44,.int .u8 21,.int .u8 52,.int .u8 32,.int .u8 23,.int .u8 11,.int .u8 54,.int .u8 26,.int .u8 40,.int .u8 15,.int .u8 34,.int .u8 20,.int .u8 31,.int .u8 10,.int .u8 25,.int .u8 14,.int .u8 19,.int .u8 9,.int .u8 13,.int .u8 8,.int .u8 7,.int .u8 6]
 let h2:=put h1 5 #[.int .u64 1,.int .u64 10,.int .u64 100,.int .u64 1000,.int .u64 10000,.int .u64 100000,.int .u64 1000000,.int .u64 10000000,.int .u64 100000000,.int .u64 1000000000,.int .u64 10000000000,.int .u64 100000000000,.int .u64 1000000000000,.int .u64 10000000000000,.int .u64 100000000000000,.int .u64 1000000000000000,.int .u64 10000000000000000,.int .u64 100000000000000000,.int .u64 1000000000000000000,.int .u64 10000000000000000000]
 let h3:=put h2 1 #[.int .u8 128,.int .u8 191,.int .u8 160,.int .u8 191,.int .u8 128,.int .u8 159,.int .u8 144,.int .u8 191,.int .u8 128,.int .u8 143,.int .u8 0,.int .u8 0,.int .u8 0,.int .u8 0,.int .u8 0,.int .u8 0,.int .u8 0,.int .u8 0,.int .u8 0,.int .u8 0,.int .u8 0,.int .u8 0,.int .u8 0,.int .u8 0,.int .u8 0,.int .u8 0,.int .u8 0,.int .u8 0,.int .u8 0,.int .u8 0,.int .u8 0,.int .u8 0]
 let h4:=put h3 0 (Lib.firstTab.map fun z=>Value.int .u8 z).toArray
 {w0 with heap:=h4}
theorem ft (os:Os) (args:Array Value):laidMet Tryz.prog Rows.machineAllRow.laid ((yR os).forCall (fun _ _=>0) ⟨#[],args,[]⟩).memory:=
 (LaidIn.of_run (l:=Rows.machineAllRow.laid) [6,7,5,1,0] 8 (by kernel_rfl) (by kernel_rfl) (by kernel_rfl) (by kernel_rfl)).met
theorem reads (os:Os) {H:Type} (enc:TypeId×Value→H): ∃places,DataW.whole enc Tryz.prog ((yR os).forCall (fun _ _=>0) ⟨#[],#[.slice none 0 0,.slice none 0 0],[]⟩).memory Tryz.f7.params.toList Rows.machineAllSpec.vars false (#[.slice none 0 0,.slice none 0 0]:Array Value).toList 8=some ([.nil,.nil],[],places):=by
 have hw:(DataW.whole enc Tryz.prog ((yR os).forCall (fun _ _=>0) ⟨#[],#[.slice none 0 0,.slice none 0 0],[]⟩).memory Tryz.f7.params.toList Rows.machineAllSpec.vars false (#[.slice none 0 0,.slice none 0 0]:Array Value).toList 8).map (fun x=>(x.1,x.2.1))=some ([.nil,.nil],[]):=by kernel_rfl
 obtain⟨⟨x1,x2,x3⟩,hx,hx1⟩:=Ak.1 hw
 simp only[Prod.mk.injEq]at hx1
 obtain⟨rfl,rfl⟩:=hx1
 exact⟨x3,hx⟩
theorem ground {W:World} (hL:laidMetH Tryz.prog Rows.machineAllRow.laid W) (hsh:W.ShapedOpen Tryz.prog):YtaiokpmmjbiajaaGreatDoorDx.La W:=by
 have hL':laidMet Tryz.prog Rows.machineAllRow.laid W:=hL
 refine⟨utf8Tabs_of_readsT (U8Types.of196 Tryz.YV) ⟨by kernel_rfl,by kernel_rfl,by kernel_rfl,by kernel_rfl,by kernel_rfl,by kernel_rfl,by kernel_rfl⟩ ?_ ?_,?_,?_⟩
 ·have h := Lib.laidMet.reads hL' (n := "unicode/utf8.first") (d := Rows.laid_unicode_utf8_first) (.tail _ (.tail _ (.tail _ (.tail _ (.head _)))))
  rwa [show Rows.laid_unicode_utf8_first=Lib.firstData by kernel_rfl]at h
 ·have h := Lib.laidMet.reads hL' (n := "unicode/utf8.acceptRanges") (d := Rows.laid_unicode_utf8_acceptRanges) (.tail _ (.tail _ (.tail _ (.head _))))
  rwa [show (Rows.laid_unicode_utf8_acceptRanges:DataW Unit)=Lib.acceptData by kernel_rfl]at h
 ·obtain ⟨g, t, cs, fuel, p, hg, hty, tY, hd⟩ := Lib.laidMet.reads hL' (n := "internal/strconv.uint64pow10") (d := Rows.laid_internal_strconv_uint64pow10) (.tail _ (.tail _ (.head _)))
  obtain rfl:=A9 ((show Tryz.prog.globalNamed "internal/strconv.uint64pow10" =some 5 by kernel_rfl).symm.trans hg)
  obtain rfl:=A9 ((show (Tryz.prog.globals[5]?).map (·.type)=some 246 by kernel_rfl).symm.trans hty)
  have hcs:=Lib.cells_of_tab (k:= .u64) (zs:=Lib.pow10Tab) Tryz.underlying246 Tryz.underlying182 (by kernel_rfl) (by kernel_rfl) (by rw[show (Rows.laid_internal_strconv_uint64pow10:DataW Unit)=Lib.tabData .u64 Lib.pow10Tab by kernel_rfl]at hd;exact hd)
  unfold Lib.TabIs
  rw[tY,←hcs]
 ·exact cell_of_shapedOpen_int (zero:= #[.int .i64 0]) (t:=3) hsh (AY (by kernel_rfl)) (by kernel_rfl) (by kernel_rfl) (by kernel_rfl) (by kernel_rfl) Tryz.underlying3
set_option maxRecDepth 100000 in
set_option maxHeartbeats 4000000 in
theorem fS (H:Type) (enc:TypeId×Value→H) (W:World) (base:Nat) (args:Array Value) (ds gs:List (DataW H)) (before:List MemPlace)
  (hval: ∀(j:Nat) t v,Tryz.f7.params[j]? =some t→args[j]? =some v→Value.okWide Tryz.prog W .any base t v)
  (hW:DataW.Whole enc Tryz.prog Tryz.f7.params.toList Rows.machineAllSpec.vars false W args.toList ds gs before) (hG:YtaiokpmmjbiajaaGreatDoorDx.La W)
  (hsz:(DataW.weightsEach Tryz.prog (Tryz.f7.params.toList++(OpenSpec.ofChange Rows.machineAllSpec).bare.plain.varTypes Tryz.prog) (ds++gs)).all (· ≤reachBytes)=true):
  Calls Tryz.prog 7 args W fun e W'=> ∃v,e= .returned v∧Rows.machineAllSpec.post enc Tryz.prog Tryz.f7 false true false false W args v W':=by
 have hW':=hW
 obtain⟨p,q,hA0,hV,rfl,hfz,hnd⟩:=hW
 have hA:DataW.TrodAll enc Tryz.prog W 0 (fun _=>true) true Tryz.f7.params.toList args.toList ds p:=hA0
 rw[Tryz.params7]at hA hval
 obtain⟨v0,vs0,d0,ds0,p0,q0,hargs,rfl,rfl,h0,r0⟩:=trodAll_cons hA
 obtain⟨v1,vs1,d1,ds1,p1,q1,rfl,rfl,rfl,h1,r1⟩:=trodAll_cons r0
 obtain⟨rfl,rfl,rfl⟩:=trodAll_nil r1
 obtain rfl:args= #[v0,v1]:=by cases args;simp_all
 obtain⟨rfl,rfl⟩:=trodVars_none hV
 have k0:=h0
 have lt0: ∀x∈p0,x.block<W.heap.size:=by obtain⟨m,hm⟩:=k0;exact DataW.trod_lt m _ _ _ hm
 have k1:=h1
 have lt1: ∀x∈p1,x.block<W.heap.size:=by obtain⟨m,hm⟩:=k1;exact DataW.trod_lt m _ _ _ hm
 clear hA0 hA
 have key:Calls Tryz.prog 7 #[v0,v1] W fun e W'=>e= .returned (.bool true)∧Below W.heap.size W W':=by
  obtain⟨fuel,hf0⟩:=h0
  obtain⟨y,l,hy,ht,rj⟩:=YtaiokpmmjbiajaaGreatDoorDx.KV (f:=fun ops=>[YtaiokpmmjbiajaaGreatDoorDx.kZ ops]) (z:=1) (by decide) (fun _=>rfl) Tryz.underlying49 (by kernel_rfl) (good:=YtaiokpmmjbiajaaGreatDoorDx.ma) (fun h=>YtaiokpmmjbiajaaGreatDoorDx.pW hG h) hG hf0
  obtain⟨A,ln,cp,rfl⟩:=okWide_slice Tryz.underlying49 (hval 0 49 v0 rfl rfl)
  obtain rfl:=(BD (show[Value.slice A ln cp]=[y]from hy)).1
  rw[show l.flatMap (fun ops=>[YtaiokpmmjbiajaaGreatDoorDx.kZ ops])=l.map YtaiokpmmjbiajaaGreatDoorDx.kZ from List.map_eq_flatMap.symm]at ht
  obtain⟨row,s1,i1,b1⟩:=YtaiokpmmjbiajaaGreatDoorDx.cA (f:=YtaiokpmmjbiajaaGreatDoorDx.vC) (z:=3) (good:=fun v=>YtaiokpmmjbiajaaGreatDoorDx.inR v.2.1=true) (by decide) (fun _=>rfl) Tryz.underlying22 (by kernel_rfl) YtaiokpmmjbiajaaGreatDoorDx.mm hG (hval 1 22 v1 rfl rfl) h1
  have hb:Tryz.prog.bytesOf 24=32:=by kernel_rfl
  have hb6:Tryz.prog.bytesOf 39=64:=by kernel_rfl
  have hb3:Tryz.prog.bytesOf 37=24:=by kernel_rfl
  have hr:reachBytes=140737488351232:=rfl
  have l1:row.length<6000000000000:=by
   rcases b1 with e|⟨elems,spare,rfl,hlen⟩
   ·omega
   ·have hw := sized_slice hsz (j := 1) (t := 22) rfl rfl Tryz.underlying22
    rw[hb,hlen]at hw
    omega
  have l0:l.length<6000000000000∧ ∀ops∈l,ops.length<2199023255552∧ ∀o∈ops,YtaiokpmmjbiajaaGreatDoorDx.inR o.2.2.2.2.1=true:=by
   rcases rj with rfl|⟨elems,spare,rfl,hlen,hg⟩
   ·exact⟨by decide,fun ops ho=>absurd ho (AZ)⟩
   ·refine ⟨?_, fun ops ho => ?_⟩
    ·have hw := sized_slice hsz (j := 0) (t := 49) rfl rfl Tryz.underlying49
     rw[hb3,hlen]at hw
     omega
    ·obtain ⟨i, hi, rfl⟩ := List.getElem_of_mem ho
     obtain⟨g1,g2⟩:=hg i l[i] (elems[i]'(by omega)) (Au hi) (Au (by omega))
     refine⟨?_,g1⟩
     rcases g2 with e|⟨el,sp,e1,e2⟩
     ·rw[e];decide
     ·have bT:(el.length+sp.length)*Tryz.prog.bytesOf 39∈(DataW.slice elems spare).weights Tryz.prog 49:=by
       simp only[DataW.weights,Tryz.underlying49,AX,AT]
       refine .inr (.inl (YtaiokpmmjbiajaaGreatDoorDx.ZR (Bf (by omega:i<elems.length)) ?_))
       rw[e1]
       simp[DataW.weights,Tryz.underlying37]
      have hw:=Ap.1 hsz _ (DataW.weights_mem_each (j:=0) (t:=49) rfl rfl _ bT)
      have hw:=AY hw
      rw[hb6,e2]at hw
      omega
  exact YtaiokpmmjbiajaaGreatDoorDx.A7.lJ l0.1 l1 l0.2 i1 W [.slice A ln cp,v1] hG ⟨ht,⟨s1,YtaiokpmmjbiajaaGreatDoorDx.qO row⟩,trivial⟩
 refine key.mono fun e W' ⟨he,bel⟩=> ?_
 subst he
 exact⟨_,rfl,_,_,_,[],_,[],hW',trodAll_mk1 (shut_bool Tryz.underlying4 _),(trodAll_cons_mk (Below.trod laidOut (by kernel_rfl) (AY (by kernel_rfl)) k0 bel lt0) (trodAll_cons_mk (Below.trod laidOut (by kernel_rfl) (AY (by kernel_rfl)) k1 bel lt1) trodAll_mk0)),rfl,bel.frame _,fun h=>by cases h⟩
set_option maxRecDepth 100000 in
set_option maxHeartbeats 4000000 in
theorem lifted (os:Os) (started:os.Started) (H:Type) (enc:TypeId×Value→H) (F:Stop.Interp):
  ReturnsInHanded {} Tryz.checked os 7 .any ((OpenSpec.ofChange Rows.machineAllSpec).preRow enc Tryz.prog Tryz.f7 Rows.machineAllRow.domain false Rows.machineAllRow.laid) (((OpenSpec.ofChange Rows.machineAllSpec).at F).post enc Tryz.prog Tryz.f7 false true false false):=by
 obtain⟨places,hx⟩:=reads os enc
 refine returnsInHanded_of_row (C:=Tryz.checked) (s:=(OpenSpec.ofChange Rows.machineAllSpec)) own started (by kernel_rfl) Tryz.func7
  (witness_row_at (enc := enc) (C := Tryz.checked) false (yR os) #[.slice none 0 0, .slice none 0 0] rfl (by kernel_rfl) (by kernel_rfl) (by kernel_rfl)
   (OpenSpec.preRow_of_cond 8 hx (by kernel_rfl) (fun k hk=>by cases hk) (by kernel_rfl) (ft os _))) ?_
 intro W base args ds gs before hval hW _ _ hsz hL hsh _
 exact fS H enc W base args ds gs before hval hW (ground hL hsh) hsz
theorem said:Rows.MachineAllSaid:=
 OpenClaim.holds_of_cond 7 Tryz.f7 rfl rfl rfl rfl rfl rfl rfl ⟨rfl,rfl,rfl,rfl,rfl⟩ rfl rfl rfl rfl rfl (by kernel_rfl) Tryz.func7 (by kernel_rfl)
  (AY (by kernel_rfl)) (by unfold Func.isWrapper;first|(rw[Ax (by decide+kernel)];kernel_rfl)|(rw[Aq (by decide+kernel)];exact⟨rfl,rfl⟩))
  (fun os started H enc _ F=>by rw[OpenClaim.pre_eq_preRow];exact lifted os started H enc F)
theorem plain (f:FuncId) (fn:Func) (hf:Tryz.pinned.checked.prog.funcNamed "marquee/marqueelaw13.MachineAll" =some f) (hfn:Tryz.pinned.checked.prog.funcs[f]? =some fn):
  false=Tryz.pinned.checked.prog.looks []∧ ∀(j:Nat) t,fn.params[j]? =some t→Tryz.pinned.checked.prog.wantsStandIn t=false:=by
 obtain rfl:f=7:=A9 ((show Tryz.prog.funcNamed "marquee/marqueelaw13.MachineAll" =some 7 by kernel_rfl).symm.trans hf) |>.symm
 obtain rfl:fn=Tryz.f7:=(A9 (Tryz.func7.symm.trans hfn)).symm
 refine⟨by kernel_rfl,fun j t ht=> ?_⟩
 rw[Tryz.params7]at ht
 have hm:=Array.mem_of_getElem? ht
 simp only[Array.mem_def,AX,AZ,or_false]at hm
 rcases hm with rfl|rfl
 ·exact(show Tryz.prog.wantsStandIn 49=false by kernel_rfl)
 ·exact(show Tryz.prog.wantsStandIn 22=false by kernel_rfl)
theorem rn:Rows.MachineAllCardSaid:=
 Claim7.holds_tied_plain_at .later [] _ _ _ _ said (fun _ h=>by cases h) (by kernel_rfl) (fun _ h=>by cases h) machineAll_row_tie rfl ⟨rfl,rfl⟩ (by kernel_rfl) rfl plain (by kernel_rfl)
#print axioms rn
end Go.Proofs.YtaiokpmmjbiajaaGreatDoor.machineAll
namespace Go.Proofs.YtaiokpmmjbiajaaGreatDoor
theorem machineAll_card:Rows.MachineAllCardSaid:=machineAll.rn
end Go.Proofs.YtaiokpmmjbiajaaGreatDoor
