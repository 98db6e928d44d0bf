/- A part of the proof of this claim. No condition beyond those that each theorem names. -/
import Derived.Test.YtaiokpmmjbiajaaGreatDoorAPLeafx0
namespace Go.Proofs.YtaiokpmmjbiajaaGreatDoor.PLeaf
open Go.RowKit Go.Proofs.YtaiokpmmjbiajaaGreatDoorW.PrintWords Go.Proofs.YtaiokpmmjbiajaaGreatDoorW.PrintLast Go.Proofs.YtaiokpmmjbiajaaGreatDoorW.PrintMore
attribute [local go_sem] yD yn QO QU xu xH yE yI
set_option linter.unusedVariables false
set_option linter.unusedSimpArgs false
def kv.f (a0_0 a0_1:Int) (a0_2:ByteArray):Option Int:=
 if a0_0=0 then some (if a0_1=0∧a0_2.size=0 then 0 else 1)
 else if a0_0=1 then some (if a0_2.size=0∧(a0_1=0∨a0_1=1)then 0 else 1)
 else if a0_0=2∨a0_0=3 then some (if a0_2.size=0 then 0 else 1)
 else if a0_0=4 then(if a0_2.size≤9223372036854775807 then some (if a0_1=0∧a0_2.size≤1024∧Lib.validD a0_2.data.toList=true then 0 else 1)else none)
 else some 1
theorem kv.empty {s:ByteArray} (h:s.size=0):s=⟨#[]⟩:=by
 obtain⟨a⟩:=s
 have:a.size=0:=h
 rw[Array.size_eq_zero_iff.1 this]
set_option maxHeartbeats 8000000 in
theorem kv.calls (a0_0 a0_1:Int) (a0_2:ByteArray) (r:Int) (w:World) (hG:Laid w) (h:kv.f a0_0 a0_1 a0_2=some r):
  Calls Tryz.prog 33 #[.agg #[.int .i64 a0_0,.int .i64 a0_1,.string a0_2]] w fun e w'=>e= .returned (.int .i64 r)∧Below w.heap.size w w':=by
 have hb0:Below w.heap.size w (w.alloc (.cells #[.int .i64 a0_0,.int .i64 a0_1,.string a0_2] 24)):=(Below.refl _ _).alloc (Nat.le_refl _) _
 have HB:=Lib.hid hb0
 have hne: ∀s:ByteArray,¬s.size=0→s.toList.isEmpty=false∧ ¬s.toList=[]:=fun s hs=>by
  have hl:s.toList.length=s.size:=by rw[ByteArray.toList_eq];exact zY s
  cases hh:s.toList with
  |nil=>rw[hh]at hl;exact absurd hl.symm hs
  |cons a l=>exact⟨rfl,by simp⟩
 unfold kv.f at h
 by_cases k0:a0_0=0
 ·subst k0
  rw[if_pos rfl]at h
  by_cases s0:a0_2.size=0
  ·obtain rfl := kv.empty s0
   by_cases n0:a0_1=0
   ·subst n0
    obtain rfl:=Option.some.inj h
    clear h hG hne hb0
    go_enter Tryz.func33,Tryz.ntmps33
    go_wp2
    go_ret
    exact⟨rfl,HB.out⟩
   ·rw [if_neg (by simp [n0])] at h
    obtain rfl:=Option.some.inj h
    have n0b:(a0_1==0)=false:=by simpa using n0
    clear h hG hne hb0 n0
    go_enter Tryz.func33,Tryz.ntmps33
    go_wp2
    go_ret
    exact⟨rfl,HB.out⟩
  ·rw [if_neg (by simp [s0])] at h
   obtain rfl:=Option.some.inj h
   obtain⟨e1,e2⟩:=hne _ s0
   clear h hG hne hb0 s0
   by_cases n0:a0_1=0
   ·subst n0
    go_enter Tryz.func33,Tryz.ntmps33
    go_wp2
    go_ret
    exact⟨rfl,HB.out⟩
   ·have n0b : (a0_1 == 0) = false := by simpa using n0
    clear n0
    go_enter Tryz.func33,Tryz.ntmps33
    go_wp2
    go_ret
    exact⟨rfl,HB.out⟩
 rw[if_neg k0]at h
 by_cases k1:a0_0=1
 ·subst k1
  rw[if_pos rfl]at h
  clear k0
  by_cases s0:a0_2.size=0
  ·obtain rfl := kv.empty s0
   by_cases n0:a0_1=0
   ·subst n0
    obtain rfl:=Option.some.inj h
    clear h hG hne hb0
    go_enter Tryz.func33,Tryz.ntmps33
    go_wp2
    go_ret
    exact⟨rfl,HB.out⟩
   ·by_cases n1 : a0_1 = 1
    ·subst n1
     obtain rfl:=Option.some.inj h
     clear h hG hne hb0
     go_enter Tryz.func33,Tryz.ntmps33
     go_wp2
     go_ret
     exact⟨rfl,HB.out⟩
    ·rw [if_neg (by simp [n0, n1])] at h
     obtain rfl:=Option.some.inj h
     have n0b:(a0_1==0)=false:=by simpa using n0
     have n1b:(a0_1==1)=false:=by simpa using n1
     clear h hG hne hb0 n0 n1
     go_enter Tryz.func33,Tryz.ntmps33
     go_wp2
     go_ret
     exact⟨rfl,HB.out⟩
  ·rw [if_neg (by simp [s0])] at h
   obtain rfl:=Option.some.inj h
   obtain⟨e1,e2⟩:=hne _ s0
   clear h hG hne hb0 s0
   go_enter Tryz.func33,Tryz.ntmps33
   go_wp2
   go_ret
   exact⟨rfl,HB.out⟩
 rw[if_neg k1]at h
 by_cases k2:a0_0=2∨a0_0=3
 ·rw [if_pos k2] at h
  clear k0 k1
  by_cases s0:a0_2.size=0
  ·obtain rfl := kv.empty s0
   obtain rfl:=Option.some.inj h
   clear h hG hne hb0
   rcases k2 with rfl|rfl
   all_goals
    go_enter Tryz.func33,Tryz.ntmps33
    go_wp2
    go_ret
    exact⟨rfl,HB.out⟩
  ·rw [if_neg s0] at h
   obtain rfl:=Option.some.inj h
   obtain⟨e1,e2⟩:=hne _ s0
   clear h hG hne hb0 s0
   rcases k2 with rfl|rfl
   all_goals
    go_enter Tryz.func33,Tryz.ntmps33
    go_wp2
    go_ret
    exact⟨rfl,HB.out⟩
 rw[if_neg k2]at h
 by_cases k4:a0_0=4
 ·subst k4
  rw[if_pos rfl]at h
  clear k0 k1 k2 hne
  by_cases hs:a0_2.size≤9223372036854775807
  ·rw [if_pos hs] at h
   have hl:Laid (w.alloc (.cells #[.int .i64 4,.int .i64 a0_1,.string a0_2] 24)):=hG.below hb0
   have cV:=Tryz.utf8_ValidString a0_2 _ hs hl.1
   have HV:=Lib.hid cV
   clear cV hl hG
   by_cases n0:a0_1=0
   ·subst n0
    by_cases hm:a0_2.size≤1024
    ·obtain ⟨v, hv⟩ : ∃ v, Lib.validD a0_2.data.toList = v := ⟨_, rfl⟩
     rw[hv]at HV
     rw[hv]at h
     cases v
     ·obtain rfl := Option.some.inj (h.symm.trans (congrArg some (if_neg z15)))
      have hm1:(a0_2.size:Int)≤1024:=by omega
      clear h hb0 hv hs hm
      go_enter Tryz.func33,Tryz.ntmps33
      go_wp2_with (go_at_call 74;refine HV.out.mono ?_;rintro e w1 ⟨rfl,hb1⟩;have HB2:=Lib.hid (HB.out.trans (hb1.mono z15));clear hb1)
      go_ret
      exact⟨rfl,HB2.out⟩
     ·obtain rfl := Option.some.inj (h.symm.trans (congrArg some (if_pos ⟨rfl, hm, rfl⟩)))
      have hm1:(a0_2.size:Int)≤1024:=by omega
      clear h hb0 hv hs hm
      go_enter Tryz.func33,Tryz.ntmps33
      go_wp2_with (go_at_call 74;refine HV.out.mono ?_;rintro e w1 ⟨rfl,hb1⟩;have HB2:=Lib.hid (HB.out.trans (hb1.mono z15));clear hb1)
      go_ret
      exact⟨rfl,HB2.out⟩
    ·rw [if_neg (by simp [hm])] at h
     obtain rfl:=Option.some.inj h
     have hm1: ¬(a0_2.size:Int)≤1024:=by omega
     clear h hb0 hs hm HV
     go_enter Tryz.func33,Tryz.ntmps33
     go_wp2
     go_ret
     exact⟨rfl,HB.out⟩
   ·rw [if_neg (by simp [n0])] at h
    obtain rfl:=Option.some.inj h
    have n0b:(a0_1==0)=false:=by simpa using n0
    clear h hb0 n0 hs HV
    go_enter Tryz.func33,Tryz.ntmps33
    go_wp2
    go_ret
    exact⟨rfl,HB.out⟩
  ·rw [if_neg hs] at h
   cases h
 ·rw [if_neg k4] at h
  obtain rfl:=Option.some.inj h
  have k0b:(a0_0==0)=false:=by simpa using k0
  have k1b:(a0_0==1)=false:=by simpa using k1
  have k2b:(a0_0==2)=false:=by simp;omega
  have k3b:(a0_0==3)=false:=by simp;omega
  have k4b:(a0_0==4)=false:=by simpa using k4
  clear h hG hne hb0 k0 k1 k2 k4
  go_enter Tryz.func33,Tryz.ntmps33
  go_wp2
  go_ret
  exact⟨rfl,HB.out⟩
def strconv_Itoa.f (a0:Int):Option ByteArray:=if -9223372036854775808≤a0 then(if a0≤9223372036854775807 then some ⟨(Lib.itoa a0).toArray⟩else none)else none
theorem strconv_Itoa.calls (a0:Int) (r:ByteArray) (w:World) (hG:Laid w) (h:strconv_Itoa.f a0=some r):
  Calls Tryz.prog 141 #[.int .i64 a0] w fun e w'=>e= .returned (.string r)∧Below w.heap.size w w':=by
 unfold strconv_Itoa.f at h
 split at h;rotate_left;· cases h
 split at h;rotate_left;· cases h
 rename_i h1 h2
 obtain rfl:=Option.some.inj h
 refine(Tryz.strconv_Itoa a0 h1 h2 w hG.2.1).mono ?_
 rintro e w' ⟨rfl,k,os,rfl⟩
 exact⟨rfl,Lib.below_grow _ w (Nat.le_refl _) k os⟩
def zJ.f (a0 a1:Int):Option ByteArray:=if a1=10 then(if 0≤a0 then(if a0<18446744073709551616 then some ⟨(Lib.decDigits a0.toNat).toArray⟩else none)else none)else none
set_option maxHeartbeats 6400000 in
set_option maxRecDepth 100000 in
theorem zJ.inner (u:Nat) (hu64:u<18446744073709551616) (w:World) (htab:Lib.TabIs Tryz.prog w "internal/strconv.uint64pow10" .u64 Lib.pow10Tab):
  Calls Tryz.prog 213 #[.int .u64 u,.int .i64 10] w fun e w'=>e= .returned (.string ⟨(Lib.decDigits u).toArray⟩)∧ ∃k os,w'=Sort.grow (w.drewN k) os:=by
 by_cases hs:u<100
 ·go_enter Tryz.func213, Tryz.ntmps213
  go_wp2_with (go_at_call 233;refine(Tryz.internal_strconv_small u hs _).mono ?_;rintro e w' ⟨rfl,rfl⟩)
  go_ret
  exact⟨rfl,0,#[],by simp[World.drewN_zero]⟩
 ·have hu1 : 1 ≤ u := by omega
  have uf:Lib.nDigits u≤20:=by have:=Lib.numDigits_eq u hu1 hu64;split at this<;>omega
  have hal:Tryz.prog.arrayLen 237=24:=by kernel_rfl
  have Af: ∀W,(Instr.sliceAt 237 (.pointer (some ⟨w.heap.size,0,none⟩)) none (some (.int .i64 (Lib.nDigits u:Int))) none).run Tryz.prog W= .ok (.slice (some ⟨w.heap.size,0,none⟩) (Lib.nDigits u) 24) W:=fun W=>by
   rw[run_sliceAt_array_h W 237 ⟨w.heap.size,0,none⟩ (by simp[Program.arrayLen,Program.elem,Tryz.underlying237]) .i64 (Lib.nDigits u:Int) z14 (by rw[hal];omega)]
   go_simp
  have hH0:=Lib.holds_zero0 w 237 (Lib.nDigits u) z14
  have rX:=Tryz.internal_strconv_formatBase10 w.heap.size 0 24 u (Array.replicate (Lib.nDigits u) 0) (w.alloc (.cells Lib.zeros24 237)) hH0 (by rw[Array.size_replicate];exact Lib.lt_pow_nDigits u) hu64 (by rw[Array.size_replicate];omega)
  rw[Array.size_replicate]at rX
  have HH0:=Lib.hid hH0
  clear hH0 hal
  go_enter Tryz.func213,Tryz.ntmps213
  go_wp2_with (first
   |(go_at_call 234;refine(Tryz.internal_strconv_numDigits u hu1 hu64 _ (Lib.tabIs_alloc htab _)).mono ?_;rintro e w' ⟨rfl,rfl⟩))
  go_at_call 235
  refine rX.mono ?_
  rintro e w' ⟨rfl,k,v',dk,rfl,hF⟩
  have hcv:(convert 140 9 (.slice (some ⟨w.heap.size,0,none⟩) (Lib.nDigits u) 24)).run Tryz.prog ((Sort.putRow (fun(b:UInt8)=>Value.int .u8 (b.toNat:Int)) (w.alloc (.cells Lib.zeros24 237)) w.heap.size 0 dk).drewN k)= .ok (.string ⟨(Lib.decDigits u).toArray⟩) ((Sort.putRow (fun(b:UInt8)=>Value.int .u8 (b.toNat:Int)) (w.alloc (.cells Lib.zeros24 237)) w.heap.size 0 dk).drewN k):=by
   have h:=run_convert_bytes_back (P:=Tryz.prog) ((Sort.putRow (fun(b:UInt8)=>Value.int .u8 (b.toNat:Int)) (w.alloc (.cells Lib.zeros24 237)) w.heap.size 0 dk).drewN k) 140 9 5 ⟨w.heap.size,0,none⟩ 24 (Lib.decDigits u) Tryz.underlying140 Tryz.underlying5 Tryz.underlying9 (fun j hj=>by
    rw[Lib.row_is_numeral hF j hj,Lib.add_plain,World.cell?_drewN]
    exact Sort.cell?_putRow (fun(b:UInt8)=>Value.int .u8 (b.toNat:Int)) _ w.heap.size 0 _ dk HH0.out (by rw[hF.size,Array.size_replicate]) j (by rw[hF.size];rw[Lib.decDigits_length]at hj;exact hj))
   rw[Lib.decDigits_length]at h
   exact h
  go_wp2
  go_ret
  obtain⟨os,eo⟩:=Lib.fin_at w (.cells Lib.zeros24 237) dk k 0
  exact⟨rfl,k,os,eo⟩
theorem zJ.calls (a0 a1:Int) (r:ByteArray) (w:World) (hG:Laid w) (h:zJ.f a0 a1=some r):
  Calls Tryz.prog 185 #[.int .u64 a0,.int .i64 a1] w fun e w'=>e= .returned (.string r)∧Below w.heap.size w w':=by
 unfold zJ.f at h
 split at h;rotate_left;· cases h
 split at h;rotate_left;· cases h
 split at h;rotate_left;· cases h
 rename_i h1 h2 h3
 obtain rfl:=Option.some.inj h
 subst h1
 obtain⟨u,rfl⟩:=Int.eq_ofNat_of_zero_le h2
 have c:=zJ.inner u z14 w hG.2.1
 have hg:=hG.2.1
 clear h hG h2 h3
 go_enter Tryz.func185,Tryz.ntmps185
 go_wp2_with (go_at_call 213;refine(c).mono ?_;rintro e w' ⟨rfl,k,os,rfl⟩)
 go_ret
 exact⟨rfl,Lib.below_grow _ w (Nat.le_refl _) k os⟩
def strings_Repeat.f (a0:ByteArray) (a1:Int):Option ByteArray:=if 0≤a1 then(if a1≤9223372036854775807 then(if a0.size*a1.toNat≤140737488355328 then some ⟨(Lib.repeatL a0.data.toList a1.toNat).toArray⟩else none)else none)else none
theorem strings_Repeat.calls (a0:ByteArray) (a1:Int) (r:ByteArray) (w:World) (h:strings_Repeat.f a0 a1=some r):
  Calls Tryz.prog 187 #[.string a0,.int .i64 a1] w fun e w'=>e= .returned (.string r)∧Below w.heap.size w w':=by
 unfold strings_Repeat.f at h
 split at h;rotate_left;· cases h
 split at h;rotate_left;· cases h
 split at h;rotate_left;· cases h
 rename_i h1 h2 h3
 obtain rfl:=Option.some.inj h
 obtain⟨c,rfl⟩:=Int.eq_ofNat_of_zero_le h1
 exact Tryz.strings_Repeat a0 c w z14 h3
def kS.f (a0 a1:ByteArray):Option ByteArray:=if a1=⟨#[48]⟩then(if a0.size≤9223372036854775807 then some ⟨(Lib.trimRightB a0.data.toList 48).toArray⟩else none)else none
theorem kS.calls (a0 a1:ByteArray) (r:ByteArray) (w:World) (h:kS.f a0 a1=some r):
  Calls Tryz.prog 186 #[.string a0,.string a1] w fun e w'=>e= .returned (.string r)∧zk w w':=by
 unfold kS.f at h
 split at h;rotate_left;· cases h
 split at h;rotate_left;· cases h
 rename_i h1 h2
 obtain rfl:=Option.some.inj h
 subst h1
 refine(Tryz.strings_TrimRight_one a0 48 (by decide) w h2).mono ?_
 rintro e w' ⟨rfl,rfl⟩
 exact⟨rfl,zk.refl _⟩
def qA.cN (r:Nat):List UInt8:=if Lib.trimRightB (Lib.repeatL [48] (4 - (Lib.decDigits r).length)++Lib.decDigits r) 48=[]then[48]else Lib.trimRightB (Lib.repeatL [48] (4 - (Lib.decDigits r).length)++Lib.decDigits r) 48
def qA.text (n:Int):List UInt8:=(if n<0 then[45]else[])++Lib.decDigits (n.natAbs / 10000)++[46]++qA.cN (n.natAbs % 10000)
def qA.f (a0:Int):Option ByteArray:=if -9223372036854775808≤a0 then(if a0≤9223372036854775807 then some ⟨(qA.text a0).toArray⟩else none)else none
theorem qA.mf: ∀(k u:Nat),1≤k→u<10 ^ k→Lib.nDigits u≤k
 |0,_,h,_=>absurd h z14
 |1,u,_,h=>by rw[Lib.nDigits_small (by simpa using h)];exact Nat.le_refl _
 |k+2,u,_,h=>by
  by_cases hu:u<10
  ·rw[Lib.nDigits_small hu];omega
  ·rw [Lib.nDigits_big hu]
   have:=qA.mf (k+1) (u / 10) z14 (by rw[Nat.pow_succ]at h;omega)
   omega
theorem qA.bL {s:ByteArray} (h:s.size=0):s=⟨#[]⟩:=by
 obtain⟨a⟩:=s
 have:a.size=0:=h
 rw[Array.size_eq_zero_iff.1 this]
theorem qA.dZ {s:ByteArray} (h: ¬s.size=0):s.toList.isEmpty=false:=by
 have hl:s.toList.length=s.size:=by rw[ByteArray.toList_eq];exact zY s
 cases hh:s.toList with
 |nil=>rw[hh]at hl;exact absurd hl.symm h
 |cons a l=>rfl
set_option maxHeartbeats 8000000 in
set_option maxRecDepth 100000 in
theorem qA.core (neg:Bool) (u:Nat) (n:Int) (hn:n=if neg then -(u:Int)else u) (hu:u≤9223372036854775808) (hp:if neg then 1≤u else u≤9223372036854775807) (w:World) (hG:Laid w)
  (z p t q:ByteArray) (sg:ByteArray) (hsg:sg=if neg then⟨#[45]⟩else⟨#[]⟩)
  (c1: ∀W,Laid W→Calls Tryz.prog 185 #[.int .u64 ((u:Int) % 10000),.int .i64 10] W fun e w'=>e= .returned (.string p)∧Below W.heap.size W w') (p1:1≤p.size) (p2:p.size≤4)
  (c2: ∀W,Calls Tryz.prog 187 #[.string ⟨#[48]⟩,.int .i64 (4 - (p.size:Int))] W fun e w'=>e= .returned (.string z)∧Below W.heap.size W w') (z2:z.size≤4)
  (c3: ∀W,Calls Tryz.prog 186 #[.string (z++p),.string ⟨#[48]⟩] W fun e w'=>e= .returned (.string t)∧zk W w') (t2:t.size≤8)
  (c4: ∀W,Laid W→Calls Tryz.prog 185 #[.int .u64 ((u:Int) / 10000),.int .i64 10] W fun e w'=>e= .returned (.string q)∧Below W.heap.size W w') (q2:q.size≤20):
  Calls Tryz.prog 142 #[.int .i64 n] w fun e w'=>e= .returned (.string (sg++q++⟨#[46]⟩++(if t.size=0 then⟨#[48]⟩else t)))∧Below w.heap.size w w':=by
 have HG:=Lib.hid hG
 clear hG
 have hzp:z.size+p.size≤9223372036854775807:=by omega
 by_cases ht:t.size=0
 all_goals
  first
   |(rw[if_pos ht];obtain rfl:=qA.bL ht;clear ht t2)
   |(rw[if_neg ht];have te:=qA.dZ ht;clear ht)
  have C1:=Lib.hid c1
  have C2:=Lib.hid c2
  have C3:=Lib.hid c3
  have C4:=Lib.hid c4
  clear c1 c2 c3 c4
  cases neg
  all_goals
   simp only[Bool.false_eq_true,if_true,if_false]at hn hp hsg
   subst hsg
   subst hn
   try have hwr:IntKind.u64.wrap (-IntKind.u64.wrap (-(u:Int)))=(u:Int):=by rw[IntKind.wrap_u64,IntKind.wrap_u64];omega
   go_enter Tryz.func142,Tryz.ntmps142
   go_wp2_with fail
   refine(C1.out _ HG.out).mono ?_
   rintro e w1 ⟨rfl,hb1⟩
   have HB1:=Lib.hid hb1
   clear hb1
   go_wp2_with fail
   refine(C2.out _).mono ?_
   rintro e w2 ⟨rfl,hb2⟩
   have HB2:=Lib.hid (HB1.out.trans (hb2.mono HB1.out.size))
   clear hb2
   go_wp2_with fail
   refine(C3.out _).mono ?_
   rintro e w3 ⟨rfl,hb3⟩
   have HB3:=Lib.hid (HB2.out.trans (hb3.below.mono HB2.out.size))
   clear hb3
   go_wp2_with fail
   refine(C4.out _ (HG.out.below HB3.out)).mono ?_
   rintro e w4 ⟨rfl,hb4⟩
   have HB4:=Lib.hid (HB3.out.trans (hb4.mono HB3.out.size))
   clear hb4
   go_wp2
   go_ret
   refine⟨?_,HB4.out⟩
   first|rfl|simp
theorem qA.ju (a b:List UInt8):(ByteArray.mk a.toArray++ByteArray.mk b.toArray:ByteArray)=⟨(a++b).toArray⟩:=by
 apply ByteArray.ext
 apply Array.ext'
 simp[ByteArray.data_append]
theorem qA.mX (l:List UInt8) (c:UInt8):(Lib.trimRightB l c).length≤l.length:=by
 unfold Lib.trimRightB
 rw[List.length_reverse]
 have h:(l.reverse.dropWhile (· ==c)).length≤l.reverse.length:=(List.dropWhile_sublist _).length_le
 rwa [List.length_reverse]at h
theorem qA.calls (a0:Int) (r:ByteArray) (w:World) (hG:Laid w) (h:qA.f a0=some r):
  Calls Tryz.prog 142 #[.int .i64 a0] w fun e w'=>e= .returned (.string r)∧Below w.heap.size w w':=by
 unfold qA.f at h
 split at h;rotate_left;· cases h
 split at h;rotate_left;· cases h
 rename_i h1 h2
 obtain rfl:=Option.some.inj h
 have n4:Lib.nDigits (a0.natAbs % 10000)≤4:=qA.mf 4 _ z14 (by have:=Nat.mod_lt a0.natAbs (show 0<10000 by omega);omega)
 have n1:=Lib.nDigits_pos (a0.natAbs % 10000)
 have n20:Lib.nDigits (a0.natAbs / 10000)≤20:=Lib.nDigits_le20 _ z14
 have l1:(Lib.decDigits (a0.natAbs % 10000)).length=Lib.nDigits (a0.natAbs % 10000):=Lib.decDigits_length _
 have l2:(Lib.decDigits (a0.natAbs / 10000)).length=Lib.nDigits (a0.natAbs / 10000):=Lib.decDigits_length _
 have lr:(Lib.repeatL [48] (4 - (Lib.decDigits (a0.natAbs % 10000)).length)).length=4 - (Lib.decDigits (a0.natAbs % 10000)).length:=by rw[Lib.repeatL_length];simp
 have lt:=qA.mX (Lib.repeatL [48] (4 - (Lib.decDigits (a0.natAbs % 10000)).length)++Lib.decDigits (a0.natAbs % 10000)) 48
 rw[List.length_append]at lt
 have sz: ∀l:List UInt8,(ByteArray.mk l.toArray).size=l.length:=fun l=>by show l.toArray.size=_;simp
 have core:=qA.core (decide (a0<0)) a0.natAbs a0 (by by_cases hn:a0<0<;>simp[hn]<;>omega) z14 (by by_cases hn:a0<0<;>simp[hn]<;>omega) w hG
  ⟨(Lib.repeatL [48] (4 - (Lib.decDigits (a0.natAbs % 10000)).length)).toArray⟩ ⟨(Lib.decDigits (a0.natAbs % 10000)).toArray⟩
  ⟨(Lib.trimRightB (Lib.repeatL [48] (4 - (Lib.decDigits (a0.natAbs % 10000)).length)++Lib.decDigits (a0.natAbs % 10000)) 48).toArray⟩
  ⟨(Lib.decDigits (a0.natAbs / 10000)).toArray⟩ (if decide (a0<0)then⟨#[45]⟩else⟨#[]⟩) rfl
  (fun W hW=>zJ.calls _ _ _ W hW zf) z12 z12
  (fun W => strings_Repeat.calls _ _ _ W (by
   unfold strings_Repeat.f
   rw[sz,if_pos z14,if_pos z14,if_pos (by show 1*_≤_;omega)]
   rw[show ((4:Int) - ((Lib.decDigits (a0.natAbs % 10000)).length:Int)).toNat=4 - (Lib.decDigits (a0.natAbs % 10000)).length by omega])) z12
  (fun W => kS.calls _ _ _ W (by
   unfold kS.f
   rw[if_pos rfl,if_pos (by rw[ByteArray.size_append,sz,sz];omega)]
   rfl)) z12
  (fun W hW=>zJ.calls _ _ _ W hW zf) z12
 refine core.mono ?_
 rintro e w' ⟨rfl,hb⟩
 refine⟨?_,hb⟩
 refine congrArg (fun s=>Ending.returned (.string s)) ?_
 rw[sz]
 unfold qA.text qA.cN
 by_cases hn:a0<0
 ·rw [if_pos (decide_eq_true hn), if_pos hn]
  by_cases he:Lib.trimRightB (Lib.repeatL [48] (4 - (Lib.decDigits (a0.natAbs % 10000)).length)++Lib.decDigits (a0.natAbs % 10000)) 48=[]
  ·rw [if_pos he, if_pos (by rw [he]; rfl)]
   exact(congrArg (· ++_) ((congrArg (· ++_) (qA.ju [45] _)).trans (qA.ju _ [46]))).trans (qA.ju _ [48])
  ·rw [if_neg he, if_neg (fun h0 => he (List.length_eq_zero_iff.1 h0))]
   exact(congrArg (· ++_) ((congrArg (· ++_) (qA.ju [45] _)).trans (qA.ju _ [46]))).trans (qA.ju _ _)
 ·rw [if_neg (by simpa using hn), if_neg hn]
  by_cases he:Lib.trimRightB (Lib.repeatL [48] (4 - (Lib.decDigits (a0.natAbs % 10000)).length)++Lib.decDigits (a0.natAbs % 10000)) 48=[]
  ·rw [if_pos he, if_pos (by rw [he]; rfl)]
   exact(congrArg (· ++_) ((congrArg (· ++_) (qA.ju [] _)).trans (qA.ju _ [46]))).trans (qA.ju _ [48])
  ·rw [if_neg he, if_neg (fun h0 => he (List.length_eq_zero_iff.1 h0))]
   exact(congrArg (· ++_) ((congrArg (· ++_) (qA.ju [] _)).trans (qA.ju _ [46]))).trans (qA.ju _ _)
def strings_ReplaceAll.f (a0 a1 a2:ByteArray):Option ByteArray:=if a0.size<4294967281 then(if 1≤a1.size then(if a0.size+Lib.countB a0 a1*a2.size≤140737488355328 then some ⟨(Lib.replaceAll a0.data.toList a1.data.toList a2.data.toList).toArray⟩else none)else none)else none
theorem strings_ReplaceAll.calls (a0 a1 a2:ByteArray) (r:ByteArray) (w:World) (hG:Laid w) (h:strings_ReplaceAll.f a0 a1 a2=some r):
  Calls Tryz.prog 143 #[.string a0,.string a1,.string a2] w fun e w'=>e= .returned (.string r)∧Below w.heap.size w w':=by
 unfold strings_ReplaceAll.f at h
 split at h;rotate_left;· cases h
 split at h;rotate_left;· cases h
 split at h;rotate_left;· cases h
 rename_i h1 h2 h3
 obtain rfl:=Option.some.inj h
 obtain⟨m,hm⟩:=hG.2.2
 exact Tryz.strings_ReplaceAll a0 a1 a2 m w h1 hm h2 h3
def jb.f (a0_0 a0_1:Int) (a0_2:ByteArray):Option ByteArray:=
 (kv.f a0_0 a0_1 a0_2).bind fun c =>
  if c=0 then
   (if a0_0 = 1 then some (if a0_1 = 1 then (⟨#[116, 114, 117, 101]⟩ : ByteArray) else ⟨#[102, 97, 108, 115, 101]⟩)
    else if a0_0=2 then strconv_Itoa.f a0_1
    else if a0_0=3 then qA.f a0_1
    else if a0_0=4 then(strings_ReplaceAll.f a0_2 ⟨#[39]⟩ ⟨#[39,39]⟩).bind fun t=>if t.size≤140737488355328 then some (⟨#[39]⟩++t++⟨#[39]⟩)else none
    else some ⟨#[110,117,108,108]⟩)
  else some ⟨#[]⟩
set_option maxHeartbeats 8000000 in
set_option maxRecDepth 100000 in
theorem jb.calls (a0_0 a0_1:Int) (a0_2:ByteArray) (r:ByteArray) (w:World) (hG:Laid w) (h:jb.f a0_0 a0_1 a0_2=some r):
  Calls Tryz.prog 88 #[.agg #[.int .i64 a0_0,.int .i64 a0_1,.string a0_2]] w fun e w'=>e= .returned (.string r)∧Below w.heap.size w w':=by
 have hb0:Below w.heap.size w (w.alloc (.cells #[.int .i64 a0_0,.int .i64 a0_1,.string a0_2] 24)):=(Below.refl _ _).alloc (Nat.le_refl _) _
 unfold jb.f at h
 replace h:=Option.bind_eq_some_iff.1 h
 obtain⟨c,hc,h⟩:=h
 have hl:=hG.below hb0
 have CK:=Lib.hid (kv.calls a0_0 a0_1 a0_2 c _ hl hc)
 have HB:=Lib.hid hb0
 have HL:=Lib.hid hl
 have HC:=Lib.hid hc
 clear hl hG hb0 hc
 by_cases c0:c=0
 ·subst c0
  rw[if_pos rfl]at h
  by_cases k1:a0_0=1
  ·subst k1
   rw[if_pos rfl]at h
   by_cases n1:a0_1=1
   all_goals
    first
     |(subst n1;rw[if_pos rfl]at h)
     |(rw[if_neg n1]at h;have n1b:(a0_1==1)=false:=by simpa using n1)
    try clear n1
    obtain rfl:=Option.some.inj h
    clear h
    go_enter Tryz.func88,Tryz.ntmps88
    go_wp2_with fail
    refine CK.out.mono ?_
    rintro e w1 ⟨rfl,hb1⟩
    have HB1:=Lib.hid (HB.out.trans (hb1.mono z15))
    have q0:w1.cell? ⟨w.heap.size,0,none⟩=some (.int .i64 1):=(hb1.cell (p:=⟨w.heap.size,0,none⟩) z15).trans (World.cell?_alloc_new _ _ _ _)
    have q1:=(hb1.cell (p:=⟨w.heap.size,1,none⟩) z15).trans (World.cell?_alloc_new _ _ _ _)
    simp at q1
    clear hb1
    go_wp2
    go_ret
    exact⟨rfl,HB1.out⟩
  rw[if_neg k1]at h
  by_cases k2:a0_0=2
  ·subst k2
   rw[if_pos rfl]at h
   clear k1
   go_enter Tryz.func88,Tryz.ntmps88
   go_wp2_with fail
   refine CK.out.mono ?_
   rintro e w1 ⟨rfl,hb1⟩
   have HB1:=Lib.hid (HB.out.trans (hb1.mono z15))
   have HL1:=Lib.hid (HL.out.below hb1)
   have q0:w1.cell? ⟨w.heap.size,0,none⟩=some (.int .i64 2):=(hb1.cell (p:=⟨w.heap.size,0,none⟩) z15).trans (World.cell?_alloc_new _ _ _ _)
   have q1:w1.cell? ⟨w.heap.size,1,none⟩=some (.int .i64 a0_1):=(hb1.cell (p:=⟨w.heap.size,1,none⟩) z15).trans (World.cell?_alloc_new _ _ _ _)
   have q2:w1.cell? ⟨w.heap.size,2,none⟩=some (.string a0_2):=(hb1.cell (p:=⟨w.heap.size,2,none⟩) z15).trans (World.cell?_alloc_new _ _ _ _)
   clear hb1
   have CC:=Lib.hid (strconv_Itoa.calls a0_1 r w1 HL1.out h)
   clear h
   go_wp2_with fail
   refine CC.out.mono ?_
   rintro e w2 ⟨rfl,hb2⟩
   have HB2:=Lib.hid (HB1.out.trans (hb2.mono HB1.out.size))
   clear hb2
   go_wp2
   go_ret
   exact⟨rfl,HB2.out⟩
  rw[if_neg k2]at h
  by_cases k3:a0_0=3
  ·subst k3
   rw[if_pos rfl]at h
   clear k1 k2
   go_enter Tryz.func88,Tryz.ntmps88
   go_wp2_with fail
   refine CK.out.mono ?_
   rintro e w1 ⟨rfl,hb1⟩
   have HB1:=Lib.hid (HB.out.trans (hb1.mono z15))
   have HL1:=Lib.hid (HL.out.below hb1)
   have q0:w1.cell? ⟨w.heap.size,0,none⟩=some (.int .i64 3):=(hb1.cell (p:=⟨w.heap.size,0,none⟩) z15).trans (World.cell?_alloc_new _ _ _ _)
   have q1:w1.cell? ⟨w.heap.size,1,none⟩=some (.int .i64 a0_1):=(hb1.cell (p:=⟨w.heap.size,1,none⟩) z15).trans (World.cell?_alloc_new _ _ _ _)
   have q2:w1.cell? ⟨w.heap.size,2,none⟩=some (.string a0_2):=(hb1.cell (p:=⟨w.heap.size,2,none⟩) z15).trans (World.cell?_alloc_new _ _ _ _)
   clear hb1
   have CC:=Lib.hid (qA.calls a0_1 r w1 HL1.out h)
   clear h
   go_wp2_with fail
   refine CC.out.mono ?_
   rintro e w2 ⟨rfl,hb2⟩
   have HB2:=Lib.hid (HB1.out.trans (hb2.mono HB1.out.size))
   clear hb2
   go_wp2
   go_ret
   exact⟨rfl,HB2.out⟩
  rw[if_neg k3]at h
  by_cases k4:a0_0=4
  ·subst k4
   rw[if_pos rfl]at h
   clear k1 k2 k3
   go_enter Tryz.func88,Tryz.ntmps88
   go_wp2_with fail
   refine CK.out.mono ?_
   rintro e w1 ⟨rfl,hb1⟩
   have HB1:=Lib.hid (HB.out.trans (hb1.mono z15))
   have HL1:=Lib.hid (HL.out.below hb1)
   have q0:w1.cell? ⟨w.heap.size,0,none⟩=some (.int .i64 4):=(hb1.cell (p:=⟨w.heap.size,0,none⟩) z15).trans (World.cell?_alloc_new _ _ _ _)
   have q1:w1.cell? ⟨w.heap.size,1,none⟩=some (.int .i64 a0_1):=(hb1.cell (p:=⟨w.heap.size,1,none⟩) z15).trans (World.cell?_alloc_new _ _ _ _)
   have q2:w1.cell? ⟨w.heap.size,2,none⟩=some (.string a0_2):=(hb1.cell (p:=⟨w.heap.size,2,none⟩) z15).trans (World.cell?_alloc_new _ _ _ _)
   clear hb1
   replace h:=Option.bind_eq_some_iff.1 h
   obtain⟨t,ht,h⟩:=h
   split at h;rotate_left;· cases h
   rename_i hsz
   obtain rfl:=Option.some.inj h
   have CC:=Lib.hid (strings_ReplaceAll.calls a0_2 ⟨#[39]⟩ ⟨#[39,39]⟩ t w1 HL1.out ht)
   clear h ht
   go_wp2_with fail
   refine CC.out.mono ?_
   rintro e w2 ⟨rfl,hb2⟩
   have HB2:=Lib.hid (HB1.out.trans (hb2.mono HB1.out.size))
   clear hb2
   go_wp2
   go_ret
   exact⟨rfl,HB2.out⟩
  rw[if_neg k4]at h
  obtain rfl:=Option.some.inj h
  have k1b:(a0_0==1)=false:=by simpa using k1
  have k2b:(a0_0==2)=false:=by simpa using k2
  have k3b:(a0_0==3)=false:=by simpa using k3
  have k4b:(a0_0==4)=false:=by simpa using k4
  clear h k1 k2 k3 k4
  go_enter Tryz.func88,Tryz.ntmps88
  go_wp2_with fail
  refine CK.out.mono ?_
  rintro e w1 ⟨rfl,hb1⟩
  have HB1:=Lib.hid (HB.out.trans (hb1.mono z15))
  have q0:w1.cell? ⟨w.heap.size,0,none⟩=some (.int .i64 a0_0):=(hb1.cell (p:=⟨w.heap.size,0,none⟩) z15).trans (World.cell?_alloc_new _ _ _ _)
  clear hb1
  go_wp2
  go_ret
  exact⟨rfl,HB1.out⟩
 ·rw [if_neg c0] at h
  obtain rfl:=Option.some.inj h
  have c0b:(c==0)=false:=by simpa using c0
  have c0n:(c != 0)=true:=by simpa using c0
  clear h c0
  go_enter Tryz.func88,Tryz.ntmps88
  go_wp2_with fail
  refine CK.out.mono ?_
  rintro e w1 ⟨rfl,hb1⟩
  have HB1:=Lib.hid (HB.out.trans (hb1.mono z15))
  clear hb1
  go_wp2
  go_ret
  exact⟨rfl,HB1.out⟩
def qQ.one (lo hi d:Int) (c:UInt8):UInt8:=if lo≤(c.toNat:Int)∧(c.toNat:Int)≤hi then UInt8.ofNat (((c.toNat:Int)+d) % 256).toNat else c
def qQ.g (lo hi d:Int) (s:ByteArray):ByteArray:=⟨(s.data.toList.map (qQ.one lo hi d)).toArray⟩
def qQ.f (a0:ByteArray) (a1 a2 a3:Int):Option ByteArray:=if a0.size≤9223372036854775807 then(if -1000≤a3 then(if a3≤1000 then some (qQ.g a1 a2 a3 a0)else none)else none)else none
def qQ.R (lo hi d:Int) (s:ByteArray) (w:World) (k:Nat) (wr:World):Prop:=
 Below w.heap.size w wr∧w.heap.size<wr.heap.size∧
 (∀j,j<s.size→wr.cell? ⟨w.heap.size,j,none⟩=some (.int .u8 (if j<k then((qQ.one lo hi d (s.data.toList.getD j 0)).toNat:Int)else((s.data.toList.getD j 0).toNat:Int))))∧
 (∀j,j<s.size→wr.frozen? ⟨w.heap.size,j,none⟩=false)
theorem qQ.start (lo hi d:Int) (s:ByteArray) (w:World):qQ.R lo hi d s w 0 (Lib.bytesWorld w 5 s):=by
 refine⟨⟨?_,?_,?_,?_,?_⟩,by rw[Lib.bytesWorld_size];omega,fun j hj=> ?_,fun j hj=> ?_⟩
 ·simp[Lib.bytesWorld,World.freeze,World.alloc,World.drew,-World.alloc_eq,-World.drew_eq]
 ·simp[Lib.bytesWorld,World.freeze,World.alloc,World.drew,-World.alloc_eq,-World.drew_eq]
 ·simp[Lib.bytesWorld,World.freeze,World.alloc,World.drew,-World.alloc_eq,-World.drew_eq]
 ·rw[Lib.bytesWorld_size];omega
 ·exact fun k hk=>Lib.bytesWorld_at_old w _ s k hk
 ·rw[Lib.bytesWorld_cell w _ s j hj,if_neg z14]
 ·unfold World.frozen?
  rw[Lib.bytesWorld_at_new]
  have:(Lib.bytesCells w 5 s).size=s.size+(grownCap w s.size 0 5 - s.size):=by
   unfold Lib.bytesCells
   simp
  simp
  omega
theorem qQ.jT {lo hi d:Int} {s:ByteArray} {w:World} {k:Nat} {wr:World} (h:qQ.R lo hi d s w k wr) (hk:k<s.size)
  (hn: ¬(lo≤((s.data.toList.getD k 0).toNat:Int)∧((s.data.toList.getD k 0).toNat:Int)≤hi)):qQ.R lo hi d s w (k+1) wr:=by
 obtain⟨h1,h2,h3,h4⟩:=h
 refine⟨h1,h2,fun j hj=> ?_,h4⟩
 rw[h3 j hj]
 by_cases e:j=k
 ·subst e
  rw[if_neg z14,if_pos z14]
  unfold qQ.one
  rw[if_neg hn]
 ·by_cases e2 : j < k
  ·rw[if_pos e2,if_pos z14]
  ·rw[if_neg e2,if_neg z14]
theorem qQ.put {lo hi d:Int} {s:ByteArray} {w:World} {k:Nat} {wr:World} (h:qQ.R lo hi d s w k wr) (hk:k<s.size)
  (hn:lo≤((s.data.toList.getD k 0).toNat:Int)∧((s.data.toList.getD k 0).toNat:Int)≤hi):
  qQ.R lo hi d s w (k+1) (wr.setCell ⟨w.heap.size,k,none⟩ (.int .u8 ((((s.data.toList.getD k 0).toNat:Int)+d) % 256))):=by
 obtain⟨h1,h2,h3,h4⟩:=h
 refine⟨h1.setCell z15 _,by simpa using h2,fun j hj=> ?_,fun j hj=> ?_⟩
 ·by_cases e : j = k
  ·subst e
   rw[if_pos z14,World.cell?_setCell_same _ _ _ (h3 j hj)]
   unfold qQ.one
   rw[if_pos hn]
   congr 2
   have:((((s.data.toList.getD j 0).toNat:Int)+d) % 256).toNat<256:=by omega
   simp[UInt8.toNat_ofNat']
   omega
  ·rw [World.cell?_setCell_other _ _ _ _ (fun he => e (by simpa using (congrArg Addr.off he).symm)), h3 j hj]
   by_cases e2:j<k
   ·rw[if_pos e2,if_pos z14]
   ·rw[if_neg e2,if_neg z14]
 ·rw [World.frozen?_setCell]
  exact h4 j hj
set_option maxHeartbeats 4000000 in
theorem qQ.calls (a0:ByteArray) (a1 a2 a3:Int) (r:ByteArray) (w:World) (h:qQ.f a0 a1 a2 a3=some r):
  Calls Tryz.prog 85 #[.string a0,.int .u8 a1,.int .u8 a2,.int .i64 a3] w fun e w'=>e= .returned (.string r)∧Below w.heap.size w w':=by
 unfold qQ.f at h
 split at h;rotate_left;· cases h
 split at h;rotate_left;· cases h
 split at h;rotate_left;· cases h
 rename_i hs d1 d2
 obtain rfl:=Option.some.inj h
 clear h
 have Q6:=Lib.run_convert_string_bytes (P:=Tryz.prog) w 9 140 5 a0 Tryz.underlying9 Tryz.underlying140 Tryz.underlying5
 have H0:=qQ.start a1 a2 a3 a0 w
 obtain⟨W,hW⟩: ∃W,W=Lib.bytesWorld w 5 a0:=⟨_,rfl⟩
 obtain⟨cap,hc⟩: ∃cap,cap=grownCap w a0.size 0 5:=⟨_,rfl⟩
 rw[←hW,←hc]at Q6
 rw[←hW]at H0
 have H:=Lib.hid H0
 clear hW hc H0
 go_enter Tryz.func85,Tryz.ntmps85
 go_wp2
 go_loopw [16] (fun i wr=> ∃k:Nat,k≤a0.size∧i= .int .i64 k∧qQ.R a1 a2 a3 a0 w k wr) (fun i _=>a0.size - (intOf i).toNat)
 case atStart=>exact⟨0,Nat.zero_le _,rfl,H.out⟩
 case round=>
  obtain⟨k,hk,rfl,hR⟩:=hrel
  have HR:=Lib.hid hR
  clear hR
  by_cases hlt:k<a0.size
  ·have hcell := HR.out.2.2.1 k hlt
   rw[if_neg z14]at hcell
   have hfz:=HR.out.2.2.2 k hlt
   obtain⟨c,hcc⟩: ∃c,c=a0.data.toList.getD k 0:=⟨_,rfl⟩
   rw[←hcc]at hcell
   have hcb:(c.toNat:Int)≤255:=by have:=c.toNat_lt;omega
   have HC:=Lib.hid hcc
   clear hcc
   by_cases t1:a1≤(c.toNat:Int)
   ·by_cases t2 : (c.toNat : Int) ≤ a2
    ·have HP := Lib.hid (qQ.put HR.out hlt (by rw [← HC.out]; exact ⟨t1, t2⟩))
     rw[←HC.out]at HP
     go_wp2
     go_roundw
     case rel=>exact⟨k+1,by omega,by go_num,HP.out⟩
     case measure=>simp[intOf];omega
    ·have HP := Lib.hid (qQ.jT HR.out hlt (by rw [← HC.out]; exact fun h => t2 h.2))
     go_wp2
     go_roundw
     case rel=>exact⟨k+1,by omega,by go_num,HP.out⟩
     case measure=>simp[intOf];omega
   ·have HP := Lib.hid (qQ.jT HR.out hlt (by rw [← HC.out]; exact fun h => t1 h.1))
    go_wp2
    go_roundw
    case rel=>exact⟨k+1,by omega,by go_num,HP.out⟩
    case measure=>simp[intOf];omega
  ·obtain rfl : k = a0.size := by omega
   have hlen:(a0.data.toList.map (qQ.one a1 a2 a3)).length=a0.size:=by simp
   have K0:=run_convert_bytes_back (P:=Tryz.prog) wr 140 9 5 ⟨w.heap.size,0,none⟩ cap (a0.data.toList.map (qQ.one a1 a2 a3)) Tryz.underlying140 Tryz.underlying5 Tryz.underlying9 (fun j hj=>by
    rw[hlen]at hj
    have:=HR.out.2.2.1 j hj
    rw[if_pos hj]at this
    have ha:(Addr.add ⟨w.heap.size,0,none⟩ j)=⟨w.heap.size,j,none⟩:=by unfold Addr.add;split<;>simp_all
    rw[ha,this]
    simp[List.getD,hj])
   rw[hlen]at K0
   go_wp2
   go_ret
   exact⟨rfl,HR.out.1⟩
def qH.pts (s:ByteArray):Nat→Nat→List Int
 |0,_=>[]
 |n+1,i=>if i<s.size then Int.ofNat (Utf8.decode s i).1::qH.pts s n (i+(Utf8.decode s i).2)else[]
theorem qH.VV (s:ByteArray): ∀(n i:Nat) (acc:Array Value),Conv.runesFrom s n i acc=acc++((qH.pts s n i).map (Value.int .i32)).toArray
 |0,i,acc=>by simp[Conv.runesFrom,qH.pts]
 |n+1,i,acc=>by
  unfold Conv.runesFrom qH.pts
  split
  ·have := qH.VV s n (i + (Utf8.decode s i).2) (acc.push (.int .i32 (Int.ofNat (Utf8.decode s i).1)))
   refine this.trans ?_
   simp
  ·simp
def qH.from_ (l:List Int) (a1:Int):Nat:=(min (max a1 0) (l.length:Int)).toNat
def qH.cnt (l:List Int) (a1 a2:Int):Nat:=(min (max a2 0) ((l.length:Int) - min (max a1 0) (l.length:Int))).toNat
def qH.g (s:ByteArray) (a1 a2:Int):ByteArray:=
 runesBytes (((qH.pts s s.size 0).drop (qH.from_ (qH.pts s s.size 0) a1)).take (qH.cnt (qH.pts s s.size 0) a1 a2))
def qH.f (a0:ByteArray) (a1 a2:Int):Option ByteArray:=if a0.size≤70368744177664 then(if -9223372036854775808≤a1 then(if a1≤9223372036854775807 then(if -9223372036854775808≤a2 then(if a2≤9223372036854775807 then some (qH.g a0 a1 a2)else none)else none)else none)else none)else none
theorem qH.bn (s:ByteArray): ∀(n i:Nat),(qH.pts s n i).length≤n
 |0,i=>by simp[qH.pts]
 |n+1,i=>by
  unfold qH.pts
  split
  ·have := qH.bn s n (i + (Utf8.decode s i).2)
   simp;omega
  ·simp
set_option maxHeartbeats 4000000 in
set_option maxRecDepth 100000 in
theorem qH.calls (a0:ByteArray) (a1 a2:Int) (r:ByteArray) (w:World) (h:qH.f a0 a1 a2=some r):
  Calls Tryz.prog 87 #[.string a0,.int .i64 a1,.int .i64 a2] w fun e w'=>e= .returned (.string r)∧Below w.heap.size w w':=by
 unfold qH.f at h
 split at h;rotate_left;· cases h
 split at h;rotate_left;· cases h
 split at h;rotate_left;· cases h
 split at h;rotate_left;· cases h
 split at h;rotate_left;· cases h
 rename_i hs c1 c2 d1 d2
 obtain rfl:=Option.some.inj h
 clear h
 unfold qH.g qH.from_ qH.cnt
 obtain⟨l,hl⟩: ∃l,l=qH.pts a0 a0.size 0:=⟨_,rfl⟩
 have hlen:l.length≤a0.size:=by rw[hl];exact qH.bn _ _ _
 have hrun:Conv.runesFrom a0 a0.size 0 #[]=(l.map (Value.int .i32)).toArray:=by rw[qH.VV,hl];simp
 have Q6:=run_runes_of_string (P:=Tryz.prog) w 9 177 21 a0 Tryz.underlying9 Tryz.underlying177 Tryz.underlying21 (by rw[hrun];simp;omega)
 rw[←hl]
 rw[hrun]at Q6
 simp only[List.size_toArray,List.length_map]at Q6
 obtain⟨cap,hc⟩: ∃cap,cap=grownCap w l.length 0 21:=⟨_,rfl⟩
 have hcl:l.length≤cap:=by rw[hc];exact grownCap_ge _ _ _ _
 rw[←hc]at Q6
 obtain⟨W,hW⟩: ∃W,W=w.drew.alloc (.cells ((l.map (Value.int .i32)).toArray++Array.replicate (cap - l.length) (.int .i32 0)) 21):=⟨_,rfl⟩
 rw[←hW]at Q6
 have sd:Below w.heap.size w W:=by rw[hW];exact(zr (Below.refl _ _)).alloc z15 _
 have hcell: ∀j,j<l.length→W.cell? ⟨w.heap.size,j,none⟩=some (.int .i32 (l.getD j 0)):=by
  intro j hj
  rw[hW]
  refine(World.cell?_alloc_new w.drew ((l.map (Value.int .i32)).toArray++Array.replicate (cap - l.length) (.int .i32 0)) 21 j).trans ?_
  simp[List.getD,hj,Array.getElem?_append_left]
 have HB:=Lib.hid sd
 have HC:=Lib.hid hcell
 obtain⟨p,hp⟩: ∃p:Nat,(p:Int)=min (max a1 0) (l.length:Int):=⟨(min (max a1 0) (l.length:Int)).toNat,by omega⟩
 obtain⟨q,hq⟩: ∃q:Nat,(q:Int)=min (max a2 0) ((l.length:Int) - (p:Int)):=⟨(min (max a2 0) ((l.length:Int) - (p:Int))).toNat,by omega⟩
 rw[←hp,←hq]
 have hpl:p≤l.length:=by omega
 have hql:p+q≤l.length:=by omega
 simp only[Int.toNat_natCast]
 clear hl hrun hW sd hcell hc
 have K0: ∀(o n c:Nat),o+n≤l.length→(convert 177 9 (.slice (some ⟨w.heap.size,o,none⟩) n c)).run Tryz.prog W= .ok (.string (runesBytes ((l.drop o).take n))) W:=by
  intro o n c hon
  exact run_convert_runes (P:=Tryz.prog) W 177 9 21 ⟨w.heap.size,o,none⟩ n c (l.drop o) (by simp;omega) Tryz.underlying177 Tryz.underlying21 Tryz.underlying9 (fun j hj=>by
   simp at hj
   have ha:(Addr.add ⟨w.heap.size,o,none⟩ j)=⟨w.heap.size,o+j,none⟩:=by unfold Addr.add;split<;>simp_all
   rw[ha,HC.out (o+j) z14]
   simp[List.getD])
 have c1':(a1<0∧p=0)∨(0≤a1∧a1≤l.length∧a1=p)∨((l.length:Int)<a1∧p=l.length):=by omega
 have c2':(a2<0∧q=0)∨(0≤a2∧a2≤(l.length:Int) - p∧a2=q)∨((l.length:Int) - p<a2∧q=l.length - p):=by omega
 clear hp hq
 have W8:cap=p→(convert 177 9 (.slice (some ⟨w.heap.size,0,none⟩) q 0)).run Tryz.prog W= .ok (.string (runesBytes ((l.drop p).take q))) W:=by
  intro hcp
  have hq0:q=0:=by omega
  subst hq0
  have:=K0 0 0 0 z14
  simpa using this
 have hb:=K0 p q (cap - p) hql
 clear K0
 have cwp:cap=p∨(cap=p)=False:=by by_cases e:cap=p<;>simp[e]
 obtain⟨n,hn⟩: ∃n,n=l.length:=⟨_,rfl⟩
 rw[←hn]at c1' c2' hpl hql hlen hcl Q6
 clear HC
 obtain⟨res,hres⟩: ∃res,res=runesBytes ((l.drop p).take q):=⟨_,rfl⟩
 rw[←hres]at hb W8 ⊢
 clear hres hn
 rcases cwp with hcp|hcp
 ·have hb0 := W8 hcp
  clear W8 hb
  have hq0:q=0:=by omega
  have hnp:n=p:=by omega
  subst hq0
  subst hnp
  have tf:(a1<0∧n=0)∨(n:Int)=a1∨(n:Int)<a1:=by omega
  have nH:a2<0∨a2=0∨0<a2:=by omega
  have hn9:(n:Int)≤9223372036854775807:=by omega
  clear c1' c2' hql hpl hcl
  rcases tf with⟨k1,rfl⟩|rfl|k1
  all_goals subst hcp
  all_goals rcases nH with k2|rfl|k2
  all_goals
   go_enter Tryz.func87,Tryz.ntmps87
   go_wp2
   go_ret
   exact⟨rfl,HB.out⟩
 ·clear W8
  have hn9:(n:Int)≤9223372036854775807:=by omega
  rcases c1' with⟨k1,rfl⟩|⟨k1,k1',rfl⟩|⟨k1,rfl⟩
  ·simp only [Nat.sub_zero] at hb
   rcases c2' with⟨k2,rfl⟩|⟨k2,k2',rfl⟩|⟨k2,rfl⟩
   all_goals try simp only[Nat.sub_zero,Int.natCast_zero,Int.sub_zero]at hb
   all_goals try simp only[Nat.sub_zero,Int.natCast_zero,Int.sub_zero]at k2
   all_goals try simp only[Nat.sub_zero,Int.natCast_zero,Int.sub_zero]at k2'
   all_goals
    go_enter Tryz.func87,Tryz.ntmps87
    go_wp2
    go_ret
    exact⟨rfl,HB.out⟩
  ·rcases c2' with ⟨k2, rfl⟩ | ⟨k2, k2', rfl⟩ | ⟨k2, rfl⟩
   ·go_enter Tryz.func87, Tryz.ntmps87
    go_wp2
    go_ret
    exact⟨rfl,HB.out⟩
   ·have k3 : (p : Int) + q ≤ n := by omega
    go_enter Tryz.func87,Tryz.ntmps87
    go_wp2
    go_ret
    exact⟨rfl,HB.out⟩
   ·have hpn : (p : Int) ≤ n := by omega
    obtain⟨q,rfl⟩: ∃q,n=p+q:=⟨n - p,by omega⟩
    rw[Nat.add_sub_cancel_left]at hb
    have k5:((p+q:Nat):Int) - p=(q:Int):=by omega
    rw[k5]at k2
    go_enter Tryz.func87,Tryz.ntmps87
    go_wp2
    go_ret
    exact⟨rfl,HB.out⟩
  ·have hq0 : q = 0 := by omega
   subst hq0
   have nH:a2<0∨a2=0∨0<a2:=by omega
   clear c2' hql hpl
   rcases nH with k2|rfl|k2
   all_goals
    go_enter Tryz.func87,Tryz.ntmps87
    go_wp2
    go_ret
    exact⟨rfl,HB.out⟩
end Go.Proofs.YtaiokpmmjbiajaaGreatDoor.PLeaf
