/- The interpreter of the model's programs and the proof that it is sound. No condition beyond those that each theorem names. -/
import Derived.Test.YtaiokpmmjbiajaaGreatDoorAD0
import Derived.RecoverIn
import Derived.RangeFuncLeaves
import Derived.OrdersIn
set_option linter.unusedSectionVars false
set_option linter.unusedVariables false
set_option linter.unusedSimpArgs false
namespace Go.Proofs.YtaiokpmmjbiajaaGreatDoorDx
section
open Go
variable [Eta]
section
variable {c:Cfg} {base:Nat} {I:World→Prop} {call:kW}
def zl:Code→List Code
 | .loop a=>a::zl a
 | .seq a b=>zl a++zl b
 | .cond _ a b=>zl a++zl b
 | .block _ a=>zl a
 |_=>[]
def bR (c:Cfg) (base:Nat) (I:World→Prop) (lp:Code→St→Option (List (Ex×St))) (b:Code):Prop:=
 ∀s outs,lp b s=some outs→ ∀(ρ:Emb) a w,SR c base I ρ s a w→(∀o∈outs,kX ρ s.h.n o.2.h.n)→(Code.loop b).wpIn (FW none) 0 c.P (CQ c base I ρ s w outs) a w
def jY (c:Cfg) (base:Nat) (I:World→Prop):Prop:= ∀f fn q,c.fns f=some fn→fn.body=some q→ ∀b∈zl q,bR c base I (c.lops f) b
theorem jY.none {c:Cfg} {base:Nat} {I:World→Prop} (h: ∀f b s,c.lops f b s=none):jY c base I:=fun f fn q _ _ b _ s outs e=>by rw[h]at e;cases e
theorem Wp (hc:zu c) (hI:Inv base I) (hcall:jm c base I call) (hprim:wj c base I) (hreg:V4 c base I call) {lp:Code→St→Option (List (Ex×St))} {ro:Bool} {r:Option Nat} (hro:ro=false→r=none): ∀(k:Nat) (q:Code) (hlp:ro=false→ ∀b∈zl q,bR c base I lp b) (s:St) (outs:List (Ex×St)),vx c call lp ro k q s= .ok outs→ ∀(ρ:Emb) (a:Act) (w:World),SR c base I ρ s a w→(∀o∈outs,kX ρ s.h.n o.2.h.n)→
  q.wpIn (FW r) 0 c.P (CQ c base I ρ s w outs) a w
 |0,q,hlp,s,outs,h,ρ,a,w,hs,hf=>by cases h
 |k+1,q,hlp,s,outs,h,ρ,a,w,hs,hf=>by
  have ih:=Wp hc hI hcall hprim hreg (lp:=lp) hro k
  have stay: ∀(_:Nat),To c base I ρ s w s a w:=fun _=>⟨ρ,hs,(Ext.refl hs.rel).weaken (fun b hb=>by cases hb) hs.wr⟩
  cases q with
  |skip=>cases h;exact wpIn_skip ⟨_,AL.2 rfl,trivial,stay 0⟩
  |label l=>cases h;exact wpIn_label ⟨_,AL.2 rfl,trivial,stay 0⟩
  |exit id=>cases h;exact wpIn_exit ⟨_,AL.2 rfl,rfl,stay 0⟩
  |ret=>cases h;exact wpIn_ret ⟨(.ret,s),AL.2 rfl,trivial,stay 0⟩
  |region id ops d=>exact(hreg ro id ops d s outs h).2 r hro ρ a w hs hf
  |scope q=>cases h
  |cond x qa qb=>
   simp only[vx]at h
   split at h
   ·rename_i v hv
    have hx:=hs.tr.ev hs.glob x _ hv
    generalize hxe:a.eval x=xe at hx
    cases hx
    refine wpIn_cond hxe ?_
    cases v
    ·exact ih qb (fun hr b hb=>hlp hr b (by simp[zl,hb])) s outs h ρ a w hs hf
    ·exact ih qa (fun hr b hb=>hlp hr b (by simp[zl,hb])) s outs h ρ a w hs hf
   ·cases h
  |seq qa qb=>
   simp only[vx]at h
   obtain⟨l,h1,h2⟩:=R.zG h
   have uX:=vp hreg k qa s l h1
   have mH: ∀o∈l,∃rx,(match o.1 with| .normal=>vx c call lp ro k qb o.2|e=> .ok [(e,o.2)])=R.ok rx∧(∀y∈rx,y∈outs)∧UpX o.2 rx:=fun o ho=>by
    obtain⟨rx,k1,k2⟩:=vX h2 o ho
    refine⟨rx,k1,k2,?_⟩
    obtain⟨e,s'⟩:=o
    cases e with
    |normal=>exact vp hreg k qb s' rx k1
    |exit i=>cases k1;exact UpX.one _ _
    |ret=>cases k1;exact UpX.one _ _
   have hfl: ∀o∈l,kX ρ s.h.n o.2.h.n:=fun o ho=>by
    obtain⟨rx,k1,k2,k3⟩:=mH o ho
    obtain⟨y,hy⟩:=BZ rx k3.ne
    exact(hf y (k2 y hy)).mono (k3.n y hy)
   refine wpIn_seq (wpIn_mono (ih qa (fun hr b hb=>hlp hr b (by simp[zl,hb])) s l h1 ρ a w hs hfl) ?_)
   rintro e a' w' ⟨⟨x,s'⟩,ho,hex,ρ',hs',hx'⟩
   obtain⟨rx,k1,k2,k3⟩:=mH _ ho
   cases x with
   |normal=>
    cases e<;>first|exact False.elim hex|skip
    refine wpIn_mono (ih qb (fun hr b hb=>hlp hr b (by simp[zl,hb])) s' rx k1 ρ' a' w' hs' (fun y hy=>(hf y (k2 y hy)).after hx')) ?_
    rintro e a'' w'' ⟨o,o1,o2,o3⟩
    exact⟨o,k2 o o1,o2,To.comp (hf o (k2 o o1)) hs hx' o3 (fun b hb=>k3.w o o1 b hb)⟩
   |exit i=>
    cases k1
    cases e<;>first|exact False.elim hex|skip
    exact⟨_,k2 _ (by simp),hex,ρ',hs',hx'⟩
   |ret=>
    cases k1
    cases e<;>first|exact False.elim hex|skip
    exact⟨(.ret,s'),k2 _ (by simp),trivial,ρ',hs',hx'⟩
  |loop q=>
   simp only[vx]at h
   split at h
   ·rename_i l hl
    cases h
    obtain⟨hr0,h1,_⟩:=JM hl
    obtain rfl:=hro hr0
    exact hlp hr0 q (by simp[zl]) s outs h1 ρ a w hs hf
   exact wpIn_loop_rounds k (bg hreg (ih q (fun hr b hb=>hlp hr b (by simp[zl,hb]))) hs k [s] outs h hf ⟨by simp,by simp,by simp⟩ s (by simp) ρ a w hs ((Ext.refl hs.rel).weaken (fun b hb=>by cases hb) hs.wr))
  |block id q=>
   simp only[vx]at h
   obtain⟨l,h1,h2⟩:=R.zG h
   cases h2
   have hb: ∀p:Ex×St,(ZC id p).2=p.2:=fun p=>by obtain⟨e,s⟩:=p;cases e<;>rfl
   refine wpIn_block (wpIn_mono (ih q (fun hr b hb=>hlp hr b (by simpa[zl]using hb)) s l h1 ρ a w hs (fun o ho=>by have:=hf _ (Bk.2 ⟨o,ho,rfl⟩);rw[hb]at this;exact this)) ?_)
   rintro e a' w' ⟨⟨x,s'⟩,hx,hex,ht⟩
   have hm:=List.mem_map_of_mem (f:=ZC id) hx
   cases x with
   |normal=>cases e<;>first|exact False.elim hex|exact⟨_,hm,trivial,ht⟩
   |ret=>cases e<;>first|exact False.elim hex|exact⟨_,hm,trivial,ht⟩
   |exit i=>
    cases e<;>first|exact False.elim hex|skip
    rename_i j
    obtain rfl:i=j:=hex
    have hm:((bif Nat.beq i id then Ex.normal else Ex.exit i,s'):Ex×St)∈l.map (ZC id):=hm
    by_cases hid:i=id
    ·subst hid
     simp only[Exit.inBlock,if_true]
     rw[show Nat.beq i i=true from by simp]at hm
     exact⟨_,hm,trivial,ht⟩
    ·simp only [Exit.inBlock, Aq hid]
     rw[dH hid]at hm
     exact⟨_,hm,rfl,ht⟩
  |rangeFunc g ps as bd=>cases h
  |goto l=>cases h
  |refuse w=>cases h
end
end
section
open Go
variable [Eta]
section
variable {c:Cfg} {base:Nat} {I:World→Prop} {call:kW}
theorem Wc: ∀(l:List Value) (T:PT Value) (i j:Nat),i+l.length≤lim→(Qi T i l).get j=if i≤j∧j<i+l.length then l[j - i]? else T.get j
 |[],T,i,j,h=>by
  have:Qi T i []=T:=rfl
  rw[this,Aq (fun hh=>by have h1:=hh.1;have h2:=hh.2;simp at h2;omega)]
 |v::l,T,i,j,h=>by
  have e:Qi T i (v::l)=Qi (T.put i (some v)) (i+1) l:=rfl
  simp at h
  rw[e,Wc l _ (i+1) j (by omega)]
  by_cases h1:j=i
  ·subst h1
   rw[Aq (by omega),Ax (by simp),PT.zx _ _ _ (by omega)]
   simp
  ·by_cases h2 : i + 1 ≤ j ∧ j < i + 1 + l.length
   ·rw [Ax h2, Ax (by simp; omega)]
    obtain⟨m,rfl⟩: ∃m,j=i+1+m:=⟨j - (i+1),by omega⟩
    rw[show i+1+m - i=m+1 by omega,show i+1+m - (i+1)=m by omega]
    rfl
   ·rw[Aq h2,Aq (by simp;omega),PT.qL _ _ _ _ h1]
theorem TR.start {ρ:Emb} {w:World} {args args':List Value} {n:Nat} (hv:VRL ρ w args args') (hn:args.length≤n) (hl:n<lim):
  TR ρ w ⟨Qi .leaf 0 args,n⟩ {tmps:=args'.toArray++Array.replicate (n - args'.toArray.size) undef,defers:=[]}:=by
 have hlen:=hv.len
 refine⟨by simp;omega,fun t ht v hv'=> ?_⟩
 have ht':t<n:=ht
 unfold Tm.get at hv'
 simp only at hv'
 rw[Wc args .leaf 0 t (by omega)]at hv'
 by_cases h:t<args.length
 ·rw [Ax (by omega), Bq] at hv'
  obtain⟨y,h2,h3⟩:=hv.get hv'
  have h4:(args'.toArray++Array.replicate (n - args'.toArray.size) undef).getD t undef=y:=by
   rw[Array.getD_eq_getD_getElem?,Array.getElem?_append_left (by simp;omega)]
   simp[h2]
  rw[h4]
  exact h3
 ·rw [Aq (by omega), PT.yN] at hv'
  cases hv'
theorem wT (hc:zu c) {ρ:Emb} {T:Tm} {h:Hp} {a:Act} {w:World} (htr:TR ρ w T a) (hr:Rel base c.n0 ρ h.t.get w): ∀(l:List ResultVar) (vs:List Value),Zl c T h l=some vs→
  ∃vs':List Value,(l.mapM (fun(r:ResultVar)=>match r with| .tmp t=>(pure (a.tmps.getD t undef):Sem Value)| .cell x t=>do loadVar t (←asAddr (a.tmps.getD x undef)))).run c.P w= .ok vs' w∧VRL ρ w vs vs'
 |[],vs,h=>by cases h;exact⟨[],rfl,VRL.nil⟩
 | .tmp t::r,vs,h=>by
  simp only[Zl]at h
  cases e:Nat.blt t T.m with
  |false=>rw[e]at h;cases h
  |true=>
   rw[e]at h
   simp only[Ai]at h
   replace h:=zz h
   obtain⟨v,h0,h⟩:=h
   obtain⟨l,h1,rfl⟩:=Ak.1 h
   obtain⟨vs',h2,h3⟩:=wT hc htr hr r l h1
   refine⟨a.tmps.getD t undef::vs',?_,VRL.cons (htr.at_ t (kQ e) v h0) h3⟩
   simp only[List.mapM_cons,Sem.run_bind,Sem.run_pure,Result.andThen,h2]
 | .cell x t::r,vs,h=>by
  simp only[Zl]at h
  cases e:Nat.blt x T.m with
  |false=>rw[e]at h;cases h
  |true=>
   rw[e]at h
   simp only[Ai]at h
   replace h:=zz h
   obtain⟨xv,h0,h⟩:=h
   replace h:=zz h
   obtain⟨v,h1,h⟩:=h
   obtain⟨l,h2,rfl⟩:=Ak.1 h
   obtain⟨vs',h3,h4⟩:=wT hc htr hr r l h2
   have hx:=htr.at_ x (kQ e) xv h0
   have h1':=h1
   unfold Vm at h1'
   split at h1'
   ·rename_i b o
    obtain⟨k,d,v',f1,f2,f3⟩:=ZS hc hr hx h1
    refine⟨v'::vs',?_,VRL.cons f3 h4⟩
    simp only[List.mapM_cons,Sem.run_bind,f1]
    rw[show (asAddr (.pointer (some ⟨k,o+d,none⟩))).run c.P w= .ok ⟨k,o+d,none⟩ w from rfl]
    simp only[Result.andThen,f2,h3,Sem.run_pure]
   ·cases h1'
theorem hY {ρ:Emb} {w:World} {vs vs':List Value} (h:VRL ρ w vs vs'):VR ρ w (Z8 vs) (Z8 vs'):=by
 unfold Z8
 cases vs with
 |nil=>obtain rfl:=h.kg;exact .tuple _ _ rfl (fun i x y hx=>by simp at hx)
 |cons v r=>
  obtain⟨v',r',rfl,h1,h2⟩:=h.zp
  cases r with
  |nil=>obtain rfl:=h2.kg;exact h1
  |cons u r=>
   obtain⟨u',r'',rfl,h3,h4⟩:=h2.zp
   exact .tuple _ _ h.len (fun i x y hx hy=>h.at_ i x y hx hy)
theorem JW (hc:zu c) {ρ:Emb} {T:Tm} {h:Hp} {a:Act} {w:World} {fn:Func} {vs:List Value} (htr:TR ρ w T a) (hr:Rel base c.n0 ρ h.t.get w) (hres:Zl c T h fn.results.toList=some vs):
  ∃v',(results fn a.tmps).run c.P w= .ok v' w∧VR ρ w (Z8 vs) v':=by
 obtain⟨vs',h1,h2⟩:=wT hc htr hr _ _ hres
 refine⟨Z8 vs',?_,hY h2⟩
 have h3:(fn.results.mapM (fun(r:ResultVar)=>match r with| .tmp t=>(pure (a.tmps.getD t undef):Sem Value)| .cell x t=>do loadVar t (←asAddr (a.tmps.getD x undef)))).run c.P w= .ok vs'.toArray w:=by
  rw[Array.mapM_eq_mapM_toList]
  rw[Sem.run_map,h1]
  rfl
 unfold results
 rw[Sem.run_bind]
 refine(Bg (fun r=>Result.andThen r _) ((Bg (fun g=>(Array.mapM (m:=Sem) g fn.results).run c.P w) (funext fun x=>by cases x<;>rfl)).trans h3)).trans ?_
 simp only[Result.andThen,Sem.run_pure]
 congr 1
 cases vs' with
 |nil=>rfl
 |cons v r=>cases r with
  |nil=>rfl
  |cons u r=>simp[Z8]
theorem bY: ∀(d:List Dfr) (h:Hp) (W:List Nat) (hs:List (Hp×List Nat)),xT c call d h W= .ok hs→hs≠[]∧ ∀q∈hs,h.n≤q.1.n∧ ∀b∈W,b∈q.2
 |[],h,W,hs,e=>by cases e;simp
 |_::l,h,W,hs,e=>by cases e
theorem fy (hcall:jm c base I call) (hI:Inv base I) {fn:Func} {tmps:Array Value} {Rp:Ending→World→Prop} {h0:Hp} {ρ0:Emb} {w0:World} (hr0:Rel base c.n0 ρ0 h0.t.get w0) (hg0:Vx c ρ0) (hi0:I w0): ∀(d:List Dfr) (h:Hp) (W:List Nat) (hs:List (Hp×List Nat)),xT c call d h W= .ok hs→
  ∀(ρ:Emb) (w:World) (ds:List Deferred),DR ρ w d ds→Ext base c.n0 ρ0 h0.t.get h0.n w0 ρ h.t.get h.n W w→(∀q∈hs,kX ρ0 h0.n q.1.n)→
   (∀q∈hs,∀ρ' w',ρ.le ρ'→Grow w w'→Ext base c.n0 ρ0 h0.t.get h0.n w0 ρ' q.1.t.get q.1.n q.2 w'→ ∃v,(results fn tmps).run c.P w'= .ok v w'∧Rp (.returned v) w')→LeavesInM Fence.wide 0 c.P fn tmps Rp ds .returning w
 |[],h,W,hs,e,ρ,w,[],hd,hx,hf,hK=>by
  cases e
  exact hK (h,W) (by simp) ρ w (.refl ρ) (.refl w) hx
 |[],h,W,hs,e,ρ,w,_::_,hd,hx,hf,hK=>hd.elim
 |_::l,h,W,hs,e,ρ,w,_,hd,hx,hf,hK=>by cases e
end
end
section
open Go
variable [Eta]
section
variable {c:Cfg} {base:Nat} {I:World→Prop} {call:kW}
theorem gj {fn:Func} {l:List (Ex×St)} {outs:List Out} (h:Xv c call fn l= .ok outs): ∀p∈l,(∀i,p.1≠ .exit i)∧ ∃hs,xT c call p.2.d p.2.h p.2.w= .ok hs∧ ∀q∈hs,∃vs,Zl c p.2.T q.1 fn.results.toList=some vs∧(Z8 vs,q.1,q.2)∈outs:=by
 intro p hp
 unfold Xv at h
 obtain⟨rx,h1,h2⟩:=vX h p hp
 have key:(∀i,p.1≠ .exit i)∧((xT c call p.2.d p.2.h p.2.w).bind fun hs=>Qe hs fun q=>(R.of "results" (Zl c p.2.T q.1 fn.results.toList)).bind fun vs=>R.ok [((Z8 vs,q.1,q.2):Out)])= .ok rx:=by
  split at h1
  ·cases h1
  ·rename_i hne;exact⟨fun i e=>hne i e,h1⟩
 obtain⟨k1,k2⟩:=key
 obtain⟨hs,h3,h4⟩:=R.zG k2
 refine⟨k1,hs,h3,fun q hq=> ?_⟩
 obtain⟨ry,h5,h6⟩:=vX h4 q hq
 obtain⟨vs,h7,h8⟩:=R.zG h5
 cases h8
 exact⟨vs,R.XS h7,h2 _ (h6 _ (by simp))⟩
theorem SR.start (hc:zu c) {ρ:Emb} {h:Hp} {w:World} {args args':List Value} {outs:List Out} {n:Nat} (hp:Pre c base I ρ h w args args' outs) (hn:args.length≤n) (hl:n<_root_.Go.Proofs.YtaiokpmmjbiajaaGreatDoorDx.lim):
  SR c base I ρ ⟨⟨Qi .leaf 0 args,n⟩,h,[],[]⟩ {tmps:=args'.toArray++Array.replicate (n - args'.toArray.size) undef,defers:=[]} w:=
 ⟨TR.start hp.args hn hl,trivial,hp.rel,hp.glob,AV hl,(fun b hb=>by cases hb),hp.inv⟩
theorem rL (hc:zu c) (hI:Inv base I) (hcall:jm c base I call) (hprim:wj c base I) (hreg:V4 c base I call) {f:FuncId} {fn:Func} {q:Code} (hlp: ∀b∈zl q,bR c base I (c.lops f) b) {args args':List Value} {h:Hp} {l:List (Ex×St)} {outs:List Out} (hfn:c.P.funcs[f]? =some fn) (hq:fn.body=some q)
  (hlen:args.length≤fn.ntmps) (hlim:fn.ntmps<lim) (h1:vx c call (c.lops f) false 100000 q ⟨⟨Qi .leaf 0 args,fn.ntmps⟩,h,[],[]⟩= .ok l) (h2:Xv c call fn l= .ok outs) {ρ:Emb} {w:World} (hp:Pre c base I ρ h w args args' outs):
  Calls c.P f args'.toArray w (CP c base ρ h w outs):=by
 have hs:=SR.start hc hp hlen hlim
 have hfo:=hp.free
 have bT:=gj h2
 refine(callsIn_wide (n:=0)).1 (callsIn_of_wp_marks hfn hq trivial ?_)
 refine wpIn_mono (Wp hc hI hcall hprim hreg (r:=none) (fun _=>rfl) 100000 q (fun _=>hlp) _ l h1 ρ _ w hs (fun o ho=> ?_)) ?_
 ·obtain ⟨g1, hs', g2, g3⟩ := bT o ho
  obtain⟨u1,u2⟩:=bY _ _ _ _ g2
  obtain⟨y,hy⟩:=BZ hs' u1
  obtain⟨vs,_,g4⟩:=g3 y hy
  exact(hfo _ g4).mono (u2 y hy).1
 ·rintro e a' w' ⟨p, hpl, hex, ρ', hs', hx⟩
  obtain⟨g1,hq',g2,g3⟩:=bT p hpl
  have fin:LeavesInM Fence.wide 0 c.P fn a'.tmps (CP c base ρ h w outs) a'.defers .returning w':=by
   refine fy hcall hI hp.rel hp.glob hp.inv p.2.d p.2.h p.2.w hq' g2 ρ' w' a'.defers hs'.dr hx (fun q hq=> ?_) (fun q hq ρ'' w'' hle hgr hxx=> ?_)
   ·obtain ⟨vs, _, g4⟩ := g3 q hq
    exact hfo _ g4
   ·obtain ⟨vs, g4, g5⟩ := g3 q hq
    obtain⟨v',f1,f2⟩:=JW hc ((hs'.tr.le hle).grow hgr) hxx.rel g4
    exact⟨v',f1,_,g5,v',ρ'',rfl,f2,hxx⟩
  obtain⟨x,s'⟩:=p
  cases x with
  |normal=>cases e<;>first|exact False.elim hex|exact fin
  |ret=>cases e<;>first|exact False.elim hex|exact fin
  |exit i=>exact absurd rfl (g1 i)
end
end
section
open Go
variable [Eta]
section
variable {c:Cfg} {base:Nat} {I:World→Prop} {call:kW}
theorem Xj (hc:zu c) (hI:Inv base I) (hname: ∀f fn,c.fns f=some fn→(fn.name== "runtime.NumGoroutine")=false) (hprim:wj c base I) (hlops:jY c base I) (hregs: ∀call,jm c base I call→V4 c base I call): ∀k,jm c base I (jP c k)
 |0=>⟨fun f args h outs ho=>(by cases ho),fun b args h outs ho=>(by cases ho)⟩
 |k+1=>by
  have ih:=Xj hc hI hname hprim hlops hregs k
  have hreg:=hregs _ ih
  refine⟨fun f args h outs ho ρ w args' hp=> ?_,fun b args h outs ho=> ?_⟩
  ·simp only [jP] at ho
   split at ho
   ·rename_i fn hfn
    split at ho
    ·rename_i q hq
     cases e:(Nat.ble args.length fn.ntmps&&Nat.blt fn.ntmps lim)with
     |false=>rw[e]at ho;cases ho
     |true=>
      rw[e]at ho
      simp only[Ag]at e
      simp only[Ai]at ho
      obtain⟨l,h1,h2⟩:=R.zG (R.ot ho)
      obtain⟨os,h3,h4⟩:=R.zG h2
      cases h4
      exact⟨fn,hc.fns f fn hfn,by rw[hq];rfl,hname f fn hfn,rL hc hI ih hprim hreg (hlops f fn q hfn hq) (hc.fns f fn hfn) hq (kU e.1) (kQ e.2) h1 h3 hp⟩
    ·cases ho
   ·cases ho
  ·cases ho
end
end
section
open Go
variable [Eta]
def FX {κ β:Type} (touch:Nat→κ→Prop) [∀j x,Decidable (touch j x)] (val:Nat→κ→β) (init:κ→β) (X:Nat→Bool):Nat→κ→β
  |0,x=>init x
  |k+1,x=>if X k=true∧touch k x then val k x else FX touch val init X k x
section
variable {κ β:Type} {touch:Nat→κ→Prop} [∀j x,Decidable (touch j x)] {val:Nat→κ→β} {init:κ→β}
theorem wH {X Y:Nat→Bool}: ∀(k:Nat) (x:κ),(∀j,j<k→touch j x→X j=Y j)→FX touch val init X k x=FX touch val init Y k x
  |0,x,h=>rfl
  | k + 1, x, h => by
    unfold FX
    have ih:=wH k x (fun j hj ht=>h j (by omega) ht)
    by_cases ht:touch k x
    · rw [h k (by omega) ht]
      split
      · rfl
      · exact ih
    · rw [Aq (fun hh => ht hh.2), Aq (fun hh => ht hh.2)]
      exact ih
theorem Jp {X:Nat→Bool} {i:Nat} {x:κ} (hi:X i=true) (ht:touch i x): ∀(k:Nat),i<k→(∀j,i<j→j<k→X j=true→ ¬touch j x)→FX touch val init X k x=val i x
  |0,hk,h=>by omega
  | k + 1, hk, h => by
    unfold FX
    by_cases e:k=i
    · subst e;rw[Ax ⟨hi,ht⟩]
    · rw [Aq (fun hh => h k (by omega) (by omega) hh.1 hh.2)]
      exact Jp hi ht k (by omega) (fun j h1 h2=>h j h1 (by omega))
theorem Zk {X:Nat→Bool} {x:κ} (i:Nat): ∀(k:Nat),i≤k→(∀j,i≤j→j<k→X j=true→ ¬touch j x)→FX touch val init X k x=FX touch val init X i x
  | 0, hk, h => by obtain rfl : i = 0 := by omega
                   rfl
  | k + 1, hk, h => by
    by_cases e:i=k+1
    · subst e;rfl
    · rw[show FX touch val init X (k+1) x=FX touch val init X k x from by
        show (if _ then _ else _)=_
        rw[Aq (fun hh=>h k (by omega) (by omega) hh.1 hh.2)]]
      exact Zk i k (by omega) (fun j h1 h2=>h j h1 (by omega))
end
theorem Ext.trans' {base n0:Nat} {ρ ρ1 ρ2:Emb} {H H1 H2:Nat→Option Ob} {n N m m':Nat} {W1 W2:List Nat} {w w1 w2:World} (hf:kX ρ n N) (hr:Rel base n0 ρ H w) (h1:n≤m) (h2:m'≤N)
    (h:Ext base n0 ρ H n w ρ1 H1 N W1 w1) (k:Ext base n0 ρ1 H1 m w1 ρ2 H2 m' W2 w2):Ext base n0 ρ H n w ρ2 H2 N (W2++W1) w2:=by
  have hnn:=h.nn
  have knn:=k.nn
  refine⟨h.le.trans k.le,fun b x hb=> ?_,hnn,k.rel,h.grow.trans k.grow,fun j hj hw=> ?_,fun b j d hb1 hb2 hb3 hb4=> ?_,fun b hb=> ?_,fun b hb=> ?_⟩
  · rcases k.dom b x hb with h1 | h1
    · exact h.dom b x h1
    · exact .inr (by omega)
  · have e1 := h.frame j hj (fun b hb => hw b (by simp [hb]))
    refine(k.frame j (Co hj h.grow.size) (fun b hb hlive d hd=> ?_)).trans e1
    rcases h.dom b _ hd with h1|h1
    · have hbn : ¬ (n ≤ b ∧ b < N) := fun hc => by rw [hf b hc.1 hc.2] at h1; cases h1
      rcases h.old b (by omega)with h2|h2
      · rw [h2] at hlive
        exact hw b (by simp[hb]) hlive d h1
      · exact hw b (by simp[hb]) h2.2 d h1
    · rcases h.new b j d h1.1 h1.2 hlive hd with h2 | ⟨b0, h2, h3, d0, h4⟩
      · omega
      · exact hw b0 (by simp[h2]) h3 d0 h4
  · have back:H1 b≠none→w.heap.size≤j∨ ∃b0∈W2++W1,H b0≠none∧ ∃d0,ρ b0=some (j,d0):=fun hne=>by
      cases e:H1 b with
      |none=>exact absurd e hne
      | some o =>
        obtain⟨k',d',hk',_⟩:=h.rel.at_ b o e
        have:=k.le b _ hk'
        rw[hb4]at this
        obtain⟨rfl,rfl⟩:=Prod.mk.inj (A9 this)
        rcases h.new b _ _ hb1 hb2 hne hk' with h2|⟨b0,h2,h3,d0,h4⟩
        · exact .inl h2
        · exact .inr ⟨b0,by simp[h2],h3,d0,h4⟩
    by_cases hlt:m≤b∧b<m'
    · rcases k.new b j d hlt.1 hlt.2 hb3 hb4 with h2 | ⟨b0, h2, h3, d0, h4⟩
      · have:=h.grow.size;exact .inl (by omega)
      · rcases h.dom b0 _ h4 with h5 | h5
        · have hbn : ¬ (n ≤ b0 ∧ b0 < N) := fun hc => by rw [hf b0 hc.1 hc.2] at h5; cases h5
          rcases h.old b0 (by omega)with h6|h6
          · rw [h6] at h3
            exact .inr ⟨b0,by simp[h2],h3,d0,h5⟩
          · exact .inr ⟨b0,by simp[h2],h6.2,d0,h5⟩
        · rcases h.new b0 j d0 h5.1 h5.2 h3 h4 with h6 | ⟨b1, h6, h7, d1, h8⟩
          · exact .inl h6
          · exact .inr ⟨b1,by simp[h6],h7,d1,h8⟩
    · rcases k.old b (by omega) with h1 | h1
      · exact back (by rw[←h1];exact hb3)
      · exact back h1.2
  · rcases k.old b (by omega) with h1 | h1
    · rcases h.old b (by omega) with h2 | h2
      · exact .inl (h1.trans h2)
      · exact .inr ⟨by simp[h2.1],h2.2⟩
    · rcases h.old b (by omega) with h2 | h2
      · rw[h2]at h1;exact .inr ⟨by simp[h1.1],h1.2⟩
      · exact .inr ⟨by simp[h2.1],h2.2⟩
  · rcases AT.1 hb with h1 | h1
    · exact k.wr b h1
    · exact h.wr b h1
theorem Ext.lift {base n0:Nat} {ρ ρ':Emb} {M H H' Hn:Nat→Option Ob} {n n':Nat} {Wf W:List Nat} {w w':World} (hr:Rel base n0 ρ H w) (hM: ∀b o,M b=some o→H b=some o)
    (hWf: ∀b∈Wf,b<n') (hW: ∀b,b∈W↔b∈Wf∧b<n) (hfree:kX ρ n n') (h:Ext base n0 ρ M n w ρ' H' n' Wf w')
    (hn: ∀b,Hn b=if b∈W∨(n≤b∧b<n')then H' b else H b):Ext base n0 ρ H n w ρ' Hn n' W w':=by
  have hMl: ∀b,M b≠none→H b≠none:=fun b hb=>by
    cases e:M b with
    |none=>exact absurd e hb
    |some o=>rw[hM b o e];simp
  have hHn: ∀b,n≤b→b<n'→H b=none:=fun b h1 h2=>by
    cases e:H b with
    |none=>rfl
    |some o=>obtain⟨k,d,hk,_⟩:=hr.at_ b o e;rw[hfree b h1 h2]at hk;cases hk
  have hZ: ∀b,b∈Wf→M b≠none→b<n:=fun b hb hl=>Nat.lt_of_not_le (fun hc=>hMl b hl (hHn b hc (hWf b hb)))
  have hlive: ∀b,b∈W→H' b≠none→M b≠none:=fun b hb hl=>by
    have hlt:=((hW b).1 hb).2
    rcases h.old b (.inl hlt)with e|e
    · rwa [e]at hl
    · exact e.2
  have pB: ∀k,k<w.heap.size→(∀b∈W,H b≠none→ ∀d,ρ b≠some (k,d))→w'.heap[k]? =w.heap[k]? :=fun k hk hw=>
    h.frame k hk (fun b hb hl d=>hw b ((hW b).2 ⟨hb,hZ b hb hl⟩) (hMl b hl) d)
  have hstay: ∀b k d,¬(b∈W∨(n≤b∧b<n'))→H b≠none→ρ b=some (k,d)→w'.heap[k]? =w.heap[k]? :=fun b k d hnt hl hb=>
    h.frame k (hr.low b k d hb) (fun b0 hb0 hl0 d0 hd0=>hnt (.inl (by
      have:b0=b:=hr.inj b0 b k d0 d (hr.high b0 k d0 (h.wr b0 hb0) hd0) (hMl b0 hl0) hl hd0 hb
      rw[←this]
      exact(hW b0).2 ⟨hb0,hZ b0 hb0 hl0⟩)))
  refine⟨h.le,h.dom,h.nn,⟨fun b o hb=> ?_,fun b b' k d d' z hb hb' hk hk'=> ?_,h.rel.high,h.rel.low,h.rel.sz⟩,h.grow,pB,fun b k d h1 h2 h3 h4=> ?_,fun b hb=> ?_,fun b hb=>h.wr b ((hW b).1 hb).1⟩
  · rw [hn] at hb
    split at hb
    · exact h.rel.at_ b o hb
    · rename_i hnt
      obtain⟨k,d,e1,e2⟩:=hr.at_ b o hb
      exact⟨k,d,h.le b _ e1,(e2.le h.le).grow h.grow (hstay b k d hnt (by rw[hb];simp) e1)⟩
  · rw [hn] at hb hb'
    have mixed: ∀x y dx dy,(x∈W∨(n≤x∧x<n'))→ ¬(y∈W∨(n≤y∧y<n'))→H' x≠none→H y≠none→ρ' x=some (k,dx)→ρ' y=some (k,dy)→False:=by
      intro x y dx dy hx hy hlx hly hkx hky
      have nL:ρ y=some (k,dy):=by
        rcases h.dom y _ hky with e|e
        · exact e
        · exact absurd (.inr e) hy
      rcases hx with hx|hx
      · have hm := hlive x hx hlx
        have rO:ρ x=some (k,dx):=by
          rcases h.dom x _ hkx with e|e
          · exact e
          · have:=((hW x).1 hx).2;omega
        have:=hr.inj x y k dx dy (hr.high x k dx (h.wr x ((hW x).1 hx).1) rO) (hMl x hm) hly rO nL
        exact hy (.inl (this▸hx))
      · rcases h.new x k dx hx.1 hx.2 hlx hkx with e | ⟨b0, e1, e2, d0, e3⟩
        · have:=hr.low y k dy nL;omega
        · have := hr.inj b0 y k d0 dy (hr.high b0 k d0 (h.wr b0 e1) e3) (hMl b0 e2) hly e3 nL
          exact hy (.inl (this▸(hW b0).2 ⟨e1,hZ b0 e1 e2⟩))
    split at hb<;>split at hb'
    · exact h.rel.inj b b' k d d' z hb hb' hk hk'
    · rename_i t1 t2;exact(mixed b b' d d' t1 t2 hb hb' hk hk').elim
    · rename_i t1 t2;exact(mixed b' b d' d t2 t1 hb' hb hk' hk).elim
    · rename_i t1 t2
      have f: ∀x dx,¬(x∈W∨(n≤x∧x<n'))→ρ' x=some (k,dx)→ρ x=some (k,dx):=fun x dx hx hkx=>by
        rcases h.dom x _ hkx with e|e
        · exact e
        · exact absurd (.inr e) hx
      exact hr.inj b b' k d d' z hb hb' (f b d t1 hk) (f b' d' t2 hk')
  · rw [hn, Ax (.inr ⟨h1, h2⟩)] at h3
    rcases h.new b k d h1 h2 h3 h4 with e|⟨b0,e1,e2,e3⟩
    · exact .inl e
    · exact .inr ⟨b0,(hW b0).2 ⟨e1,hZ b0 e1 e2⟩,hMl b0 e2,e3⟩
  · by_cases hb' : b ∈ W
    · by_cases hlv : H b = none
      · refine .inl ?_
        rw[hn,Ax (.inl hb'),hlv]
        cases e:H' b with
        |none=>rfl
        |some o=>exact absurd hlv (hMl b (hlive b hb' (by rw[e];simp)))
      · exact .inr ⟨hb',hlv⟩
    · exact .inl (by rw[hn,Aq (by simp[hb'];omega)])
end
section
open Go
variable [Eta]
structure Q where
 T:Tm
 h:Hp
 w:List Nat
 r:Rec
 b:Bool
 v:Value
 M:PT Ob
 h':Hp
 Wf:List Nat
def rcs (q:Nat→Q):Nat→List Rec
 |0=>[]
 |k+1=>(q k).r::rcs q k
def vY (q:Nat→Q) (k b:Nat):Prop:=b∈(q k).r.wr∨((q k).r.n≤b∧b<(q k).r.n')
instance (q:Nat→Q) (k b:Nat):Decidable (vY q k b):=by unfold vY;exact inferInstance
def xq (q:Nat→Q) (k t:Nat):Prop:=(q k).r.o.dst=some t
instance (q:Nat→Q) (k t:Nat):Decidable (xq q k t):=by unfold xq;exact inferInstance
structure dA (c:Cfg) (call:kW) (ops:Array Oper) (i:Nat) (rs:List Rec) (x y:Q):Prop where
 edge: ∀e∈x.r.o.after.toList,Region.binds .any e=true→e.on<i
 num:x.r.i=i
 bef:x.r.bef=Kq rs x.r.o
 n:x.r.n=x.h.n
 n':x.r.n'=y.h.n
 nn:x.h.n≤y.h.n
 want:jy ops x.T x.r.o=some x.b
 yes:x.b=true→opD c call x.T ⟨x.M,x.h.n⟩ x.r.o= .ok [(x.v,x.h',x.Wf)]∧x.h'.n=y.h.n∧((∀b,b∈x.r.wr↔b∈x.Wf∧b<x.h.n)∧ ∀b∈x.Wf,b<y.h.n)∧
  (∀b o,x.M.get b=some o→x.h.t.get b=some o∧match x.r.foot with|some l=>b∈l|none=> ∀r∈rs,x.r.bef.testBit r.i=false→QN r b=false)∧
  (∀b,y.h.t.get b=if b∈x.r.wr∨(x.h.n≤b∧b<y.h.n)then x.h'.t.get b else x.h.t.get b)
 no:x.b=false→x.v=undef∧y.h=x.h∧x.r.wr=[]
 T:y.T=xl x.T x.r.o.dst x.v
 w:y.w=x.r.wr++x.w
 apart: ∀r∈rs,x.r.bef.testBit r.i=false→jt ops r x.r=true
theorem Qq (t':PT Ob): ∀(l:List Nat) (t:PT Ob) (b:Nat),(∀x∈l,x<lim)→(Qt t t' l).get b=if b∈l then t'.get b else t.get b
 |[],t,b,h=>by simp[Qt]
 |x::l,t,b,h=>by
  unfold Qt
  rw[Qq t' l _ b (fun y hy=>h y (by simp[hy]))]
  by_cases h1:b∈l
  ·rw[Ax h1,Ax (by simp[h1])]
  ·rw [Aq h1]
   by_cases h2:b=x
   ·subst h2;rw[Ax (by simp),PT.zx _ _ _ (h b (by simp))]
   ·rw[Aq (by simp[h1,h2]),PT.qL _ _ _ _ h2]
theorem V2: ∀(l:List Nat) (t:PT Ob) (b:Nat) (o:Ob),(∀x∈l,x<lim)→(YP t l).get b=some o→t.get b=some o∧b ∉ l
 |[],t,b,o,h,e=>⟨e,by simp⟩
 |x::l,t,b,o,h,e=>by
  unfold YP at e
  obtain⟨h1,h2⟩:=V2 l _ b o (fun y hy=>h y (by simp[hy])) e
  by_cases h3:b=x
  ·subst h3;rw[PT.zx _ _ _ (h b (by simp))]at h1;cases h1
  ·rw[PT.qL _ _ _ _ h3]at h1;exact⟨h1,by simp[h2,h3]⟩
theorem yk: ∀(k n b:Nat),b∈Vy n k↔n≤b∧b<n+k
 |0,n,b=>by simp[Vy]
 |k+1,n,b=>by
  simp only[Vy,AX,yk k (n+1) b]
  omega
theorem Kk {c:Cfg} {call:kW} {ops:Array Oper} {q:Nat→Q}: ∀(k:Nat) (r:Rec),r∈rcs q k↔ ∃j,j<k∧(q j).r=r
 |0,r=>by simp[rcs]
 |k+1,r=>by
  simp only[rcs,AX,Kk (c:=c) (call:=call) (ops:=ops) k r]
  constructor
  ·rintro (rfl | ⟨j, h1, h2⟩)
   ·exact⟨k,by omega,rfl⟩
   ·exact⟨j,by omega,h2⟩
  ·rintro ⟨j, h1, h2⟩
   by_cases e:j=k
   ·subst e;exact .inl h2.symm
   ·exact .inr ⟨j,by omega,h2⟩
theorem ZA {c:Cfg} {call:kW} {ops:Array Oper}: ∀(l:List Oper) (i:Nat) (rs:List Rec) (T:Tm) (h:Hp) (w:List Nat) (s:Dr),(∀r∈rs,r.n'≤lim∨r.n'≤r.n)→Qb c call ops i l rs T h w= .ok s→
  ∃q:Nat→Q,(q 0).T=T∧(q 0).h=h∧(q 0).w=w∧(q l.length).T=s.T∧(q l.length).h=s.h∧(q l.length).w=s.w∧
   ∀k,k<l.length→l[k]? =some (q k).r.o∧dA c call ops (i+k) (rcs q k++rs) (q k) (q (k+1))
 |[],i,rs,T,h,w,s,hrs,e=>by
  unfold Qb at e
  cases e
  exact⟨fun _=>⟨T,h,w,⟨0,default,0,none,[],0,0⟩,false,undef,.leaf,h,[]⟩,rfl,rfl,rfl,rfl,rfl,rfl,fun k hk=>by simp at hk⟩
 |o::l,i,rs,T,h,w,s,hrs,e=>by
  unfold Qb at e
  simp only at e
  obtain⟨u,e1,e⟩:=R.zG e
  have e1:=R.XS e1
  split at e1
  case isFalse=>cases e1
  rename_i sc
  obtain⟨b,e2,e⟩:=R.zG e
  have e2:=R.XS e2
  have fU: ∀e∈o.after.toList,Region.binds .any e=true→e.on<i:=fun e he hb=>by
   have:=Ap.1 sc e he
   simp[hb]at this
   exact this
  have fin: ∀(r:Rec) (v:Value) (M:PT Ob) (h1 h':Hp) (Wf:List Nat) (s1:Dr),r.o=o→Qb c call ops (i+1) l (r::rs) (xl T o.dst v) h1 (r.wr++w)= .ok s→(r.n'≤lim∨r.n'≤r.n)→
    (∀y:Q,y.T=xl T o.dst v→y.h=h1→y.w=r.wr++w→dA c call ops i rs ⟨T,h,w,r,b,v,M,h',Wf⟩ y)→
    ∃q:Nat→Q,(q 0).T=T∧(q 0).h=h∧(q 0).w=w∧(q (o::l).length).T=s.T∧(q (o::l).length).h=s.h∧(q (o::l).length).w=s.w∧
     ∀k,k<(o::l).length→(o::l)[k]? =some (q k).r.o∧dA c call ops (i+k) (rcs q k++rs) (q k) (q (k+1)):=by
   intro r v M h1 h' Wf s1 hro hd hlim hc
   obtain⟨q,g1,g2,g3,g4,g5,g6,g7⟩:=ZA l (i+1) (r::rs) _ h1 _ s (fun x hx=>by rcases AX.1 hx with rfl|hx;exact hlim;exact hrs x hx) hd
   let q':Nat→Q:=fun k=>match k with|0=>⟨T,h,w,r,b,v,M,h',Wf⟩|k+1=>q k
   have hr: ∀k,rcs q' (k+1)++rs=rcs q k++(r::rs):=by
    intro k
    induction k with
    |zero=>rfl
    |succ k ih=>
     show (q' (k+1)).r::rcs q' (k+1)++rs=(q k).r::rcs q k++(r::rs)
     rw[Bp,Bp,ih]
   refine⟨q',rfl,rfl,rfl,g4,g5,g6,fun k hk=> ?_⟩
   cases k with
   |zero=>exact⟨by rw[←hro];rfl,hc (q 0) g1 g2 g3⟩
   |succ k=>
    obtain⟨f1,f2⟩:=g7 k (by simpa using hk)
    refine⟨by simpa using f1,?_⟩
    rw[hr k,show i+(k+1)=i+1+k by omega]
    exact f2
  cases b with
  |true=>
   simp only[Ai]at e
   obtain⟨outs,e3,e⟩:=R.zG e
   split at e
   ·rename_i x
    cases e4:(List.all (rs.filter fun r=> !(Kq rs o).testBit r.i) (fun q=>jt ops q ⟨i,o,Kq rs o,JT c T o,x.2.2.filter (fun b=>Nat.blt b h.n),h.n,x.2.1.n⟩)&&Nat.blt x.2.1.n lim&&aI (JT c T o)&&(x.2.2.filter (fun b=>Nat.blt b h.n)).all (fun b=>Nat.blt b lim)&&x.2.2.all (fun b=>Nat.blt b x.2.1.n))with
    |false=>rw[e4]at e;cases e
    |true=>
     rw[e4]at e
     simp only[Ai]at e
     simp only[Ag]at e4
     obtain⟨⟨⟨⟨e5,e6⟩,e7⟩,e8⟩,e9⟩:=e4
     have hlim:=kQ e6
     have tS:h.n≤x.2.1.n:=by
      unfold opD at e3
      obtain⟨os,k1,k2⟩:=R.zG e3
      obtain⟨rfl,k3,k4⟩:=Yp k2
      exact k4 x (by simp)
     refine fin _ x.1 (bk (JT c T o) h.t ((rs.filter fun r=> !(Kq rs o).testBit r.i).flatMap fun r=>Vy r.n (r.n' - r.n))) _ x.2.1 x.2.2 s rfl e (.inl (AV hlim)) (fun y y1 y2 y3=> ?_)
     refine⟨fU,rfl,rfl,rfl,by rw[y2],by rw[y2];exact tS,e2,fun _=>⟨e3,by rw[y2],⟨fun b=>by simp[CA,AB],fun b hb=>by rw[y2];exact kQ (Ap.1 e9 b hb)⟩,fun b ob hb=> ?_,fun b=> ?_⟩,fun hh=>(by cases hh),y1,y3,fun r hr hb=> ?_⟩
     ·simp only at hb ⊢
      unfold bk at hb
      split at hb
      ·rename_i ids hf
       rw[hf]at e7
       simp only[aI]at e7
       rw[Qq _ _ _ _ (fun z hz=>kQ (Ap.1 e7 z hz))]at hb
       split at hb
       ·rename_i hm;exact⟨hb,by rw[hf];exact hm⟩
       ·simp[PT.yN]at hb
      ·rename_i hf
       obtain⟨f1,f2⟩:=V2 _ _ _ _ (fun z hz=>by
        obtain⟨r,hr,hz⟩:=List.mem_flatMap.1 hz
        have hr':=(CA.1 hr).1
        have:=(yk _ _ _).1 hz
        rcases hrs r hr' with h9|h9<;>omega) hb
       refine⟨f1,?_⟩
       rw[hf]
       intro r hr cJ
       cases hs:QN r b with
       |false=>rfl
       |true=>
        simp only[QN,Ag]at hs
        have h1:=kU hs.1
        have h2:=kQ hs.2
        exact absurd (List.mem_flatMap.2 ⟨r,CA.2 ⟨hr,by simp[cJ]⟩,(yk _ _ _).2 ⟨h1,by omega⟩⟩) f2
     ·rw [y2]
      simp only
      rw[Qq _ _ _ _ (fun z hz=>by
       rcases AT.1 hz with hz|hz
       ·exact kQ (Ap.1 e8 z hz)
       ·have:=(yk _ _ _).1 hz;omega)]
      have:(b∈(x.2.2.filter fun b=>Nat.blt b h.n)++Vy h.n (x.2.1.n - h.n))↔(b∈(x.2.2.filter fun b=>Nat.blt b h.n)∨(h.n≤b∧b<x.2.1.n)):=by
       rw[AT,yk]
       constructor<;>(rintro(h1|h1);exact .inl h1;exact .inr (by omega))
      simp only[this]
     ·exact Ap.1 e5 r (CA.2 ⟨hr,by simp[hb]⟩)
   ·cases e
  |false=>
   simp only[Ah]at e
   cases e4:(List.all (rs.filter fun r=> !(Kq rs o).testBit r.i) (fun q=>jt ops q ⟨i,o,Kq rs o,some [],[],h.n,h.n⟩))with
   |false=>rw[e4]at e;cases e
   |true=>
    rw[e4]at e
    simp only[Ai]at e
    ·refine fin ⟨i, o, Kq rs o, some [], [], h.n, h.n⟩ undef .leaf h h [] s rfl e (.inr (Aw _)) (fun y y1 y2 y3 => ?_)
     exact⟨fU,rfl,rfl,rfl,by rw[y2],by rw[y2];exact Aw _,e2,fun hh=>(by cases hh),fun _=>⟨rfl,y2,rfl⟩,y1,y3,fun r hr hb=>Ap.1 e4 r (CA.2 ⟨hr,by simp[hb]⟩)⟩
end
section
open Go
variable [Eta]
theorem pS {c:Cfg} {ρ:Emb} {w:World} {T:Tm} {a:Act} {x:Operand} (h: ∀t,x= .tmp t→t<T.m→TV ρ w (T.get t) (a.tmps.getD t undef)) (hg:Vx c ρ):EV c ρ w T a x:=by
 intro v hv
 cases x with
 |tmp t=>
  simp only[_root_.Go.Proofs.YtaiokpmmjbiajaaGreatDoorDx.ev]at hv
  cases e:Nat.blt t T.m with
  |false=>rw[e]at hv;cases hv
  |true=>
   rw[e]at hv
   exact h t rfl (kQ e) v hv
 |const k=>
  simp only[_root_.Go.Proofs.YtaiokpmmjbiajaaGreatDoorDx.ev]at hv
  cases e:pfd 3 k with
  |false=>rw[e]at hv;cases hv
  |true=>rw[e]at hv;cases hv;exact VR.ye 3 e
 |global g=>
  simp only[_root_.Go.Proofs.YtaiokpmmjbiajaaGreatDoorDx.ev]at hv
  cases e:Nat.blt g c.G with
  |false=>rw[e]at hv;cases hv
  |true=>rw[e]at hv;cases hv;exact .ptr g 0 g 0 (hg g (kQ e))
 |func f=>
  simp only[_root_.Go.Proofs.YtaiokpmmjbiajaaGreatDoorDx.ev]at hv
  cases hv
  exact .func _ (fun l e=>by cases e) _ _ _ _ rfl (fun i x y hx=>by simp at hx) rfl (fun i x y hx=>by simp at hx)
def cnt (S:Nat→Bool):Nat→Nat
 |0=>0
 |n+1=>cnt S n+if S n then 0 else 1
theorem XR {S S':Nat→Bool}: ∀n,(∀j,j<n→S' j=S j)→cnt S' n=cnt S n
 |0,h=>rfl
 |n+1,h=>by unfold cnt;rw[XR n (fun j hj=>h j (by omega)),h n (by omega)]
theorem ay {S S':Nat→Bool} {i:Nat} (h1:S i=false) (h2:S' i=true) (h3: ∀j,j≠i→S' j=S j): ∀n,i<n→cnt S' n+1=cnt S n
 |0,h=>by omega
 |n+1,h=>by
  unfold cnt
  by_cases e:i=n
  ·subst e
   rw[XR i (fun j hj=>h3 j (by omega)),h1,h2]
   simp
  ·have := ay h1 h2 h3 n (by omega)
   rw[h3 n (fun e'=>e e'.symm)]
   omega
theorem JO {S:Nat→Bool}: ∀n,cnt S n=0→ ∀j,j<n→S j=true
 |0,h,j,hj=>by omega
 |n+1,h,j,hj=>by
  unfold cnt at h
  by_cases e:j=n
  ·subst e
   cases hs:S j with
   |true=>rfl
   |false=>rw[hs]at h;simp at h
  ·exact JO n (by omega) j (by omega)
theorem fQ {o:Oper} {rs:List Rec} {j:Nat} (h:(Kq rs o).testBit j=true): ∃e∈o.after.toList,Region.binds .any e=true∧(j=e.on∨ ∃r∈rs,r.i=e.on∧r.bef.testBit j=true):=by
 unfold Kq at h
 have key: ∀(l:List Edge) (s:Nat),(l.foldl (fun s e=>if Region.binds .any e then s ||| 2 ^ e.on ||| (match rs.find? (fun r=>Nat.beq r.i e.on)with|some r=>r.bef|none=>0)else s) s).testBit j=true→
   s.testBit j=true∨ ∃e∈l,Region.binds .any e=true∧(j=e.on∨ ∃r∈rs,r.i=e.on∧r.bef.testBit j=true):=by
  intro l
  induction l with
  |nil=>intro s hs;exact .inl hs
  |cons e l ih=>
   intro s hs
   simp only[Bi]at hs
   rcases ih _ hs with h1|⟨e',h1,h2⟩
   ·split at h1
    ·rename_i hb
     rw[Nat.testBit_or,Nat.testBit_or]at h1
     simp only[AS]at h1
     rcases h1 with(h1|h1)|h1
     ·exact .inl h1
     ·rw [Nat.testBit_two_pow] at h1
      exact .inr ⟨e,by simp,hb,.inl (by simpa using(AY h1).symm)⟩
     ·split at h1
      ·rename_i r hr
       exact .inr ⟨e,by simp,hb,.inr ⟨r,CF hr,wu (List.find?_some (p:=fun(r:Rec)=>Nat.beq r.i e.on) hr),h1⟩⟩
      ·simp at h1
    ·exact .inl h1
   ·exact .inr ⟨e',by simp[h1],h2⟩
 rcases key _ _ h with h1|h1
 ·simp at h1
 ·exact h1
theorem Vw {w:List Nat} (h:KP w none=false):w=[]:=by
 unfold KP at h
 cases w with
 |nil=>rfl
 |cons x l=>simp at h
theorem Kz {b:Nat} {l:List Nat}:Yy b l=true↔b∈l:=by
 unfold Yy
 rw[List.any_eq_true]
 constructor
 ·rintro⟨x,h1,h2⟩;rw[wu h2];exact h1
 ·intro h;exact⟨b,h,by simp⟩
theorem aL {a b:List Nat} (h:meets a b=false): ∀x∈a,x ∉ b:=fun x hx hb=>by
 unfold meets at h
 rw[B0]at h
 exact h x hx (Kz.2 hb)
theorem Vu {w l:List Nat} (h:KP w (some l)=false): ∀b∈w,b ∉ l:=aL h
theorem apart_spec {ops:Array Oper} {x y:Rec} (h:jt ops x y=true):
  (∀d,x.o.dst=some d→d ∉ Oper.looksAt ops y.o)∧(∀d,y.o.dst=some d→d ∉ Oper.looksAt ops x.o)∧(∀d,x.o.dst=some d→y.o.dst≠some d)∧KP y.wr x.foot=false∧KP x.wr y.foot=false∧
  (∀b∈x.wr,b ∉ y.wr)∧(∀b∈y.wr,QN x b=false)∧(∀l,y.foot=some l→ ∀b∈l,QN x b=false):=by
 unfold jt at h
 simp only[Ag,Bm]at h
 obtain⟨⟨⟨⟨⟨⟨⟨h1,h2⟩,h3⟩,h4⟩,h5⟩,h6⟩,h7⟩,h8⟩:=h
 refine⟨fun d hd hm=> ?_,fun d hd hm=> ?_,fun d hd he=> ?_,h4,h5,aL h6,fun b hb=> ?_,fun l hl b hb=> ?_⟩
 ·rw [hd] at h1
  have:Yy d (looks ops y.o)=true:=Kz.2 hm
  have h1':Yy d (looks ops y.o)=false:=h1
  rw[this]at h1';cases h1'
 ·rw [hd] at h2
  have:Yy d (looks ops x.o)=true:=Kz.2 hm
  have h2':Yy d (looks ops x.o)=false:=h2
  rw[this]at h2';cases h2'
 ·rw [hd, he] at h3
  simp at h3
 ·rw [B0] at h7
  simpa using h7 b hb
 ·rw [hl] at h8
  simp only[Bm,B0]at h8
  simpa using h8 b hb
theorem Js {x:Rec} {b:Nat} (h:QN x b=false): ¬(x.n≤b∧b<x.n'):=fun hh=>by
 unfold QN at h
 rw[Nat.ble_eq_true_of_le hh.1]at h
 simp only[AF]at h
 exact yl h hh.2
end
section
open Go
variable [Eta]
structure Run (c:Cfg) (call:kW) (ops:Array Oper) (q:Nat→Q):Prop where
  at_: ∀k,k<ops.size→ops[k]? =some (q k).r.o∧dA c call ops k (rcs q k) (q k) (q (k+1))
section
variable {c:Cfg} {call:kW} {ops:Array Oper} {q:Nat→Q}
theorem Run.op (h:Run c call ops q) {k:Nat} (hk:k<ops.size):ops[k]? =some (q k).r.o:=(h.at_ k hk).1
theorem Run.co (h:Run c call ops q) {k:Nat} (hk:k<ops.size):dA c call ops k (rcs q k) (q k) (q (k+1)):=(h.at_ k hk).2
theorem Run.mono (h:Run c call ops q): ∀{j k:Nat},j≤k→k≤ops.size→(q j).h.n≤(q k).h.n
  | j, 0, h1, h2 => by obtain rfl : j = 0 := by omega
                       exact Aw _
  | j, k + 1, h1, h2 => by
    by_cases e:j=k+1
    · subst e;exact Aw _
    · exact Bd (h.mono (j:=j) (k:=k) (by omega) (by omega)) (h.co (k:=k) (by omega)).nn
theorem Run.apart (h:Run c call ops q) {j k:Nat} (hj:j<k) (hk:k<ops.size) (hb:(q k).r.bef.testBit j=false):jt ops (q j).r (q k).r=true:=by
  refine(h.co hk).apart _ ((Kk (c:=c) (call:=call) (ops:=ops) k _).2 ⟨j,hj,rfl⟩) ?_
  rw[(h.co (k:=j) (by omega)).num]
  exact hb
def ya (ops:Array Oper) (q:Nat→Q) (S:Nat→Bool):Prop:= ∀j,j<ops.size→S j=true→ ∀e∈(q j).r.o.after.toList,Region.binds .any e=true→S e.on=true
theorem Run.bef (h:Run c call ops q) {S:Nat→Bool} (hs:ya ops q S): ∀(x:Nat),x<ops.size→(∀e∈(q x).r.o.after.toList,Region.binds .any e=true→S e.on=true)→ ∀j,(q x).r.bef.testBit j=true→S j=true:=by
  intro x
  induction x using Nat.strongRecOn with
  | _ x ih =>
    intro hx he j hj
    rw[(h.co hx).bef]at hj
    obtain⟨e,h1,h2,h3⟩:=fQ hj
    rcases h3 with rfl|⟨r,h4,h5,h6⟩
    · exact he e h1 h2
    · obtain ⟨m, h7, rfl⟩ := (Kk (c := c) (call := call) (ops := ops) x r).1 h4
      rw[(h.co (k:=m) (by omega)).num]at h5
      have hm:S m=true:=by rw[h5];exact he e h1 h2
      exact ih m h7 (by omega) (hs m (by omega) hm) j h6
def dS (q:Nat→Q) (k:Nat) (_:Nat):Option Value:=some (q k).v
def iw (q:Nat→Q) (k:Nat) (b:Nat):Option Ob:=(q k).h'.t.get b
def fT (q:Nat→Q) (S:Nat→Bool) (k:Nat):Nat→Option Value:=FX (xq q) (dS q) (q 0).T.get S k
def fH (q:Nat→Q) (S:Nat→Bool) (k:Nat):Nat→Option Ob:=FX (vY q) (iw q) (q 0).h.t.get S k
theorem Run.m (h:Run c call ops q): ∀k,k≤ops.size→(q k).T.m=(q 0).T.m
  |0,_=>rfl
  | k + 1, hk => by
    rw[(h.co (k:=k) (by omega)).T,←h.m k (by omega)]
    unfold xl
    split
    · cases Nat.blt _ _<;>rfl
    · rfl
theorem Run.dY (h:Run c call ops q) (hm:(q 0).T.m≤lim): ∀k,k≤ops.size→ ∀t,t<(q 0).T.m→(q k).T.get t=fT q (fun _=>true) k t
  |0,_,t,ht=>rfl
  | k + 1, hk, t, ht => by
    have ih:=h.dY hm k (by omega) t ht
    have hmk:=h.m k (by omega)
    rw[(h.co (k:=k) (by omega)).T]
    show _=(if true=true∧xq q k t then dS q k t else FX (xq q) (dS q) (q 0).T.get (fun _=>true) k t)
    by_cases hd:xq q k t
    · rw [Ax ⟨rfl, hd⟩]
      unfold xq at hd
      unfold xl
      rw[hd]
      show Tm.get (bif Nat.blt t (q k).T.m then _ else _) t=_
      rw[show Nat.blt t (q k).T.m=true from by rw[AB];omega]
      unfold Tm.get
      simp only[Ai]
      rw[PT.zx _ _ _ (by omega)]
      rfl
    · rw [Aq (fun hh => hd hh.2), ← show fT q (fun _ => true) k t = FX (xq q) (dS q) (q 0).T.get (fun _ => true) k t from rfl, ← ih]
      unfold xq at hd
      unfold xl
      split
      · rename_i d he
        cases hb:Nat.blt d (q k).T.m with
        |false=>rfl
        | true =>
          unfold Tm.get
          simp only[Ai]
          rw[PT.qL _ _ _ _ (fun e=>hd (by rw[he,e]))]
      · rfl
theorem Run.eQ (h:Run c call ops q): ∀k,k≤ops.size→ ∀b,(q k).h.t.get b=fH q (fun _=>true) k b
  |0,_,b=>rfl
  | k + 1, hk, b => by
    have ih:=h.eQ k (by omega) b
    have co:=h.co (k:=k) (by omega)
    show _=(if true=true∧vY q k b then iw q k b else FX (vY q) (iw q) (q 0).h.t.get (fun _=>true) k b)
    cases hb:(q k).b with
    | true =>
      obtain⟨_,_,_,_,h5⟩:=co.yes hb
      rw[h5 b]
      have hiff:vY q k b↔(b∈(q k).r.wr∨((q k).h.n≤b∧b<(q (k+1)).h.n)):=by unfold vY;rw[co.n,co.n']
      by_cases ht:vY q k b
      · rw [Ax (hiff.1 ht), Ax ⟨rfl, ht⟩]
        rfl
      · rw [Aq (fun hh => ht (hiff.2 hh)), Aq (fun hh => ht hh.2)]
        exact ih
    | false =>
      obtain⟨_,h2,h3⟩:=co.no hb
      rw[h2,Aq (fun hh=>by
        have ht:=hh.2
        unfold vY at ht
        rw[co.n,co.n',h2,h3]at ht
        simp at ht
        omega)]
      exact ih
theorem pU (i k:Nat) (hk:i≤k) (t:Nat):fT q (fun j=>decide (j<i)) k t=fT q (fun _=>true) i t:=by
  unfold fT
  rw[Zk i k hk (fun j h1 h2 h3=>by simp at h3;omega)]
  exact wH i t (fun j hj _=>by simp[hj])
theorem pY (i k:Nat) (hk:i≤k) (b:Nat):fH q (fun j=>decide (j<i)) k b=fH q (fun _=>true) i b:=by
  unfold fH
  rw[Zk i k hk (fun j h1 h2 h3=>by simp at h3;omega)]
  exact wH i b (fun j hj _=>by simp[hj])
theorem Run.unordered (h:Run c call ops q) {S:Nat→Bool} (hs:ya ops q S) {i j:Nat} (hi:i<ops.size) (hj:j<ops.size) (hij:i≠j) (hSi:S i=false) (he: ∀e∈(q i).r.o.after.toList,Region.binds .any e=true→S e.on=true)
    (hne:S j≠decide (j<i)):(j<i∧jt ops (q j).r (q i).r=true)∨(i<j∧S j=true∧jt ops (q i).r (q j).r=true):=by
  by_cases hlt:j<i
  · refine .inl ⟨hlt, h.apart hlt hi ?_⟩
    cases hb:(q i).r.bef.testBit j with
    |false=>rfl
    |true=>exact absurd ((h.bef hs i hi he j hb).trans (by simp[hlt])) hne
  · have hSj:S j=true:=by
      cases hs:S j with
      |true=>rfl
      |false=>rw[hs]at hne;simp[hlt]at hne
    refine .inr ⟨by omega,hSj,h.apart (by omega) hj ?_⟩
    cases hb:(q j).r.bef.testBit i with
    |false=>rfl
    |true=>have:=h.bef hs j hj (hs j hj hSj) i hb;rw[hSi]at this;cases this
theorem Run.th (h:Run c call ops q) (hm:(q 0).T.m≤lim) {S:Nat→Bool} (hs:ya ops q S) {i:Nat} (hi:i<ops.size) (hSi:S i=false) (he: ∀e∈(q i).r.o.after.toList,Region.binds .any e=true→S e.on=true)
    {t:Nat} (ht:t∈Oper.looksAt ops (q i).r.o) (htm:t<(q 0).T.m):(q i).T.get t=fT q S ops.size t:=by
  rw[h.dY hm i (by omega) t htm,←pU i ops.size (by omega)]
  refine(wH ops.size t (fun j hj htj=> ?_)).symm
  by_cases hij:i=j
  · subst hij;rw[hSi];simp
  · by_cases hne : S j = decide (j < i)
    · exact hne
    · rcases h.unordered hs hi hj hij hSi he hne with ⟨_, ha⟩ | ⟨_, _, ha⟩
      · exact absurd ht ((apart_spec ha).1 t htj)
      · exact absurd ht ((apart_spec ha).2.1 t htj)
theorem Run.mG (h:Run c call ops q) {j:Nat} (hj:j<ops.size): ∀b∈(q j).r.wr,b<(q j).h.n:=fun b hb=>by
  cases e:(q j).b with
  |true=>exact(((h.co hj).yes e).2.2.1.1 b).1 hb |>.2
  |false=>rw[((h.co hj).no e).2.2]at hb;cases hb
theorem Run.shown (h:Run c call ops q) {S:Nat→Bool} (hs:ya ops q S) {i:Nat} (hi:i<ops.size) (hSi:S i=false) (he: ∀e∈(q i).r.o.after.toList,Region.binds .any e=true→S e.on=true)
    (hb:(q i).b=true) (h0: ∀b,(q 0).h.n≤b→b<(q ops.size).h.n→(q 0).h.t.get b=none) {b:Nat} {o:Ob} (hM:(q i).M.get b=some o):fH q S ops.size b=some o:=by
  obtain⟨_,_,_,h4,_⟩:=(h.co hi).yes hb
  obtain⟨h5,h6⟩:=h4 b o hM
  have hlive:fH q (fun j=>decide (j<i)) ops.size b=some o:=by rw[pY i ops.size (by omega),←h.eQ i (by omega)];exact h5
  have pN:b<(q i).h.n∨(q ops.size).h.n≤b:=by
    refine Classical.byContradiction fun hc=> ?_
    have h7:(q i).h.n≤b∧b<(q ops.size).h.n:=by omega
    have h8:fH q (fun j=>decide (j<i)) ops.size b=(q 0).h.t.get b:=by
      unfold fH
      refine Zk 0 ops.size (Cq _) (fun j _ hj hj2 ht=> ?_)
      have hji:j<i:=by simpa using hj2
      unfold vY at ht
      rcases ht with ht|ht
      · have := h.mG hj b ht
        have:=h.mono (j:=j) (k:=i) (by omega) (by omega)
        omega
      · rw [(h.co hj).n, (h.co hj).n'] at ht
        have:=h.mono (j:=j+1) (k:=i) (by omega) (by omega)
        omega
    rw[h8,h0 b (by have:=h.mono (j:=0) (k:=i) (by omega) (by omega);omega) h7.2]at hlive
    cases hlive
  have key:fH q S ops.size b=some o:=by
    rw[←hlive]
    refine wH ops.size b (fun j hj htj=> ?_)
    by_cases hij:i=j
    · subst hij;rw[hSi];simp
    · by_cases hne : S j = decide (j < i)
      · exact hne
      · exfalso
        unfold vY at htj
        rcases h.unordered hs hi hj hij hSi he hne with⟨hlt,ha⟩|⟨hlt,hSj,ha⟩
        · obtain ⟨_, _, _, _, a5, _, _, a8⟩ := apart_spec ha
          cases hf:(q i).r.foot with
          | none =>
            rw[hf]at h6 a5
            have hw:=Vw a5
            rcases htj with htj|htj
            · rw[hw]at htj;cases htj
            · refine Js (h6 _ ((Kk (c := c) (call := call) (ops := ops) i _).2 ⟨j, hlt, rfl⟩) ?_) htj
              rw[(h.co hj).num]
              cases cJ:(q i).r.bef.testBit j with
              |false=>rfl
              |true=>exact absurd ((h.bef hs i hi he j cJ).trans (by simp[hlt])) hne
          | some l =>
            rw[hf]at h6 a5
            simp only at h6
            rcases htj with htj|htj
            · exact Vu a5 b htj h6
            · exact Js (a8 l hf b h6) htj
        · obtain ⟨_, _, _, a4, _, _, _, _⟩ := apart_spec ha
          rcases htj with htj|htj
          · cases hf : (q i).r.foot with
            |none=>rw[hf]at a4;rw[Vw a4]at htj;cases htj
            |some l=>rw[hf]at h6 a4;exact Vu a4 b htj h6
          · rw [(h.co hj).n, (h.co hj).n'] at htj
            have:=h.mono (j:=i) (k:=j) (by omega) (by omega)
            have:=h.mono (j:=j+1) (k:=ops.size) (by omega) (Aw _)
            omega
  exact key
end
end
section
open Go
variable [Eta]
structure INV (c:Cfg) (base:Nat) (I:World→Prop) (ops:Array Oper) (q:Nat→Q) (w0s:List Nat) (ρ0:Emb) (w0:World) (a0:Act) (S:Nat→Bool) (a:Act) (w:World) (ρ:Emb) (W:List Nat):Prop where
 size:(q 0).T.m=a.tmps.size
 tr: ∀t,t<(q 0).T.m→TV ρ w (fT q S ops.size t) (a.tmps.getD t undef)
 defers:a.defers=a0.defers
 glob:Vx c ρ
 inv:I w
 free: ∀j,j<ops.size→S j=false→kX ρ (q j).h.n (q (j+1)).h.n
 ext:Ext base c.n0 ρ0 (q 0).h.t.get (q 0).h.n w0 ρ (fH q S ops.size) (q ops.size).h.n W w
 wr: ∀b∈W,b∈w0s∨ ∃j,j<ops.size∧S j=true∧b∈(q j).r.wr
 wrn: ∀j,j<ops.size→S j=true→ ∀b∈(q j).r.wr,c.n0≤b
section
variable {c:Cfg} {base:Nat} {I:World→Prop} {call:kW} {ops:Array Oper} {q:Nat→Q}
theorem JR (a:Act) (d:Option Tmp) (v:Value) (t:Nat) (ht:t<a.tmps.size):(a.put d v).tmps.getD t undef=if d=some t then v else a.tmps.getD t undef:=by
 cases d with
 |none=>simp[Act.put]
 |some d=>
  by_cases e:d=t
  ·subst e;simp[Act.put,ht]
  ·rw [Aq (by simpa using e)]
   simp[Act.put,Cr e]
theorem J3 (a:Act) (d:Option Tmp) (v:Value):(a.put d v).tmps.size=a.tmps.size:=by cases d<;>simp[Act.put]
theorem dK (h:Run c call ops q) {S S':Nat→Bool} (hs:ya ops q S) {i:Nat} (hi:i<ops.size) (hSi:S i=false) (he: ∀e∈(q i).r.o.after.toList,Region.binds .any e=true→S e.on=true)
  (h1:S' i=true) (h2: ∀j,j≠i→S' j=S j) (t:Nat):fT q S' ops.size t=if(q i).r.o.dst=some t then some (q i).v else fT q S ops.size t:=by
 by_cases hd:(q i).r.o.dst=some t
 ·rw [Ax hd]
  refine(Jp (touch:=xq q) (val:=dS q) (i:=i) h1 hd ops.size hi (fun j hj hj2 hSj ht=> ?_)).trans rfl
  have gE:S j=true:=by rw[←h2 j (by omega)];exact hSj
  rcases h.unordered hs hi hj2 (by omega) hSi he (by rw[gE];simp;omega)with⟨hlt,_⟩|⟨_,_,ha⟩
  ·omega
  ·exact(apart_spec ha).2.2.1 t hd ht
 ·rw [Aq hd]
  refine wH ops.size t (fun j hj ht=> ?_)
  by_cases e:j=i
  ·subst e;exact absurd ht hd
  ·exact h2 j e
theorem fK (h:Run c call ops q) {S S':Nat→Bool} (hs:ya ops q S) {i:Nat} (hi:i<ops.size) (hSi:S i=false) (he: ∀e∈(q i).r.o.after.toList,Region.binds .any e=true→S e.on=true)
  (h1:S' i=true) (h2: ∀j,j≠i→S' j=S j) (b:Nat):fH q S' ops.size b=if b∈(q i).r.wr∨((q i).h.n≤b∧b<(q (i+1)).h.n)then(q i).h'.t.get b else fH q S ops.size b:=by
 have co:=h.co hi
 have hiff:vY q i b↔(b∈(q i).r.wr∨((q i).h.n≤b∧b<(q (i+1)).h.n)):=by unfold vY;rw[co.n,co.n']
 by_cases hd:vY q i b
 ·rw [Ax (hiff.1 hd)]
  refine(Jp (touch:=vY q) (val:=iw q) (i:=i) h1 hd ops.size hi (fun j hj hj2 hSj ht=> ?_)).trans rfl
  have gE:S j=true:=by rw[←h2 j (by omega)];exact hSj
  rcases h.unordered hs hi hj2 (by omega) hSi he (by rw[gE];simp;omega)with⟨hlt,_⟩|⟨_,_,ha⟩
  ·omega
  ·obtain ⟨_, _, _, _, _, a6, a7, _⟩ := apart_spec ha
   unfold vY at hd ht
   have m1:=h.mono (j:=i+1) (k:=j) (by omega) (by omega)
   rcases hd with hd|hd
   ·rcases ht with ht | ht
    ·exact a6 b hd ht
    ·rw [(h.co hj2).n, (h.co hj2).n'] at ht
     have:=h.mG hi b hd
     have:=h.mono (j:=i) (k:=j) (by omega) (by omega)
     omega
   ·rcases ht with ht | ht
    ·exact Js (a7 b ht) hd
    ·rw [(h.co hj2).n, (h.co hj2).n'] at ht
     rw[co.n,co.n']at hd
     omega
 ·rw [Aq (fun hh => hd (hiff.2 hh))]
  refine wH ops.size b (fun j hj ht=> ?_)
  by_cases e:j=i
  ·subst e;exact absurd ht hd
  ·exact h2 j e
theorem INV.step (hc:zu c) (hI:Inv base I) (hcall:jm c base I call) (hprim:wj c base I) (r:Option Nat) (h:Run c call ops q) (hm:(q 0).T.m≤lim) {w0s:List Nat} {ρ0 ρ:Emb} {w0 w:World} {a0 a:Act} {W:List Nat} {S S':Nat→Bool}
  (hr0:Rel base c.n0 ρ0 (q 0).h.t.get w0) (hfree0:kX ρ0 (q 0).h.n (q ops.size).h.n)
  (hinv:INV c base I ops q w0s ρ0 w0 a0 S a w ρ W) (hs:ya ops q S) {i:Nat} (hi:i<ops.size) (hSi:S i=false) (he: ∀e∈(q i).r.o.after.toList,Region.binds .any e=true→S e.on=true)
  (h1:S' i=true) (h2: ∀j,j≠i→S' j=S j) {K:Act→World→Prop} {Qp:Exit→Act→World→Prop} (hK: ∀a' w' ρ' W',INV c base I ops q w0s ρ0 w0 a0 S' a' w' ρ' W'→K a' w'):wpOpIn (FW r) 0 c.P ops Qp i K a w:=by
 have co:=h.co hi
 have hmi:=h.m i (by omega)
 have hsees: ∀t:Nat,t∈Oper.looksAt ops (q i).r.o→t<(q i).T.m→TV ρ w ((q i).T.get t) (a.tmps.getD t undef):=fun t ht htm=>by
  rw[h.th hm hs hi hSi he ht (by omega)]
  exact hinv.tr t (by omega)
 have rC:=Vv (ops:=ops) (ρ:=ρ) (w:=w) (a:=a) (by rw[hmi];exact hinv.size) (fun j want d hg hd hdm=>hsees d (by
  unfold Oper.looksAt
  rw[hg]
  simp only[AT]
  exact .inr (by rw[hd];simp)) hdm) co.want
 have h0: ∀b,(q 0).h.n≤b→b<(q ops.size).h.n→(q 0).h.t.get b=none:=fun b hb1 hb2=>by
  cases e:(q 0).h.t.get b with
  |none=>rfl
  |some o=>obtain⟨k,d,hk,_⟩:=hr0.at_ b o e;rw[hfree0 b hb1 hb2]at hk;cases hk
 unfold wpOpIn
 rw[h.op hi]
 simp only
 rw[rC]
 have hfreeN: ∀j,j<ops.size→S' j=false→S j=false:=fun j hj hj'=>by rw[←h2 j (fun e=>by subst e;rw[h1]at hj';cases hj')];exact hj'
 cases hb:(q i).b with
 |false=>
  simp only[BJ,if_false]
  obtain⟨n1,n2,n3⟩:=co.no hb
  have hH:fH q S' ops.size=fH q S ops.size:=by
   funext b
   rw[fK h hs hi hSi he h1 h2 b,Aq (by rw[n3,n2];simp)]
  refine⟨fun _ _=>trivial,?_⟩
  refine hK _ _ ρ W ⟨by rw[J3];exact hinv.size,fun t ht=> ?_,by rw[put_defers];exact hinv.defers,hinv.glob,hinv.inv,fun j hj hj'=>hinv.free j hj (hfreeN j hj hj'),by rw[hH];exact hinv.ext,fun b hb'=>(hinv.wr b hb').imp id (fun⟨j,k1,k2,k3⟩=>⟨j,k1,by rw[h2 j (fun e=>by subst e;rw[hSi]at k2;cases k2)];exact k2,k3⟩),fun j hj hSj b hb'=> ?_⟩
  ·rw [dK h hs hi hSi he h1 h2 t, JR _ _ _ _ (by rw [← hinv.size]; exact ht)]
   split
   ·rw[n1];exact TV.some .undef
   ·exact hinv.tr t ht
  ·by_cases e : j = i
   ·subst e;rw[n3]at hb';cases hb'
   ·exact hinv.wrn j hj (by rw[←h2 j e];exact hSj) b hb'
 |true=>
  simp only[if_true]
  obtain⟨g1,g2,⟨g3,g3'⟩,g4,g5⟩:=co.yes hb
  have hrel:Rel base c.n0 ρ (fH q S ops.size) w:=hinv.ext.rel
  have gf: ∀b o,(q i).M.get b=some o→fH q S ops.size b=some o:=fun b o hM=>h.shown hs hi hSi he hb h0 hM
  refine(my hc hI hcall r (q i).r.o g1 (hrel.forget gf) hinv.glob hinv.inv (fun x hx=>pS (fun t ht htm=>hsees t (by
   unfold Oper.looksAt
   refine BL _ (List.mem_filterMap.2 ⟨x,hx,?_⟩)
   rw[ht]) htm) hinv.glob) hprim (fun x hx=> ?_) (fun x hx v' w' ρ' hv hx2=> ?_))
  ·simp only [AL] at hx
   subst hx
   have:=hinv.free i hi hSi
   rw[←g2]at this
   exact this
  ·simp only [AL] at hx
   subst hx
   have hfi:=hinv.free i hi hSi
   have hx3:=Ext.lift (Hn:=fH q S' ops.size) (W:=(q i).r.wr) hrel gf (by rw[g2];exact g3') g3 (by rw[g2];exact hfi) hx2 (fun b=>by rw[fK h hs hi hSi he h1 h2 b,g2])
   rw[g2]at hx3
   have hx4:=Ext.trans' hfree0 hr0 (h.mono (Cq i) (by omega)) (h.mono (j:=i+1) (k:=ops.size) (by omega) (Aw _)) hinv.ext hx3
   refine hK _ _ ρ' ((q i).r.wr++W) ⟨by rw[J3];exact hinv.size,fun t ht=> ?_,by rw[put_defers];exact hinv.defers,hinv.glob.le hx3.le,hI.on _ _ hinv.inv (hx3.low hrel),fun j hj hj' b hb1 hb2=> ?_,hx4,fun b hb'=> ?_,fun j hj hSj b hb'=> ?_⟩
   ·rw [dK h hs hi hSi he h1 h2 t, JR _ _ _ _ (by rw [← hinv.size]; exact ht)]
    split
    ·exact TV.some hv
    ·exact((hinv.tr t ht).le hx3.le).grow hx3.grow
   ·cases e : ρ' b with
    |none=>rfl
    |some x=>
     have hji:j≠i:=fun e=>by subst e;rw[h1]at hj';cases hj'
     rcases hx3.dom b x e with k1|k1
     ·rw[hinv.free j hj (hfreeN j hj hj') b hb1 hb2]at k1;cases k1
     ·rcases Nat.lt_or_ge j i with hlt | hge
      ·have:=h.mono (j:=j+1) (k:=i) (by omega) (by omega);omega
      ·have:=h.mono (j:=i+1) (k:=j) (by omega) (by omega);omega
   ·rcases AT.1 hb' with k1 | k1
    ·exact .inr ⟨i,hi,h1,k1⟩
    ·exact(hinv.wr b k1).imp id (fun⟨j,k1,k2,k3⟩=>⟨j,k1,by rw[h2 j (fun e=>by subst e;rw[hSi]at k2;cases k2)];exact k2,k3⟩)
   ·by_cases e : j = i
    ·subst e;exact hx3.wr b hb'
    ·exact hinv.wrn j hj (by rw[←h2 j e];exact hSj) b hb'
end
end
section
open Go
variable [Eta]
section
variable {c:Cfg} {base:Nat} {I:World→Prop} {call:kW} {ops:Array Oper} {q:Nat→Q}
theorem nk (hc:zu c) (hI:Inv base I) (hcall:jm c base I call) (hprim:wj c base I) (h:Run c call ops q) (hm:(q 0).T.m≤lim) {w0s:List Nat} {ρ0:Emb} {w0:World}
  {a0:Act} (r:Option Nat) (hr0:Rel base c.n0 ρ0 (q 0).h.t.get w0) (hfree0:kX ρ0 (q 0).h.n (q ops.size).h.n) {Qp:Exit→Act→World→Prop}
  (hQ: ∀S a w ρ W,(∀j,j<ops.size→S j=true)→INV c base I ops q w0s ρ0 w0 a0 S a w ρ W→Qp .normal a w):
  ∀(fuel:Nat) (listed:Array Bool) (a:Act) (w:World) (ρ:Emb) (W:List Nat),listed.size=ops.size→ya ops q (fun j=>listed.getD j false)→INV c base I ops q w0s ρ0 w0 a0 (fun j=>listed.getD j false) a w ρ W→cnt (fun j=>listed.getD j false) ops.size≤fuel→
   wpAnyIn (FW r) 0 c.P .any ops Qp fuel listed a w:=by
 have done: ∀(listed:Array Bool),listed.size=ops.size→Region.ready .any ops listed=[]→ ∀j,j<ops.size→listed.getD j false=true:=by
  intro listed hsz hr j
  induction j using Nat.strongRecOn with
  |_ j ih=>
   intro hj
   cases hb:listed.getD j false with
   |true=>rfl
   |false=>
    have:j∈Region.ready .any ops listed:=mem_ready.2 ⟨by
     have hjs:j<listed.size:=by omega
     simp[hjs]at hb ⊢
     exact hb,(q j).r.o,h.op hj,fun e he hbd=>ih e.on ((h.co hj).edge e (by simpa using he) hbd) (by have:=(h.co hj).edge e (by simpa using he) hbd;omega)⟩
    rw[hr]at this
    cases this
 intro fuel
 induction fuel with
 |zero=>
  intro listed a w ρ W hsz hcl hinv tM
  have hall:=JO (S:=fun j=>listed.getD j false) ops.size (by omega)
  refine⟨?_,hQ _ a w ρ W hall hinv⟩
  cases hr:Region.ready .any ops listed with
  |nil=>rfl
  |cons j l=>
   have hj:j∈Region.ready .any ops listed:=by rw[hr];simp
   obtain⟨h1,o,h2,h3⟩:=mem_ready.1 hj
   have hlt:j<ops.size:=(Be.1 h2).1
   have:=hall j hlt
   have hjs:j<listed.size:=by omega
   simp[hjs]at h1 this
   rw[h1]at this
   cases this
 |succ fuel ih=>
  intro listed a w ρ W hsz hcl hinv tM
  refine⟨fun hr=>hQ _ a w ρ W (done listed hsz hr) hinv,fun i hi=> ?_⟩
  obtain⟨h1,o,h2,h3⟩:=mem_ready.1 hi
  have hlt:i<ops.size:=(Be.1 h2).1
  have hil:i<listed.size:=by omega
  have ho:(q i).r.o=o:=by have:=h.op hlt;rw[h2]at this;exact(A9 this).symm
  have hSi:listed.getD i false=false:=by simp[hil]at h1 ⊢;exact h1
  have hS':(listed.setIfInBounds i true).getD i false=true:=by simp[hil]
  have hSo: ∀j,j≠i→(listed.setIfInBounds i true).getD j false=listed.getD j false:=fun j hj=>getD_set_ne false (fun e=>hj e.symm)
  have he: ∀e∈(q i).r.o.after.toList,Region.binds .any e=true→listed.getD e.on false=true:=fun e hee hb=>h3 e (by rw[ho]at hee;simpa using hee) hb
  refine INV.step (S:=fun j=>listed.getD j false) (S':=fun j=>(listed.setIfInBounds i true).getD j false) hc hI hcall hprim r h hm hr0 hfree0 hinv hcl hlt hSi he hS' hSo (fun a' w' ρ' W' hinv'=> ?_)
  refine ih _ a' w' ρ' W' (by simpa using hsz) (fun j hj hSj e hee hb=> ?_) hinv' ?_
  ·by_cases hji : j = i
   ·subst hji
    exact getD_set_true (he e hee hb)
   ·have gE : listed.getD j false = true := by rw [← hSo j hji]; exact hSj
    exact getD_set_true (hcl j hj gE e hee hb)
  ·have := ay (S := fun j => listed.getD j false) (S' := fun j => (listed.setIfInBounds i true).getD j false) hSi hS' hSo ops.size hlt
   omega
theorem lH: ∀(l:List Oper) (i:Nat) (rs:List Rec) (T:Tm) (h:Hp) (w:List Nat) (s:Dr),(∀r∈rs,r.n'≤lim∨r.n'≤r.n)→Qb c call ops i l rs T h w= .ok s→h.n≤s.h.n∧ ∀b∈w,b∈s.w:=by
 intro l i rs T h w s hrs hd
 obtain⟨q,g1,g2,g3,g4,g5,g6,g7⟩:=ZA l i rs T h w s hrs hd
 have key: ∀k,k≤l.length→h.n≤(q k).h.n∧ ∀b∈w,b∈(q k).w:=by
  intro k
  induction k with
  |zero=>intro _;rw[g2,g3];exact⟨Aw _,fun b hb=>hb⟩
  |succ k ih=>
   intro hk
   obtain⟨i1,i2⟩:=ih (by omega)
   have co:=(g7 k (by omega)).2
   exact⟨Bd i1 co.nn,fun b hb=>by rw[co.w];exact BF _ (i2 b hb)⟩
 have:=key l.length (Aw _)
 rw[g5,g6]at this
 exact this
theorem au (hc:zu c) (hI:Inv base I) (hmix:c.P.follows .mixedOrders=true) (hprim:wj c base I) (hcall:jm c base I call):V4 c base I call:=by
 intro ro id ops draw s outs ho
 cases draw with
 |false=>
  simp only[cD,Ah]at ho
  obtain⟨l,h1,h2⟩:=R.zG ho
  cases h2
  have u:=xY _ _ _ h1
  refine⟨⟨by simpa using u.ne,fun o ho=> ?_,fun o ho b hb=> ?_⟩,fun r hro ρ a w hs hf=> ?_⟩
  ·obtain⟨x,hx,rfl⟩:=Bk.1 ho;exact u.n x hx
  ·obtain⟨x,hx,rfl⟩:=Bk.1 ho;exact u.w x hx b hb
  ·refine wpIn_region_list (X8 hc hI hcall hprim hro ops _ s l h1 ρ a w hs (fun o ho => hf _ (Bk.2 ⟨o, ho, rfl⟩)) (fun o ho a' w' ht => ?_))
   exact⟨_,Bk.2 ⟨o,ho,rfl⟩,trivial,ht⟩
 |true=>
  simp only[cD,Ai]at ho
  obtain⟨s',h1,h2⟩:=R.zG ho
  cases h2
  obtain⟨u1,u2⟩:=lH ops.toList 0 [] s.T s.h s.w s' (fun r hr=>by cases hr) h1
  refine⟨⟨by simp,fun o ho=> ?_,fun o ho b hb=> ?_⟩,fun r hro ρ a w hs hf=> ?_⟩
  ·simp only[AL]at ho;subst ho;exact u1
  ·simp only[AL]at ho;subst ho;exact u2 b hb
  ·obtain ⟨q, g1, g2, g3, g4, g5, g6, g7⟩ := ZA ops.toList 0 [] s.T s.h s.w s' (fun r hr => by cases hr) h1
   have hlen:ops.toList.length=ops.size:=by simp
   rw[hlen]at g4 g5 g6 g7
   have hrun:Run c call ops q:=⟨fun k hk=>by
    obtain⟨k1,k2⟩:=g7 k hk
    rw[A0,AQ]at k2
    exact⟨by simpa using k1,k2⟩⟩
   have hfree:=hf (.normal,⟨s'.T,s'.h,s'.w,s.d⟩) (by simp)
   have hfree0:kX ρ (q 0).h.n (q ops.size).h.n:=by rw[g2,g5];exact hfree
   have Vb:Rel base c.n0 ρ (q 0).h.t.get w.drew:=by
    rw[g2]
    have hr:=hs.rel
    exact⟨fun b o hb=>by obtain⟨k,d,k1,k2⟩:=hr.at_ b o hb;exact⟨k,d,k1,k2.grow (.drew w) rfl⟩,hr.inj,hr.high,hr.low,hr.sz⟩
   have hIw:I w.drew:=hI.on _ _ hs.inv ⟨rfl,rfl,rfl,Aw _,fun _ _=>rfl⟩
   have hm:(q 0).T.m≤lim:=by rw[g1];exact hs.lim
   refine wpIn_region_any hmix ?_
   show wpAnyIn (FW r) 0 c.P .any ops _ ops.size _ a w.drew
   have hfalse: ∀j,(Array.replicate ops.size false).getD j false=false:=fun j=>by
    rw[Array.getD_eq_getD_getElem?,Array.getElem?_replicate]
    split<;>rfl
   have hT0: ∀t,fT q (fun j=>(Array.replicate ops.size false).getD j false) ops.size t=(q 0).T.get t:=fun t=>Zk 0 ops.size (Cq _) (fun j _ _ hj _=>by rw[hfalse j]at hj;cases hj)
   have hH0:fH q (fun j=>(Array.replicate ops.size false).getD j false) ops.size=(q 0).h.t.get:=by
    funext b
    exact Zk 0 ops.size (Cq _) (fun j _ _ hj _=>by rw[hfalse j]at hj;cases hj)
   have hn0: ∀b,(q 0).h.n≤b→b<(q ops.size).h.n→(q 0).h.t.get b=none:=fun b hb1 hb2=>by
    cases e:(q 0).h.t.get b with
    |none=>rfl
    |some o=>obtain⟨k,d,hk,_⟩:=Vb.at_ b o e;rw[hfree0 b hb1 hb2]at hk;cases hk
   refine nk (w0s:=s.w) (a0:=a) hc hI hcall hprim hrun hm r Vb hfree0 (fun S a' w' ρ' W' hall hinv=> ?_) ops.size (Array.replicate ops.size false) a w.drew ρ [] (by simp) (fun j hj hSj=>absurd ((hfalse j).symm.trans hSj) (by simp)) ?_ ?_
   ·
    have hTN: ∀t,t<(q 0).T.m→fT q S ops.size t=(q ops.size).T.get t:=fun t ht=>by
     rw[hrun.dY hm ops.size (Aw _) t ht]
     exact wH ops.size t (fun j hj _=>hall j hj)
    have hHN:fH q S ops.size=(q ops.size).h.t.get:=by
     funext b
     rw[hrun.eQ ops.size (Aw _) b]
     exact wH ops.size b (fun j hj _=>hall j hj)
    have hmN:=hrun.m ops.size (Aw _)
    have pI:=hinv.ext
    rw[hHN,g2,g5]at pI
    have hwr: ∀b∈s'.w,c.n0≤b:=by
     have key: ∀k,k≤ops.size→ ∀b∈(q k).w,c.n0≤b:=by
      intro k
      induction k with
      |zero=>intro _ b hb;rw[g3]at hb;exact hs.wr b hb
      |succ k ih=>
       intro hk b hb
       rw[(hrun.co (k:=k) (by omega)).w]at hb
       rcases AT.1 hb with hb|hb
       ·exact hinv.wrn k (by omega) (hall k (by omega)) b hb
       ·exact ih (by omega) b hb
     rw[←g6]
     exact key ops.size (Aw _)
    have hsub: ∀b∈W',b∈s'.w:=by
     have key: ∀k,k≤ops.size→(∀b∈s.w,b∈(q k).w)∧ ∀j,j<k→ ∀b∈(q j).r.wr,b∈(q k).w:=by
      intro k
      induction k with
      |zero=>intro _;exact⟨fun b hb=>by rw[g3];exact hb,fun j hj=>by omega⟩
      |succ k ih=>
       intro hk
       obtain⟨i1,i2⟩:=ih (by omega)
       rw[(hrun.co (k:=k) (by omega)).w]
       refine⟨fun b hb=>BF _ (i1 b hb),fun j hj b hb=> ?_⟩
       by_cases e:j=k
       ·subst e;exact BL _ hb
       ·exact BF _ (i2 j (by omega) b hb)
     obtain⟨k1,k2⟩:=key ops.size (Aw _)
     intro b hb
     rw[←g6]
     rcases hinv.wr b hb with h5|⟨j,h5,_,h6⟩
     ·exact k1 b h5
     ·exact k2 j h5 b h6
    have Y9:Ext base c.n0 ρ s.h.t.get s.h.n w ρ' s'.h.t.get s'.h.n s'.w w':=by
     have h5:=pI.weaken hsub hwr
     exact⟨h5.le,h5.dom,h5.nn,h5.rel,(Grow.drew w).trans h5.grow,fun k hk hw=>h5.frame k hk hw,h5.new,h5.old,h5.wr⟩
    refine⟨(.normal,⟨s'.T,s'.h,s'.w,s.d⟩),by simp,trivial,ρ',⟨⟨?_,fun t ht=> ?_⟩,by rw[hinv.defers];exact(hs.dr.le Y9.le).grow Y9.grow,Y9.rel,hinv.glob,?_,hwr,hinv.inv⟩,Y9⟩
    ·rw[←g4,hmN];exact hinv.size
    ·have ht : t < s'.T.m := ht
     show TV ρ' w' (s'.T.get t) _
     rw[←g4]at ht ⊢
     rw[←hTN t (by omega)]
     exact hinv.tr t (by omega)
    ·rw[←g4,hmN];exact hm
   ·refine ⟨by rw [g1]; exact hs.tr.size, fun t ht => ?_, rfl, hs.glob, hIw, fun j hj _ => fun b hb1 hb2 => hfree0 b (Bd (hrun.mono (Cq j) (by omega)) hb1) (Co hb2 (hrun.mono (j := j + 1) (k := ops.size) (by omega) (Aw _))), ?_, (fun b hb => by cases hb), fun j hj hSj => absurd ((hfalse j).symm.trans hSj) (by simp)⟩
    ·rw [hT0 t, g1]
     exact(hs.tr.at_ t (by rw[←g1];exact ht)).grow (.drew w)
    ·rw [hH0]
     have hnn:=hrun.mono (j:=0) (k:=ops.size) (Cq _) (Aw _)
     exact⟨.refl ρ,fun b x hb=> .inl hb,hnn,Vb,.refl _,fun _ _ _=>rfl,fun b k d k1 k2 k3=>absurd (hn0 b k1 k2) k3,fun b _=> .inl rfl,fun b hb=>by cases hb⟩
   ·have: ∀n,cnt (fun j=>(Array.replicate ops.size false).getD j false) n≤n:=by
     intro n
     induction n with
     |zero=>exact Aw _
     |succ n ih=>unfold cnt;split<;>omega
    exact this ops.size
end
theorem sound {c:Cfg} {base:Nat} {I:World→Prop} (hc:zu c) (hI:Inv base I) (hmix:c.P.follows .mixedOrders=true) (hname: ∀f fn,c.fns f=some fn→(fn.name== "runtime.NumGoroutine")=false) (hprim:wj c base I) (hlops:jY c base I) (k:Nat):jm c base I (jP c k):=
 Xj hc hI hname hprim hlops (fun call hcall=>au hc hI hmix hprim hcall) k
end
section
open Go
variable [Eta]
noncomputable def Je (P:Program) (G n0:Nat) (eqs:TypeId→Bool) (prim:FuncId→List Value→Hp→Option Value) (facts:List Fact) (rows:List RF) (lops:FuncId→Code→St→Option (List (Ex×St))) (live:Nat→Nat→Option (List Nat)):Cfg where
 P:=P
 G:=G
 n0:=n0
 und:=fun t=>P.underlying t
 siz:=fun t=>(P.info? t).map (·.size)
 zer:=fun t=>((P.info? t).bind (·.zero)).bind fun z=>bif pfd 2 z then some z else none
 byt:=fun t=>(P.info? t).map (·.bytes)
 eqs:=eqs
 fns:=fun f=>P.funcs[f]?
 met:=fun t m=>(P.info? t).bind fun i=>(i.methods.find? (·.name==m)).bind fun r=>bif r.path.isEmpty then r.func else none
 prim:=prim
 facts:=facts
 rows:=rows
 lops:=lops
 live:=live
theorem lb (P:Program) (G n0:Nat) (eqs:TypeId→Bool) (prim:FuncId→List Value→Hp→Option Value) (facts:List Fact) (rows:List RF) (lops:FuncId→Code→St→Option (List (Ex×St))) (live:Nat→Nat→Option (List Nat)) (he: ∀t,eqs t=true→P.stoodInHeld t=false∧P.eqGuardType P.depth t=false):zu (Je P G n0 eqs prim facts rows lops live) where
 und:=fun t d h=>h
 siz:=fun t n h=>h
 zer:=fun t z h=>by
  obtain⟨z',h1,h2⟩:=Aj.1 (show ((P.info? t).bind (·.zero)).bind (fun z=>bif pfd 2 z then some z else none)=some z from h)
  cases e:pfd 2 z' with
  |false=>rw[e]at h2;cases h2
  |true=>rw[e]at h2;cases h2;exact⟨h1,e⟩
 fns:=fun f fn h=>h
 byt:=fun t n h=>h
 eqs:=he
 met:=fun t m p h=>by
  obtain⟨i,h1,h2⟩:=Aj.1 (show (P.info? t).bind (fun i=>(i.methods.find? (·.name==m)).bind fun r=>bif r.path.isEmpty then r.func else none)=some p from h)
  obtain⟨r,h3,h4⟩:=Aj.1 h2
  cases e:r.path.isEmpty with
  |false=>rw[e]at h4;cases h4
  |true=>rw[e]at h4;exact⟨i,r,h1,h3,Array.isEmpty_iff.1 e,h4⟩
noncomputable def Y4 (P:Program) (t:TypeId):Bool:=bif P.stoodInHeld t then false else !P.eqGuardType P.depth t
theorem eE {P:Program} {t:TypeId} (h:Y4 P t=true):P.stoodInHeld t=false∧P.eqGuardType P.depth t=false:=by
 unfold Y4 at h
 cases e:P.stoodInHeld t with
 |true=>rw[e]at h;cases h
 |false=>rw[e]at h;exact⟨rfl,by simpa using h⟩
end
end Go.Proofs.YtaiokpmmjbiajaaGreatDoorDx
