/- A part of the proof that the interpreter of YthilbhbnimfcmaaDxDx is sound: what it computes of a call, the call comes to in the model. No condition beyond those that each theorem names. -/
import Derived.Test.YthilbhbnimfcmaaDxR17
namespace Go.Proofs.YthilbhbnimfcmaaDx
open Go
set_option linter.unusedVariables false
set_option linter.unusedSimpArgs false
section
variable {c : Cfg} {base : Nat} {I : World → Prop} {call : CallD}

theorem putPs_TR {ρ : Emb} {w : World} {m : Nat} (hm : m ≤ lim) : ∀ (ps : List Tmp) (vs vs' : List Value) (t : PT Value) (tmps : Array Value), m = tmps.size → (∀ j, j < m → TV ρ w (t.get j) (tmps.getD j undef)) → VRL ρ w vs vs' →
    m = ((ps.zip vs').foldl (fun (tmps : Array Value) (x : Tmp × Value) => tmps.setIfInBounds x.1 x.2) tmps).size ∧ ∀ j, j < m → TV ρ w ((putPs t ps vs).get j) (((ps.zip vs').foldl (fun (tmps : Array Value) (x : Tmp × Value) => tmps.setIfInBounds x.1 x.2) tmps).getD j undef)
  | [], vs, vs', t, tmps, hs, ht, hv => by cases vs <;> exact ⟨hs, ht⟩
  | p :: ps, [], vs', t, tmps, hs, ht, hv => by obtain rfl := hv.cases_nil; exact ⟨hs, ht⟩
  | p :: ps, v :: vs, vs', t, tmps, hs, ht, hv => by
    obtain ⟨y, ys, rfl, h1, h2⟩ := hv.cases_cons
    show _ = ((ps.zip ys).foldl _ (tmps.setIfInBounds p y)).size ∧ ∀ j, j < m → TV ρ w ((putPs (t.put p (some v)) ps vs).get j) (((ps.zip ys).foldl _ (tmps.setIfInBounds p y)).getD j undef)
    refine putPs_TR hm ps vs ys (t.put p (some v)) (tmps.setIfInBounds p y) (by simpa using hs) (fun j hj => ?_) h2
    by_cases e : j = p
    · subst e
      rw [PT.get_put_same _ _ _ (by omega)]
      have hsz : j < tmps.size := by omega
      have : (tmps.setIfInBounds j y).getD j undef = y := by simp [hsz]
      rw [this]
      exact TV.some h1
    · rw [PT.get_put_other _ _ _ _ e]
      have : (tmps.setIfInBounds p y).getD j undef = tmps.getD j undef := by simp [Array.getElem?_setIfInBounds_ne (Ne.symm e)]
      rw [this]
      exact ht j hj
theorem zip_foldl (ps : List Tmp) (vs : List Value) (tmps : Array Value) : (ps.toArray.zip vs.toArray).foldl (fun tmps (x : Tmp × Value) => tmps.setIfInBounds x.1 x.2) tmps = (ps.zip vs).foldl (fun (tmps : Array Value) (x : Tmp × Value) => tmps.setIfInBounds x.1 x.2) tmps := by
  rw [← Array.foldl_toList]
  simp
theorem yld_ok (hc : CfgOk c) (hI : Inv base I) (hcall : CallOk c base I call) (hprim : PrimOk c base I) (hreg : RegOk c base I call) {b m db : Nat} {t : PT Value} {ps : List Tmp} {asg bd : Code} {args args' : List Value} {h : Hp} {l : List (Ex × St)} {outs : List Out} (hb : h.t.get b = some (.loop false t m ps asg bd db))
    (hps : ps.length = args.length) (h0 : c.n0 ≤ b) (hlim : b < lim) (hml : m < lim) (h1 : codeD c call true 100000 asg ⟨⟨putPs t ps args, m⟩, h, [], []⟩ = .ok l) (h2 : roundBody c call b bd l = .ok outs) {ρ : Emb} {w : World} (hp : Pre c base I ρ h w args args' outs) :
    ∃ k, ρ b = some (k, 0) ∧ ∃ g tmps as bd', (Instr.yield k args'.toArray).run c.P w = .ok (.round k g tmps as bd') w ∧ RoundIn Fence.wide 0 c.P k g tmps as bd' w (CP c base ρ h w outs) := by
  obtain ⟨k, d, hk, fn0, tmps0, kd, dd, rfl, g1, g2, g3, g4⟩ := hp.rel.at_ b _ hb
  have hlen := hp.args.len
  refine ⟨k, hk, fn0, _, asg, bd, run_yield (P := c.P) (w := w) (l := k) (args := args'.toArray) g1 (by simp; omega), ?_⟩
  -- the parts
  have hmem : ∀ p ∈ l, p.1 = .normal ∧ isRdy (p.2.h.t.get b) = true ∧ ∃ l2 rx, codeD c call true 100000 bd ⟨p.2.T, ⟨p.2.h.t.put b (busyO true (p.2.h.t.get b)), p.2.h.n⟩, b :: p.2.w, p.2.d⟩ = .ok l2 ∧ roundEnd b l2 = .ok rx ∧ ∀ o ∈ rx, o ∈ outs := by
    intro p hpl
    unfold roundBody at h2
    obtain ⟨rx, k1, k2⟩ := bindL_mem h2 p hpl
    split at k1
    · rename_i hn
      cases e : isRdy (p.2.h.t.get b) with
      | false => rw [e] at k1; cases k1
      | true =>
        rw [e] at k1
        simp only [cond_true] at k1
        obtain ⟨l2, k3, k4⟩ := R.bind_ok k1
        exact ⟨hn, rfl, l2, rx, k3, k4, k2⟩
    · cases k1
  have hend : ∀ {l2 : List (Ex × St)} {rx : List Out}, roundEnd b l2 = .ok rx → ∀ p ∈ l2, p.1 = .normal ∧ isBusy (p.2.h.t.get b) = true ∧ ((.bool true, ⟨p.2.h.t.put b (busyO false (p.2.h.t.get b)), p.2.h.n⟩, b :: p.2.w) : Out) ∈ rx := by
    intro l2 rx hre p hpl
    unfold roundEnd at hre
    obtain ⟨ry, k1, k2⟩ := bindL_mem hre p hpl
    split at k1
    · rename_i hn
      cases e : isBusy (p.2.h.t.get b) with
      | false => rw [e] at k1; cases k1
      | true =>
        rw [e] at k1
        cases k1
        exact ⟨hn, rfl, k2 _ (by simp)⟩
    · cases k1
  have hst := putPs_TR (ρ := ρ) (w := w) (m := m) (Nat.le_of_lt hml) ps args args' t tmps0 g2 g3 hp.args
  rw [← zip_foldl] at hst
  have hs : SR c base I ρ ⟨⟨putPs t ps args, m⟩, h, [], []⟩ { tmps := (ps.toArray.zip args'.toArray).foldl (fun tmps (x : Tmp × Value) => tmps.setIfInBounds x.1 x.2) tmps0, defers := [] } w :=
    ⟨⟨hst.1, hst.2⟩, trivial, hp.rel, hp.glob, Nat.le_of_lt hml, (fun b hb => by cases hb), hp.inv⟩
  have hfree2 : ∀ p ∈ l, ∀ l2 rx, codeD c call true 100000 bd ⟨p.2.T, ⟨p.2.h.t.put b (busyO true (p.2.h.t.get b)), p.2.h.n⟩, b :: p.2.w, p.2.d⟩ = .ok l2 → roundEnd b l2 = .ok rx → (∀ o ∈ rx, o ∈ outs) → ∀ o ∈ l2, Free ρ h.n o.2.h.n := by
    intro p hpl l2 rx k3 k4 k5 o ho
    have := (hend k4 o ho).2.2
    exact hp.free _ (k5 _ this)
  have hfree1 : ∀ p ∈ l, Free ρ h.n p.2.h.n := by
    intro p hpl
    obtain ⟨_, _, l2, rx, k3, k4, k5⟩ := hmem p hpl
    have hup := codeD_up hreg 100000 bd _ l2 k3
    obtain ⟨o, ho⟩ := List.exists_mem_of_ne_nil l2 hup.ne
    exact (hfree2 p hpl l2 rx k3 k4 k5 o ho).mono (hup.n o ho)
  refine roundIn_of_wpIn (F := Fence.wide) (n := 0) trivial ?_
  refine wpIn_mono (code_wp hc hI hcall hprim hreg (ro := true) (r := some k) (fun e => by cases e) 100000 asg _ l h1 ρ _ w hs hfree1) ?_
  rintro e a1 w1 ⟨p, hpl, hex, ρ1, hs1, hx1⟩
  obtain ⟨hn, hrdy, l2, rx, k3, k4, k5⟩ := hmem p hpl
  obtain ⟨x, s1⟩ := p
  simp only at hn
  subst hn
  cases e <;> first | exact False.elim hex | skip
  obtain ⟨t1, m1, ps1, as1, bd1, db1, hlp⟩ := isRdy_some hrdy
  simp only at hlp k3 hs1 hx1
  obtain ⟨k', d', e1, fn1, tmps1, kd1, dd1, e2, e3, e4, e5, e6⟩ := hs1.rel.at_ b _ hlp
  have hk1 := hx1.le _ _ hk
  rw [hk1] at e1
  cases e1
  have hbusy : busyO true (s1.h.t.get b) = some (.loop true t1 m1 ps1 as1 bd1 db1) := by rw [hlp]; rfl
  have x2 := Ext.setO (c := c) (h := s1.h) (o' := busyO true (s1.h.t.get b)) (ob' := loopRec true fn1 tmps1 ps1 as1 bd1 kd1) hs1.rel hlp hk1 h0 hlim e3 nocell_loop (.refl w1) rfl (fun x hx => by
    rw [hbusy] at hx
    cases hx
    exact ⟨fn1, tmps1, kd1, dd1, rfl, World.putObj_heap_same (hs1.rel.low _ _ _ hk1), e4, fun j hj => (e5 j hj).grow (Grow.putO _ (.refl w1) rfl e3 nocell_loop), e6⟩)
  refine ⟨_, run_beginRound (P := c.P) e3 rfl, ?_⟩
  have hs2 : SR c base I ρ1 ⟨s1.T, ⟨s1.h.t.put b (busyO true (s1.h.t.get b)), s1.h.n⟩, b :: s1.w, s1.d⟩ a1 (w1.putObj k (loopRec true fn1 tmps1 ps1 as1 bd1 kd1)) :=
    ⟨hs1.tr.grow x2.grow, hs1.dr.grow x2.grow, x2.rel, hs1.glob, hs1.lim, fun y hy => by rcases List.mem_cons.1 hy with rfl | hy; exact h0; exact hs1.wr y hy, hI.on _ _ hs1.inv (x2.low hs1.rel)⟩
  have hup2 := codeD_up hreg 100000 bd _ l2 k3
  have hx12 : Ext base c.n0 ρ h.t.get h.n w ρ1 (s1.h.t.put b (busyO true (s1.h.t.get b))).get s1.h.n (b :: s1.w) (w1.putObj k (loopRec true fn1 tmps1 ps1 as1 bd1 kd1)) :=
    Ext.after (hfree1 _ hpl) hp.rel hx1 (x2.weaken (W' := b :: s1.w) (fun y hy => by simp at hy ⊢; exact .inl hy) hs2.wr) (fun y hy => List.mem_cons_of_mem _ hy)
  refine wpIn_mono (code_wp hc hI hcall hprim hreg (ro := true) (r := some k) (fun e => by cases e) 100000 bd _ l2 k3 ρ1 a1 _ hs2 (fun o ho => (hfree2 _ hpl l2 rx k3 k4 k5 o ho).after hx12)) ?_
  rintro e a3 w3 ⟨q, hq, hex, ρ3, hs3, hx3⟩
  obtain ⟨hn, hbz, hout⟩ := hend k4 q hq
  obtain ⟨x, s3⟩ := q
  simp only at hn
  subst hn
  cases e <;> first | exact False.elim hex | skip
  obtain ⟨t3, m3, ps3, as3, bd3, db3, hlp3⟩ := isBusy_some hbz
  simp only at hlp3 hout hs3 hx3
  obtain ⟨k', d', u1, fn3, tmps3, kd3, dd3, u2, u3, u4, u5, u6⟩ := hs3.rel.at_ b _ hlp3
  have hk3 := hx3.le _ _ hk1
  rw [hk3] at u1
  cases u1
  have hrdy3 : busyO false (s3.h.t.get b) = some (.loop false t3 m3 ps3 as3 bd3 db3) := by rw [hlp3]; rfl
  have x4 := Ext.setO (c := c) (h := s3.h) (o' := busyO false (s3.h.t.get b)) (ob' := loopRec false fn3 tmps3 ps3 as3 bd3 kd3) hs3.rel hlp3 hk3 h0 hlim u3 nocell_loop (.refl w3) rfl (fun x hx => by
    rw [hrdy3] at hx
    cases hx
    exact ⟨fn3, tmps3, kd3, dd3, rfl, World.putObj_heap_same (hs3.rel.low _ _ _ hk3), u4, fun j hj => (u5 j hj).grow (Grow.putO _ (.refl w3) rfl u3 nocell_loop), u6⟩)
  have hfr3 := hfree2 _ hpl l2 rx k3 k4 k5 _ hq
  have hx13 := Ext.after hfr3 hp.rel hx12 hx3 (fun y hy => hup2.w _ hq y hy)
  have hx14 := Ext.after hfr3 hp.rel hx13 (x4.weaken (W' := b :: s3.w) (fun y hy => by simp at hy ⊢; exact .inl hy) (fun y hy => by rcases List.mem_cons.1 hy with rfl | hy; exact h0; exact hs3.wr y hy)) (fun y hy => List.mem_cons_of_mem _ hy)
  exact ⟨.bool true, _, run_endRound (P := c.P) none u3, _, k5 _ hout, .bool true, ρ3, rfl, .bool true, hx14⟩
/-- Calls. -/
theorem callD_ok (hc : CfgOk c) (hI : Inv base I) (hname : ∀ f fn, c.fns f = some fn → (fn.name == "runtime.NumGoroutine") = false) (hprim : PrimOk c base I) (hregs : ∀ call, CallOk c base I call → RegOk c base I call) : ∀ k, CallOk c base I (callD c k)
  | 0 => ⟨fun f args h outs ho => (by cases ho), fun f args h outs ho => (by cases ho), fun f args h outs ho => (by cases ho)⟩
  | k + 1 => by
    have ih := callD_ok hc hI hname hprim hregs k
    have hreg := hregs _ ih
    refine ⟨fun f args h outs ho ρ w args' hp => ?_, fun f args h outs ho ρ w args' hp => ?_, fun b args h outs ho ρ w args' hp => ?_⟩
    · simp only [callD] at ho
      split at ho
      · rename_i fn hfn
        split at ho
        · rename_i q hq
          cases e : (Nat.ble args.length fn.ntmps && Nat.blt fn.ntmps lim) with
          | false => rw [e] at ho; cases ho
          | true =>
            rw [e] at ho
            simp only [Bool.and_eq_true] at e
            simp only [cond_true] at ho
            obtain ⟨l, h1, h2⟩ := R.bind_ok (R.ctx_ok ho)
            obtain ⟨os, h3, h4⟩ := R.bind_ok h2
            cases h4
            exact ⟨fn, hc.fns f fn hfn, by rw [hq]; rfl, hname f fn hfn, fn_ok hc hI ih hprim hreg (hc.fns f fn hfn) hq (ble_t e.1) (blt_t e.2) h1 h3 hp⟩
        · cases ho
      · cases ho
    · simp only [callD] at ho
      split at ho
      · rename_i fn hfn
        split at ho
        · rename_i q hq
          cases e : (Nat.ble args.length fn.ntmps && Nat.blt fn.ntmps lim) with
          | false => rw [e] at ho; cases ho
          | true =>
            rw [e] at ho
            simp only [Bool.and_eq_true] at e
            simp only [cond_true] at ho
            obtain ⟨l, h1, h2⟩ := R.bind_ok (R.ctx_ok ho)
            exact ⟨fn, hc.fns f fn hfn, by rw [hq]; rfl, hname f fn hfn, dfr_ok hc hI ih hprim hreg (hc.fns f fn hfn) hq (ble_t e.1) (blt_t e.2) h1 h2 hp⟩
        · cases ho
      · cases ho
    · simp only [callD] at ho
      split at ho
      · rename_i t m ps asg bd db hb
        cases e : (Nat.beq ps.length args.length && Nat.ble c.n0 b && Nat.blt b lim && Nat.blt m lim) with
        | false => rw [e] at ho; cases ho
        | true =>
          rw [e] at ho
          simp only [Bool.and_eq_true] at e
          simp only [cond_true] at ho
          obtain ⟨l, h1, h2⟩ := R.bind_ok ho
          exact yld_ok hc hI ih hprim hreg hb (beq_t e.1.1.1) (ble_t e.1.1.2) (blt_t e.1.2) (blt_t e.2) h1 h2 hp
      · cases ho
end
end Go.Proofs.YthilbhbnimfcmaaDx
