/- A part of the proof that the interpreter of YthilbhbnimfcmaaDxDx is sound: what it computes of a call, the call comes to in the model. No condition beyond those that each theorem names. -/
import Derived.Test.YthilbhbnimfcmaaDxR13
import Derived.LoopNIn
namespace Go.Proofs.YthilbhbnimfcmaaDx
open Go
set_option linter.unusedVariables false
set_option linter.unusedSimpArgs false
section
variable {c : Cfg} {base : Nat} {I : World → Prop} {call : CallD}

theorem putD_m (T : Tm) (d : Option Tmp) (v : Value) : (putD T d v).m = T.m := by
  unfold putD
  split
  · cases Nat.blt _ T.m <;> rfl
  · rfl
theorem put_defers (a : Act) (d : Option Tmp) (v : Value) : (a.put d v).defers = a.defers := by cases d <;> rfl
theorem SR.after {ρ ρ' : Emb} {s : St} {a : Act} {w w' : World} (hI : Inv base I) (h : SR c base I ρ s a w) {h' : Hp} {W : List Nat} (k : Ext base c.n0 ρ s.h.t.get s.h.n w ρ' h'.t.get h'.n W w') {v v' : Value} (hv : VR ρ' w' v v') (d : Option Tmp) :
    SR c base I ρ' ⟨putD s.T d v, h', W ++ s.w, s.d⟩ (a.put d v') w' :=
  ⟨((h.tr.le k.le).grow k.grow).put h.lim d hv, by rw [put_defers]; exact (h.dr.le k.le).grow k.grow, k.rel, h.glob.le k.le, by
    show (putD s.T d v).m ≤ _root_.Go.Proofs.YthilbhbnimfcmaaDx.lim
    rw [putD_m]; exact h.lim, fun b hb => (List.mem_append.1 hb).elim (k.wr b) (h.wr b), hI.on _ _ h.inv (k.low h.rel)⟩

/-- A defer statement. -/
theorem deferD_run {T : Tm} {o : Oper} {p : FuncId × List Value} (hd : deferD c T o = some p) {ρ : Emb} {w : World} {a : Act} (hev : ∀ x ∈ o.op.operands.toList, EV c ρ w T a x) :
    ∃ d, (execOp a.eval o).run c.P w = .ok (.defer d) w ∧ DR1 ρ w (.call p.1 p.2) d := by
  unfold deferD at hd
  split at hd
  · rename_i q hop
    split at hd
    · rename_i fo hfo
      obtain ⟨fv, e1, hd⟩ := bindS hd
      have hargs : ∀ x ∈ q.args.toList, EV c ρ w T a x := fun x hx => hev x (by rw [hop]; simp [Op.operands, Call.operands, hfo]; exact .inr (by simpa using hx))
      have hv := hev fo (by rw [hop]; simp [Op.operands, Call.operands, hfo]) _ e1
      split at hd
      · rename_i f0 fst cap
        obtain ⟨asl, e2, e3⟩ := bindS hd
        cases e3
        have hva := evs_VR _ _ hargs e2
        generalize hfe : a.eval fo = fe at hv
        cases hv with
        | func fn hfn xs ys xs' ys' a1 a2 a3 a4 =>
          refine ⟨{ target := .fn (.func f0) ys', args := xs' ++ q.args.map a.eval }, ?_, ys', rfl, ?_⟩
          · unfold execOp
            rw [hop]
            simp only [resolve, hfo, hfe, Deferred.ofValue, Sem.run_bind, Sem.run_pure, Result.andThen]
          · have := (VRL.append (⟨a1, a2⟩ : VRL ρ w _ xs'.toList) hva).append (⟨a3, a4⟩ : VRL ρ w _ ys'.toList)
            simpa using this
      · cases hd
    · cases hd
  · cases hd
theorem deferD_op {T : Tm} {o : Oper} {p : FuncId × List Value} (hd : deferD c T o = some p) : ∃ q, o.op = .defer q := by
  unfold deferD at hd
  split at hd
  · rename_i q hop; exact ⟨q, hop⟩
  · cases hd

/-- Operations in the order of the text. -/
theorem ops_wp (hc : CfgOk c) (hI : Inv base I) (hcall : CallOk c base I call) (hprim : PrimOk c base I) {ro : Bool} {r : Option Nat} (hro : ro = false → r = none) (ops : Array Oper) {Q : Exit → Act → World → Prop} :
    ∀ (l : List Oper) (s : St) (outs : List St), opsD c call ro ops l s = .ok outs → ∀ (ρ : Emb) (a : Act) (w : World), SR c base I ρ s a w → (∀ o ∈ outs, Free ρ s.h.n o.h.n) →
      (∀ o ∈ outs, ∀ a' w', To c base I ρ s w o a' w' → Q .normal a' w') → wpListIn (FW r) 0 c.P ops Q l a w
  | [], s, outs, h, ρ, a, w, hs, hf, hQ => by
    cases h
    exact wpListIn_nil (hQ s (by simp) a w ⟨ρ, hs, (Ext.refl hs.rel).weaken (fun b hb => by cases hb) hs.wr⟩)
  | o :: l, s, outs, h, ρ, a, w, hs, hf, hQ => by
    unfold opsD at h
    obtain ⟨b, h1, h2⟩ := R.bind_ok h
    have hw := yielded_eq hs.tr (R.of_ok h1)
    refine wpListIn_step (fun K hK => ?_)
    rw [hw]
    cases b with
    | false =>
      simp only [Bool.false_eq_true, if_false]
      simp only [cond_false] at h2
      refine ⟨fun _ _ => trivial, hK _ _ (ops_wp hc hI hcall hprim hro ops l ⟨putD s.T o.dst undef, s.h, s.w, s.d⟩ outs h2 ρ _ w ?_ hf (fun x hx a' w' ht => hQ x hx a' w' ht))⟩
      exact SR.after hI hs (Ext.refl hs.rel) (VR.undef (ρ := ρ) (w := w)) o.dst
    | true =>
      simp only [if_true]
      simp only [cond_true] at h2
      split at h2
      · rename_i p hp
        cases ro with
        | true => cases h2
        | false =>
          simp only [cond_false] at h2
          obtain rfl := hro rfl
          obtain ⟨d, g1, g2⟩ := deferD_run hp (ρ := ρ) (w := w) (a := a) (fun x _ => hs.tr.ev hs.glob x)
          refine ⟨fun _ _ => trivial, ?_⟩
          rw [show (FW none).round = none from rfl, Oper.semAt_none, g1]
          show K _ w
          refine hK _ _ (ops_wp hc hI hcall hprim hro ops l ⟨putD s.T o.dst undef, s.h, s.w, .call p.1 p.2 :: s.d⟩ outs h2 ρ _ w ?_ hf (fun x hx a' w' ht => hQ x hx a' w' ht))
          have := SR.after hI hs (Ext.refl hs.rel) (VR.undef (ρ := ρ) (w := w)) o.dst
          have e : ({ a with defers := d :: a.defers } : Act).put o.dst undef = { a.put o.dst undef with defers := d :: (a.put o.dst undef).defers } := by cases o.dst <;> rfl
          rw [e]
          exact ⟨⟨this.tr.size, this.tr.at_⟩, ⟨g2, this.dr⟩, this.rel, this.glob, this.lim, this.wr, this.inv⟩
      · obtain ⟨os, h3, h4⟩ := R.bind_ok h2
        have hup := fun x (hx : x ∈ os) => bindL_mem h4 x hx
        have hfo : ∀ x ∈ os, Free ρ s.h.n x.2.1.n := fun x hx => by
          obtain ⟨rx, k1, k2⟩ := hup x hx
          have := opsD_up l _ rx k1
          obtain ⟨y, hy⟩ := List.exists_mem_of_ne_nil rx this.ne
          exact (hf y (k2 y hy)).mono (this.n y hy)
        refine op_wp hc hI hcall r o h3 hs.rel hs.glob hs.inv (fun x _ => hs.tr.ev hs.glob x) hprim hfo (fun x hx v' w' ρ' hv hx2 => hK _ _ ?_)
        obtain ⟨rx, k1, k2⟩ := hup x hx
        have hs' := SR.after hI hs hx2 hv o.dst
        refine ops_wp hc hI hcall hprim hro ops l _ rx k1 ρ' _ w' hs' (fun y hy => (hf y (k2 y hy)).after hx2) (fun y hy a'' w'' ht => hQ y (k2 y hy) a'' w'' ?_)
        obtain ⟨ρ'', t1, t2⟩ := ht
        have hx3 := hx2.weaken (W' := x.2.2 ++ s.w) (fun b hb => by simp [hb]) hs'.wr
        exact ⟨ρ'', t1, Ext.after (hf y (k2 y hy)) hs.rel hx3 t2 (fun b hb => (opsD_up l _ rx k1).w y hy b hb)⟩

/-- How a piece of code ends. -/
def EX : Ex → Exit → Prop
  | .normal, .normal => True
  | .exit i, .exit j => i = j
  | .ret, .ret => True
  | _, _ => False
/-- What a piece of code comes to. -/
def CQ (c : Cfg) (base : Nat) (I : World → Prop) (ρ : Emb) (s : St) (w : World) (outs : List (Ex × St)) (e : Exit) (a' : Act) (w' : World) : Prop := ∃ o ∈ outs, EX o.1 e ∧ To c base I ρ s w o.2 a' w'

/-- What is known of regions. -/
def RegOk (c : Cfg) (base : Nat) (I : World → Prop) (call : CallD) : Prop :=
  ∀ ro id ops draw s outs, regD c call ro ops draw s = .ok outs → UpX s outs ∧
    ∀ r, (ro = false → r = none) → ∀ ρ a w, SR c base I ρ s a w → (∀ o ∈ outs, Free ρ s.h.n o.2.h.n) → (Code.region id ops draw).wpIn (FW r) 0 c.P (CQ c base I ρ s w outs) a w

theorem loopD_up {a : Code} {f : St → Outs} {s0 : St} (hf : ∀ s r, f s = .ok r → UpX s r) : ∀ (k : Nat) (l : List St) (r : List (Ex × St)), loopD c a f s0 k l = .ok r → Up s0 l → UpX s0 r ∧ ∀ s ∈ l, ∃ o ∈ r, s.h.n ≤ o.2.h.n
  | 0, l, r, h, hl => by cases h
  | k + 1, l, r, h, hl => by
    unfold loopD at h
    obtain ⟨q, h1, h2⟩ := R.bind_ok h
    have hq : ∀ p ∈ q, s0.h.n ≤ p.2.h.n ∧ ∀ b ∈ s0.w, b ∈ p.2.w := fun p hp => by
      obtain ⟨x, k1, rx, k2, k3⟩ := bindL_of h1 p hp
      have := hf x rx k2
      exact ⟨Nat.le_trans (hl.n x k1) (this.n p k3), fun b hb => this.w p k3 b (hl.w x k1 b hb)⟩
    have hout : ∀ s ∈ l, ∃ p ∈ q, s.h.n ≤ p.2.h.n := fun s hs => by
      obtain ⟨rx, k1, k2⟩ := bindL_mem h1 s hs
      have := hf s rx k1
      obtain ⟨y, hy⟩ := List.exists_mem_of_ne_nil rx this.ne
      exact ⟨y, k2 y hy, this.n y hy⟩
    split at h2
    · rename_i hn
      cases h2
      have hl' : ∀ p ∈ q, p ∈ leavers q := fun p hp => mem_leavers.2 ⟨hp, fun e => by
        obtain ⟨x, s⟩ := p
        simp only at e
        subst e
        have := mem_normals.2 hp
        rw [hn] at this; cases this⟩
      refine ⟨⟨fun e => ?_, fun o ho => (hq o (mem_leavers.1 ho).1).1, fun o ho => (hq o (mem_leavers.1 ho).1).2⟩, fun s hs => ?_⟩
      · obtain ⟨s, hs⟩ := List.exists_mem_of_ne_nil l hl.ne
        obtain ⟨p, hp, _⟩ := hout s hs
        have := hl' p hp
        rw [e] at this; cases this
      · obtain ⟨p, hp, hle⟩ := hout s hs
        exact ⟨p, hl' p hp, hle⟩
    · rename_i hn
      obtain ⟨r', h3, h4⟩ := R.bind_ok h2
      cases h4
      have hnl : Up s0 (normals q) := ⟨hn, fun o ho => (hq _ (mem_normals.1 ho)).1, fun o ho => (hq _ (mem_normals.1 ho)).2⟩
      obtain ⟨m1, m2⟩ := mergeS_up (c := c) (a := a) hnl
      obtain ⟨g1, g2⟩ := loopD_up hf k _ _ h3 m1
      refine ⟨⟨fun e => g1.ne (List.append_eq_nil_iff.1 e).2, fun o ho => ?_, fun o ho => ?_⟩, fun s hs => ?_⟩
      · rcases List.mem_append.1 ho with ho | ho
        · exact (hq o (mem_leavers.1 ho).1).1
        · exact g1.n o ho
      · rcases List.mem_append.1 ho with ho | ho
        · exact (hq o (mem_leavers.1 ho).1).2
        · exact g1.w o ho
      · obtain ⟨⟨x, p⟩, hp, hle⟩ := hout s hs
        by_cases e : x = .normal
        · subst e
          obtain ⟨p', k1, k2⟩ := m2 p (mem_normals.2 hp)
          obtain ⟨o, k3, k4⟩ := g2 p' k1
          exact ⟨o, List.mem_append_right _ k3, Nat.le_trans hle (Nat.le_trans k2 k4)⟩
        · exact ⟨(x, p), List.mem_append_left _ (mem_leavers.2 ⟨hp, e⟩), hle⟩
theorem isRdy_some {x : Option Ob} (h : isRdy x = true) : ∃ t m ps asg bd db, x = some (.loop false t m ps asg bd db) := by
  unfold isRdy at h
  split at h
  · exact ⟨_, _, _, _, _, _, rfl⟩
  · cases h
theorem isBusy_some {x : Option Ob} (h : isBusy x = true) : ∃ t m ps asg bd db, x = some (.loop true t m ps asg bd db) := by
  unfold isBusy at h
  split at h
  · exact ⟨_, _, _, _, _, _, rfl⟩
  · cases h
theorem rangeFD_some {g : Value} {ps : List Tmp} {asg bd : Code} {s : St} {r : List (Ex × St)} (h : rangeFD c call g ps asg bd s = .ok r) :
    ∃ f fst cap outs, g = .func (.func f) fst cap ∧ s.h.n + 2 < lim ∧ c.n0 ≤ s.h.n ∧
      callFD c call ⟨(s.h.t.put s.h.n (some .dfb)).put (s.h.n + 1) (some (.loop false s.T.t s.T.m ps asg bd s.h.n)), s.h.n + 2⟩ (.fn f) (fst.toList ++ [yieldV (s.h.n + 1)] ++ cap.toList) = .ok outs ∧ outs ≠ [] ∧ (∀ o ∈ outs, s.h.n + 2 ≤ o.2.1.n) ∧
      (∀ o ∈ outs, ∃ t m ps asg bd db, o.2.1.t.get (s.h.n + 1) = some (.loop false t m ps asg bd db)) ∧
      r = outs.map fun o => (.normal, ⟨s.T, ⟨o.2.1.t.put (s.h.n + 1) none, o.2.1.n⟩, (s.h.n + 1) :: (o.2.2 ++ s.w), .mark s.h.n :: s.d⟩) := by
  unfold rangeFD at h
  split at h
  · rename_i f fst cap
    cases e : (Nat.blt (s.h.n + 2) lim && Nat.ble c.n0 s.h.n) with
    | false => rw [e] at h; cases h
    | true =>
      rw [e] at h
      simp only [cond_true] at h
      simp only [Bool.and_eq_true] at e
      obtain ⟨outs, h1, h2⟩ := R.bind_ok h
      obtain ⟨outs', h3, h4⟩ := R.bind_ok h2
      obtain ⟨rfl, h5, h6⟩ := chk_ok h3
      cases e2 : (outs.all (fun o => isRdy (o.2.1.t.get (s.h.n + 1)))) with
      | false => rw [e2] at h4; cases h4
      | true =>
        rw [e2] at h4
        cases h4
        refine ⟨f, fst, cap, outs, rfl, blt_t e.1, ble_t e.2, h1, h5, h6, fun o ho => ?_, rfl⟩
        exact isRdy_some (List.all_eq_true.1 e2 o ho)
  · cases h
theorem codeD_up (hreg : RegOk c base I call) {ro : Bool} : ∀ (k : Nat) (q : Code) (s : St) (outs : List (Ex × St)), codeD c call ro k q s = .ok outs → UpX s outs
  | 0, q, s, outs, h => by cases h
  | k + 1, q, s, outs, h => by
    cases q with
    | skip => cases h; exact UpX.one _ _
    | label l => cases h; exact UpX.one _ _
    | exit id => cases h; exact UpX.one _ _
    | ret => cases h; exact UpX.one _ _
    | region id ops d => exact (hreg ro id ops d s outs h).1
    | scope a => cases h
    | cond x a b =>
      simp only [codeD] at h
      split at h
      · rename_i v _
        cases v
        · exact codeD_up hreg k b s outs h
        · exact codeD_up hreg k a s outs h
      · cases h
    | seq a b =>
      simp only [codeD] at h
      obtain ⟨l, h1, h2⟩ := R.bind_ok h
      exact thenD_up h2 (codeD_up hreg k a s l h1) (fun s r hr => codeD_up hreg k b s r hr)
    | loop a =>
      simp only [codeD] at h
      exact (loopD_up (fun s r hr => codeD_up hreg k a s r hr) k [s] outs h ⟨by simp, by simp, by simp⟩).1
    | block id a =>
      simp only [codeD] at h
      obtain ⟨l, h1, h2⟩ := R.bind_ok h
      have g := codeD_up hreg k a s l h1
      cases h2
      have hb : ∀ p : Ex × St, (blockX id p).2 = p.2 := fun p => by obtain ⟨e, s⟩ := p; cases e <;> rfl
      refine ⟨by simpa using g.ne, fun o ho => ?_, fun o ho b hb' => ?_⟩
      · obtain ⟨p, hp, rfl⟩ := List.mem_map.1 ho
        rw [hb]; exact g.n p hp
      · obtain ⟨p, hp, rfl⟩ := List.mem_map.1 ho
        rw [hb]; exact g.w p hp b hb'
    | rangeFunc f ps as bd =>
      simp only [codeD] at h
      cases ro with
      | true => cases h
      | false =>
        simp only [cond_false] at h
        split at h
        · obtain ⟨f', fst, cap, os, _, h1, h2, h3, h4, h5, h6, rfl⟩ := rangeFD_some h
          refine ⟨by simpa using h4, fun o ho => ?_, fun o ho b hb => ?_⟩
          · obtain ⟨x, hx, rfl⟩ := List.mem_map.1 ho
            have := h5 x hx
            show s.h.n ≤ x.2.1.n
            omega
          · obtain ⟨x, hx, rfl⟩ := List.mem_map.1 ho
            exact List.mem_cons_of_mem _ (List.mem_append_right _ hb)
        · cases h
    | goto l => cases h
    | refuse w => cases h
end
end Go.Proofs.YthilbhbnimfcmaaDx
