/- A part of the proof that the interpreter of YthilbhbnimfcmaaDxDx is sound: what it computes of a call, the call comes to in the model. No condition beyond those that each theorem names. -/
import Derived.Test.YthilbhbnimfcmaaDxR16
namespace Go.Proofs.YthilbhbnimfcmaaDx
open Go
set_option linter.unusedVariables false
set_option linter.unusedSimpArgs false
section
variable {c : Cfg} {base : Nat} {I : World → Prop} {call : CallD}

theorem dfrOps_up {ops : Array Oper} : ∀ (l : List Oper) (s : St) (outs : List St), dfrOps c ops l s = .ok outs → Up s outs
  | [], s, outs, h => by cases h; exact ⟨by simp, by simp, by simp⟩
  | o :: l, s, outs, h => by
    unfold dfrOps at h
    obtain ⟨b, h1, h2⟩ := R.bind_ok h
    cases b with
    | false => have := dfrOps_up l _ outs h2; exact ⟨this.ne, this.n, this.w⟩
    | true =>
      simp only [cond_true] at h2
      cases hr : isRec o with
      | true => rw [hr] at h2; have := dfrOps_up l _ outs h2; exact ⟨this.ne, this.n, this.w⟩
      | false =>
        rw [hr] at h2
        simp only [cond_false] at h2
        obtain ⟨os, h3, h4⟩ := R.bind_ok h2
        obtain ⟨os', h5, h6⟩ := R.bind_ok h4
        obtain ⟨rfl, g1, g2⟩ := chk_ok h5
        refine ⟨fun e => ?_, fun y hy => ?_, fun y hy b hb => ?_⟩
        · obtain ⟨x, hx⟩ := List.exists_mem_of_ne_nil os g1
          obtain ⟨rx, k1, k2⟩ := bindL_mem h6 x hx
          have := dfrOps_up l _ rx k1
          obtain ⟨z, hz⟩ := List.exists_mem_of_ne_nil rx this.ne
          have := k2 z hz
          rw [e] at this; cases this
        · obtain ⟨x, k1, rx, k2, k3⟩ := bindL_of h6 y hy
          exact Nat.le_trans (g2 x k1) ((dfrOps_up l _ rx k2).n y k3)
        · obtain ⟨x, k1, rx, k2, k3⟩ := bindL_of h6 y hy
          exact (dfrOps_up l _ rx k2).w y k3 b (by simp [hb])
theorem dfrCode_up (hreg : RegOk c base I call) : ∀ (k : Nat) (q : Code) (s : St) (outs : List (Ex × St)), dfrCode c call k q s = .ok outs → UpX s outs
  | 0, q, s, outs, h => by cases h
  | k + 1, q, s, outs, h => by
    unfold dfrCode at h
    split at h
    · rename_i a b
      obtain ⟨l, h1, h2⟩ := R.bind_ok h
      exact thenD_up h2 (dfrCode_up hreg k a s l h1) (fun s r hr => dfrCode_up hreg k b s r hr)
    · obtain ⟨l, h1, h2⟩ := R.bind_ok h
      cases h2
      have := dfrOps_up _ _ _ h1
      exact ⟨by simpa using this.ne, fun o ho => by obtain ⟨x, hx, rfl⟩ := List.mem_map.1 ho; exact this.n x hx, fun o ho => by obtain ⟨x, hx, rfl⟩ := List.mem_map.1 ho; exact this.w x hx⟩
    · split at h
      · rename_i v _
        cases v
        · exact dfrCode_up hreg k _ s outs h
        · exact dfrCode_up hreg k _ s outs h
      · cases h
    · exact codeD_up hreg k _ s outs h
theorem isRec_run {o : Oper} (hr : isRec o = true) (ρ : Operand → Value) (P : Program) (w : World) : (execOp ρ o).run P w = .ok .recover w := by
  unfold isRec at hr
  split at hr
  · rename_i qa qt hop
    unfold execOp
    rw [hop]
    rfl
  · cases hr
/-- The operations of a deferred function's region. -/
theorem dfrOps_wp (hc : CfgOk c) (hI : Inv base I) (ops : Array Oper) {c0 : Frame} {cs : List Frame} (hm : c0.mode = .returning) {Q : Exit → Act → List Frame → World → Prop} :
    ∀ (l : List Oper) (k : Nat) (s : St) (outs : List St), (∀ j, l[j]? = ops[k + j]?) → dfrOps c ops l s = .ok outs → ∀ (ρ : Emb) (a : Act) (w : World), SR c base I ρ s a w → (∀ o ∈ outs, Free ρ s.h.n o.h.n) →
      (∀ o ∈ outs, ∀ a' w', To c base I ρ s w o a' w' → Q .normal a' (c0 :: cs) w') → wpOpsSIn Fence.wide 0 c.P ops Q (List.range' k l.length) a (c0 :: cs) w
  | [], k, s, outs, hl, h, ρ, a, w, hs, hf, hQ => by
    cases h
    exact hQ s (by simp) a w ⟨ρ, hs, (Ext.refl hs.rel).weaken (fun b hb => by cases hb) hs.wr⟩
  | o :: l, k, s, outs, hl, h, ρ, a, w, hs, hf, hQ => by
    have ho : ops[k]? = some o := by have := hl 0; simpa using this.symm
    have hl' : ∀ j, l[j]? = ops[k + 1 + j]? := fun j => by have := hl (j + 1); simpa [Nat.add_assoc, Nat.add_comm 1 j] using this
    rw [List.length_cons, List.range'_succ]
    unfold wpOpsSIn
    rw [ho]
    refine ⟨fun _ _ => trivial, ?_⟩
    unfold dfrOps at h
    obtain ⟨b, h1, h2⟩ := R.bind_ok h
    have hw := yielded_eq hs.tr (R.of_ok h1)
    rw [hw]
    cases b with
    | false =>
      simp only [Bool.false_eq_true, if_false]
      exact dfrOps_wp hc hI ops hm l (k + 1) ⟨putD s.T o.dst undef, s.h, s.w, s.d⟩ outs hl' h2 ρ _ w (SR.after hI hs (Ext.refl hs.rel) (VR.undef (ρ := ρ) (w := w)) o.dst) hf hQ
    | true =>
      simp only [cond_true] at h2
      simp only [if_true]
      cases hr : isRec o with
      | true =>
        rw [hr] at h2
        simp only [cond_true] at h2
        rw [isRec_run hr]
        have hrec : recoverD (c0 :: cs) = none := by unfold recoverD; simp [hm]
        simp only [hrec]
        exact dfrOps_wp hc hI ops hm l (k + 1) ⟨putD s.T o.dst .nilIface, s.h, s.w, s.d⟩ outs hl' h2 ρ _ w (SR.after hI hs (Ext.refl hs.rel) (VR.nilIface (ρ := ρ) (w := w)) o.dst) hf hQ
      | false =>
        rw [hr] at h2
        simp only [cond_false] at h2
        obtain ⟨os, h3, h4⟩ := R.bind_ok h2
        obtain ⟨os', h5, h6⟩ := R.bind_ok h4
        obtain ⟨rfl, g1, g2⟩ := chk_ok h5
        have hfo : ∀ x ∈ os, Free ρ s.h.n x.2.1.n := fun x hx => by
          obtain ⟨rx, k1, k2⟩ := bindL_mem h6 x hx
          have := dfrOps_up l _ rx k1
          obtain ⟨y, hy⟩ := List.exists_mem_of_ne_nil rx this.ne
          exact (hf y (k2 y hy)).mono (this.n y hy)
        obtain ⟨v, h', W, m1, v', w', ρ', m2, m3, m4⟩ := opP_goes hc o hs.rel (fun x _ => hs.tr.ev hs.glob x) (R.of_ok h3) (fun v h' W hm => hfo _ hm)
        obtain ⟨rx, k1, k2⟩ := bindL_mem h6 _ m1
        have fin : ∀ u, u = v' → wpOpsSIn Fence.wide 0 c.P ops Q (List.range' (k + 1) l.length) (a.put o.dst u) (c0 :: cs) w' := by
          rintro u rfl
          have hs' := SR.after hI hs m4 m3 o.dst
          refine dfrOps_wp hc hI ops hm l (k + 1) _ rx hl' k1 ρ' _ w' hs' (fun y hy => (hf y (k2 y hy)).after m4) (fun y hy a'' w'' ht => hQ y (k2 y hy) a'' w'' ?_)
          have hx3 := m4.weaken (W' := W ++ s.w) (fun b hb => by simp [hb]) hs'.wr
          exact To.comp (s' := ⟨putD s.T o.dst v, h', W ++ s.w, s.d⟩) (hf y (k2 y hy)) hs hx3 ht (fun b hb => (dfrOps_up l _ rx k1).w y hy b hb)
        rcases m2 with m2 | ⟨m2, rfl⟩
        · rw [m2]; exact fin _ rfl
        · rw [m2]; exact fin _ rfl
theorem wpSIn_mono {q : Code} {F : Fence} {n : Nat} {P : Program} {Q Q' : Exit → Act → List Frame → World → Prop} {a : Act} {cs : List Frame} {w : World} (h : q.wpSIn F n P Q a cs w) (hq : ∀ e a cs w, Q e a cs w → Q' e a cs w) : q.wpSIn F n P Q' a cs w :=
  fun b k hb hr hF hroom => let ⟨e, a', cs', w', l, q, r⟩ := h b k hb hr hF hroom; ⟨e, a', cs', w', l, hq _ _ _ _ q, r⟩
theorem dfr_wp (hc : CfgOk c) (hI : Inv base I) (hcall : CallOk c base I call) (hprim : PrimOk c base I) (hreg : RegOk c base I call) {c0 : Frame} {cs : List Frame} (hm : c0.mode = .returning) : ∀ (k : Nat) (q : Code) (s : St) (outs : List (Ex × St)), dfrCode c call k q s = .ok outs → ∀ (ρ : Emb) (a : Act) (w : World), SR c base I ρ s a w → (∀ o ∈ outs, Free ρ s.h.n o.2.h.n) →
    q.wpSIn Fence.wide 0 c.P (fun e a' cs' w' => cs' = c0 :: cs ∧ CQ c base I ρ s w outs e a' w') a (c0 :: cs) w
  | 0, q, s, outs, h, ρ, a, w, hs, hf => by cases h
  | k + 1, q, s, outs, h, ρ, a, w, hs, hf => by
    have ih := dfr_wp (cs := cs) hc hI hcall hprim hreg hm k
    unfold dfrCode at h
    split at h
    · rename_i qa qb
      obtain ⟨l, h1, h2⟩ := R.bind_ok h
      have hstep : ∀ o ∈ l, ∃ rx, (match o.1 with | .normal => dfrCode c call k qb o.2 | e => .ok [(e, o.2)]) = R.ok rx ∧ (∀ y ∈ rx, y ∈ outs) ∧ UpX o.2 rx := fun o ho => by
        obtain ⟨rx, k1, k2⟩ := bindL_mem h2 o ho
        refine ⟨rx, k1, k2, ?_⟩
        obtain ⟨e, s'⟩ := o
        cases e with
        | normal => exact dfrCode_up hreg k qb s' rx k1
        | exit i => cases k1; exact UpX.one _ _
        | ret => cases k1; exact UpX.one _ _
      have hfl : ∀ o ∈ l, Free ρ s.h.n o.2.h.n := fun o ho => by
        obtain ⟨rx, k1, k2, k3⟩ := hstep o ho
        obtain ⟨y, hy⟩ := List.exists_mem_of_ne_nil rx k3.ne
        exact (hf y (k2 y hy)).mono (k3.n y hy)
      refine wpSIn_seq (wpSIn_mono (ih qa s l h1 ρ a w hs hfl) ?_)
      rintro e a' cs' w' ⟨rfl, ⟨x, s'⟩, ho, hex, ρ', hs', hx'⟩
      obtain ⟨rx, k1, k2, k3⟩ := hstep _ ho
      cases x with
      | normal =>
        cases e <;> first | exact False.elim hex | skip
        refine wpSIn_mono (ih qb s' rx k1 ρ' a' w' hs' (fun y hy => (hf y (k2 y hy)).after hx')) ?_
        rintro e a'' cs'' w'' ⟨rfl, o, o1, o2, o3⟩
        exact ⟨rfl, o, k2 o o1, o2, To.comp (hf o (k2 o o1)) hs hx' o3 (fun b hb => k3.w o o1 b hb)⟩
      | exit i =>
        cases k1
        cases e <;> first | exact False.elim hex | skip
        exact ⟨rfl, (.exit i, s'), k2 _ (by simp), hex, ρ', hs', hx'⟩
      | ret =>
        cases k1
        cases e <;> first | exact False.elim hex | skip
        exact ⟨rfl, (.ret, s'), k2 _ (by simp), trivial, ρ', hs', hx'⟩
    · rename_i id ops
      obtain ⟨l, h1, h2⟩ := R.bind_ok h
      cases h2
      refine wpSIn_region ?_
      rw [List.range_eq_range']
      have hlen : ops.size = ops.toList.length := by simp
      rw [hlen]
      exact dfrOps_wp hc hI ops hm ops.toList 0 s l (fun j => by simp) h1 ρ a w hs (fun o ho => hf _ (List.mem_map.2 ⟨o, ho, rfl⟩)) (fun o ho a' w' ht => ⟨rfl, _, List.mem_map.2 ⟨o, ho, rfl⟩, trivial, ht⟩)
    · rename_i x qa qb
      split at h
      · rename_i v hv
        have hx := hs.tr.ev hs.glob x _ hv
        generalize hxe : a.eval x = xe at hx
        cases hx
        refine wpSIn_cond hxe ?_
        cases v
        · exact ih qb s outs h ρ a w hs hf
        · exact ih qa s outs h ρ a w hs hf
      · cases h
    · exact wpSIn_of_wpIn rfl (wpIn_mono (code_wp hc hI hcall hprim hreg (ro := true) (r := none) (fun e => by cases e) k _ s outs h ρ a w hs hf) (fun e a' w' hq => ⟨rfl, hq⟩))
theorem retP_mem {fn : Func} {l : List (Ex × St)} {outs : List Out} (h : retP c fn l = .ok outs) : ∀ p ∈ l, (∀ i, p.1 ≠ .exit i) ∧ p.2.d = [] ∧ ∃ vs, resD c p.2.T p.2.h fn.results.toList = some vs ∧ (oneV vs, p.2.h, p.2.w) ∈ outs := by
  intro p hp
  unfold retP at h
  obtain ⟨rx, h1, h2⟩ := bindL_mem h p hp
  split at h1
  · cases h1
  · rename_i hd hne
    obtain ⟨vs, h3, h4⟩ := R.bind_ok h1
    cases h4
    exact ⟨fun i e => hne i e, hd, vs, R.of_ok h3, h2 _ (by simp)⟩
  · cases h1
theorem dfr_ok (hc : CfgOk c) (hI : Inv base I) (hcall : CallOk c base I call) (hprim : PrimOk c base I) (hreg : RegOk c base I call) {f : FuncId} {fn : Func} {q : Code} {args args' : List Value} {h : Hp} {l : List (Ex × St)} {outs : List Out} (hfn : c.P.funcs[f]? = some fn) (hq : fn.body = some q)
    (hlen : args.length ≤ fn.ntmps) (hlim : fn.ntmps < lim) (h1 : dfrCode c call 100000 q ⟨⟨argsD .leaf 0 args, fn.ntmps⟩, h, [], []⟩ = .ok l) (h2 : retP c fn l = .ok outs) {ρ : Emb} {w : World} (hp : Pre c base I ρ h w args args' outs) :
    CallsDIn Fence.wide 0 c.P f args'.toArray .returning w (fun e u w' => u = .returning ∧ CP c base ρ h w outs e w') := by
  have hs := SR.start hc hp hlen hlim
  have hmem := retP_mem h2
  refine callsDIn_of_wpSIn hfn hq trivial (fun c0 cs hm => ?_)
  have hc0 : ({ c0 with mode := .returning } : Frame) = c0 := by rw [← hm]
  refine wpSIn_mono (dfr_wp hc hI hcall hprim hreg hm 100000 q _ l h1 ρ _ w hs (fun o ho => ?_)) ?_
  · obtain ⟨g1, g2, vs, g3, g4⟩ := hmem o ho
    exact hp.free _ g4
  · rintro e a' cs' w' ⟨rfl, p, hpl, hex, ρ', hs', hx⟩
    obtain ⟨g1, g2, vs, g3, g4⟩ := hmem p hpl
    obtain ⟨v', f1, f2⟩ := run_results hc hs'.tr hs'.rel g3
    have hd : a'.defers = [] := by
      have := hs'.dr
      rw [g2] at this
      cases hd : a'.defers with
      | nil => rfl
      | cons x y => rw [hd] at this; exact this.elim
    have fin : a'.defers = [] ∧ ∃ u', c0 :: cs = { c0 with mode := u' } :: cs ∧ ∃ v, (results fn a'.tmps).run c.P w' = .ok v w' ∧ (u' = .returning ∧ CP c base ρ h w outs (.returned v) w') :=
      ⟨hd, .returning, by rw [hc0], v', f1, rfl, _, g4, v', ρ', rfl, f2, hx⟩
    obtain ⟨x, s'⟩ := p
    cases x with
    | normal => cases e <;> first | exact False.elim hex | exact fin
    | ret => cases e <;> first | exact False.elim hex | exact fin
    | exit i => exact absurd rfl (g1 i)
end
end Go.Proofs.YthilbhbnimfcmaaDx
