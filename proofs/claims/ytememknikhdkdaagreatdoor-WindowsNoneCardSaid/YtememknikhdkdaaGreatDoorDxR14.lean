/- A part of the proof that the interpreter of YtememknikhdkdaaGreatDoorDxDx is sound: what it computes of a call, the call comes to in the model. No condition beyond those that each theorem names. -/
import Derived.Test.YtememknikhdkdaaGreatDoorDxR13
import Derived.Scope
import Derived.LoopN
namespace Go.Proofs.YtememknikhdkdaaGreatDoorDx
open Go
set_option linter.unusedVariables false
set_option linter.unusedSimpArgs false
section
variable {c : Cfg} {base : Nat} {I : World → Prop} {call : CallD}

abbrev PrimD (c : Cfg) : CallD := fun f args h => match c.prim f args with | some v => .ok [(v, h, [])] | none => .no []

theorem SR.after {ρ ρ' : Emb} {s : St} {a : Act} {w w' : World} (hI : Inv base I) (h : SR c base I ρ s a w) {h' : Hp} {W : List Nat} (k : Ext base c.n0 ρ s.h.t.get s.h.n w ρ' h'.t.get h'.n W w') {v v' : Value} (hv : VR ρ' w' v v') (d : Option Tmp) :
    SR c base I ρ' ⟨putD s.T d v, h', W ++ s.w⟩ (a.put d v') w' :=
  ⟨((h.tr.le k.le).grow k.grow).put h.lim d hv, k.rel, h.glob.le k.le, by
    show (putD s.T d v).m ≤ _root_.Go.Proofs.YtememknikhdkdaaGreatDoorDx.lim
    unfold putD
    split
    · cases Nat.blt _ s.T.m <;> exact h.lim
    · exact h.lim, fun b hb => (List.mem_append.1 hb).elim (k.wr b) (h.wr b), hI.on _ _ h.inv (k.low h.rel)⟩

/-- Operations in the order of the text. -/
theorem ops_wp (hc : CfgOk c) (hI : Inv base I) (hcall : CallOk c base I call) (hprim : CallOk c base I (PrimD c)) (ops : Array Oper) {Q : Exit → Act → World → Prop} :
    ∀ (l : List Oper) (s : St) (outs : List St), opsD c call ops l s = .ok outs → ∀ (ρ : Emb) (a : Act) (w : World), SR c base I ρ s a w → (∀ o ∈ outs, Free ρ s.h.n o.h.n) →
      (∀ o ∈ outs, ∀ a' w', To c base I ρ s w o a' w' → Q .normal a' w') → wpList c.P ops Q l a w
  | [], s, outs, h, ρ, a, w, hs, hf, hQ => by
    cases h
    exact wpList_nil (hQ s (by simp) a w ⟨ρ, hs, (Ext.refl hs.rel).weaken (fun b hb => by cases hb) hs.wr⟩)
  | o :: l, s, outs, h, ρ, a, w, hs, hf, hQ => by
    unfold opsD at h
    obtain ⟨b, h1, h2⟩ := R.bind_ok h
    have hw := yielded_eq hs.tr (R.of_ok h1)
    refine wpList_step (fun K hK => ?_)
    rw [hw]
    cases b with
    | false =>
      simp only [Bool.false_eq_true, if_false]
      simp only [cond_false] at h2
      refine hK _ _ (ops_wp hc hI hcall hprim ops l ⟨putD s.T o.dst undef, s.h, s.w⟩ outs h2 ρ _ w ?_ hf (fun x hx a' w' ht => hQ x hx a' w' ht))
      have := SR.after hI hs (Ext.refl hs.rel) (VR.undef (ρ := ρ) (w := w)) o.dst
      exact this
    | true =>
      simp only [if_true]
      simp only [cond_true] at h2
      obtain ⟨os, h3, h4⟩ := R.bind_ok h2
      have hup := fun x (hx : x ∈ os) => bindL_mem h4 x hx
      have hfo : ∀ x ∈ os, Free ρ s.h.n x.2.1.n := fun x hx => by
        obtain ⟨rx, k1, k2⟩ := hup x hx
        obtain ⟨m1, m2, _⟩ := opsD_up l _ rx k1
        cases rx with
        | nil => exact absurd rfl m1
        | cons y ys => exact (hf y (k2 y (by simp))).mono (m2 y (by simp))
      refine op_wp hc hI hcall o h3 hs.rel hs.glob hs.inv (fun x _ => hs.tr.ev hs.glob x) hprim hfo (fun x hx v' w' ρ' hv hx2 => hK _ _ ?_)
      obtain ⟨rx, k1, k2⟩ := hup x hx
      have hs' := SR.after hI hs hx2 hv o.dst
      refine ops_wp hc hI hcall hprim ops l _ rx k1 ρ' _ w' hs' (fun y hy => (hf y (k2 y hy)).after hx2) (fun y hy a'' w'' ht => hQ y (k2 y hy) a'' w'' ?_)
      obtain ⟨ρ'', t1, t2⟩ := ht
      have hx3 := hx2.weaken (W' := x.2.2 ++ s.w) (fun b hb => by simp [hb]) hs'.wr
      exact ⟨ρ'', t1, Ext.after (hf y (k2 y hy)) hs.rel hx3 t2 (fun b hb => (opsD_up l _ rx k1).2.2 y hy b hb)⟩

/-- How a piece of code ends. -/
def EX : Ex → Exit → Prop
  | .normal, .normal => True
  | .exit i, .exit j => i = j
  | .ret, .ret => True
  | _, _ => False
/-- What a piece of code comes to. -/
def CQ (c : Cfg) (base : Nat) (I : World → Prop) (ρ : Emb) (s : St) (w : World) (outs : List (Ex × St)) (e : Exit) (a' : Act) (w' : World) : Prop := ∃ o ∈ outs, EX o.1 e ∧ To c base I ρ s w o.2 a' w'

/-- What is known of regions. -/
def RegOk (c : Cfg) (base : Nat) (I : World → Prop) (call : CallD) : Prop :=
  ∀ id ops draw s outs, regD c call ops draw s = .ok outs → (outs ≠ [] ∧ (∀ o ∈ outs, s.h.n ≤ o.2.h.n) ∧ ∀ o ∈ outs, ∀ b ∈ s.w, b ∈ o.2.w) ∧
    ∀ ρ a w, SR c base I ρ s a w → (∀ o ∈ outs, Free ρ s.h.n o.2.h.n) → (Code.region id ops draw).wp c.P (CQ c base I ρ s w outs) a w

theorem codeD_up (hreg : RegOk c base I call) : ∀ (k : Nat) (q : Code) (s : St) (outs : List (Ex × St)), codeD c call k q s = .ok outs → outs ≠ [] ∧ (∀ o ∈ outs, s.h.n ≤ o.2.h.n) ∧ ∀ o ∈ outs, ∀ b ∈ s.w, b ∈ o.2.w
  | 0, q, s, outs, h => by cases h
  | k + 1, q, s, outs, h => by
    cases q with
    | skip => cases h; simp
    | label l => cases h; simp
    | exit id => cases h; simp
    | ret => cases h; simp
    | region id ops d => exact (hreg id ops d s outs h).1
    | scope a => exact codeD_up hreg k a s outs h
    | cond x a b =>
      simp only [codeD] at h
      split at h
      · rename_i v _
        cases v
        · exact codeD_up hreg k b s outs h
        · exact codeD_up hreg k a s outs h
      · cases h
    | seq a b =>
      simp only [codeD] at h
      obtain ⟨l, h1, h2⟩ := R.bind_ok h
      obtain ⟨g1, g2, g3⟩ := codeD_up hreg k a s l h1
      exact thenD_up h2 g1 g2 g3 (fun s r hr => codeD_up hreg k b s r hr)
    | loop a =>
      simp only [codeD] at h
      obtain ⟨l, h1, h2⟩ := R.bind_ok h
      obtain ⟨g1, g2, g3⟩ := codeD_up hreg k a s l h1
      exact thenD_up h2 g1 g2 g3 (fun s r hr => codeD_up hreg k (.loop a) s r hr)
    | block id a =>
      simp only [codeD] at h
      obtain ⟨l, h1, h2⟩ := R.bind_ok h
      obtain ⟨g1, g2, g3⟩ := codeD_up hreg k a s l h1
      cases h2
      refine ⟨by simpa using g1, fun o ho => ?_, fun o ho b hb => ?_⟩
      · obtain ⟨⟨e, s'⟩, hp, rfl⟩ := List.mem_map.1 ho
        have hh : s.h.n ≤ s'.h.n := g2 _ hp
        cases e <;> exact hh
      · obtain ⟨⟨e, s'⟩, hp, rfl⟩ := List.mem_map.1 ho
        have hh : b ∈ s'.w := g3 _ hp b hb
        cases e <;> exact hh
    | rangeFunc f ps as bd => cases h
    | goto l => cases h
    | refuse w => cases h

/-- One piece behind another. -/
theorem then_wp {f : St → Outs} {X : (Exit → Act → World → Prop) → Act → World → Prop} (hX : ∀ Q Q' a w, (∀ e a w, Q e a w → Q' e a w) → X Q a w → X Q' a w) {l outs : List (Ex × St)} {s : St} {ρ : Emb} {a : Act} {w : World} (h : thenD l f = .ok outs) (hf : ∀ s r, f s = .ok r → r ≠ [] ∧ (∀ o ∈ r, s.h.n ≤ o.2.h.n) ∧ ∀ o ∈ r, ∀ b ∈ s.w, b ∈ o.2.w)
    (hs : SR c base I ρ s a w) (hfree : ∀ o ∈ outs, Free ρ s.h.n o.2.h.n)
    (hq : ∀ s' r, f s' = .ok r → ∀ ρ' a' w', SR c base I ρ' s' a' w' → (∀ o ∈ r, Free ρ' s'.h.n o.2.h.n) → X (CQ c base I ρ' s' w' r) a' w') :
    (∀ e a' w', CQ c base I ρ s w l e a' w' → Exit.then (X (CQ c base I ρ s w outs)) (CQ c base I ρ s w outs) e a' w') := by
  rintro e a' w' ⟨⟨x, s'⟩, hx, hex, ρ', hs', ht⟩
  obtain ⟨rx, k1, k2⟩ := bindL_mem h (x, s') hx
  cases x with
  | normal =>
    cases e <;> first | cases hex | skip
    simp only at k1
    have hup := hf s' rx k1
    refine hX _ _ _ _ (fun e2 a2 w2 h2 => ?_) (hq s' rx k1 ρ' a' w' hs' (fun o ho => (hfree o (k2 o ho)).after ht))
    obtain ⟨o, ho, g1, ρ2, g2, g3⟩ := h2
    exact ⟨o, k2 o ho, g1, ρ2, g2, Ext.after (hfree o (k2 o ho)) hs.rel ht g3 (fun b hb => hup.2.2 o ho b hb)⟩
  | exit i =>
    cases k1
    cases e <;> first | cases hex | skip
    exact ⟨(.exit i, s'), k2 _ (by simp), rfl, ρ', hs', ht⟩
  | ret =>
    cases k1
    cases e <;> first | cases hex | skip
    exact ⟨(.ret, s'), k2 _ (by simp), trivial, ρ', hs', ht⟩
theorem then_free {f : St → Outs} {l outs : List (Ex × St)} {s : St} {ρ : Emb} (h : thenD l f = .ok outs) (hf : ∀ s r, f s = .ok r → r ≠ [] ∧ (∀ o ∈ r, s.h.n ≤ o.2.h.n) ∧ ∀ o ∈ r, ∀ b ∈ s.w, b ∈ o.2.w) (hfree : ∀ o ∈ outs, Free ρ s.h.n o.2.h.n) :
    ∀ o ∈ l, Free ρ s.h.n o.2.h.n := fun x hx => by
  obtain ⟨rx, k1, k2⟩ := bindL_mem h x hx
  obtain ⟨e, s'⟩ := x
  cases e with
  | normal =>
    obtain ⟨m1, m2, _⟩ := hf s' rx k1
    cases rx with
    | nil => exact absurd rfl m1
    | cons y ys => exact (hfree y (k2 y (by simp))).mono (m2 y (by simp))
  | exit i => cases k1; exact hfree _ (k2 _ (by simp))
  | ret => cases k1; exact hfree _ (k2 _ (by simp))

theorem rounds_mono {q : Code} {Q Q' : Exit → Act → World → Prop} (hq : ∀ e a w, Q e a w → Q' e a w) : ∀ (n : Nat) (a : Act) (w : World), Code.rounds c.P q Q n a w → Code.rounds c.P q Q' n a w
  | 0, a, w, h => h
  | n + 1, a, w, h => Code.wp_mono (Q := Exit.then (Code.rounds c.P q Q n) Q) (Q' := Exit.then (Code.rounds c.P q Q' n) Q') (fun e a' w' hh => by cases e <;> first | exact rounds_mono hq n a' w' hh | exact hq _ _ _ hh) h
theorem loop_wp (hc : CfgOk c) (hI : Inv base I) (hreg : RegOk c base I call) (k : Nat) (ih : ∀ j, j < k → ∀ (q : Code) (s : St) (outs : List (Ex × St)), codeD c call j q s = .ok outs → ∀ (ρ : Emb) (a : Act) (w : World), SR c base I ρ s a w → (∀ o ∈ outs, Free ρ s.h.n o.2.h.n) → q.wp c.P (CQ c base I ρ s w outs) a w) :
    ∀ (j : Nat), j ≤ k → ∀ (q : Code) (s : St) (outs : List (Ex × St)), codeD c call j (.loop q) s = .ok outs → ∀ (ρ : Emb) (a : Act) (w : World), SR c base I ρ s a w → (∀ o ∈ outs, Free ρ s.h.n o.2.h.n) → Code.rounds c.P q (CQ c base I ρ s w outs) j a w
  | 0, hj, q, s, outs, h, ρ, a, w, hs, hf => by cases h
  | j + 1, hj, q, s, outs, h, ρ, a, w, hs, hf => by
    simp only [codeD] at h
    obtain ⟨l, h1, h2⟩ := R.bind_ok h
    rw [rounds_succ]
    refine Code.wp_mono ?_ (ih j (by omega) q s l h1 ρ a w hs (then_free h2 (fun s r hr => codeD_up hreg j (.loop q) s r hr) hf))
    exact then_wp (X := fun Q => Code.rounds c.P q Q j) (fun Q Q' a w hq => rounds_mono hq j a w) h2 (fun s r hr => codeD_up hreg j (.loop q) s r hr) hs hf (fun s' r hr ρ' a' w' hs' hf' => loop_wp hc hI hreg k ih j (by omega) q s' r hr ρ' a' w' hs' hf')

theorem code_wp (hc : CfgOk c) (hI : Inv base I) (hreg : RegOk c base I call) (k : Nat) : ∀ (q : Code) (s : St) (outs : List (Ex × St)), codeD c call k q s = .ok outs → ∀ (ρ : Emb) (a : Act) (w : World), SR c base I ρ s a w → (∀ o ∈ outs, Free ρ s.h.n o.2.h.n) →
    q.wp c.P (CQ c base I ρ s w outs) a w := by
  induction k using Nat.strongRecOn with
  | _ k ih =>
  intro q s outs h ρ a w hs hf
  cases k with
  | zero => cases h
  | succ k =>
    have code_wp' := ih k (by omega)
    have stay : ∀ (_ : Nat), ∃ ρ', SR c base I ρ' s a w ∧ Ext base c.n0 ρ s.h.t.get s.h.n w ρ' s.h.t.get s.h.n s.w w := fun _ => ⟨ρ, hs, (Ext.refl hs.rel).weaken (fun b hb => by cases hb) hs.wr⟩
    cases q with
    | skip => cases h; exact wp_skip ⟨_, List.mem_singleton.2 rfl, trivial, stay 0⟩
    | label l => cases h; exact wp_label ⟨_, List.mem_singleton.2 rfl, trivial, stay 0⟩
    | exit id => cases h; exact wp_exit ⟨_, List.mem_singleton.2 rfl, rfl, stay 0⟩
    | ret => cases h; exact wp_ret ⟨_, List.mem_singleton.2 rfl, trivial, stay 0⟩
    | region id ops d => exact (hreg id ops d s outs h).2 ρ a w hs hf
    | scope q =>
      refine wp_scope_straight (Code.wp_mono (fun e a' w' hq => ?_) (code_wp' q s outs h ρ a w hs hf))
      cases e <;> first | exact hq | (obtain ⟨o, _, he, _⟩ := hq; obtain ⟨x, s'⟩ := o; cases x <;> cases he)
    | cond x qa qb =>
      simp only [codeD] at h
      split at h
      · rename_i v hv
        have hx := hs.tr.ev hs.glob x _ hv
        generalize hxe : a.eval x = xe at hx
        cases hx
        refine wp_cond hxe ?_
        cases v
        · exact code_wp' qb s outs h ρ a w hs hf
        · exact code_wp' qa s outs h ρ a w hs hf
      · cases h
    | seq qa qb =>
      simp only [codeD] at h
      obtain ⟨l, h1, h2⟩ := R.bind_ok h
      refine wp_seq (Code.wp_mono ?_ (code_wp' qa s l h1 ρ a w hs (then_free h2 (fun s r hr => codeD_up hreg k qb s r hr) hf)))
      exact then_wp (X := fun Q => qb.wp c.P Q) (fun Q Q' a w hq hh => Code.wp_mono hq hh) h2 (fun s r hr => codeD_up hreg k qb s r hr) hs hf (fun s' r hr ρ' a' w' hs' hf' => code_wp' qb s' r hr ρ' a' w' hs' hf')
    | loop q => exact wp_loop_rounds (k + 1) (loop_wp hc hI hreg (k + 1) ih (k + 1) (Nat.le_refl _) q s outs h ρ a w hs hf)
    | block id q =>
      simp only [codeD] at h
      obtain ⟨l, h1, h2⟩ := R.bind_ok h
      cases h2
      refine wp_block (Code.wp_mono ?_ (code_wp' q s l h1 ρ a w hs (fun o ho => ?_)))
      · rintro e a' w' ⟨⟨x, s'⟩, hx, hex, ht⟩
        have hm := List.mem_map_of_mem (f := fun p : Ex × St => (match p.1 with | .exit i => ((bif Nat.beq i id then Ex.normal else .exit i), p.2) | e => (e, p.2))) hx
        cases x with
        | normal => cases e <;> first | exact False.elim hex | exact ⟨_, hm, trivial, ht⟩
        | ret => cases e <;> first | exact False.elim hex | exact ⟨_, hm, trivial, ht⟩
        | exit i =>
          cases e <;> first | exact False.elim hex | skip
          rename_i j
          obtain rfl : i = j := hex
          simp only at hm
          by_cases hid : i = id
          · subst hid
            simp only [Exit.inBlock, if_true]
            rw [show Nat.beq i i = true from by simp] at hm
            exact ⟨_, hm, trivial, ht⟩
          · simp only [Exit.inBlock, if_neg hid]
            rw [beq_f hid] at hm
            exact ⟨_, hm, rfl, ht⟩
      · have hm := hf _ (List.mem_map.2 ⟨o, ho, rfl⟩)
        obtain ⟨x, s'⟩ := o
        cases x <;> exact hm
    | rangeFunc f ps as bd => cases h
    | goto l => cases h
    | refuse w => cases h
end
end Go.Proofs.YtememknikhdkdaaGreatDoorDx
