/- A part of the proof that the interpreter of YtememknikhdkdaaGreatDoorDxDx is sound: what it computes of a call, the call comes to in the model. No condition beyond those that each theorem names. -/
import Derived.Test.YtememknikhdkdaaGreatDoorDxR12
namespace Go.Proofs.YtememknikhdkdaaGreatDoorDx
open Go
set_option linter.unusedVariables false
set_option linter.unusedSimpArgs false

/-- What is asked of the world besides: it stays where old blocks stay. -/
structure Inv (base : Nat) (I : World → Prop) : Prop where
  on : ∀ w w', I w → RowKit.Below base w w' → I w'

/-- Frame, memory and world. -/
structure SR (c : Cfg) (base : Nat) (I : World → Prop) (ρ : Emb) (s : St) (a : Act) (w : World) : Prop where
  tr : TR ρ w s.T a
  rel : Rel base c.n0 ρ s.h.t.get w
  glob : Glob c ρ
  lim : s.T.m ≤ lim
  wr : ∀ b ∈ s.w, c.n0 ≤ b
  inv : I w

/-- What comes of a step from a state to another. -/
def To (c : Cfg) (base : Nat) (I : World → Prop) (ρ : Emb) (s : St) (w : World) (s' : St) (a' : Act) (w' : World) : Prop :=
  ∃ ρ', SR c base I ρ' s' a' w' ∧ Ext base c.n0 ρ s.h.t.get s.h.n w ρ' s'.h.t.get s'.h.n s'.w w'
theorem Ext.after {base n0 : Nat} {ρ ρ1 ρ2 : Emb} {H H1 H2 : Nat → Option Ob} {n n1 n2 : Nat} {W1 W2 : List Nat} {w w1 w2 : World} (hf : Free ρ n n2) (hr : Rel base n0 ρ H w)
    (h : Ext base n0 ρ H n w ρ1 H1 n1 W1 w1) (k : Ext base n0 ρ1 H1 n1 w1 ρ2 H2 n2 W2 w2) (hs : ∀ b ∈ W1, b ∈ W2) : Ext base n0 ρ H n w ρ2 H2 n2 W2 w2 :=
  (Ext.trans hf hr h k).weaken (fun b hb => (List.mem_append.1 hb).elim id (hs b)) k.wr
theorem Free.after {base n0 : Nat} {ρ ρ1 : Emb} {H H1 : Nat → Option Ob} {n n1 N : Nat} {W1 : List Nat} {w w1 : World} (hf : Free ρ n N) (h : Ext base n0 ρ H n w ρ1 H1 n1 W1 w1) : Free ρ1 n1 N := fun b h1 h2 => by
  cases e : ρ1 b with
  | none => rfl
  | some x =>
    rcases h.dom b x e with h3 | h3
    · rw [hf b (Nat.le_trans h.nn h1) h2] at h3; cases h3
    · omega
theorem Free.mono {ρ : Emb} {n N M : Nat} (h : Free ρ n N) (k : M ≤ N) : Free ρ n M := fun b h1 h2 => h b h1 (by omega)

/-- A function's calls. -/
def CallOk (c : Cfg) (base : Nat) (I : World → Prop) (call : CallD) : Prop :=
  ∀ f args h outs, call f args h = .ok outs → ∀ ρ w args', VRL ρ w args args' → Rel base c.n0 ρ h.t.get w → Glob c ρ → I w → (∀ o ∈ outs, Free ρ h.n o.2.1.n) →
    ∃ fn, c.P.funcs[f]? = some fn ∧ fn.body.isNone = false ∧ (fn.name == "runtime.NumGoroutine") = false ∧
    Calls c.P f args'.toArray w (fun e w' => ∃ o ∈ outs, ∃ v' ρ', e = .returned v' ∧ VR ρ' w' o.1 v' ∧ Ext base c.n0 ρ h.t.get h.n w ρ' o.2.1.t.get o.2.1.n o.2.2 w')
section
variable {c : Cfg} {base : Nat} {I : World → Prop} {call : CallD}

theorem run_callFunc {f : FuncId} {args : Array Value} {fn : Func} {w : World} (h1 : c.P.funcs[f]? = some fn) (h2 : fn.body.isNone = false) (h3 : (fn.name == "runtime.NumGoroutine") = false) : (callFunc f args).run c.P w = .ok (.enter f args) w := by
  simp [callFunc, program, Sem.run, h1]
  rw [if_neg (by simpa using h3), if_neg (by intro e; simp [e] at h2)]
theorem yielded_eq {ops : Array Oper} {ρ : Emb} {w : World} {T : Tm} {a : Act} (h : TR ρ w T a) {o : Oper} {b : Bool} (hw : wantedD ops T o = some b) : Region.wanted o (yielded ops a.tmps) = b := by
  unfold wantedD at hw
  unfold Region.wanted
  split at hw
  · rename_i hg; rw [hg]; cases hw; rfl
  · rename_i j want hg
    rw [hg]
    simp only
    split at hw
    · rename_i d hd
      cases e : Nat.blt d T.m with
      | false => rw [e] at hw; cases hw
      | true =>
        rw [e] at hw
        simp only [cond_true] at hw
        have hdm := blt_t e
        have hv := h.at_ d hdm
        have hds : d < a.tmps.size := by rw [← h.size]; exact hdm
        have hget : a.tmps[d]? = some (a.tmps.getD d undef) := by simp [hds]
        unfold yielded
        rw [hd]
        simp only [Option.bind_some, hget]
        split at hw
        · rename_i x hx
          rw [hx] at hv
          generalize a.tmps.getD d undef = y at hv ⊢
          cases hv
          cases hw
          cases want <;> cases x <;> rfl
        · rename_i hx
          cases hw
          generalize hy : a.tmps.getD d undef = y at hv ⊢
          generalize hz : T.get d = z at hv hx
          cases hv <;> first | (cases want <;> rfl) | exact absurd rfl (hx _) | (rename_i hr; cases y <;> first | (cases want <;> rfl) | (simp [refV] at hr))
    · cases hw

/-- A method's call. -/
theorem methD_VR (hc : CfgOk c) {ρ : Emb} {w : World} {m : String} {l l' : List Value} {p : FuncId × List Value} (h : methD c m l = some p) (hv : VRL ρ w l l') :
    ∃ t x' rest, l' = .iface t x' :: rest ∧ VRL ρ w p.2 (x' :: rest) ∧ (callMethod (.iface t x') m rest.toArray).run c.P w = (callFunc p.1 (x' :: rest).toArray).run c.P w := by
  unfold methD at h
  split at h
  · rename_i t x r
    obtain ⟨pr, e1, e2⟩ := bindS h
    split at e2
    · rename_i e hu hp
      cases e2
      obtain ⟨y, l2, rfl, hy, hl⟩ := hv.cases_cons
      cases hy with
      | iface _ _ x' hx =>
        refine ⟨t, x', l2, rfl, VRL.cons hx hl, ?_⟩
        rw [run_meth hc e1 hu hp w]
        congr 2
        simp
    · cases e2
  · cases h

/-- One operation. -/
theorem op_wp (hc : CfgOk c) (hI : Inv base I) (hcall : CallOk c base I call) (o : Oper) {ρ : Emb} {T : Tm} {h : Hp} {a : Act} {w : World} {outs : List Out} {K : Act → World → Prop} {Q : Exit → Act → World → Prop}
    (ho : opD c call T h o = .ok outs) (hr : Rel base c.n0 ρ h.t.get w) (hg : Glob c ρ) (hi : I w) (hev : ∀ x ∈ o.op.operands.toList, EV c ρ w T a x) (hprim : CallOk c base I (fun f args h => match c.prim f args with | some v => .ok [(v, h, [])] | none => .no []))
    (hfree : ∀ x ∈ outs, Free ρ h.n x.2.1.n)
    (hK : ∀ x ∈ outs, ∀ v' w' ρ', VR ρ' w' x.1 v' → Ext base c.n0 ρ h.t.get h.n w ρ' x.2.1.t.get x.2.1.n x.2.2 w' → K (a.put o.dst v') w') : o.wp c.P a w K Q := by
  unfold opD at ho
  obtain ⟨os, h1, h2⟩ := R.bind_ok ho
  obtain ⟨rfl, h3, h4⟩ := chk_ok h2
  unfold Oper.wp
  cases hce : calleeD c T o with
  | none =>
    rw [hce] at h1
    have h5 := R.of_ok h1
    obtain ⟨v, h', W, m1, v', w', ρ', m2, m3, m4⟩ := opP_goes hc o hr hev h5 (fun v h' W hm => hfree _ hm)
    rcases m2 with m2 | ⟨m2, rfl⟩
    · rw [m2]; exact hK _ m1 v' w' ρ' m3 m4
    · rw [m2]; exact hK _ m1 undef w' ρ' m3 m4
  | some p =>
    rw [hce] at h1
    obtain ⟨f, args⟩ := p
    simp only at h1
    have fin : ∀ args', VRL ρ w args args' → (execOp a.eval o).run c.P w = (callFunc f args'.toArray).run c.P w → Oper.upon c.P o a K Q ((execOp a.eval o).run c.P w) := by
      intro args' hall hrun
      have key : ∃ fn, c.P.funcs[f]? = some fn ∧ fn.body.isNone = false ∧ (fn.name == "runtime.NumGoroutine") = false ∧
          Calls c.P f args'.toArray w (fun e w' => ∃ o ∈ os, ∃ v' ρ', e = .returned v' ∧ VR ρ' w' o.1 v' ∧ Ext base c.n0 ρ h.t.get h.n w ρ' o.2.1.t.get o.2.1.n o.2.2 w') := by
        unfold callFD at h1
        split at h1
        · rename_i v hp
          refine hprim f _ h os ?_ ρ w _ hall hr hg hi hfree
          simp only [hp]
          exact h1
        · exact hcall f _ h os h1 ρ w _ hall hr hg hi hfree
      obtain ⟨fn', k1, k2, k3, k4⟩ := key
      rw [hrun, run_callFunc k1 k2 k3]
      show Calls c.P f _ w _
      refine k4.mono ?_
      rintro e w' ⟨x, m1, v', ρ', rfl, m2, m3⟩
      exact hK x m1 v' w' ρ' m2 m3
    unfold calleeD at hce
    split at hce
    · rename_i q hop
      split at hce
      · rename_i fo hfo
        obtain ⟨fv, e1, hce⟩ := bindS hce
        have hargs : ∀ x ∈ q.args.toList, EV c ρ w T a x := fun x hx => hev x (by rw [hop]; simp [Op.operands, Call.operands, hfo]; exact .inr (by simpa using hx))
        have hv := hev fo (by rw [hop]; simp [Op.operands, Call.operands, hfo]) _ e1
        split at hce
        · rename_i f0 fst cap
          obtain ⟨as, e2, e3⟩ := bindS hce
          cases e3
          have hva := evs_VR _ _ hargs e2
          generalize hfe : a.eval fo = fe at hv
          cases hv with
          | func fn xs ys xs' ys' a1 a2 a3 a4 =>
            refine fin ((xs'.toList ++ q.args.toList.map a.eval) ++ ys'.toList) ((VRL.append (⟨a1, a2⟩ : VRL ρ w _ xs'.toList) hva).append (⟨a3, a4⟩ : VRL ρ w _ ys'.toList)) ?_
            have harr : xs' ++ q.args.map a.eval ++ ys' = ((xs'.toList ++ q.args.toList.map a.eval) ++ ys'.toList).toArray := Array.ext' (by simp)
            unfold execOp
            rw [hop]
            simp only [resolve, hfo, hfe, Deferred.ofValue, Sem.run_bind, Sem.run_pure, Result.andThen, invoke]
            rw [harr]
        · rename_i m fst cap
          obtain ⟨as, e2, e3⟩ := bindS hce
          have hva := evs_VR _ _ hargs e2
          generalize hfe : a.eval fo = fe at hv
          cases hv with
          | func fn xs ys xs' ys' a1 a2 a3 a4 =>
            obtain ⟨t, x', rest, g1, g2, g3⟩ := methD_VR hc e3 (VRL.append (⟨a1, a2⟩ : VRL ρ w _ xs'.toList) hva)
            refine fin _ g2 ?_
            have harr : xs' ++ q.args.map a.eval = (Value.iface t x' :: rest).toArray := Array.ext' (by rw [Array.toList_append, Array.toList_map]; exact g1)
            unfold execOp
            rw [hop]
            simp only [resolve, hfo, hfe, Deferred.ofValue, Sem.run_bind, Sem.run_pure, Result.andThen, invoke]
            rw [harr, ← g3]
            simp
        · cases hce
      · rename_i ro m hfo
        obtain ⟨rv, e1, hce⟩ := bindS hce
        obtain ⟨as, e2, e3⟩ := bindS hce
        have hargs : ∀ x ∈ q.args.toList, EV c ρ w T a x := fun x hx => hev x (by rw [hop]; simp [Op.operands, Call.operands, hfo]; exact .inr (by simpa using hx))
        have hv := hev ro (by rw [hop]; simp [Op.operands, Call.operands, hfo]) _ e1
        have hva := evs_VR _ _ hargs e2
        obtain ⟨t, x', rest, g1, g2, g3⟩ := methD_VR hc e3 (VRL.cons hv hva)
        refine fin _ g2 ?_
        have harr : #[a.eval ro] ++ q.args.map a.eval = (Value.iface t x' :: rest).toArray := Array.ext' (by rw [Array.toList_append, Array.toList_map]; exact g1)
        unfold execOp
        rw [hop]
        simp only [resolve, hfo, Sem.run_bind, Sem.run_pure, Result.andThen, invoke]
        rw [harr, ← g3]
        simp
      · cases hce
    · cases hce
end
end Go.Proofs.YtememknikhdkdaaGreatDoorDx
