/- A part of the proof that the interpreter of YthilbhbnimfcmaaDxDx is sound: what it computes of a call, the call comes to in the model. No condition beyond those that each theorem names. -/
import Derived.Test.YthilbhbnimfcmaaDxR12
import Derived.DefersIn
import Derived.TacticsIn
namespace Go.Proofs.YthilbhbnimfcmaaDx
open Go
set_option linter.unusedVariables false
set_option linter.unusedSimpArgs false

/-- Every machine; a frame of a round, or none. -/
def FW (r : Option Nat) : Fence := { Fence.wide with round := r }
theorem calls_FW {r : Option Nat} {n : Nat} {P : Program} {f : FuncId} {args : Array Value} {w : World} {R : Ending → World → Prop} (h : Calls P f args w R) : CallsIn (FW r) n P f args w R :=
  (callsIn_wide (n := n)).2 h

/-- What is asked of the world besides: it stays where old blocks stay. -/
structure Inv (base : Nat) (I : World → Prop) : Prop where
  on : ∀ w w', I w → RowKit.Below base w w' → I w'

/-- A deferred call. -/
def DR1 (ρ : Emb) (w : World) : Dfr → Deferred → Prop
  | .mark b, x => ∃ k, ρ b = some (k, 0) ∧ x = { target := .collected k, args := #[] }
  | .call f l, x => ∃ cap, x.target = .fn (.func f) cap ∧ VRL ρ w l (x.args ++ cap).toList
def DR (ρ : Emb) (w : World) : List Dfr → List Deferred → Prop
  | [], [] => True
  | a :: l, b :: m => DR1 ρ w a b ∧ DR ρ w l m
  | _, _ => False
theorem DR1.le {ρ ρ' : Emb} {w : World} {a : Dfr} {b : Deferred} (h : DR1 ρ w a b) (g : ρ.le ρ') : DR1 ρ' w a b := by
  cases a with
  | mark b => obtain ⟨k, h1, h2⟩ := h; exact ⟨k, g _ _ h1, h2⟩
  | call f l => obtain ⟨cap, h1, h2⟩ := h; exact ⟨cap, h1, h2.le g⟩
theorem DR1.grow {ρ : Emb} {w w' : World} {a : Dfr} {b : Deferred} (h : DR1 ρ w a b) (g : Grow w w') : DR1 ρ w' a b := by
  cases a with
  | mark b => exact h
  | call f l => obtain ⟨cap, h1, h2⟩ := h; exact ⟨cap, h1, h2.grow g⟩
theorem DR.le {ρ ρ' : Emb} {w : World} : ∀ {l : List Dfr} {m : List Deferred}, DR ρ w l m → ρ.le ρ' → DR ρ' w l m
  | [], [], h, g => trivial
  | a :: l, b :: m, h, g => ⟨h.1.le g, DR.le h.2 g⟩
  | [], _ :: _, h, g => h.elim
  | _ :: _, [], h, g => h.elim
theorem DR.grow {ρ : Emb} {w w' : World} : ∀ {l : List Dfr} {m : List Deferred}, DR ρ w l m → Grow w w' → DR ρ w' l m
  | [], [], h, g => trivial
  | a :: l, b :: m, h, g => ⟨h.1.grow g, DR.grow h.2 g⟩
  | [], _ :: _, h, g => h.elim
  | _ :: _, [], h, g => h.elim
theorem DR.ren {ρ ρ' : Emb} {w : World} {f : Nat → Option Nat} (hf : ∀ b b' x, f b = some b' → ρ b = some x → ρ' b' = some x) : ∀ {l l' : List Dfr} {m : List Deferred}, DR ρ w l m → mapO (renD f) l = some l' → DR ρ' w l' m
  | [], l', [], h, hl => by cases hl; trivial
  | a :: l, l', b :: m, h, hl => by
    unfold mapO at hl
    obtain ⟨y, h1, h2⟩ := Option.bind_eq_some_iff.1 hl
    obtain ⟨r, h3, rfl⟩ := Option.map_eq_some_iff.1 h2
    refine ⟨?_, DR.ren hf h.2 h3⟩
    have hh := h.1
    cases a with
    | mark b =>
      simp only [renD] at h1
      obtain ⟨b', g1, rfl⟩ := Option.map_eq_some_iff.1 h1
      obtain ⟨k, k1, k2⟩ := hh
      exact ⟨k, hf _ _ _ g1 k1, k2⟩
    | call g ls =>
      simp only [renD] at h1
      obtain ⟨b', g1, rfl⟩ := Option.map_eq_some_iff.1 h1
      obtain ⟨cap, k1, k2⟩ := hh
      exact ⟨cap, k1, VRL.ren hf depthV (fun hh hk => VR.ren hf depthV hh hk) k2 g1⟩
  | [], l', _ :: _, h, hl => h.elim
  | _ :: _, l', [], h, hl => h.elim

/-- Frame, memory and world. -/
structure SR (c : Cfg) (base : Nat) (I : World → Prop) (ρ : Emb) (s : St) (a : Act) (w : World) : Prop where
  tr : TR ρ w s.T a
  dr : DR ρ w s.d a.defers
  rel : Rel base c.n0 ρ s.h.t.get w
  glob : Glob c ρ
  lim : s.T.m ≤ lim
  wr : ∀ b ∈ s.w, c.n0 ≤ b
  inv : I w

/-- What comes of a step from a state to another. -/
def To (c : Cfg) (base : Nat) (I : World → Prop) (ρ : Emb) (s : St) (w : World) (s' : St) (a' : Act) (w' : World) : Prop :=
  ∃ ρ', SR c base I ρ' s' a' w' ∧ Ext base c.n0 ρ s.h.t.get s.h.n w ρ' s'.h.t.get s'.h.n s'.w w'
theorem Ext.after {base n0 : Nat} {ρ ρ1 ρ2 : Emb} {H H1 H2 : Nat → Option Ob} {n n1 n2 : Nat} {W1 W2 : List Nat} {w w1 w2 : World} (hf : Free ρ n n2) (hr : Rel base n0 ρ H w)
    (h : Ext base n0 ρ H n w ρ1 H1 n1 W1 w1) (k : Ext base n0 ρ1 H1 n1 w1 ρ2 H2 n2 W2 w2) (hs : ∀ b ∈ W1, b ∈ W2) : Ext base n0 ρ H n w ρ2 H2 n2 W2 w2 :=
  (Ext.trans hf hr h k).weaken (fun b hb => (List.mem_append.1 hb).elim id (hs b)) k.wr
theorem Free.after {base n0 : Nat} {ρ ρ1 : Emb} {H H1 : Nat → Option Ob} {n n1 N : Nat} {W1 : List Nat} {w w1 : World} (hf : Free ρ n N) (h : Ext base n0 ρ H n w ρ1 H1 n1 W1 w1) : Free ρ1 n1 N := fun b h1 h2 => by
  cases e : ρ1 b with
  | none => rfl
  | some x =>
    rcases h.dom b x e with h3 | h3
    · rw [hf b (Nat.le_trans h.nn h1) h2] at h3; cases h3
    · omega
theorem Free.mono {ρ : Emb} {n N M : Nat} (h : Free ρ n N) (k : M ≤ N) : Free ρ n M := fun b h1 h2 => h b h1 (by omega)

/-- How a call comes back. -/
def CP (c : Cfg) (base : Nat) (ρ : Emb) (h : Hp) (w : World) (outs : List Out) (e : Ending) (w' : World) : Prop :=
  ∃ o ∈ outs, ∃ v' ρ', e = .returned v' ∧ VR ρ' w' o.1 v' ∧ Ext base c.n0 ρ h.t.get h.n w ρ' o.2.1.t.get o.2.1.n o.2.2 w'
/-- What is known when a call is made. -/
structure Pre (c : Cfg) (base : Nat) (I : World → Prop) (ρ : Emb) (h : Hp) (w : World) (args args' : List Value) (outs : List Out) : Prop where
  args : VRL ρ w args args'
  rel : Rel base c.n0 ρ h.t.get w
  glob : Glob c ρ
  inv : I w
  free : ∀ o ∈ outs, Free ρ h.n o.2.1.n
/-- A function's calls. -/
structure CallOk (c : Cfg) (base : Nat) (I : World → Prop) (call : CallD) : Prop where
  fn : ∀ f args h outs, call (.fn f) args h = .ok outs → ∀ ρ w args', Pre c base I ρ h w args args' outs →
    ∃ fn, c.P.funcs[f]? = some fn ∧ fn.body.isNone = false ∧ (fn.name == "runtime.NumGoroutine") = false ∧ Calls c.P f args'.toArray w (CP c base ρ h w outs)
  dfr : ∀ f args h outs, call (.dfr f) args h = .ok outs → ∀ ρ w args', Pre c base I ρ h w args args' outs →
    ∃ fn, c.P.funcs[f]? = some fn ∧ fn.body.isNone = false ∧ (fn.name == "runtime.NumGoroutine") = false ∧ CallsDIn Fence.wide 0 c.P f args'.toArray .returning w (fun e u w' => u = .returning ∧ CP c base ρ h w outs e w')
  yld : ∀ b args h outs, call (.yld b) args h = .ok outs → ∀ ρ w args', Pre c base I ρ h w args args' outs →
    ∃ k, ρ b = some (k, 0) ∧ ∃ g tmps as bd, (Instr.yield k args'.toArray).run c.P w = .ok (.round k g tmps as bd) w ∧ RoundIn Fence.wide 0 c.P k g tmps as bd w (CP c base ρ h w outs)
/-- Library functions, by contract. -/
def PrimOk (c : Cfg) (base : Nat) (I : World → Prop) : Prop :=
  ∀ f args v, c.prim f args = some v → ∀ ρ h w args', Pre c base I ρ h w args args' [(v, h, [])] →
    ∃ fn, c.P.funcs[f]? = some fn ∧ fn.body.isNone = false ∧ (fn.name == "runtime.NumGoroutine") = false ∧ Calls c.P f args'.toArray w (CP c base ρ h w [(v, h, [])])
section
variable {c : Cfg} {base : Nat} {I : World → Prop} {call : CallD}

theorem run_callFunc {f : FuncId} {args : Array Value} {fn : Func} {w : World} (h1 : c.P.funcs[f]? = some fn) (h2 : fn.body.isNone = false) (h3 : (fn.name == "runtime.NumGoroutine") = false) : (callFunc f args).run c.P w = .ok (.enter f args) w := by
  simp [callFunc, program, Sem.run, h1]
  rw [if_neg (by simpa using h3), if_neg (by intro e; simp [e] at h2)]
theorem callF_ok (hcall : CallOk c base I call) (hprim : PrimOk c base I) {f : FuncId} {args args' : List Value} {h : Hp} {outs : List Out} (ho : callFD c call h (.fn f) args = .ok outs) {ρ : Emb} {w : World} (hp : Pre c base I ρ h w args args' outs) :
    ∃ fn, c.P.funcs[f]? = some fn ∧ fn.body.isNone = false ∧ (fn.name == "runtime.NumGoroutine") = false ∧ Calls c.P f args'.toArray w (CP c base ρ h w outs) := by
  unfold callFD at ho
  simp only at ho
  split at ho
  · rename_i v hv
    cases ho
    exact hprim f args v hv ρ h w args' hp
  · exact hcall.fn f args h outs ho ρ w args' hp
theorem yielded_of {ops : Array Oper} {ρ : Emb} {w : World} {T : Tm} {a : Act} {o : Oper} {b : Bool} (hsz : T.m = a.tmps.size) (h : ∀ j want d, o.guard = some (j, want) → (ops[j]?).bind (·.dst) = some d → d < T.m → TV ρ w (T.get d) (a.tmps.getD d undef))
    (hw : wantedD ops T o = some b) : Region.wanted o (yielded ops a.tmps) = b := by
  unfold wantedD at hw
  unfold Region.wanted
  split at hw
  · rename_i hg; rw [hg]; cases hw; rfl
  · rename_i j want hg
    rw [hg]
    simp only
    split at hw
    · rename_i d hd
      cases e : Nat.blt d T.m with
      | false => rw [e] at hw; cases hw
      | true =>
        rw [e] at hw
        simp only [cond_true] at hw
        have hdm := blt_t e
        have hv := h j want d hg hd hdm
        have hds : d < a.tmps.size := by rw [← hsz]; exact hdm
        have hget : a.tmps[d]? = some (a.tmps.getD d undef) := by simp [hds]
        unfold yielded
        rw [hd]
        simp only [Option.bind_some, hget]
        split at hw
        · rename_i x hx
          have hv := hv _ hx
          generalize a.tmps.getD d undef = y at hv ⊢
          cases hv
          cases hw
          cases want <;> cases x <;> rfl
        · rename_i z hx hz
          cases hw
          have hv := hv _ hz
          generalize hy : a.tmps.getD d undef = y at hv ⊢
          cases hv <;> first | (cases want <;> rfl) | exact (hx _ rfl).elim | (rename_i hr; cases y <;> first | (cases want <;> rfl) | (simp [refV] at hr))
        · cases hw
    · cases hw
theorem yielded_eq {ops : Array Oper} {ρ : Emb} {w : World} {T : Tm} {a : Act} (h : TR ρ w T a) {o : Oper} {b : Bool} (hw : wantedD ops T o = some b) : Region.wanted o (yielded ops a.tmps) = b :=
  yielded_of h.size (fun j want d _ _ hd => h.at_ d hd) hw

/-- A method's call. -/
theorem methD_VR (hc : CfgOk c) {ρ : Emb} {w : World} {m : String} {l l' : List Value} {p : FuncId × List Value} (h : methD c m l = some p) (hv : VRL ρ w l l') :
    ∃ t x' rest, l' = .iface t x' :: rest ∧ VRL ρ w p.2 (x' :: rest) ∧ (callMethod (.iface t x') m rest.toArray).run c.P w = (callFunc p.1 (x' :: rest).toArray).run c.P w := by
  unfold methD at h
  split at h
  · rename_i t x r
    obtain ⟨pr, e1, e2⟩ := bindS h
    split at e2
    · rename_i e hu hp
      cases e2
      obtain ⟨y, l2, rfl, hy, hl⟩ := hv.cases_cons
      cases hy with
      | iface _ _ x' hx =>
        refine ⟨t, x', l2, rfl, VRL.cons hx hl, ?_⟩
        rw [run_meth hc e1 hu hp w]
        congr 2
        simp
    · cases e2
  · cases h

/-- One operation. -/
theorem op_wp (hc : CfgOk c) (hI : Inv base I) (hcall : CallOk c base I call) (r : Option Nat) (o : Oper) {ρ : Emb} {T : Tm} {h : Hp} {a : Act} {w : World} {outs : List Out} {K : Act → World → Prop} {Q : Exit → Act → World → Prop}
    (ho : opD c call T h o = .ok outs) (hr : Rel base c.n0 ρ h.t.get w) (hg : Glob c ρ) (hi : I w) (hev : ∀ x ∈ o.op.operands.toList, EV c ρ w T a x) (hprim : PrimOk c base I)
    (hfree : ∀ x ∈ outs, Free ρ h.n x.2.1.n)
    (hK : ∀ x ∈ outs, ∀ v' w' ρ', VR ρ' w' x.1 v' → Ext base c.n0 ρ h.t.get h.n w ρ' x.2.1.t.get x.2.1.n x.2.2 w' → K (a.put o.dst v') w') : o.wpIn (FW r) 0 c.P a w K Q := by
  unfold opD at ho
  obtain ⟨os, h1, h2⟩ := R.bind_ok ho
  obtain ⟨rfl, h3, h4⟩ := chk_ok h2
  refine ⟨fun _ _ => trivial, ?_⟩
  cases hce : calleeD c T o with
  | none =>
    rw [hce] at h1
    have h5 := R.of_ok h1
    rw [Oper.semAt_eq _ _ _ (fun q hq => by unfold opP at h5; rw [hq] at h5; cases h5)]
    obtain ⟨v, h', W, m1, v', w', ρ', m2, m3, m4⟩ := opP_goes hc o hr hev h5 (fun v h' W hm => hfree _ hm)
    rcases m2 with m2 | ⟨m2, rfl⟩
    · rw [m2]; exact hK _ m1 v' w' ρ' m3 m4
    · rw [m2]; exact hK _ m1 undef w' ρ' m3 m4
  | some p =>
    rw [hce] at h1
    obtain ⟨cl, args⟩ := p
    simp only at h1
    have fin : ∀ f args', cl = .fn f → VRL ρ w args args' → (execOp a.eval o).run c.P w = (callFunc f args'.toArray).run c.P w → Oper.uponIn (FW r) 0 c.P o a K Q ((execOp a.eval o).run c.P w) := by
      rintro f args' rfl hall hrun
      obtain ⟨fn', k1, k2, k3, k4⟩ := callF_ok hcall hprim h1 ⟨hall, hr, hg, hi, hfree⟩
      rw [hrun, run_callFunc k1 k2 k3]
      refine ⟨fun _ => by simp_all [FW, Fence.wide], CallsIn.mono (calls_FW k4) ?_⟩
      rintro e w' ⟨x, m1, v', ρ', rfl, m2, m3⟩
      exact hK x m1 v' w' ρ' m2 m3
    unfold calleeD at hce
    split at hce
    · rename_i q hop
      rw [Oper.semAt_eq _ _ _ (fun q' hq => by rw [hop] at hq; cases hq)]
      split at hce
      · rename_i fo hfo
        obtain ⟨fv, e1, hce⟩ := bindS hce
        have hargs : ∀ x ∈ q.args.toList, EV c ρ w T a x := fun x hx => hev x (by rw [hop]; simp [Op.operands, Call.operands, hfo]; exact .inr (by simpa using hx))
        have hv := hev fo (by rw [hop]; simp [Op.operands, Call.operands, hfo]) _ e1
        split at hce
        · rename_i f0 fst cap
          obtain ⟨asl, e2, e3⟩ := bindS hce
          cases e3
          have hva := evs_VR _ _ hargs e2
          generalize hfe : a.eval fo = fe at hv
          cases hv with
          | func fn hfn xs ys xs' ys' a1 a2 a3 a4 =>
            refine fin f0 ((xs'.toList ++ q.args.toList.map a.eval) ++ ys'.toList) rfl ((VRL.append (⟨a1, a2⟩ : VRL ρ w _ xs'.toList) hva).append (⟨a3, a4⟩ : VRL ρ w _ ys'.toList)) ?_
            have harr : xs' ++ q.args.map a.eval ++ ys' = ((xs'.toList ++ q.args.toList.map a.eval) ++ ys'.toList).toArray := Array.ext' (by simp)
            unfold execOp
            rw [hop]
            simp only [resolve, hfo, hfe, Deferred.ofValue, Sem.run_bind, Sem.run_pure, Result.andThen, invoke]
            rw [harr]
        · rename_i b0 fst cap
          obtain ⟨asl, e2, e3⟩ := bindS hce
          cases e3
          have hva := evs_VR _ _ hargs e2
          generalize hfe : a.eval fo = fe at hv
          cases hv with
          | func fn hfn xs ys xs' ys' a1 a2 a3 a4 => exact absurd rfl (hfn _)
          | yld b k d hb =>
            have h1 : call (.yld b0) args h = .ok os := h1
            obtain ⟨k', g1, g, tmps, asg, bd, g2, g3⟩ := hcall.yld b0 args h os h1 ρ w _ ⟨hva, hr, hg, hi, hfree⟩
            rw [hb] at g1
            cases g1
            have harr : (#[] : Array Value) ++ q.args.map a.eval = (q.args.toList.map a.eval).toArray := Array.ext' (by simp)
            have hrun : (execOp a.eval o).run c.P w = .ok (.round k g tmps asg bd) w := by
              unfold execOp
              rw [hop]
              simp only [resolve, hfo, hfe, Deferred.ofValue, Sem.run_bind, Sem.run_pure, Result.andThen, invoke]
              rw [harr]
              exact g2
            rw [hrun]
            refine ⟨fun _ => by simp_all [FW, Fence.wide], RoundIn.mono (F := FW r) (n := 0 - 1) g3 ?_⟩
            rintro e w' ⟨x, m1, v', ρ', rfl, m2, m3⟩
            exact hK x m1 v' w' ρ' m2 m3
        · rename_i m fst cap
          obtain ⟨asl, e2, e3⟩ := bindS hce
          obtain ⟨p, e4, e5⟩ := Option.map_eq_some_iff.1 e3
          cases e5
          have hva := evs_VR _ _ hargs e2
          generalize hfe : a.eval fo = fe at hv
          cases hv with
          | func fn hfn xs ys xs' ys' a1 a2 a3 a4 =>
            obtain ⟨t, x', rest, g1, g2, g3⟩ := methD_VR hc e4 (VRL.append (⟨a1, a2⟩ : VRL ρ w _ xs'.toList) hva)
            refine fin _ _ rfl g2 ?_
            have harr : xs' ++ q.args.map a.eval = (Value.iface t x' :: rest).toArray := Array.ext' (by rw [Array.toList_append, Array.toList_map]; exact g1)
            unfold execOp
            rw [hop]
            simp only [resolve, hfo, hfe, Deferred.ofValue, Sem.run_bind, Sem.run_pure, Result.andThen, invoke]
            rw [harr, ← g3]
            simp
        · cases hce
      · rename_i ro m hfo
        obtain ⟨rv, e1, hce⟩ := bindS hce
        obtain ⟨asl, e2, e3⟩ := bindS hce
        obtain ⟨p, e4, e5⟩ := Option.map_eq_some_iff.1 e3
        cases e5
        have hargs : ∀ x ∈ q.args.toList, EV c ρ w T a x := fun x hx => hev x (by rw [hop]; simp [Op.operands, Call.operands, hfo]; exact .inr (by simpa using hx))
        have hv := hev ro (by rw [hop]; simp [Op.operands, Call.operands, hfo]) _ e1
        have hva := evs_VR _ _ hargs e2
        obtain ⟨t, x', rest, g1, g2, g3⟩ := methD_VR hc e4 (VRL.cons hv hva)
        refine fin _ _ rfl g2 ?_
        have harr : #[a.eval ro] ++ q.args.map a.eval = (Value.iface t x' :: rest).toArray := Array.ext' (by rw [Array.toList_append, Array.toList_map]; exact g1)
        unfold execOp
        rw [hop]
        simp only [resolve, hfo, Sem.run_bind, Sem.run_pure, Result.andThen, invoke]
        rw [harr, ← g3]
        simp
      · cases hce
    · cases hce
end
end Go.Proofs.YthilbhbnimfcmaaDx
