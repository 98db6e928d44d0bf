/- A part of the proof that the interpreter of YthilbhbnimfcmaaDxDx is sound: what it computes of a call, the call comes to in the model. No condition beyond those that each theorem names. -/
import Derived.Test.YthilbhbnimfcmaaDxD6
namespace Go.Proofs.YthilbhbnimfcmaaDx
open Go
set_option linter.unusedVariables false
set_option linter.unusedSimpArgs false

/-- A program's own tables. -/
noncomputable def cfgOf (P : Program) (G n0 : Nat) (eqs : TypeId → Bool) (prim : FuncId → List Value → Option Value) (live : Nat → Nat → Option (List Nat)) : Cfg where
  P := P
  G := G
  n0 := n0
  und := fun t => P.underlying t
  siz := fun t => (P.info? t).map (·.size)
  zer := fun t => ((P.info? t).bind (·.zero)).bind fun z => bif pfd 2 z then some z else none
  byt := fun t => (P.info? t).map (·.bytes)
  eqs := eqs
  fns := fun f => P.funcs[f]?
  met := fun t m => (P.info? t).bind fun i => (i.methods.find? (·.name == m)).bind fun r => bif r.path.isEmpty then r.func else none
  prim := prim
  live := live
theorem cfgOf_ok (P : Program) (G n0 : Nat) (eqs : TypeId → Bool) (prim : FuncId → List Value → Option Value) (live : Nat → Nat → Option (List Nat)) (he : ∀ t, eqs t = true → P.stoodInHeld t = false ∧ P.eqGuardType P.depth t = false) : CfgOk (cfgOf P G n0 eqs prim live) where
  und := fun t d h => h
  siz := fun t n h => h
  zer := fun t z h => by
    obtain ⟨z', h1, h2⟩ := Option.bind_eq_some_iff.1 (show ((P.info? t).bind (·.zero)).bind (fun z => bif pfd 2 z then some z else none) = some z from h)
    cases e : pfd 2 z' with
    | false => rw [e] at h2; cases h2
    | true => rw [e] at h2; cases h2; exact ⟨h1, e⟩
  fns := fun f fn h => h
  byt := fun t n h => h
  eqs := he
  met := fun t m p h => by
    obtain ⟨i, h1, h2⟩ := Option.bind_eq_some_iff.1 (show (P.info? t).bind (fun i => (i.methods.find? (·.name == m)).bind fun r => bif r.path.isEmpty then r.func else none) = some p from h)
    obtain ⟨r, h3, h4⟩ := Option.bind_eq_some_iff.1 h2
    cases e : r.path.isEmpty with
    | false => rw [e] at h4; cases h4
    | true => rw [e] at h4; exact ⟨i, r, h1, h3, Array.isEmpty_iff.1 e, h4⟩

/-- Types whose struct equality looks at nothing else. -/
noncomputable def eqsOf (P : Program) (t : TypeId) : Bool := bif P.stoodInHeld t then false else !P.eqGuardType P.depth t
theorem eqsOf_ok {P : Program} {t : TypeId} (h : eqsOf P t = true) : P.stoodInHeld t = false ∧ P.eqGuardType P.depth t = false := by
  unfold eqsOf at h
  cases e : P.stoodInHeld t with
  | true => rw [e] at h; cases h
  | false => rw [e] at h; exact ⟨rfl, by simpa using h⟩

/-- What a library function with a contract that leaves the world as it was comes to. -/
theorem PrimOk.still {c : Cfg} {base : Nat} {I : World → Prop} (h : ∀ f args v, c.prim f args = some v → ∀ (ρ : Emb) (w : World) args', VRL ρ w args args' → I w →
    ∃ fn, c.P.funcs[f]? = some fn ∧ fn.body.isNone = false ∧ (fn.name == "runtime.NumGoroutine") = false ∧ Calls c.P f args'.toArray w fun e w' => ∃ v', e = .returned v' ∧ VR ρ w' v v' ∧ w' = w) : PrimOk c base I := by
  intro f args v hpr ρ hp w args' hpre
  obtain ⟨fn, a1, a2, a3, a4⟩ := h f args v hpr ρ w args' hpre.args hpre.inv
  refine ⟨fn, a1, a2, a3, a4.mono ?_⟩
  rintro e w' ⟨v', rfl, b1, rfl⟩
  exact ⟨_, List.mem_singleton.2 rfl, v', ρ, rfl, b1, Ext.refl hpre.rel⟩

/-- All that may come is this truth value. -/
def isB (b : Bool) : Value → Bool
  | .bool x => x == b
  | _ => false
def saysD (b : Bool) : R (List Out) → Bool
  | .ok l => l.all fun o => isB b o.1
  | .no _ => false
/-- A call with no memory told of: what is computed is what is answered. -/
theorem top {c : Cfg} (hG : c.G = 0) (hc : CfgOk c) (hmix : c.P.follows .mixedOrders = true) (hname : ∀ f fn, c.fns f = some fn → (fn.name == "runtime.NumGoroutine") = false) {W : World}
    (hprim : PrimOk c W.heap.size (fun _ => True)) {k : Nat} {f : FuncId} {args args' : List Value} {b : Bool} (hv : VRL (fun _ => none) W args args')
    (h : saysD b (callD c k (.fn f) args ⟨.leaf, 0⟩) = true) :
    Calls c.P f args'.toArray W fun e w' => e = .returned (.bool b) ∧ RowKit.Below W.heap.size W w' := by
  cases e : callD c k (.fn f) args ⟨.leaf, 0⟩ with
  | no w => rw [e] at h; cases h
  | ok outs =>
    rw [e] at h
    have hrel : Rel W.heap.size c.n0 (fun _ => none) (PT.leaf : PT Ob).get W := ⟨fun b o hb => (by cases hb), fun b b' k d d' h1 => absurd rfl h1, fun b k d h1 h2 => (by cases h2), fun b k d h2 => (by cases h2), Nat.le_refl _⟩
    obtain ⟨fn, h1, h2, h3, h4⟩ := (sound hc ⟨fun _ _ _ _ => trivial⟩ hmix hname hprim k).fn f args ⟨.leaf, 0⟩ outs e (fun _ => none) W args' ⟨hv, hrel, fun g hg => by omega, trivial, fun o ho b h1 h2 => rfl⟩
    refine h4.mono ?_
    rintro e w' ⟨o, ho, v', ρ', rfl, hvr, hx⟩
    have hb : isB b o.1 = true := List.all_eq_true.1 (show (outs.all fun o => isB b o.1) = true from h) o ho
    refine ⟨?_, hx.low hrel⟩
    unfold isB at hb
    split at hb
    · rename_i x hox
      rw [hox] at hvr
      cases hvr
      obtain rfl : x = b := by simpa using hb
      rfl
    · cases hb
end Go.Proofs.YthilbhbnimfcmaaDx
