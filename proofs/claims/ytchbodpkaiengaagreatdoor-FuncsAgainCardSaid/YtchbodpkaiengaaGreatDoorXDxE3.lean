/- A part of the proof of this claim. No condition beyond those that each theorem names. -/
import Derived.Test.YtchbodpkaiengaaGreatDoorXD1
namespace Go.Proofs.YtchbodpkaiengaaGreatDoorDx
open Go
set_option linter.unusedSectionVars false
set_option linter.unusedVariables false
def flat1 (h : Hp) (v : Value) : Option Value :=
  match v with
  | .slice (some ⟨b, o, none⟩) n sz => (cellsAt h b).bind fun cs => (slc cs o (n * sz)).map fun l => .tuple (.int .i64 n :: .int .i64 sz :: l).toArray
  | .slice none 0 0 => some (.tuple #[.int .i64 0])
  | .tuple _ => none
  | v => some v
def eqS2 : Value → Value → Bool
  | .tuple a, .tuple b => eqSL a.toList b.toList
  | x, y => eqS1 x y
def eqS2L : List Value → List Value → Bool
  | [], [] => true
  | x :: a, y :: b => eqS2 x y && eqS2L a b
  | _, _ => false
structure App where
  f : FuncId
  xs : List Value
  r : Value
def lookA : List App → FuncId → List Value → Option Value
  | [], _, _ => none
  | p :: l, f, xs => bif Nat.beq p.f f && eqS2L p.xs xs then some p.r else lookA l f xs
def appsP (apps : List App) (f : FuncId) (args : List Value) (h : Hp) : Option Value :=
  bif apps.any (fun p => Nat.beq p.f f) then (mapO (flat1 h) args).bind (lookA apps f) else none
variable [Eta]
theorem eqS2_eq {a b : Value} (h : eqS2 a b = true) : a = b := by
  unfold eqS2 at h
  split at h
  · have := eqSL_eq h
    rw [Array.ext' this]
  · exact eqS1_eq h
theorem eqS2L_eq : ∀ {a b : List Value}, eqS2L a b = true → a = b
  | [], [], _ => rfl
  | x :: a, y :: b, h => by
    simp only [eqS2L, Bool.and_eq_true] at h
    rw [eqS2_eq h.1, eqS2L_eq h.2]
  | [], _ :: _, h => by cases h
  | _ :: _, [], h => by cases h
theorem lookA_mem : ∀ {l : List App} {f : FuncId} {xs : List Value} {r : Value}, lookA l f xs = some r → ∃ p ∈ l, p.f = f ∧ p.xs = xs ∧ p.r = r
  | [], _, _, _, h => by cases h
  | p :: l, f, xs, r, h => by
    unfold lookA at h
    cases e : Nat.beq p.f f && eqS2L p.xs xs with
    | true =>
      rw [e] at h
      simp only [Bool.and_eq_true] at e
      exact ⟨p, List.mem_cons_self, beq_t e.1, eqS2L_eq e.2, Option.some.inj h⟩
    | false =>
      rw [e] at h
      obtain ⟨q, h1, h2⟩ := lookA_mem h
      exact ⟨q, List.mem_cons_of_mem _ h1, h2⟩
theorem Grow.of_below {w w' : World} (h : RowKit.Below w.heap.size w w') : Grow w w' :=
  ⟨h.size, h.os, h.tape, h.output, fun k cs el fr hk => ⟨cs, by rw [h.block k (Array.getElem?_eq_some_iff.1 hk).1]; exact hk, rfl⟩⟩
theorem Ext.below {base n0 : Nat} {ρ : Emb} {H : Nat → Option Ob} {n : Nat} {w w' : World} (hr : Rel base n0 ρ H w) (h : RowKit.Below w.heap.size w w') : Ext base n0 ρ H n w ρ H n [] w' := by
  have hg := Grow.of_below h
  refine ⟨.refl ρ, fun b x hb => .inl hb, Nat.le_refl _, ⟨fun b o hb => ?_, hr.inj, hr.high, fun b k d hb => Nat.lt_of_lt_of_le (hr.low b k d hb) h.size, Nat.le_trans hr.sz h.size⟩, hg, fun k hk _ => h.block k hk, fun b k d h1 h2 => by omega, fun b hb => .inl rfl, fun b hb => by cases hb⟩
  obtain ⟨k, d, e1, e2⟩ := hr.at_ b o hb
  exact ⟨k, d, e1, e2.grow hg (h.block k (hr.low b k d e1))⟩
def AppOk (c : Cfg) (base : Nat) (I : World → Prop) (p : App) : Prop :=
  ∀ (h : Hp) (ρ : Emb) (w : World) (args args' : List Value), mapO (flat1 h) args = some p.xs → VRL ρ w args args' → Rel base c.n0 ρ h.t.get w → I w →
    ∃ fn, c.P.funcs[p.f]? = some fn ∧ fn.body.isNone = false ∧ (fn.name == "runtime.NumGoroutine") = false ∧ Calls c.P p.f args'.toArray w fun e w' => ∃ v', e = .returned v' ∧ VR ρ w' p.r v' ∧ RowKit.Below w.heap.size w w'
theorem PrimOk.apps {c : Cfg} {base : Nat} {I : World → Prop} {apps : List App} (hp : c.prim = appsP apps) (h : ∀ p ∈ apps, AppOk c base I p) : PrimOk c base I := by
  intro f args v hh hpr ρ w args' hpre
  rw [hp] at hpr
  unfold appsP at hpr
  cases e : apps.any (fun p => Nat.beq p.f f) with
  | false => rw [e] at hpr; cases hpr
  | true =>
    rw [e] at hpr
    obtain ⟨xs, h1, h2⟩ := bindS hpr
    obtain ⟨p, h3, rfl, rfl, rfl⟩ := lookA_mem h2
    obtain ⟨fn, a1, a2, a3, a4⟩ := h p h3 hh ρ w args args' h1 hpre.args hpre.rel hpre.inv
    refine ⟨fn, a1, a2, a3, a4.mono ?_⟩
    rintro e w' ⟨v', rfl, b1, b2⟩
    exact ⟨_, List.mem_singleton.2 rfl, v', ρ, rfl, b1, Ext.below hpre.rel b2⟩
theorem topI {c : Cfg} (hG : c.G = 0) (hc : CfgOk c) (hmix : c.P.follows .mixedOrders = true) (hname : ∀ f fn, c.fns f = some fn → (fn.name == "runtime.NumGoroutine") = false) {W : World} {I : World → Prop} (hI : Inv W.heap.size I) (hW : I W)
    (hprim : PrimOk c W.heap.size I) {k : Nat} {f : FuncId} {args args' : List Value} {b : Bool} (hv : VRL (fun _ => none) W args args')
    (h : saysD b (callD c k (.fn f) args ⟨.leaf, 0⟩) = true) :
    Calls c.P f args'.toArray W fun e w' => e = .returned (.bool b) ∧ RowKit.Below W.heap.size W w' := by
  cases e : callD c k (.fn f) args ⟨.leaf, 0⟩ with
  | no w => rw [e] at h; cases h
  | ok outs =>
    rw [e] at h
    have hrel : Rel W.heap.size c.n0 (fun _ => none) (PT.leaf : PT Ob).get W := ⟨fun b o hb => (by cases hb), fun b b' k d d' h1 => absurd rfl h1, fun b k d h1 h2 => (by cases h2), fun b k d h2 => (by cases h2), Nat.le_refl _⟩
    obtain ⟨fn, h1, h2, h3, h4⟩ := (sound hc hI hmix hname hprim k).fn f args ⟨.leaf, 0⟩ outs e (fun _ => none) W args' ⟨hv, hrel, fun g hg => by omega, hW, fun o ho b h1 h2 => rfl⟩
    refine h4.mono ?_
    rintro e w' ⟨o, ho, v', ρ', rfl, hvr, hx⟩
    have hb : isB b o.1 = true := List.all_eq_true.1 (show (outs.all fun o => isB b o.1) = true from h) o ho
    refine ⟨?_, hx.low hrel⟩
    unfold isB at hb
    split at hb
    · rename_i x hox
      rw [hox] at hvr
      cases hvr
      obtain rfl : x = b := by simpa using hb
      rfl
    · cases hb
theorem flat1_other {h : Hp} {v x : Value} (hf : flat1 h v = some x) (hx : ∀ l, x ≠ .tuple l) : v = x := by
  unfold flat1 at hf
  split at hf
  · obtain ⟨cs, h1, h2⟩ := bindS hf
    obtain ⟨cl, h3, h4⟩ := Option.map_eq_some_iff.1 h2
    exact absurd h4.symm (hx _)
  · cases hf; exact absurd rfl (hx _)
  · cases hf
  · cases hf; rfl
theorem mapO_cons {α β : Type} {f : α → Option β} {l : List α} {y : β} {r : List β} (h : mapO f l = some (y :: r)) : ∃ x l', l = x :: l' ∧ f x = some y ∧ mapO f l' = some r := by
  cases l with
  | nil => cases h
  | cons x l =>
    unfold mapO at h
    obtain ⟨z, h1, h2⟩ := bindS h
    obtain ⟨q, h3, h4⟩ := Option.map_eq_some_iff.1 h2
    cases h4
    exact ⟨x, l, rfl, h1, h3⟩
theorem mapO_nil {α β : Type} {f : α → Option β} {l : List α} (h : mapO f l = some []) : l = [] := by
  cases l with
  | nil => rfl
  | cons x l =>
    unfold mapO at h
    obtain ⟨z, h1, h2⟩ := bindS h
    obtain ⟨q, h3, h4⟩ := Option.map_eq_some_iff.1 h2
    cases h4
end Go.Proofs.YtchbodpkaiengaaGreatDoorDx
