/- A part of the proof that the interpreter of YtememknikhdkdaaGreatDoorDxDx is sound: what it computes of a call, the call comes to in the model. No condition beyond those that each theorem names. -/
import Derived.Test.YtememknikhdkdaaGreatDoorDxR11
namespace Go.Proofs.YtememknikhdkdaaGreatDoorDx
open Go
set_option linter.unusedVariables false
set_option linter.unusedSimpArgs false

theorem R.bind_ok {α β : Type} {x : R α} {f : α → R β} {y : β} (h : x.bind f = .ok y) : ∃ a, x = .ok a ∧ f a = .ok y := by
  cases x with
  | ok a => exact ⟨a, rfl, h⟩
  | no w => cases h
theorem R.of_ok {α : Type} {why : String} {x : Option α} {y : α} (h : R.of why x = .ok y) : x = some y := by
  cases x with
  | some a => cases h; rfl
  | none => cases h
theorem R.ctx_ok {α : Type} {why : String} {x : R α} {y : α} (h : R.ctx why x = .ok y) : x = .ok y := by
  cases x with
  | ok a => exact h
  | no w => cases h
theorem bindL_mem {α β : Type} {f : α → R (List β)} : ∀ {l : List α} {r : List β}, bindL l f = .ok r → ∀ x ∈ l, ∃ rx, f x = .ok rx ∧ ∀ y ∈ rx, y ∈ r
  | [], r, h, x, hx => by cases hx
  | z :: l, r, h, x, hx => by
    obtain ⟨a, h1, h2⟩ := R.bind_ok h
    obtain ⟨b, h3, h4⟩ := R.bind_ok h2
    cases h4
    rcases List.mem_cons.1 hx with rfl | hx
    · exact ⟨a, h1, fun y hy => List.mem_append_left _ hy⟩
    · obtain ⟨rx, g1, g2⟩ := bindL_mem h3 x hx
      exact ⟨rx, g1, fun y hy => List.mem_append_right _ (g2 y hy)⟩
theorem bindL_of {α β : Type} {f : α → R (List β)} : ∀ {l : List α} {r : List β}, bindL l f = .ok r → ∀ y ∈ r, ∃ x ∈ l, ∃ rx, f x = .ok rx ∧ y ∈ rx
  | [], r, h, y, hy => by cases h; cases hy
  | z :: l, r, h, y, hy => by
    obtain ⟨a, h1, h2⟩ := R.bind_ok h
    obtain ⟨b, h3, h4⟩ := R.bind_ok h2
    cases h4
    rcases List.mem_append.1 hy with hy | hy
    · exact ⟨z, by simp, a, h1, hy⟩
    · obtain ⟨x, g1, g2⟩ := bindL_of h3 y hy
      exact ⟨x, by simp [g1], g2⟩

/-- Next ids do not go back, and there is an outcome. -/
def Up (n : Nat) (l : List Nat) : Prop := l ≠ [] ∧ ∀ m ∈ l, n ≤ m
theorem chk_ok {n : Nat} {l r : List Out} (h : chk n l = .ok r) : l = r ∧ r ≠ [] ∧ ∀ x ∈ r, n ≤ x.2.1.n := by
  unfold chk at h
  cases e : (l.all (fun x => Nat.ble n x.2.1.n) && !l.isEmpty) with
  | false => rw [e] at h; cases h
  | true =>
    rw [e] at h
    cases h
    simp only [Bool.and_eq_true, List.all_eq_true] at e
    exact ⟨rfl, by intro hh; subst hh; simp at e, fun x hx => ble_t (e.1 x hx)⟩
section
variable {c : Cfg} {call : CallD}
theorem opsD_up {ops : Array Oper} : ∀ (l : List Oper) (s : St) (outs : List St), opsD c call ops l s = .ok outs → outs ≠ [] ∧ (∀ o ∈ outs, s.h.n ≤ o.h.n) ∧ ∀ o ∈ outs, ∀ b ∈ s.w, b ∈ o.w
  | [], s, outs, h => by cases h; simp
  | o :: l, s, outs, h => by
    unfold opsD at h
    obtain ⟨b, h1, h2⟩ := R.bind_ok h
    cases b with
    | false => exact opsD_up l ⟨putD s.T o.dst undef, s.h, s.w⟩ outs h2
    | true =>
      simp only [cond_true] at h2
      obtain ⟨os, h3, h4⟩ := R.bind_ok h2
      unfold opD at h3
      obtain ⟨os', h5, h6⟩ := R.bind_ok h3
      obtain ⟨rfl, g1, g2⟩ := chk_ok h6
      refine ⟨fun e => ?_, fun y hy => ?_, fun y hy b hb => ?_⟩
      · cases os' with
        | nil => exact g1 rfl
        | cons x r =>
          obtain ⟨rx, k1, k2⟩ := bindL_mem h4 x (by simp)
          obtain ⟨m1, m2⟩ := opsD_up l _ rx k1
          cases rx with
          | nil => exact m1 rfl
          | cons z zs => have := k2 z (by simp); rw [e] at this; cases this
      · obtain ⟨x, k1, rx, k2, k3⟩ := bindL_of h4 y hy
        have := (opsD_up l _ rx k2).2.1 y k3
        exact Nat.le_trans (g2 x k1) this
      · obtain ⟨x, k1, rx, k2, k3⟩ := bindL_of h4 y hy
        exact (opsD_up l _ rx k2).2.2 y k3 b (by simp [hb])
theorem thenD_up {l : List (Ex × St)} {f : St → Outs} {outs : List (Ex × St)} {n : Nat} {w : List Nat} (h : thenD l f = .ok outs) (hl : l ≠ []) (hn : ∀ o ∈ l, n ≤ o.2.h.n) (hw : ∀ o ∈ l, ∀ b ∈ w, b ∈ o.2.w)
    (hf : ∀ s r, f s = .ok r → r ≠ [] ∧ (∀ o ∈ r, s.h.n ≤ o.2.h.n) ∧ ∀ o ∈ r, ∀ b ∈ s.w, b ∈ o.2.w) : outs ≠ [] ∧ (∀ o ∈ outs, n ≤ o.2.h.n) ∧ ∀ o ∈ outs, ∀ b ∈ w, b ∈ o.2.w := by
  unfold thenD at h
  have key : ∀ (x : Ex × St) rx, (match x.1 with | .normal => f x.2 | e => .ok [(e, x.2)]) = R.ok rx → rx ≠ [] ∧ (∀ o ∈ rx, x.2.h.n ≤ o.2.h.n) ∧ ∀ o ∈ rx, ∀ b ∈ x.2.w, b ∈ o.2.w := by
    intro x rx hx
    obtain ⟨e, s⟩ := x
    cases e with
    | normal => exact hf s rx hx
    | exit id => cases hx; simp
    | ret => cases hx; simp
  refine ⟨fun e => ?_, fun y hy => ?_, fun y hy b hb => ?_⟩
  · cases l with
    | nil => exact hl rfl
    | cons x r =>
      obtain ⟨rx, k1, k2⟩ := bindL_mem h x (by simp)
      have := key x rx k1
      cases rx with
      | nil => exact this.1 rfl
      | cons z zs => have := k2 z (by simp); rw [e] at this; cases this
  · obtain ⟨x, k1, rx, k2, k3⟩ := bindL_of h y hy
    exact Nat.le_trans (hn x k1) ((key x rx k2).2.1 y k3)
  · obtain ⟨x, k1, rx, k2, k3⟩ := bindL_of h y hy
    exact (key x rx k2).2.2 y k3 b (hw x k1 b hb)
end
end Go.Proofs.YtememknikhdkdaaGreatDoorDx
