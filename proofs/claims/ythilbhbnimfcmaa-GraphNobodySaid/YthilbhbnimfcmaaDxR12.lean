/- A part of the proof that the interpreter of YthilbhbnimfcmaaDxDx is sound: what it computes of a call, the call comes to in the model. No condition beyond those that each theorem names. -/
import Derived.Test.YthilbhbnimfcmaaDxR11
import Derived.Test.YthilbhbnimfcmaaDxM2
namespace Go.Proofs.YthilbhbnimfcmaaDx
open Go
set_option linter.unusedVariables false
set_option linter.unusedSimpArgs false

theorem R.bind_ok {α β : Type} {x : R α} {f : α → R β} {y : β} (h : x.bind f = .ok y) : ∃ a, x = .ok a ∧ f a = .ok y := by
  cases x with
  | ok a => exact ⟨a, rfl, h⟩
  | no w => cases h
theorem R.of_ok {α : Type} {why : String} {x : Option α} {y : α} (h : R.of why x = .ok y) : x = some y := by
  cases x with
  | some a => cases h; rfl
  | none => cases h
theorem R.ctx_ok {α : Type} {why : String} {x : R α} {y : α} (h : R.ctx why x = .ok y) : x = .ok y := by
  cases x with
  | ok a => exact h
  | no w => cases h
theorem bindL_mem {α β : Type} {f : α → R (List β)} : ∀ {l : List α} {r : List β}, bindL l f = .ok r → ∀ x ∈ l, ∃ rx, f x = .ok rx ∧ ∀ y ∈ rx, y ∈ r
  | [], r, h, x, hx => by cases hx
  | z :: l, r, h, x, hx => by
    obtain ⟨a, h1, h2⟩ := R.bind_ok h
    obtain ⟨b, h3, h4⟩ := R.bind_ok h2
    cases h4
    rcases List.mem_cons.1 hx with rfl | hx
    · exact ⟨a, h1, fun y hy => List.mem_append_left _ hy⟩
    · obtain ⟨rx, g1, g2⟩ := bindL_mem h3 x hx
      exact ⟨rx, g1, fun y hy => List.mem_append_right _ (g2 y hy)⟩
theorem bindL_of {α β : Type} {f : α → R (List β)} : ∀ {l : List α} {r : List β}, bindL l f = .ok r → ∀ y ∈ r, ∃ x ∈ l, ∃ rx, f x = .ok rx ∧ y ∈ rx
  | [], r, h, y, hy => by cases h; cases hy
  | z :: l, r, h, y, hy => by
    obtain ⟨a, h1, h2⟩ := R.bind_ok h
    obtain ⟨b, h3, h4⟩ := R.bind_ok h2
    cases h4
    rcases List.mem_append.1 hy with hy | hy
    · exact ⟨z, by simp, a, h1, hy⟩
    · obtain ⟨x, g1, g2⟩ := bindL_of h3 y hy
      exact ⟨x, by simp [g1], g2⟩

theorem chk_ok {n : Nat} {l r : List Out} (h : chk n l = .ok r) : l = r ∧ r ≠ [] ∧ ∀ x ∈ r, n ≤ x.2.1.n := by
  unfold chk at h
  cases e : (l.all (fun x => Nat.ble n x.2.1.n) && !l.isEmpty) with
  | false => rw [e] at h; cases h
  | true =>
    rw [e] at h
    cases h
    simp only [Bool.and_eq_true, List.all_eq_true] at e
    exact ⟨rfl, by intro hh; subst hh; simp at e, fun x hx => ble_t (e.1 x hx)⟩
/-- Outcomes of a state: there is one, next ids do not go back, what was written stays said. -/
structure Up (s : St) (l : List St) : Prop where
  ne : l ≠ []
  n : ∀ o ∈ l, s.h.n ≤ o.h.n
  w : ∀ o ∈ l, ∀ b ∈ s.w, b ∈ o.w
structure UpX (s : St) (l : List (Ex × St)) : Prop where
  ne : l ≠ []
  n : ∀ o ∈ l, s.h.n ≤ o.2.h.n
  w : ∀ o ∈ l, ∀ b ∈ s.w, b ∈ o.2.w
theorem UpX.one (e : Ex) (s : St) : UpX s [(e, s)] := ⟨by simp, fun o ho => by simp at ho; subst ho; exact Nat.le_refl _, fun o ho b hb => by simp at ho; subst ho; exact hb⟩
section
variable {c : Cfg} {call : CallD}
theorem opsD_up {ro : Bool} {ops : Array Oper} : ∀ (l : List Oper) (s : St) (outs : List St), opsD c call ro ops l s = .ok outs → Up s outs
  | [], s, outs, h => by cases h; exact ⟨by simp, by simp, by simp⟩
  | o :: l, s, outs, h => by
    unfold opsD at h
    obtain ⟨b, h1, h2⟩ := R.bind_ok h
    cases b with
    | false =>
      have := opsD_up l _ outs h2
      exact ⟨this.ne, this.n, this.w⟩
    | true =>
      simp only [cond_true] at h2
      split at h2
      · rename_i p hp
        cases ro with
        | true => cases h2
        | false =>
          have := opsD_up l _ outs h2
          exact ⟨this.ne, this.n, this.w⟩
      · obtain ⟨os, h3, h4⟩ := R.bind_ok h2
        unfold opD at h3
        obtain ⟨os', h5, h6⟩ := R.bind_ok h3
        obtain ⟨rfl, g1, g2⟩ := chk_ok h6
        refine ⟨fun e => ?_, fun y hy => ?_, fun y hy b hb => ?_⟩
        · cases os' with
          | nil => exact g1 rfl
          | cons x r =>
            obtain ⟨rx, k1, k2⟩ := bindL_mem h4 x (by simp)
            have := opsD_up l _ rx k1
            cases rx with
            | nil => exact this.ne rfl
            | cons z zs => have := k2 z (by simp); rw [e] at this; cases this
        · obtain ⟨x, k1, rx, k2, k3⟩ := bindL_of h4 y hy
          exact Nat.le_trans (g2 x k1) ((opsD_up l _ rx k2).n y k3)
        · obtain ⟨x, k1, rx, k2, k3⟩ := bindL_of h4 y hy
          exact (opsD_up l _ rx k2).w y k3 b (by simp [hb])
theorem thenD_up {l : List (Ex × St)} {f : St → Outs} {outs : List (Ex × St)} {s : St} (h : thenD l f = .ok outs) (hl : UpX s l) (hf : ∀ s r, f s = .ok r → UpX s r) : UpX s outs := by
  unfold thenD at h
  have key : ∀ (x : Ex × St) rx, (match x.1 with | .normal => f x.2 | e => .ok [(e, x.2)]) = R.ok rx → UpX x.2 rx := by
    intro x rx hx
    obtain ⟨e, s⟩ := x
    cases e with
    | normal => exact hf s rx hx
    | exit id => cases hx; exact UpX.one _ _
    | ret => cases hx; exact UpX.one _ _
  refine ⟨fun e => ?_, fun y hy => ?_, fun y hy b hb => ?_⟩
  · cases l with
    | nil => exact hl.ne rfl
    | cons x r =>
      obtain ⟨rx, k1, k2⟩ := bindL_mem h x (by simp)
      have := key x rx k1
      cases rx with
      | nil => exact this.ne rfl
      | cons z zs => have := k2 z (by simp); rw [e] at this; cases this
  · obtain ⟨x, k1, rx, k2, k3⟩ := bindL_of h y hy
    exact Nat.le_trans (hl.n x k1) ((key x rx k2).n y k3)
  · obtain ⟨x, k1, rx, k2, k3⟩ := bindL_of h y hy
    exact (key x rx k2).w y k3 b (hl.w x k1 b hb)
theorem mem_normals : ∀ {l : List (Ex × St)} {s : St}, s ∈ normals l ↔ (Ex.normal, s) ∈ l
  | [], s => by simp [normals]
  | (.normal, x) :: l, s => by simp [normals, mem_normals (l := l)]
  | (.exit i, x) :: l, s => by simp [normals, mem_normals (l := l)]
  | (.ret, x) :: l, s => by simp [normals, mem_normals (l := l)]
theorem mem_leavers : ∀ {l : List (Ex × St)} {p : Ex × St}, p ∈ leavers l ↔ p ∈ l ∧ p.1 ≠ .normal
  | [], p => by simp [leavers]
  | (.normal, x) :: l, p => by
    simp only [leavers, mem_leavers (l := l), List.mem_cons]
    constructor
    · rintro ⟨h1, h2⟩; exact ⟨.inr h1, h2⟩
    · rintro ⟨rfl | h1, h2⟩
      · exact absurd rfl h2
      · exact ⟨h1, h2⟩
  | (.exit i, x) :: l, p => by
    simp only [leavers, List.mem_cons, mem_leavers (l := l)]
    constructor
    · rintro (rfl | h); exact ⟨.inl rfl, by simp⟩; exact ⟨.inr h.1, h.2⟩
    · rintro ⟨h | h, h2⟩; exact .inl h; exact .inr ⟨h, h2⟩
  | (.ret, x) :: l, p => by
    simp only [leavers, List.mem_cons, mem_leavers (l := l)]
    constructor
    · rintro (rfl | h); exact ⟨.inl rfl, by simp⟩; exact ⟨.inr h.1, h.2⟩
    · rintro ⟨h | h, h2⟩; exact .inl h; exact .inr ⟨h, h2⟩
theorem dedup_ne : ∀ {l : List Dat}, l ≠ [] → dedup l ≠ []
  | x :: l, h => fun e => by have := mem_dedup (x := x) (l := x :: l) (by simp); rw [e] at this; cases this
theorem dedup_sub : ∀ {l : List Dat} {x : Dat}, x ∈ dedup l → x ∈ l
  | y :: l, x, h => by
    unfold dedup at h
    simp only at h
    cases e : (dedup l).any (eqDat y) with
    | true => rw [e] at h; exact List.mem_cons_of_mem _ (dedup_sub h)
    | false =>
      rw [e] at h
      rcases List.mem_cons.1 h with rfl | h
      · simp
      · exact List.mem_cons_of_mem _ (dedup_sub h)
/-- What the states ahead of a loop's next round come to. -/
theorem mergeS_cases (c : Cfg) (a : Code) (s0 : St) (l : List St) : mergeS c a s0 l = l ∨ ∃ keep ds, (∀ b ∈ s0.w, b < s0.h.n) ∧ (∀ s ∈ l, s.T.m = s0.T.m) ∧ mapO (fun (s : St) => canon c s0.h.n (maxN (l.map fun s => s.h.n)) (keepT s.T keep) s.d s.h s.w) l = some ds ∧
    mergeS c a s0 l = (dedup ds).map fun x => ⟨⟨tmpsL .leaf x.vs, s0.T.m⟩, ⟨putL s0.h.t x.obs, maxN (l.map fun s => s.h.n)⟩, x.W, x.d⟩ := by
  unfold mergeS
  split
  · rename_i x y r keep hk
    cases hw : (s0.w.all (fun b => Nat.blt b s0.h.n) && (x :: y :: r).all (fun s => Nat.beq s.T.m s0.T.m)) with
    | false => exact .inl rfl
    | true =>
      simp only [cond_true]
      split
      · rename_i ds hds
        simp only [Bool.and_eq_true] at hw
        exact .inr ⟨keep, ds, fun b hb => blt_t (List.all_eq_true.1 hw.1 b hb), fun s hs => beq_t (List.all_eq_true.1 hw.2 s hs), hds, rfl⟩
      · exact .inl rfl
  · exact .inl rfl
theorem canon_W {n N : Nat} {vs : List (Nat × Value)} {d : List Dfr} {h : Hp} {W : List Nat} {x : Dat} (hc : canon c n N vs d h W = some x) : x.W = oldW n W := by
  unfold canon at hc
  simp only at hc
  generalize gather n h.t 100000 _ [] = L at hc
  cases e : (Nat.ble c.n0 n && L.all (fun b => Nat.ble n b && Nat.blt b h.n) && nodupB L && Nat.ble (n + L.length) N && Nat.ble h.n N && Nat.ble N lim && W.all (fun b => Nat.blt b h.n)) with
  | false => rw [e] at hc; cases hc
  | true =>
    rw [e] at hc
    simp only [cond_true] at hc
    obtain ⟨vs', e1, hc⟩ := Option.bind_eq_some_iff.1 hc
    obtain ⟨d', e2, hc⟩ := Option.bind_eq_some_iff.1 hc
    obtain ⟨obs, e3, rfl⟩ := Option.map_eq_some_iff.1 hc
    rfl
theorem mapO_of {α β : Type} {f : α → Option β} {l : List α} {r : List β} (h : mapO f l = some r) : (∀ y ∈ r, ∃ x ∈ l, f x = some y) ∧ ∀ x ∈ l, ∃ y ∈ r, f x = some y := by
  obtain ⟨h1, h2⟩ := mapO_get h
  refine ⟨fun y hy => ?_, fun x hx => ?_⟩
  · obtain ⟨i, hi⟩ := List.getElem?_of_mem hy
    have hl : i < l.length := by rw [h1]; exact (List.getElem?_eq_some_iff.1 hi).1
    obtain ⟨y', a, b⟩ := h2 i _ (List.getElem?_eq_getElem hl)
    rw [hi] at a
    cases a
    exact ⟨_, List.getElem_mem hl, b⟩
  · obtain ⟨i, hi⟩ := List.getElem?_of_mem hx
    obtain ⟨y, a, b⟩ := h2 i x hi
    exact ⟨y, List.mem_of_getElem? a, b⟩
theorem mergeS_up {a : Code} {s0 : St} {l : List St} (h : Up s0 l) : Up s0 (mergeS c a s0 l) ∧ ∀ s ∈ l, ∃ s' ∈ mergeS c a s0 l, s.h.n ≤ s'.h.n := by
  rcases mergeS_cases c a s0 l with e | ⟨keep, ds, hw, _, hds, e⟩
  · rw [e]; exact ⟨h, fun s hs => ⟨s, hs, Nat.le_refl _⟩⟩
  · rw [e]
    obtain ⟨m1, m2⟩ := mapO_of hds
    obtain ⟨x0, hx0⟩ := List.exists_mem_of_ne_nil l h.ne
    have hmx : ∀ s ∈ l, s.h.n ≤ maxN (l.map fun s => s.h.n) := fun s hs => le_maxN (List.mem_map.2 ⟨s, hs, rfl⟩)
    refine ⟨⟨?_, fun o ho => ?_, fun o ho b hb => ?_⟩, fun s hs => ?_⟩
    · obtain ⟨y, hy, _⟩ := m2 x0 hx0
      have := mem_dedup hy
      intro e
      rw [List.map_eq_nil_iff] at e
      rw [e] at this
      cases this
    · obtain ⟨x, _, rfl⟩ := List.mem_map.1 ho
      exact Nat.le_trans (h.n x0 hx0) (hmx x0 hx0)
    · obtain ⟨x, hx, rfl⟩ := List.mem_map.1 ho
      obtain ⟨s, hs, hc⟩ := m1 x (dedup_sub hx)
      show b ∈ x.W
      rw [canon_W hc]
      exact mem_oldW.2 ⟨h.w s hs b hb, hw b hb⟩
    · obtain ⟨y, hy, _⟩ := m2 s hs
      exact ⟨_, List.mem_map.2 ⟨y, mem_dedup hy, rfl⟩, hmx s hs⟩
end
end Go.Proofs.YthilbhbnimfcmaaDx
