/- A part of the proof that the interpreter of YthilbhbnimfcmaaDxDx is sound: what it computes of a call, the call comes to in the model. No condition beyond those that each theorem names. -/
import Derived.Test.YthilbhbnimfcmaaDxR10g
namespace Go.Proofs.YthilbhbnimfcmaaDx
open Go
set_option linter.unusedVariables false
set_option linter.unusedSimpArgs false

theorem mapO_get {α β : Type} {f : α → Option β} : ∀ {l : List α} {r : List β}, mapO f l = some r → l.length = r.length ∧ ∀ (i : Nat) x, l[i]? = some x → ∃ y, r[i]? = some y ∧ f x = some y
  | [], r, h => by cases h; exact ⟨rfl, fun i x hx => by simp at hx⟩
  | x :: l, r, h => by
    unfold mapO at h
    obtain ⟨y, h1, h2⟩ := Option.bind_eq_some_iff.1 h
    obtain ⟨r', h3, rfl⟩ := Option.map_eq_some_iff.1 h2
    obtain ⟨g1, g2⟩ := mapO_get h3
    refine ⟨by simp [g1], fun i z hz => ?_⟩
    cases i with
    | zero => simp at hz; subst hz; exact ⟨y, by simp, h1⟩
    | succ i => obtain ⟨u, a, b⟩ := g2 i z (by simpa using hz); exact ⟨u, by simpa using a, b⟩
section
variable {ρ ρ' : Emb} {w : World} {f : Nat → Option Nat}
theorem VRL.ren (hf : ∀ b b' x, f b = some b' → ρ b = some x → ρ' b' = some x) (n : Nat) (ih : ∀ {x y x' : Value}, VR ρ w x y → renV f n x = some x' → VR ρ' w x' y) {xs ys xs' : List Value} (h : VRL ρ w xs ys) (hr : mapO (renV f n) xs = some xs') : VRL ρ' w xs' ys := by
  obtain ⟨h1, h2⟩ := mapO_get hr
  refine ⟨by rw [← h1, h.len], fun i x y hx hy => ?_⟩
  have hi : i < xs.length := by rw [h1]; exact (List.getElem?_eq_some_iff.1 hx).1
  obtain ⟨x', a, b⟩ := h2 i xs[i] (List.getElem?_eq_getElem hi)
  rw [hx] at a
  cases a
  exact ih (h.at_ i _ y (List.getElem?_eq_getElem hi) hy) b
theorem VR.ren (hf : ∀ b b' x, f b = some b' → ρ b = some x → ρ' b' = some x) : ∀ (n : Nat) {x y x' : Value}, VR ρ w x y → renV f n x = some x' → VR ρ' w x' y
  | 0, x, y, x', h, hr => by cases hr
  | n + 1, x, y, x', h, hr => by
    have ihL := fun {xs ys xs' : List Value} => VRL.ren (xs := xs) (ys := ys) (xs' := xs') hf n (fun hh hk => VR.ren hf n hh hk)
    cases h with
    | bool b => cases hr; exact .bool b
    | int k m => cases hr; exact .int k m
    | string s => cases hr; exact .string s
    | nilp => cases hr; exact .nilp
    | ptr b o k d hb =>
      simp only [renV, renA] at hr
      obtain ⟨a, h1, rfl⟩ := Option.map_eq_some_iff.1 hr
      obtain ⟨b', h2, rfl⟩ := Option.map_eq_some_iff.1 h1
      exact .ptr b' o k d (hf _ _ _ h2 hb)
    | nils => cases hr; exact .nils
    | sl b o m sz c k d hb hh hro =>
      simp only [renV, renA] at hr
      obtain ⟨a, h1, rfl⟩ := Option.map_eq_some_iff.1 hr
      obtain ⟨b', h2, rfl⟩ := Option.map_eq_some_iff.1 h1
      exact .sl b' o m sz c k d (hf _ _ _ h2 hb) hh hro
    | sl0 b o sz a =>
      simp only [renV, renA] at hr
      obtain ⟨a', h1, rfl⟩ := Option.map_eq_some_iff.1 hr
      obtain ⟨b', h2, rfl⟩ := Option.map_eq_some_iff.1 h1
      exact .sl0 b' o sz a
    | nilm => cases hr; exact .nilm
    | map r k d hb =>
      simp only [renV] at hr
      obtain ⟨b', h2, rfl⟩ := Option.map_eq_some_iff.1 hr
      exact .map b' k d (hf _ _ _ h2 hb)
    | yld b k d hb =>
      simp only [renV] at hr
      obtain ⟨b', h2, rfl⟩ := Option.map_eq_some_iff.1 hr
      exact .yld b' k d (hf _ _ _ h2 hb)
    | func fn hfn xs ys xs2 ys2 h1 h2 h3 h4 =>
      have hr' : ((mapO (renV f n) xs.toList).bind fun xs => (mapO (renV f n) ys.toList).map fun ys => Value.func fn xs.toArray ys.toArray) = some x' := by
        cases fn <;> first | exact hr | exact absurd rfl (hfn _)
      obtain ⟨xs', g1, g2⟩ := Option.bind_eq_some_iff.1 hr'
      obtain ⟨ys', g3, rfl⟩ := Option.map_eq_some_iff.1 g2
      have k1 := ihL (⟨h1, h2⟩ : VRL ρ w xs.toList xs2.toList) g1
      have k2 := ihL (⟨h3, h4⟩ : VRL ρ w ys.toList ys2.toList) g3
      exact .func fn hfn _ _ _ _ k1.len k1.at_ k2.len k2.at_
    | nilFunc => cases hr; exact .nilFunc
    | nilIface => cases hr; exact .nilIface
    | iface t u v hh =>
      simp only [renV] at hr
      obtain ⟨u', g1, rfl⟩ := Option.map_eq_some_iff.1 hr
      exact .iface t u' v (VR.ren hf n hh g1)
    | agg xs ys h1 h2 =>
      simp only [renV] at hr
      obtain ⟨l, g1, rfl⟩ := Option.map_eq_some_iff.1 hr
      have k1 := ihL (⟨h1, h2⟩ : VRL ρ w xs.toList ys.toList) g1
      exact .agg _ _ k1.len k1.at_
    | tok k re im y hh => cases hr; exact .tok k re im _ hh
    | tuple xs ys h1 h2 =>
      simp only [renV] at hr
      obtain ⟨l, g1, rfl⟩ := Option.map_eq_some_iff.1 hr
      have k1 := ihL (⟨h1, h2⟩ : VRL ρ w xs.toList ys.toList) g1
      exact .tuple _ _ k1.len k1.at_
theorem OR.ren (hf : ∀ b b' x, f b = some b' → ρ b = some x → ρ' b' = some x) {k d : Nat} {o o' : Ob} (h : OR ρ w k d o) (hr : renO f (some o) = some (some o')) : OR ρ' w k d o' := by
  cases o with
  | cells cs =>
    simp only [renO] at hr
    obtain ⟨l, g1, g2⟩ := Option.map_eq_some_iff.1 hr
    obtain rfl := Option.some.inj g2
    obtain ⟨cs', h1, h2, h3⟩ := h
    obtain ⟨k1, k2⟩ := mapO_get g1
    refine ⟨cs', h1, by omega, fun j x y hx hy => ?_⟩
    have hj : j < cs.length := by rw [k1]; exact (List.getElem?_eq_some_iff.1 hx).1
    obtain ⟨x', a, b⟩ := k2 j cs[j] (List.getElem?_eq_getElem hj)
    rw [hx] at a
    cases a
    exact VR.ren hf _ (h3 j _ y (List.getElem?_eq_getElem hj) hy) b
  | map es clock =>
    simp only [renO] at hr
    obtain ⟨l, g1, g2⟩ := Option.map_eq_some_iff.1 hr
    obtain rfl := Option.some.inj g2
    obtain ⟨es', h1, h2, h3⟩ := h
    obtain ⟨k1, k2⟩ := mapO_get g1
    refine ⟨es', h1, by omega, fun j e e' he he' => ?_⟩
    have hj : j < es.length := by rw [k1]; exact (List.getElem?_eq_some_iff.1 he).1
    obtain ⟨x', a, b⟩ := k2 j es[j] (List.getElem?_eq_getElem hj)
    rw [he] at a
    cases a
    obtain ⟨c1, c2, c3⟩ := h3 j _ e' (List.getElem?_eq_getElem hj) he'
    unfold renE at b
    obtain ⟨v, b1, rfl⟩ := Option.map_eq_some_iff.1 b
    exact ⟨c1, VR.ren hf _ c2 b1, c3⟩
  | sit s pos => cases hr; exact h
  | mit m since seen last =>
    cases m with
    | none => cases hr; obtain ⟨m', seen', h1, h2⟩ := h; refine ⟨m', seen', ?_, h2⟩; rcases h1 with h1 | ⟨_, _, _, hh, _⟩; exact .inl h1; cases hh
    | some m =>
      simp only [renO] at hr
      obtain ⟨m2, g1, g2⟩ := Option.map_eq_some_iff.1 hr
      obtain rfl := Option.some.inj g2
      obtain ⟨m', seen', h1, h2⟩ := h
      refine ⟨m', seen', ?_, h2⟩
      rcases h1 with ⟨hh, _⟩ | ⟨r, k', d', e1, e2, e3⟩
      · cases hh
      · cases e1; exact .inr ⟨m2, k', d', rfl, hf _ _ _ g1 e2, e3⟩
  | loop busy t m ps assign body db => cases hr
  | dfb => cases hr; exact h
end

/-! Equality. -/
theorem eqL_eq {α : Type} {f : α → α → Bool} (hf : ∀ x y, f x y = true → x = y) : ∀ {a b : List α}, eqL f a b = true → a = b
  | [], [], h => rfl
  | x :: a, y :: b, h => by
    simp only [eqL, Bool.and_eq_true] at h
    rw [hf _ _ h.1, eqL_eq hf h.2]
  | [], _ :: _, h => by cases h
  | _ :: _, [], h => by cases h
theorem eqN_eq {a b : List Nat} (h : eqN a b = true) : a = b := by
  induction a generalizing b with
  | nil => cases b with | nil => rfl | cons y b => cases h
  | cons x a ih => cases b with
    | nil => cases h
    | cons y b => simp only [eqN, Bool.and_eq_true] at h; rw [beq_t h.1, ih h.2]
theorem eqA_eq {a b : Option Addr} (h : eqA a b = true) : a = b := by
  unfold eqA at h
  split at h
  · rfl
  · simp only [Bool.and_eq_true] at h; rw [beq_t h.1, beq_t h.2]
  · cases h
theorem eqON_eq {a b : Option Nat} (h : eqON a b = true) : a = b := by
  unfold eqON at h
  split at h
  · rfl
  · rw [beq_t h]
  · cases h
theorem eqFn_eq {a b : Fn} (h : eqFn a b = true) : a = b := by
  unfold eqFn at h
  split at h
  · rw [beq_t h]
  · cases h
theorem eqU_bytes {a b : ByteArray} (h : eqU a.data.toList b.data.toList = true) : a = b := by
  rw [eqU_eq] at h
  obtain ⟨⟨x⟩⟩ := a
  obtain ⟨⟨y⟩⟩ := b
  obtain rfl : x = y := by simpa using h
  rfl
theorem eqV_eq : ∀ (n : Nat) (x y : Value), eqV n x y = true → x = y
  | 0, x, y, h => by cases h
  | n + 1, x, y, h => by
    have ih := fun x y => eqV_eq n x y
    unfold eqV at h
    split at h
    · obtain rfl : _ = _ := by simpa using h
      rfl
    · simp only [Bool.and_eq_true, decide_eq_true_eq] at h; rw [h.1, h.2]
    · rw [eqU_bytes h]
    · rw [eqA_eq h]
    · simp only [Bool.and_eq_true] at h; rw [eqA_eq h.1.1, beq_t h.1.2, beq_t h.2]
    · rw [eqON_eq h]
    · simp only [Bool.and_eq_true] at h; rw [eqFn_eq h.1.1, Array.ext' (eqL_eq ih h.1.2), Array.ext' (eqL_eq ih h.2)]
    · rfl
    · rfl
    · simp only [Bool.and_eq_true] at h; rw [beq_t h.1, ih _ _ h.2]
    · rw [Array.ext' (eqL_eq ih h)]
    · rw [Array.ext' (eqL_eq ih h)]
    · cases h
theorem eqE_eq {x y : Ent} (h : eqE x y = true) : x = y := by
  obtain ⟨a, b, k⟩ := x
  obtain ⟨a', b', k'⟩ := y
  simp only [eqE, Bool.and_eq_true] at h
  rw [eqV_eq _ _ _ h.1.1, eqV_eq _ _ _ h.1.2, beq_t h.2]
theorem eqO_eq {x y : Option Ob} (h : eqO x y = true) : x = y := by
  unfold eqO at h
  split at h
  · rfl
  · rw [eqL_eq (fun x y => eqV_eq _ x y) h]
  · simp only [Bool.and_eq_true] at h; rw [eqL_eq (fun x y => eqE_eq) h.1, beq_t h.2]
  · simp only [Bool.and_eq_true] at h; rw [eqON_eq h.1.1.1, beq_t h.1.1.2, eqN_eq h.1.2, beq_t h.2]
  · simp only [Bool.and_eq_true] at h; rw [eqU_bytes h.1, beq_t h.2]
  · rfl
  · cases h
theorem eqDf_eq {x y : Dfr} (h : eqDf x y = true) : x = y := by
  unfold eqDf at h
  split at h
  · rw [beq_t h]
  · simp only [Bool.and_eq_true] at h; rw [beq_t h.1, eqL_eq (fun x y => eqV_eq _ x y) h.2]
  · cases h
theorem eqDat_eq {x y : Dat} (h : eqDat x y = true) : x = y := by
  obtain ⟨a, b, c, d⟩ := x
  obtain ⟨a', b', c', d'⟩ := y
  simp only [eqDat, Bool.and_eq_true] at h
  obtain ⟨⟨⟨h1, h2⟩, h3⟩, h4⟩ := h
  rw [eqL_eq (fun p q hpq => by obtain ⟨p1, p2⟩ := p; obtain ⟨q1, q2⟩ := q; simp only [Bool.and_eq_true] at hpq; rw [beq_t hpq.1, eqV_eq _ _ _ hpq.2]) h1, eqL_eq (fun x y => eqDf_eq) h2, eqL_eq (fun p q hpq => by obtain ⟨p1, p2⟩ := p; obtain ⟨q1, q2⟩ := q; simp only [Bool.and_eq_true] at hpq; rw [beq_t hpq.1, eqO_eq hpq.2]) h3, eqN_eq h4]
theorem mem_dedup : ∀ {l : List Dat} {x : Dat}, x ∈ l → x ∈ dedup l
  | y :: l, x, h => by
    unfold dedup
    simp only
    rcases List.mem_cons.1 h with rfl | h
    · cases e : (dedup l).any (eqDat x) with
      | true =>
        obtain ⟨z, h1, h2⟩ := List.any_eq_true.1 e
        rw [eqDat_eq h2]
        exact h1
      | false => simp
    · have := mem_dedup h
      cases (dedup l).any (eqDat y) with
      | true => exact this
      | false => exact List.mem_cons_of_mem _ this
theorem le_maxN : ∀ {l : List Nat} {n : Nat}, n ∈ l → n ≤ maxN l
  | m :: l, n, h => by
    unfold maxN
    simp only
    have key : m ≤ (bif Nat.blt m (maxN l) then maxN l else m) ∧ maxN l ≤ (bif Nat.blt m (maxN l) then maxN l else m) := by
      cases e : Nat.blt m (maxN l) with
      | true => have := blt_t e; exact ⟨by simp only [cond_true]; omega, Nat.le_refl _⟩
      | false => have := blt_f e; exact ⟨Nat.le_refl _, by simp only [cond_false]; omega⟩
    rcases List.mem_cons.1 h with rfl | h
    · exact key.1
    · exact Nat.le_trans (le_maxN h) key.2
theorem maxN_mem : ∀ {l : List Nat}, l ≠ [] → maxN l ∈ l
  | [m], h => by
    unfold maxN maxN
    cases e : Nat.blt m 0 with
    | true => have := blt_t e; omega
    | false => simp [e]
  | m :: k :: l, h => by
    have ih := maxN_mem (l := k :: l) (by simp)
    unfold maxN
    simp only
    cases Nat.blt m (maxN (k :: l)) with
    | true => exact List.mem_cons_of_mem _ ih
    | false => simp
end Go.Proofs.YthilbhbnimfcmaaDx
