/- A part of the proof that the interpreter of YthilbhbnimfcmaaDxDx is sound: what it computes of a call, the call comes to in the model. No condition beyond those that each theorem names. -/
import Derived.Test.YthilbhbnimfcmaaDxR4
namespace Go.Proofs.YthilbhbnimfcmaaDx
open Go
set_option linter.unusedVariables false
set_option linter.unusedSimpArgs false

/-- A table that steps have written, those of X alone. -/
def FX {κ β : Type} (touch : Nat → κ → Prop) [∀ j x, Decidable (touch j x)] (val : Nat → κ → β) (init : κ → β) (X : Nat → Bool) : Nat → κ → β
  | 0, x => init x
  | k + 1, x => if X k = true ∧ touch k x then val k x else FX touch val init X k x
section
variable {κ β : Type} {touch : Nat → κ → Prop} [∀ j x, Decidable (touch j x)] {val : Nat → κ → β} {init : κ → β}
theorem FX_congr {X Y : Nat → Bool} : ∀ (k : Nat) (x : κ), (∀ j, j < k → touch j x → X j = Y j) → FX touch val init X k x = FX touch val init Y k x
  | 0, x, h => rfl
  | k + 1, x, h => by
    unfold FX
    have ih := FX_congr k x (fun j hj ht => h j (by omega) ht)
    by_cases ht : touch k x
    · rw [h k (by omega) ht]
      split
      · rfl
      · exact ih
    · rw [if_neg (fun hh => ht hh.2), if_neg (fun hh => ht hh.2)]
      exact ih
theorem FX_last {X : Nat → Bool} {i : Nat} {x : κ} (hi : X i = true) (ht : touch i x) : ∀ (k : Nat), i < k → (∀ j, i < j → j < k → X j = true → ¬ touch j x) → FX touch val init X k x = val i x
  | 0, hk, h => by omega
  | k + 1, hk, h => by
    unfold FX
    by_cases e : k = i
    · subst e; rw [if_pos ⟨hi, ht⟩]
    · rw [if_neg (fun hh => h k (by omega) (by omega) hh.1 hh.2)]
      exact FX_last hi ht k (by omega) (fun j h1 h2 => h j h1 (by omega))
theorem FX_cut {X : Nat → Bool} {x : κ} (i : Nat) : ∀ (k : Nat), i ≤ k → (∀ j, i ≤ j → j < k → X j = true → ¬ touch j x) → FX touch val init X k x = FX touch val init X i x
  | 0, hk, h => by obtain rfl : i = 0 := by omega
                   rfl
  | k + 1, hk, h => by
    by_cases e : i = k + 1
    · subst e; rfl
    · rw [show FX touch val init X (k + 1) x = FX touch val init X k x from by
        show (if _ then _ else _) = _
        rw [if_neg (fun hh => h k (by omega) (by omega) hh.1 hh.2)]]
      exact FX_cut i k (by omega) (fun j h1 h2 => h j h1 (by omega))
end

/-- A step within a stretch of ids, behind others. -/
theorem Ext.trans' {base n0 : Nat} {ρ ρ1 ρ2 : Emb} {H H1 H2 : Nat → Option Ob} {n N m m' : Nat} {W1 W2 : List Nat} {w w1 w2 : World} (hf : Free ρ n N) (hr : Rel base n0 ρ H w) (h1 : n ≤ m) (h2 : m' ≤ N)
    (h : Ext base n0 ρ H n w ρ1 H1 N W1 w1) (k : Ext base n0 ρ1 H1 m w1 ρ2 H2 m' W2 w2) : Ext base n0 ρ H n w ρ2 H2 N (W2 ++ W1) w2 := by
  have hnn := h.nn
  have knn := k.nn
  refine ⟨h.le.trans k.le, fun b x hb => ?_, hnn, k.rel, h.grow.trans k.grow, fun j hj hw => ?_, fun b j d hb1 hb2 hb3 hb4 => ?_, fun b hb => ?_, fun b hb => ?_⟩
  · rcases k.dom b x hb with h1 | h1
    · exact h.dom b x h1
    · exact .inr (by omega)
  · have e1 := h.frame j hj (fun b hb => hw b (by simp [hb]))
    refine (k.frame j (Nat.lt_of_lt_of_le hj h.grow.size) (fun b hb hlive d hd => ?_)).trans e1
    rcases h.dom b _ hd with h1 | h1
    · have hbn : ¬ (n ≤ b ∧ b < N) := fun hc => by rw [hf b hc.1 hc.2] at h1; cases h1
      rcases h.old b (by omega) with h2 | h2
      · rw [h2] at hlive
        exact hw b (by simp [hb]) hlive d h1
      · exact hw b (by simp [hb]) h2.2 d h1
    · rcases h.new b j d h1.1 h1.2 hlive hd with h2 | ⟨b0, h2, h3, d0, h4⟩
      · omega
      · exact hw b0 (by simp [h2]) h3 d0 h4
  · have back : H1 b ≠ none → w.heap.size ≤ j ∨ ∃ b0 ∈ W2 ++ W1, H b0 ≠ none ∧ ∃ d0, ρ b0 = some (j, d0) := fun hne => by
      cases e : H1 b with
      | none => exact absurd e hne
      | some o =>
        obtain ⟨k', d', hk', _⟩ := h.rel.at_ b o e
        have := k.le b _ hk'
        rw [hb4] at this
        obtain ⟨rfl, rfl⟩ := Prod.mk.inj (Option.some.inj this)
        rcases h.new b _ _ hb1 hb2 hne hk' with h2 | ⟨b0, h2, h3, d0, h4⟩
        · exact .inl h2
        · exact .inr ⟨b0, by simp [h2], h3, d0, h4⟩
    by_cases hlt : m ≤ b ∧ b < m'
    · rcases k.new b j d hlt.1 hlt.2 hb3 hb4 with h2 | ⟨b0, h2, h3, d0, h4⟩
      · have := h.grow.size; exact .inl (by omega)
      · rcases h.dom b0 _ h4 with h5 | h5
        · have hbn : ¬ (n ≤ b0 ∧ b0 < N) := fun hc => by rw [hf b0 hc.1 hc.2] at h5; cases h5
          rcases h.old b0 (by omega) with h6 | h6
          · rw [h6] at h3
            exact .inr ⟨b0, by simp [h2], h3, d0, h5⟩
          · exact .inr ⟨b0, by simp [h2], h6.2, d0, h5⟩
        · rcases h.new b0 j d0 h5.1 h5.2 h3 h4 with h6 | ⟨b1, h6, h7, d1, h8⟩
          · exact .inl h6
          · exact .inr ⟨b1, by simp [h6], h7, d1, h8⟩
    · rcases k.old b (by omega) with h1 | h1
      · exact back (by rw [← h1]; exact hb3)
      · exact back h1.2
  · rcases k.old b (by omega) with h1 | h1
    · rcases h.old b (by omega) with h2 | h2
      · exact .inl (h1.trans h2)
      · exact .inr ⟨by simp [h2.1], h2.2⟩
    · rcases h.old b (by omega) with h2 | h2
      · rw [h2] at h1; exact .inr ⟨by simp [h1.1], h1.2⟩
      · exact .inr ⟨by simp [h2.1], h2.2⟩
  · rcases List.mem_append.1 hb with h1 | h1
    · exact k.wr b h1
    · exact h.wr b h1

/-- What a step on a part of the memory is on the whole: what the part does not hold stays. W: the ids written that the part's next id lies above. -/
theorem Ext.lift {base n0 : Nat} {ρ ρ' : Emb} {M H H' Hn : Nat → Option Ob} {n n' : Nat} {Wf W : List Nat} {w w' : World} (hr : Rel base n0 ρ H w) (hM : ∀ b o, M b = some o → H b = some o)
    (hWf : ∀ b ∈ Wf, b < n') (hW : ∀ b, b ∈ W ↔ b ∈ Wf ∧ b < n) (hfree : Free ρ n n') (h : Ext base n0 ρ M n w ρ' H' n' Wf w')
    (hn : ∀ b, Hn b = if b ∈ W ∨ (n ≤ b ∧ b < n') then H' b else H b) : Ext base n0 ρ H n w ρ' Hn n' W w' := by
  have hMl : ∀ b, M b ≠ none → H b ≠ none := fun b hb => by
    cases e : M b with
    | none => exact absurd e hb
    | some o => rw [hM b o e]; simp
  have hHn : ∀ b, n ≤ b → b < n' → H b = none := fun b h1 h2 => by
    cases e : H b with
    | none => rfl
    | some o => obtain ⟨k, d, hk, _⟩ := hr.at_ b o e; rw [hfree b h1 h2] at hk; cases hk
  have hMlt : ∀ b, b ∈ Wf → M b ≠ none → b < n := fun b hb hl => Nat.lt_of_not_le (fun hc => hMl b hl (hHn b hc (hWf b hb)))
  -- a live id of H': it lives in M, or is new
  have hlive : ∀ b, b ∈ W → H' b ≠ none → M b ≠ none := fun b hb hl => by
    have hlt := ((hW b).1 hb).2
    rcases h.old b (.inl hlt) with e | e
    · rwa [e] at hl
    · exact e.2
  have hframe : ∀ k, k < w.heap.size → (∀ b ∈ W, H b ≠ none → ∀ d, ρ b ≠ some (k, d)) → w'.heap[k]? = w.heap[k]? := fun k hk hw =>
    h.frame k hk (fun b hb hl d => hw b ((hW b).2 ⟨hb, hMlt b hb hl⟩) (hMl b hl) d)
  -- what was not touched stays
  have hstay : ∀ b k d, ¬ (b ∈ W ∨ (n ≤ b ∧ b < n')) → H b ≠ none → ρ b = some (k, d) → w'.heap[k]? = w.heap[k]? := fun b k d hnt hl hb =>
    h.frame k (hr.low b k d hb) (fun b0 hb0 hl0 d0 hd0 => hnt (.inl (by
      have : b0 = b := hr.inj b0 b k d0 d (hMl b0 hl0) hl hd0 hb
      rw [← this]
      exact (hW b0).2 ⟨hb0, hMlt b0 hb0 hl0⟩)))
  refine ⟨h.le, h.dom, h.nn, ⟨fun b o hb => ?_, fun b b' k d d' hb hb' hk hk' => ?_, h.rel.high, h.rel.low, h.rel.sz⟩, h.grow, hframe, fun b k d h1 h2 h3 h4 => ?_, fun b hb => ?_, fun b hb => h.wr b ((hW b).1 hb).1⟩
  · rw [hn] at hb
    split at hb
    · exact h.rel.at_ b o hb
    · rename_i hnt
      obtain ⟨k, d, e1, e2⟩ := hr.at_ b o hb
      exact ⟨k, d, h.le b _ e1, (e2.le h.le).grow h.grow (hstay b k d hnt (by rw [hb]; simp) e1)⟩
  · rw [hn] at hb hb'
    have mixed : ∀ x y dx dy, (x ∈ W ∨ (n ≤ x ∧ x < n')) → ¬ (y ∈ W ∨ (n ≤ y ∧ y < n')) → H' x ≠ none → H y ≠ none → ρ' x = some (k, dx) → ρ' y = some (k, dy) → False := by
      intro x y dx dy hx hy hlx hly hkx hky
      have hky0 : ρ y = some (k, dy) := by
        rcases h.dom y _ hky with e | e
        · exact e
        · exact absurd (.inr e) hy
      rcases hx with hx | hx
      · have hm := hlive x hx hlx
        have hkx0 : ρ x = some (k, dx) := by
          rcases h.dom x _ hkx with e | e
          · exact e
          · have := ((hW x).1 hx).2; omega
        have := hr.inj x y k dx dy (hMl x hm) hly hkx0 hky0
        exact hy (.inl (this ▸ hx))
      · rcases h.new x k dx hx.1 hx.2 hlx hkx with e | ⟨b0, e1, e2, d0, e3⟩
        · have := hr.low y k dy hky0; omega
        · have := hr.inj b0 y k d0 dy (hMl b0 e2) hly e3 hky0
          exact hy (.inl (this ▸ (hW b0).2 ⟨e1, hMlt b0 e1 e2⟩))
    split at hb <;> split at hb'
    · exact h.rel.inj b b' k d d' hb hb' hk hk'
    · rename_i t1 t2; exact (mixed b b' d d' t1 t2 hb hb' hk hk').elim
    · rename_i t1 t2; exact (mixed b' b d' d t2 t1 hb' hb hk' hk).elim
    · rename_i t1 t2
      have f : ∀ x dx, ¬ (x ∈ W ∨ (n ≤ x ∧ x < n')) → ρ' x = some (k, dx) → ρ x = some (k, dx) := fun x dx hx hkx => by
        rcases h.dom x _ hkx with e | e
        · exact e
        · exact absurd (.inr e) hx
      exact hr.inj b b' k d d' hb hb' (f b d t1 hk) (f b' d' t2 hk')
  · rw [hn, if_pos (.inr ⟨h1, h2⟩)] at h3
    rcases h.new b k d h1 h2 h3 h4 with e | ⟨b0, e1, e2, e3⟩
    · exact .inl e
    · exact .inr ⟨b0, (hW b0).2 ⟨e1, hMlt b0 e1 e2⟩, hMl b0 e2, e3⟩
  · by_cases hb' : b ∈ W
    · by_cases hlv : H b = none
      · refine .inl ?_
        rw [hn, if_pos (.inl hb'), hlv]
        cases e : H' b with
        | none => rfl
        | some o => exact absurd hlv (hMl b (hlive b hb' (by rw [e]; simp)))
      · exact .inr ⟨hb', hlv⟩
    · exact .inl (by rw [hn, if_neg (by simp [hb']; omega)])
end Go.Proofs.YthilbhbnimfcmaaDx
