/- A part of the proof that the interpreter of YthilbhbnimfcmaaDxDx is sound: what it computes of a call, the call comes to in the model. No condition beyond those that each theorem names. -/
import Derived.Test.YthilbhbnimfcmaaDxD3
namespace Go.Proofs.YthilbhbnimfcmaaDx
open Go
set_option linter.unusedVariables false
set_option linter.unusedSimpArgs false

/-- A region's run, whole. -/
structure Run (c : Cfg) (call : CallD) (ops : Array Oper) (q : Nat → Q) : Prop where
  at_ : ∀ k, k < ops.size → ops[k]? = some (q k).r.o ∧ Cond c call ops k (rcs q k) (q k) (q (k + 1))
section
variable {c : Cfg} {call : CallD} {ops : Array Oper} {q : Nat → Q}

theorem Run.op (h : Run c call ops q) {k : Nat} (hk : k < ops.size) : ops[k]? = some (q k).r.o := (h.at_ k hk).1
theorem Run.co (h : Run c call ops q) {k : Nat} (hk : k < ops.size) : Cond c call ops k (rcs q k) (q k) (q (k + 1)) := (h.at_ k hk).2
theorem Run.mono (h : Run c call ops q) : ∀ {j k : Nat}, j ≤ k → k ≤ ops.size → (q j).h.n ≤ (q k).h.n
  | j, 0, h1, h2 => by obtain rfl : j = 0 := by omega
                       exact Nat.le_refl _
  | j, k + 1, h1, h2 => by
    by_cases e : j = k + 1
    · subst e; exact Nat.le_refl _
    · exact Nat.le_trans (h.mono (j := j) (k := k) (by omega) (by omega)) (h.co (k := k) (by omega)).nn
theorem Run.apart (h : Run c call ops q) {j k : Nat} (hj : j < k) (hk : k < ops.size) (hb : (q k).r.bef.testBit j = false) : apartD ops (q j).r (q k).r = true := by
  refine (h.co hk).apart _ ((rcs_num (c := c) (call := call) (ops := ops) k _).2 ⟨j, hj, rfl⟩) ?_
  rw [(h.co (k := j) (by omega)).num]
  exact hb
/-- What has come up is closed. -/
def Closed (ops : Array Oper) (q : Nat → Q) (S : Nat → Bool) : Prop := ∀ j, j < ops.size → S j = true → ∀ e ∈ (q j).r.o.after.toList, Region.binds .any e = true → S e.on = true
theorem Run.bef (h : Run c call ops q) {S : Nat → Bool} (hs : Closed ops q S) : ∀ (x : Nat), x < ops.size → (∀ e ∈ (q x).r.o.after.toList, Region.binds .any e = true → S e.on = true) → ∀ j, (q x).r.bef.testBit j = true → S j = true := by
  intro x
  induction x using Nat.strongRecOn with
  | _ x ih =>
    intro hx he j hj
    rw [(h.co hx).bef] at hj
    obtain ⟨e, h1, h2, h3⟩ := befD_bit hj
    rcases h3 with rfl | ⟨r, h4, h5, h6⟩
    · exact he e h1 h2
    · obtain ⟨m, h7, rfl⟩ := (rcs_num (c := c) (call := call) (ops := ops) x r).1 h4
      rw [(h.co (k := m) (by omega)).num] at h5
      have hm : S m = true := by rw [h5]; exact he e h1 h2
      exact ih m h7 (by omega) (hs m (by omega) hm) j h6
theorem Run.bef_lt (h : Run c call ops q) : ∀ (x : Nat), x < ops.size → ∀ j, (q x).r.bef.testBit j = true → j < x := by
  intro x
  induction x using Nat.strongRecOn with
  | _ x ih =>
    intro hx j hj
    rw [(h.co hx).bef] at hj
    obtain ⟨e, h1, h2, h3⟩ := befD_bit hj
    rcases h3 with rfl | ⟨r, h4, h5, h6⟩
    · exact (h.co hx).edge e h1 h2
    · obtain ⟨m, h7, rfl⟩ := (rcs_num (c := c) (call := call) (ops := ops) x r).1 h4
      have := ih m h7 (by omega) j h6
      omega

def valT (q : Nat → Q) (k : Nat) (_ : Nat) : Option Value := some (q k).v
def valH (q : Nat → Q) (k : Nat) (b : Nat) : Option Ob := (q k).h'.t.get b
/-- The frame and the memory of those that have come up. -/
def fT (q : Nat → Q) (S : Nat → Bool) (k : Nat) : Nat → Option Value := FX (touchT q) (valT q) (q 0).T.get S k
def fH (q : Nat → Q) (S : Nat → Bool) (k : Nat) : Nat → Option Ob := FX (touchH q) (valH q) (q 0).h.t.get S k

theorem Run.m (h : Run c call ops q) : ∀ k, k ≤ ops.size → (q k).T.m = (q 0).T.m
  | 0, _ => rfl
  | k + 1, hk => by
    rw [(h.co (k := k) (by omega)).T, ← h.m k (by omega)]
    unfold putD
    split
    · cases Nat.blt _ _ <;> rfl
    · rfl
theorem Run.T_all (h : Run c call ops q) (hm : (q 0).T.m ≤ lim) : ∀ k, k ≤ ops.size → ∀ t, t < (q 0).T.m → (q k).T.get t = fT q (fun _ => true) k t
  | 0, _, t, ht => rfl
  | k + 1, hk, t, ht => by
    have ih := h.T_all hm k (by omega) t ht
    have hmk := h.m k (by omega)
    rw [(h.co (k := k) (by omega)).T]
    show _ = (if true = true ∧ touchT q k t then valT q k t else FX (touchT q) (valT q) (q 0).T.get (fun _ => true) k t)
    by_cases hd : touchT q k t
    · rw [if_pos ⟨rfl, hd⟩]
      unfold touchT at hd
      unfold putD
      rw [hd]
      show Tm.get (bif Nat.blt t (q k).T.m then _ else _) t = _
      rw [show Nat.blt t (q k).T.m = true from by rw [Nat.blt_eq]; omega]
      unfold Tm.get
      simp only [cond_true]
      rw [PT.get_put_same _ _ _ (by omega)]
      rfl
    · rw [if_neg (fun hh => hd hh.2), ← show fT q (fun _ => true) k t = FX (touchT q) (valT q) (q 0).T.get (fun _ => true) k t from rfl, ← ih]
      unfold touchT at hd
      unfold putD
      split
      · rename_i d he
        cases hb : Nat.blt d (q k).T.m with
        | false => rfl
        | true =>
          unfold Tm.get
          simp only [cond_true]
          rw [PT.get_put_other _ _ _ _ (fun e => hd (by rw [he, e]))]
      · rfl
theorem Run.H_all (h : Run c call ops q) : ∀ k, k ≤ ops.size → ∀ b, (q k).h.t.get b = fH q (fun _ => true) k b
  | 0, _, b => rfl
  | k + 1, hk, b => by
    have ih := h.H_all k (by omega) b
    have co := h.co (k := k) (by omega)
    show _ = (if true = true ∧ touchH q k b then valH q k b else FX (touchH q) (valH q) (q 0).h.t.get (fun _ => true) k b)
    cases hb : (q k).b with
    | true =>
      obtain ⟨_, _, _, _, h5⟩ := co.yes hb
      rw [h5 b]
      have hiff : touchH q k b ↔ (b ∈ (q k).r.wr ∨ ((q k).h.n ≤ b ∧ b < (q (k + 1)).h.n)) := by unfold touchH; rw [co.n, co.n']
      by_cases ht : touchH q k b
      · rw [if_pos (hiff.1 ht), if_pos ⟨rfl, ht⟩]
        rfl
      · rw [if_neg (fun hh => ht (hiff.2 hh)), if_neg (fun hh => ht hh.2)]
        exact ih
    | false =>
      obtain ⟨_, h2, h3⟩ := co.no hb
      rw [h2, if_neg (fun hh => by
        have ht := hh.2
        unfold touchH at ht
        rw [co.n, co.n', h2, h3] at ht
        simp at ht
        omega)]
      exact ih
/-- Up to a place: those ahead of it. -/
theorem fT_lt (i k : Nat) (hk : i ≤ k) (t : Nat) : fT q (fun j => decide (j < i)) k t = fT q (fun _ => true) i t := by
  unfold fT
  rw [FX_cut i k hk (fun j h1 h2 h3 => by simp at h3; omega)]
  exact FX_congr i t (fun j hj _ => by simp [hj])
theorem fH_lt (i k : Nat) (hk : i ≤ k) (b : Nat) : fH q (fun j => decide (j < i)) k b = fH q (fun _ => true) i b := by
  unfold fH
  rw [FX_cut i k hk (fun j h1 h2 h3 => by simp at h3; omega)]
  exact FX_congr i b (fun j hj _ => by simp [hj])

/-- Two that are not ordered, whichever comes first in the text. -/
theorem Run.unordered (h : Run c call ops q) {S : Nat → Bool} (hs : Closed ops q S) {i j : Nat} (hi : i < ops.size) (hj : j < ops.size) (hij : i ≠ j) (hSi : S i = false) (he : ∀ e ∈ (q i).r.o.after.toList, Region.binds .any e = true → S e.on = true)
    (hne : S j ≠ decide (j < i)) : (j < i ∧ apartD ops (q j).r (q i).r = true) ∨ (i < j ∧ S j = true ∧ apartD ops (q i).r (q j).r = true) := by
  by_cases hlt : j < i
  · refine .inl ⟨hlt, h.apart hlt hi ?_⟩
    cases hb : (q i).r.bef.testBit j with
    | false => rfl
    | true => exact absurd ((h.bef hs i hi he j hb).trans (by simp [hlt])) hne
  · have hSj : S j = true := by
      cases hs : S j with
      | true => rfl
      | false => rw [hs] at hne; simp [hlt] at hne
    refine .inr ⟨by omega, hSj, h.apart (by omega) hj ?_⟩
    cases hb : (q j).r.bef.testBit i with
    | false => rfl
    | true => have := h.bef hs j hj (hs j hj hSj) i hb; rw [hSi] at this; cases this
/-- What an operation that may come up looks at is as in the order of the text. -/
theorem Run.sees (h : Run c call ops q) (hm : (q 0).T.m ≤ lim) {S : Nat → Bool} (hs : Closed ops q S) {i : Nat} (hi : i < ops.size) (hSi : S i = false) (he : ∀ e ∈ (q i).r.o.after.toList, Region.binds .any e = true → S e.on = true)
    {t : Nat} (ht : t ∈ Oper.looksAt ops (q i).r.o) (htm : t < (q 0).T.m) : (q i).T.get t = fT q S ops.size t := by
  rw [h.T_all hm i (by omega) t htm, ← fT_lt i ops.size (by omega)]
  refine (FX_congr ops.size t (fun j hj htj => ?_)).symm
  by_cases hij : i = j
  · subst hij; rw [hSi]; simp
  · by_cases hne : S j = decide (j < i)
    · exact hne
    · rcases h.unordered hs hi hj hij hSi he hne with ⟨_, ha⟩ | ⟨_, _, ha⟩
      · exact absurd ht ((apart_spec ha).1 t htj)
      · exact absurd ht ((apart_spec ha).2.1 t htj)
theorem Run.wr_lt (h : Run c call ops q) {j : Nat} (hj : j < ops.size) : ∀ b ∈ (q j).r.wr, b < (q j).h.n := fun b hb => by
  cases e : (q j).b with
  | true => exact (((h.co hj).yes e).2.2.1.1 b).1 hb |>.2
  | false => rw [((h.co hj).no e).2.2] at hb; cases hb
/-- What it is shown of the memory is so. -/
theorem Run.shown (h : Run c call ops q) {S : Nat → Bool} (hs : Closed ops q S) {i : Nat} (hi : i < ops.size) (hSi : S i = false) (he : ∀ e ∈ (q i).r.o.after.toList, Region.binds .any e = true → S e.on = true)
    (hb : (q i).b = true) (h0 : ∀ b, (q 0).h.n ≤ b → b < (q ops.size).h.n → (q 0).h.t.get b = none) {b : Nat} {o : Ob} (hM : (q i).M.get b = some o) : fH q S ops.size b = some o := by
  obtain ⟨_, _, _, h4, _⟩ := (h.co hi).yes hb
  obtain ⟨h5, h6⟩ := h4 b o hM
  have hlive : fH q (fun j => decide (j < i)) ops.size b = some o := by rw [fH_lt i ops.size (by omega), ← h.H_all i (by omega)]; exact h5
  -- an id of a later stretch is not live yet
  have hlow : b < (q i).h.n ∨ (q ops.size).h.n ≤ b := by
    refine Classical.byContradiction fun hc => ?_
    have h7 : (q i).h.n ≤ b ∧ b < (q ops.size).h.n := by omega
    have h8 : fH q (fun j => decide (j < i)) ops.size b = (q 0).h.t.get b := by
      unfold fH
      refine FX_cut 0 ops.size (Nat.zero_le _) (fun j _ hj hj2 ht => ?_)
      have hji : j < i := by simpa using hj2
      unfold touchH at ht
      rcases ht with ht | ht
      · have := h.wr_lt hj b ht
        have := h.mono (j := j) (k := i) (by omega) (by omega)
        omega
      · rw [(h.co hj).n, (h.co hj).n'] at ht
        have := h.mono (j := j + 1) (k := i) (by omega) (by omega)
        omega
    rw [h8, h0 b (by have := h.mono (j := 0) (k := i) (by omega) (by omega); omega) h7.2] at hlive
    cases hlive
  have key : fH q S ops.size b = some o := by
    rw [← hlive]
    refine FX_congr ops.size b (fun j hj htj => ?_)
    by_cases hij : i = j
    · subst hij; rw [hSi]; simp
    · by_cases hne : S j = decide (j < i)
      · exact hne
      · exfalso
        unfold touchH at htj
        rcases h.unordered hs hi hj hij hSi he hne with ⟨hlt, ha⟩ | ⟨hlt, hSj, ha⟩
        · obtain ⟨_, _, _, _, a5, _, _, a8⟩ := apart_spec ha
          cases hf : (q i).r.foot with
          | none =>
            rw [hf] at h6 a5
            have hw := clash_none a5
            rcases htj with htj | htj
            · rw [hw] at htj; cases htj
            · refine inSeg_f (h6 _ ((rcs_num (c := c) (call := call) (ops := ops) i _).2 ⟨j, hlt, rfl⟩) ?_) htj
              rw [(h.co hj).num]
              cases hbit : (q i).r.bef.testBit j with
              | false => rfl
              | true => exact absurd ((h.bef hs i hi he j hbit).trans (by simp [hlt])) hne
          | some l =>
            rw [hf] at h6 a5
            simp only at h6
            rcases htj with htj | htj
            · exact clash_some a5 b htj h6
            · exact inSeg_f (a8 l hf b h6) htj
        · obtain ⟨_, _, _, a4, _, _, _, _⟩ := apart_spec ha
          rcases htj with htj | htj
          · cases hf : (q i).r.foot with
            | none => rw [hf] at a4; rw [clash_none a4] at htj; cases htj
            | some l => rw [hf] at h6 a4; exact clash_some a4 b htj h6
          · rw [(h.co hj).n, (h.co hj).n'] at htj
            have := h.mono (j := i) (k := j) (by omega) (by omega)
            have := h.mono (j := j + 1) (k := ops.size) (by omega) (Nat.le_refl _)
            omega
  exact key
end
end Go.Proofs.YthilbhbnimfcmaaDx
