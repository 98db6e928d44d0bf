/- A part of the proof that the interpreter of YthilbhbnimfcmaaDxDx is sound: what it computes of a call, the call comes to in the model. No condition beyond those that each theorem names. -/
import Derived.Test.YthilbhbnimfcmaaDxD4
import Derived.OrdersIn
namespace Go.Proofs.YthilbhbnimfcmaaDx
open Go
set_option linter.unusedVariables false
set_option linter.unusedSimpArgs false

/-- What is so while a region's operations come up. -/
structure INV (c : Cfg) (base : Nat) (I : World → Prop) (ops : Array Oper) (q : Nat → Q) (w0s : List Nat) (ρ0 : Emb) (w0 : World) (a0 : Act) (S : Nat → Bool) (a : Act) (w : World) (ρ : Emb) (W : List Nat) : Prop where
  size : (q 0).T.m = a.tmps.size
  tr : ∀ t, t < (q 0).T.m → TV ρ w (fT q S ops.size t) (a.tmps.getD t undef)
  defers : a.defers = a0.defers
  glob : Glob c ρ
  inv : I w
  free : ∀ j, j < ops.size → S j = false → Free ρ (q j).h.n (q (j + 1)).h.n
  ext : Ext base c.n0 ρ0 (q 0).h.t.get (q 0).h.n w0 ρ (fH q S ops.size) (q ops.size).h.n W w
  wr : ∀ b ∈ W, b ∈ w0s ∨ ∃ j, j < ops.size ∧ S j = true ∧ b ∈ (q j).r.wr
  wrn : ∀ j, j < ops.size → S j = true → ∀ b ∈ (q j).r.wr, c.n0 ≤ b
section
variable {c : Cfg} {base : Nat} {I : World → Prop} {call : CallD} {ops : Array Oper} {q : Nat → Q}

theorem put_getD (a : Act) (d : Option Tmp) (v : Value) (t : Nat) (ht : t < a.tmps.size) : (a.put d v).tmps.getD t undef = if d = some t then v else a.tmps.getD t undef := by
  cases d with
  | none => simp [Act.put]
  | some d =>
    by_cases e : d = t
    · subst e; simp [Act.put, ht]
    · rw [if_neg (by simpa using e)]
      simp [Act.put, Array.getElem?_setIfInBounds_ne e]
theorem put_size (a : Act) (d : Option Tmp) (v : Value) : (a.put d v).tmps.size = a.tmps.size := by cases d <;> simp [Act.put]

/-- The frame behind an operation. -/
theorem fT_put (h : Run c call ops q) {S S' : Nat → Bool} (hs : Closed ops q S) {i : Nat} (hi : i < ops.size) (hSi : S i = false) (he : ∀ e ∈ (q i).r.o.after.toList, Region.binds .any e = true → S e.on = true)
    (h1 : S' i = true) (h2 : ∀ j, j ≠ i → S' j = S j) (t : Nat) : fT q S' ops.size t = if (q i).r.o.dst = some t then some (q i).v else fT q S ops.size t := by
  by_cases hd : (q i).r.o.dst = some t
  · rw [if_pos hd]
    refine (FX_last (touch := touchT q) (val := valT q) (i := i) h1 hd ops.size hi (fun j hj hj2 hSj ht => ?_)).trans rfl
    have hSj' : S j = true := by rw [← h2 j (by omega)]; exact hSj
    rcases h.unordered hs hi hj2 (by omega) hSi he (by rw [hSj']; simp; omega) with ⟨hlt, _⟩ | ⟨_, _, ha⟩
    · omega
    · exact (apart_spec ha).2.2.1 t hd ht
  · rw [if_neg hd]
    refine FX_congr ops.size t (fun j hj ht => ?_)
    by_cases e : j = i
    · subst e; exact absurd ht hd
    · exact h2 j e
/-- The memory behind an operation. -/
theorem fH_put (h : Run c call ops q) {S S' : Nat → Bool} (hs : Closed ops q S) {i : Nat} (hi : i < ops.size) (hSi : S i = false) (he : ∀ e ∈ (q i).r.o.after.toList, Region.binds .any e = true → S e.on = true)
    (h1 : S' i = true) (h2 : ∀ j, j ≠ i → S' j = S j) (b : Nat) : fH q S' ops.size b = if b ∈ (q i).r.wr ∨ ((q i).h.n ≤ b ∧ b < (q (i + 1)).h.n) then (q i).h'.t.get b else fH q S ops.size b := by
  have co := h.co hi
  have hiff : touchH q i b ↔ (b ∈ (q i).r.wr ∨ ((q i).h.n ≤ b ∧ b < (q (i + 1)).h.n)) := by unfold touchH; rw [co.n, co.n']
  by_cases hd : touchH q i b
  · rw [if_pos (hiff.1 hd)]
    refine (FX_last (touch := touchH q) (val := valH q) (i := i) h1 hd ops.size hi (fun j hj hj2 hSj ht => ?_)).trans rfl
    have hSj' : S j = true := by rw [← h2 j (by omega)]; exact hSj
    rcases h.unordered hs hi hj2 (by omega) hSi he (by rw [hSj']; simp; omega) with ⟨hlt, _⟩ | ⟨_, _, ha⟩
    · omega
    · obtain ⟨_, _, _, _, _, a6, a7, _⟩ := apart_spec ha
      unfold touchH at hd ht
      have m1 := h.mono (j := i + 1) (k := j) (by omega) (by omega)
      rcases hd with hd | hd
      · rcases ht with ht | ht
        · exact a6 b hd ht
        · rw [(h.co hj2).n, (h.co hj2).n'] at ht
          have := h.wr_lt hi b hd
          have := h.mono (j := i) (k := j) (by omega) (by omega)
          omega
      · rcases ht with ht | ht
        · exact inSeg_f (a7 b ht) hd
        · rw [(h.co hj2).n, (h.co hj2).n'] at ht
          rw [co.n, co.n'] at hd
          omega
  · rw [if_neg (fun hh => hd (hiff.2 hh))]
    refine FX_congr ops.size b (fun j hj ht => ?_)
    by_cases e : j = i
    · subst e; exact absurd ht hd
    · exact h2 j e

theorem INV.step (hc : CfgOk c) (hI : Inv base I) (hcall : CallOk c base I call) (hprim : PrimOk c base I) (r : Option Nat) (h : Run c call ops q) (hm : (q 0).T.m ≤ lim) {w0s : List Nat} {ρ0 ρ : Emb} {w0 w : World} {a0 a : Act} {W : List Nat} {S S' : Nat → Bool}
    (hr0 : Rel base c.n0 ρ0 (q 0).h.t.get w0) (hfree0 : Free ρ0 (q 0).h.n (q ops.size).h.n)
    (hinv : INV c base I ops q w0s ρ0 w0 a0 S a w ρ W) (hs : Closed ops q S) {i : Nat} (hi : i < ops.size) (hSi : S i = false) (he : ∀ e ∈ (q i).r.o.after.toList, Region.binds .any e = true → S e.on = true)
    (h1 : S' i = true) (h2 : ∀ j, j ≠ i → S' j = S j) {K : Act → World → Prop} {Qp : Exit → Act → World → Prop} (hK : ∀ a' w' ρ' W', INV c base I ops q w0s ρ0 w0 a0 S' a' w' ρ' W' → K a' w') : wpOpIn (FW r) 0 c.P ops Qp i K a w := by
  have co := h.co hi
  have hmi := h.m i (by omega)
  have hsees : ∀ t : Nat, t ∈ Oper.looksAt ops (q i).r.o → t < (q i).T.m → TV ρ w ((q i).T.get t) (a.tmps.getD t undef) := fun t ht htm => by
    rw [h.sees hm hs hi hSi he ht (by omega)]
    exact hinv.tr t (by omega)
  have hwant := yielded_of (ops := ops) (ρ := ρ) (w := w) (a := a) (by rw [hmi]; exact hinv.size) (fun j want d hg hd hdm => hsees d (by
    unfold Oper.looksAt
    rw [hg]
    simp only [List.mem_append]
    exact .inr (by rw [hd]; simp)) hdm) co.want
  have h0 : ∀ b, (q 0).h.n ≤ b → b < (q ops.size).h.n → (q 0).h.t.get b = none := fun b hb1 hb2 => by
    cases e : (q 0).h.t.get b with
    | none => rfl
    | some o => obtain ⟨k, d, hk, _⟩ := hr0.at_ b o e; rw [hfree0 b hb1 hb2] at hk; cases hk
  unfold wpOpIn
  rw [h.op hi]
  simp only
  rw [hwant]
  have hfreeN : ∀ j, j < ops.size → S' j = false → S j = false := fun j hj hj' => by rw [← h2 j (fun e => by subst e; rw [h1] at hj'; cases hj')]; exact hj'
  cases hb : (q i).b with
  | false =>
    simp only [Bool.false_eq_true, if_false]
    obtain ⟨n1, n2, n3⟩ := co.no hb
    have hH : fH q S' ops.size = fH q S ops.size := by
      funext b
      rw [fH_put h hs hi hSi he h1 h2 b, if_neg (by rw [n3, n2]; simp)]
    refine ⟨fun _ _ => trivial, ?_⟩
    refine hK _ _ ρ W ⟨by rw [put_size]; exact hinv.size, fun t ht => ?_, by rw [put_defers]; exact hinv.defers, hinv.glob, hinv.inv, fun j hj hj' => hinv.free j hj (hfreeN j hj hj'), by rw [hH]; exact hinv.ext, fun b hb' => (hinv.wr b hb').imp id (fun ⟨j, k1, k2, k3⟩ => ⟨j, k1, by rw [h2 j (fun e => by subst e; rw [hSi] at k2; cases k2)]; exact k2, k3⟩), fun j hj hSj b hb' => ?_⟩
    · rw [fT_put h hs hi hSi he h1 h2 t, put_getD _ _ _ _ (by rw [← hinv.size]; exact ht)]
      split
      · rw [n1]; exact TV.some .undef
      · exact hinv.tr t ht
    · by_cases e : j = i
      · subst e; rw [n3] at hb'; cases hb'
      · exact hinv.wrn j hj (by rw [← h2 j e]; exact hSj) b hb'
  | true =>
    simp only [if_true]
    obtain ⟨g1, g2, ⟨g3, g3'⟩, g4, g5⟩ := co.yes hb
    have hrel : Rel base c.n0 ρ (fH q S ops.size) w := hinv.ext.rel
    have hshown : ∀ b o, (q i).M.get b = some o → fH q S ops.size b = some o := fun b o hM => h.shown hs hi hSi he hb h0 hM
    refine (op_wp hc hI hcall r (q i).r.o g1 (hrel.forget hshown) hinv.glob hinv.inv (fun x hx => EV_of (fun t ht htm => hsees t (by
      unfold Oper.looksAt
      refine List.mem_append_left _ (List.mem_filterMap.2 ⟨x, hx, ?_⟩)
      rw [ht]) htm) hinv.glob) hprim (fun x hx => ?_) (fun x hx v' w' ρ' hv hx2 => ?_))
    · simp only [List.mem_singleton] at hx
      subst hx
      have := hinv.free i hi hSi
      rw [← g2] at this
      exact this
    · simp only [List.mem_singleton] at hx
      subst hx
      have hfi := hinv.free i hi hSi
      have hx3 := Ext.lift (Hn := fH q S' ops.size) (W := (q i).r.wr) hrel hshown (by rw [g2]; exact g3') g3 (by rw [g2]; exact hfi) hx2 (fun b => by rw [fH_put h hs hi hSi he h1 h2 b, g2])
      rw [g2] at hx3
      have hx4 := Ext.trans' hfree0 hr0 (h.mono (Nat.zero_le i) (by omega)) (h.mono (j := i + 1) (k := ops.size) (by omega) (Nat.le_refl _)) hinv.ext hx3
      refine hK _ _ ρ' ((q i).r.wr ++ W) ⟨by rw [put_size]; exact hinv.size, fun t ht => ?_, by rw [put_defers]; exact hinv.defers, hinv.glob.le hx3.le, hI.on _ _ hinv.inv (hx3.low hrel), fun j hj hj' b hb1 hb2 => ?_, hx4, fun b hb' => ?_, fun j hj hSj b hb' => ?_⟩
      · rw [fT_put h hs hi hSi he h1 h2 t, put_getD _ _ _ _ (by rw [← hinv.size]; exact ht)]
        split
        · exact TV.some hv
        · exact ((hinv.tr t ht).le hx3.le).grow hx3.grow
      · cases e : ρ' b with
        | none => rfl
        | some x =>
          have hji : j ≠ i := fun e => by subst e; rw [h1] at hj'; cases hj'
          rcases hx3.dom b x e with k1 | k1
          · rw [hinv.free j hj (hfreeN j hj hj') b hb1 hb2] at k1; cases k1
          · rcases Nat.lt_or_ge j i with hlt | hge
            · have := h.mono (j := j + 1) (k := i) (by omega) (by omega); omega
            · have := h.mono (j := i + 1) (k := j) (by omega) (by omega); omega
      · rcases List.mem_append.1 hb' with k1 | k1
        · exact .inr ⟨i, hi, h1, k1⟩
        · exact (hinv.wr b k1).imp id (fun ⟨j, k1, k2, k3⟩ => ⟨j, k1, by rw [h2 j (fun e => by subst e; rw [hSi] at k2; cases k2)]; exact k2, k3⟩)
      · by_cases e : j = i
        · subst e; exact hx3.wr b hb'
        · exact hinv.wrn j hj (by rw [← h2 j e]; exact hSj) b hb'
end
end Go.Proofs.YthilbhbnimfcmaaDx
