/- The interpreter of the model's programs and the proof that it is sound. No condition beyond those that each theorem names. -/
import Derived.Test.YtaiokpmmjbiajaaGreatDoorJD0
import Derived.OrdersIn
set_option linter.unusedVariables false
set_option linter.unusedSimpArgs false
namespace Go.Proofs.YtaiokpmmjbiajaaGreatDoorDx
section
open Go
set_option linter.unusedSectionVars false
variable [Eta]
def FX {κ β : Type} (touch : Nat → κ → Prop) [∀ j x, Decidable (touch j x)] (val : Nat → κ → β) (init : κ → β) (X : Nat → Bool) : Nat → κ → β
  | 0, x => init x
  | k + 1, x => if X k = true ∧ touch k x then val k x else FX touch val init X k x
section
variable {κ β : Type} {touch : Nat → κ → Prop} [∀ j x, Decidable (touch j x)] {val : Nat → κ → β} {init : κ → β}
theorem FX_congr {X Y : Nat → Bool} : ∀ (k : Nat) (x : κ), (∀ j, j < k → touch j x → X j = Y j) → FX touch val init X k x = FX touch val init Y k x
  | 0, x, h => rfl
  | k + 1, x, h => by
    unfold FX
    have ih := FX_congr k x (fun j hj ht => h j (by omega) ht)
    by_cases ht : touch k x
    · rw [h k (by omega) ht]
      split
      · rfl
      · exact ih
    · rw [if_neg (fun hh => ht hh.2), if_neg (fun hh => ht hh.2)]
      exact ih
theorem FX_last {X : Nat → Bool} {i : Nat} {x : κ} (hi : X i = true) (ht : touch i x) : ∀ (k : Nat), i < k → (∀ j, i < j → j < k → X j = true → ¬ touch j x) → FX touch val init X k x = val i x
  | 0, hk, h => by omega
  | k + 1, hk, h => by
    unfold FX
    by_cases e : k = i
    · subst e; rw [if_pos ⟨hi, ht⟩]
    · rw [if_neg (fun hh => h k (by omega) (by omega) hh.1 hh.2)]
      exact FX_last hi ht k (by omega) (fun j h1 h2 => h j h1 (by omega))
theorem FX_cut {X : Nat → Bool} {x : κ} (i : Nat) : ∀ (k : Nat), i ≤ k → (∀ j, i ≤ j → j < k → X j = true → ¬ touch j x) → FX touch val init X k x = FX touch val init X i x
  | 0, hk, h => by obtain rfl : i = 0 := by omega
                   rfl
  | k + 1, hk, h => by
    by_cases e : i = k + 1
    · subst e; rfl
    · rw [show FX touch val init X (k + 1) x = FX touch val init X k x from by
        show (if _ then _ else _) = _
        rw [if_neg (fun hh => h k (by omega) (by omega) hh.1 hh.2)]]
      exact FX_cut i k (by omega) (fun j h1 h2 => h j h1 (by omega))
end
theorem Ext.trans' {base n0 : Nat} {ρ ρ1 ρ2 : Emb} {H H1 H2 : Nat → Option Ob} {n N m m' : Nat} {W1 W2 : List Nat} {w w1 w2 : World} (hf : Free ρ n N) (hr : Rel base n0 ρ H w) (h1 : n ≤ m) (h2 : m' ≤ N)
    (h : Ext base n0 ρ H n w ρ1 H1 N W1 w1) (k : Ext base n0 ρ1 H1 m w1 ρ2 H2 m' W2 w2) : Ext base n0 ρ H n w ρ2 H2 N (W2 ++ W1) w2 := by
  have hnn := h.nn
  have knn := k.nn
  refine ⟨h.le.trans k.le, fun b x hb => ?_, hnn, k.rel, h.grow.trans k.grow, fun j hj hw => ?_, fun b j d hb1 hb2 hb3 hb4 => ?_, fun b hb => ?_, fun b hb => ?_⟩
  · rcases k.dom b x hb with h1 | h1
    · exact h.dom b x h1
    · exact .inr (by omega)
  · have e1 := h.frame j hj (fun b hb => hw b (by simp [hb]))
    refine (k.frame j (Nat.lt_of_lt_of_le hj h.grow.size) (fun b hb hlive d hd => ?_)).trans e1
    rcases h.dom b _ hd with h1 | h1
    · have hbn : ¬ (n ≤ b ∧ b < N) := fun hc => by rw [hf b hc.1 hc.2] at h1; cases h1
      rcases h.old b (by omega) with h2 | h2
      · rw [h2] at hlive
        exact hw b (by simp [hb]) hlive d h1
      · exact hw b (by simp [hb]) h2.2 d h1
    · rcases h.new b j d h1.1 h1.2 hlive hd with h2 | ⟨b0, h2, h3, d0, h4⟩
      · omega
      · exact hw b0 (by simp [h2]) h3 d0 h4
  · have back : H1 b ≠ none → w.heap.size ≤ j ∨ ∃ b0 ∈ W2 ++ W1, H b0 ≠ none ∧ ∃ d0, ρ b0 = some (j, d0) := fun hne => by
      cases e : H1 b with
      | none => exact absurd e hne
      | some o =>
        obtain ⟨k', d', hk', _⟩ := h.rel.at_ b o e
        have := k.le b _ hk'
        rw [hb4] at this
        obtain ⟨rfl, rfl⟩ := Prod.mk.inj (Option.some.inj this)
        rcases h.new b _ _ hb1 hb2 hne hk' with h2 | ⟨b0, h2, h3, d0, h4⟩
        · exact .inl h2
        · exact .inr ⟨b0, by simp [h2], h3, d0, h4⟩
    by_cases hlt : m ≤ b ∧ b < m'
    · rcases k.new b j d hlt.1 hlt.2 hb3 hb4 with h2 | ⟨b0, h2, h3, d0, h4⟩
      · have := h.grow.size; exact .inl (by omega)
      · rcases h.dom b0 _ h4 with h5 | h5
        · have hbn : ¬ (n ≤ b0 ∧ b0 < N) := fun hc => by rw [hf b0 hc.1 hc.2] at h5; cases h5
          rcases h.old b0 (by omega) with h6 | h6
          · rw [h6] at h3
            exact .inr ⟨b0, by simp [h2], h3, d0, h5⟩
          · exact .inr ⟨b0, by simp [h2], h6.2, d0, h5⟩
        · rcases h.new b0 j d0 h5.1 h5.2 h3 h4 with h6 | ⟨b1, h6, h7, d1, h8⟩
          · exact .inl h6
          · exact .inr ⟨b1, by simp [h6], h7, d1, h8⟩
    · rcases k.old b (by omega) with h1 | h1
      · exact back (by rw [← h1]; exact hb3)
      · exact back h1.2
  · rcases k.old b (by omega) with h1 | h1
    · rcases h.old b (by omega) with h2 | h2
      · exact .inl (h1.trans h2)
      · exact .inr ⟨by simp [h2.1], h2.2⟩
    · rcases h.old b (by omega) with h2 | h2
      · rw [h2] at h1; exact .inr ⟨by simp [h1.1], h1.2⟩
      · exact .inr ⟨by simp [h2.1], h2.2⟩
  · rcases List.mem_append.1 hb with h1 | h1
    · exact k.wr b h1
    · exact h.wr b h1
theorem Ext.lift {base n0 : Nat} {ρ ρ' : Emb} {M H H' Hn : Nat → Option Ob} {n n' : Nat} {Wf W : List Nat} {w w' : World} (hr : Rel base n0 ρ H w) (hM : ∀ b o, M b = some o → H b = some o)
    (hWf : ∀ b ∈ Wf, b < n') (hW : ∀ b, b ∈ W ↔ b ∈ Wf ∧ b < n) (hfree : Free ρ n n') (h : Ext base n0 ρ M n w ρ' H' n' Wf w')
    (hn : ∀ b, Hn b = if b ∈ W ∨ (n ≤ b ∧ b < n') then H' b else H b) : Ext base n0 ρ H n w ρ' Hn n' W w' := by
  have hMl : ∀ b, M b ≠ none → H b ≠ none := fun b hb => by
    cases e : M b with
    | none => exact absurd e hb
    | some o => rw [hM b o e]; simp
  have hHn : ∀ b, n ≤ b → b < n' → H b = none := fun b h1 h2 => by
    cases e : H b with
    | none => rfl
    | some o => obtain ⟨k, d, hk, _⟩ := hr.at_ b o e; rw [hfree b h1 h2] at hk; cases hk
  have hMlt : ∀ b, b ∈ Wf → M b ≠ none → b < n := fun b hb hl => Nat.lt_of_not_le (fun hc => hMl b hl (hHn b hc (hWf b hb)))
  have hlive : ∀ b, b ∈ W → H' b ≠ none → M b ≠ none := fun b hb hl => by
    have hlt := ((hW b).1 hb).2
    rcases h.old b (.inl hlt) with e | e
    · rwa [e] at hl
    · exact e.2
  have hframe : ∀ k, k < w.heap.size → (∀ b ∈ W, H b ≠ none → ∀ d, ρ b ≠ some (k, d)) → w'.heap[k]? = w.heap[k]? := fun k hk hw =>
    h.frame k hk (fun b hb hl d => hw b ((hW b).2 ⟨hb, hMlt b hb hl⟩) (hMl b hl) d)
  have hstay : ∀ b k d, ¬ (b ∈ W ∨ (n ≤ b ∧ b < n')) → H b ≠ none → ρ b = some (k, d) → w'.heap[k]? = w.heap[k]? := fun b k d hnt hl hb =>
    h.frame k (hr.low b k d hb) (fun b0 hb0 hl0 d0 hd0 => hnt (.inl (by
      have : b0 = b := hr.inj b0 b k d0 d (hr.high b0 k d0 (h.wr b0 hb0) hd0) (hMl b0 hl0) hl hd0 hb
      rw [← this]
      exact (hW b0).2 ⟨hb0, hMlt b0 hb0 hl0⟩)))
  refine ⟨h.le, h.dom, h.nn, ⟨fun b o hb => ?_, fun b b' k d d' z hb hb' hk hk' => ?_, h.rel.high, h.rel.low, h.rel.sz⟩, h.grow, hframe, fun b k d h1 h2 h3 h4 => ?_, fun b hb => ?_, fun b hb => h.wr b ((hW b).1 hb).1⟩
  · rw [hn] at hb
    split at hb
    · exact h.rel.at_ b o hb
    · rename_i hnt
      obtain ⟨k, d, e1, e2⟩ := hr.at_ b o hb
      exact ⟨k, d, h.le b _ e1, (e2.le h.le).grow h.grow (hstay b k d hnt (by rw [hb]; simp) e1)⟩
  · rw [hn] at hb hb'
    have mixed : ∀ x y dx dy, (x ∈ W ∨ (n ≤ x ∧ x < n')) → ¬ (y ∈ W ∨ (n ≤ y ∧ y < n')) → H' x ≠ none → H y ≠ none → ρ' x = some (k, dx) → ρ' y = some (k, dy) → False := by
      intro x y dx dy hx hy hlx hly hkx hky
      have hky0 : ρ y = some (k, dy) := by
        rcases h.dom y _ hky with e | e
        · exact e
        · exact absurd (.inr e) hy
      rcases hx with hx | hx
      · have hm := hlive x hx hlx
        have hkx0 : ρ x = some (k, dx) := by
          rcases h.dom x _ hkx with e | e
          · exact e
          · have := ((hW x).1 hx).2; omega
        have := hr.inj x y k dx dy (hr.high x k dx (h.wr x ((hW x).1 hx).1) hkx0) (hMl x hm) hly hkx0 hky0
        exact hy (.inl (this ▸ hx))
      · rcases h.new x k dx hx.1 hx.2 hlx hkx with e | ⟨b0, e1, e2, d0, e3⟩
        · have := hr.low y k dy hky0; omega
        · have := hr.inj b0 y k d0 dy (hr.high b0 k d0 (h.wr b0 e1) e3) (hMl b0 e2) hly e3 hky0
          exact hy (.inl (this ▸ (hW b0).2 ⟨e1, hMlt b0 e1 e2⟩))
    split at hb <;> split at hb'
    · exact h.rel.inj b b' k d d' z hb hb' hk hk'
    · rename_i t1 t2; exact (mixed b b' d d' t1 t2 hb hb' hk hk').elim
    · rename_i t1 t2; exact (mixed b' b d' d t2 t1 hb' hb hk' hk).elim
    · rename_i t1 t2
      have f : ∀ x dx, ¬ (x ∈ W ∨ (n ≤ x ∧ x < n')) → ρ' x = some (k, dx) → ρ x = some (k, dx) := fun x dx hx hkx => by
        rcases h.dom x _ hkx with e | e
        · exact e
        · exact absurd (.inr e) hx
      exact hr.inj b b' k d d' z hb hb' (f b d t1 hk) (f b' d' t2 hk')
  · rw [hn, if_pos (.inr ⟨h1, h2⟩)] at h3
    rcases h.new b k d h1 h2 h3 h4 with e | ⟨b0, e1, e2, e3⟩
    · exact .inl e
    · exact .inr ⟨b0, (hW b0).2 ⟨e1, hMlt b0 e1 e2⟩, hMl b0 e2, e3⟩
  · by_cases hb' : b ∈ W
    · by_cases hlv : H b = none
      · refine .inl ?_
        rw [hn, if_pos (.inl hb'), hlv]
        cases e : H' b with
        | none => rfl
        | some o => exact absurd hlv (hMl b (hlive b hb' (by rw [e]; simp)))
      · exact .inr ⟨hb', hlv⟩
    · exact .inl (by rw [hn, if_neg (by simp [hb']; omega)])
end
section
open Go
set_option linter.unusedSectionVars false
variable [Eta]
structure Q where
 T : Tm
 h : Hp
 w : List Nat
 r : Rec
 b : Bool
 v : Value
 M : PT Ob
 h' : Hp
 Wf : List Nat
def rcs (q : Nat → Q) : Nat → List Rec
 | 0 => []
 | k + 1 => (q k).r :: rcs q k
def touchH (q : Nat → Q) (k b : Nat) : Prop := b ∈ (q k).r.wr ∨ ((q k).r.n ≤ b ∧ b < (q k).r.n')
instance (q : Nat → Q) (k b : Nat) : Decidable (touchH q k b) := by unfold touchH; exact inferInstance
def touchT (q : Nat → Q) (k t : Nat) : Prop := (q k).r.o.dst = some t
instance (q : Nat → Q) (k t : Nat) : Decidable (touchT q k t) := by unfold touchT; exact inferInstance
structure Cond (c : Cfg) (call : CallD) (ops : Array Oper) (i : Nat) (rs : List Rec) (x y : Q) : Prop where
 edge : ∀ e ∈ x.r.o.after.toList, Region.binds .any e = true → e.on < i
 num : x.r.i = i
 bef : x.r.bef = befD rs x.r.o
 n : x.r.n = x.h.n
 n' : x.r.n' = y.h.n
 nn : x.h.n ≤ y.h.n
 want : wantedD ops x.T x.r.o = some x.b
 yes : x.b = true → opD c call x.T ⟨x.M, x.h.n⟩ x.r.o = .ok [(x.v, x.h', x.Wf)] ∧ x.h'.n = y.h.n ∧ ((∀ b, b ∈ x.r.wr ↔ b ∈ x.Wf ∧ b < x.h.n) ∧ ∀ b ∈ x.Wf, b < y.h.n) ∧
  (∀ b o, x.M.get b = some o → x.h.t.get b = some o ∧ match x.r.foot with | some l => b ∈ l | none => ∀ r ∈ rs, x.r.bef.testBit r.i = false → inSeg r b = false) ∧
  (∀ b, y.h.t.get b = if b ∈ x.r.wr ∨ (x.h.n ≤ b ∧ b < y.h.n) then x.h'.t.get b else x.h.t.get b)
 no : x.b = false → x.v = undef ∧ y.h = x.h ∧ x.r.wr = []
 T : y.T = putD x.T x.r.o.dst x.v
 w : y.w = x.r.wr ++ x.w
 apart : ∀ r ∈ rs, x.r.bef.testBit r.i = false → apartD ops r x.r = true
theorem mergeD_get (t' : PT Ob) : ∀ (l : List Nat) (t : PT Ob) (b : Nat), (∀ x ∈ l, x < lim) → (mergeD t t' l).get b = if b ∈ l then t'.get b else t.get b
 | [], t, b, h => by simp [mergeD]
 | x :: l, t, b, h => by
  unfold mergeD
  rw [mergeD_get t' l _ b (fun y hy => h y (by simp [hy]))]
  by_cases h1 : b ∈ l
  ·rw [if_pos h1, if_pos (by simp [h1])]
  ·rw [if_neg h1]
   by_cases h2 : b = x
   ·subst h2; rw [if_pos (by simp), PT.get_put_same _ _ _ (h b (by simp))]
   ·rw [if_neg (by simp [h1, h2]), PT.get_put_other _ _ _ _ h2]
theorem hideD_get : ∀ (l : List Nat) (t : PT Ob) (b : Nat) (o : Ob), (∀ x ∈ l, x < lim) → (hideD t l).get b = some o → t.get b = some o ∧ b ∉ l
 | [], t, b, o, h, e => ⟨e, by simp⟩
 | x :: l, t, b, o, h, e => by
  unfold hideD at e
  obtain ⟨h1, h2⟩ := hideD_get l _ b o (fun y hy => h y (by simp [hy])) e
  by_cases h3 : b = x
  ·subst h3; rw [PT.get_put_same _ _ _ (h b (by simp))] at h1; cases h1
  ·rw [PT.get_put_other _ _ _ _ h3] at h1; exact ⟨h1, by simp [h2, h3]⟩
theorem mem_segL : ∀ (k n b : Nat), b ∈ segL n k ↔ n ≤ b ∧ b < n + k
 | 0, n, b => by simp [segL]
 | k + 1, n, b => by
  simp only [segL, List.mem_cons, mem_segL k (n + 1) b]
  omega
theorem rcs_num {c : Cfg} {call : CallD} {ops : Array Oper} {q : Nat → Q} : ∀ (k : Nat) (r : Rec), r ∈ rcs q k ↔ ∃ j, j < k ∧ (q j).r = r
 | 0, r => by simp [rcs]
 | k + 1, r => by
  simp only [rcs, List.mem_cons, rcs_num (c := c) (call := call) (ops := ops) k r]
  constructor
  ·rintro (rfl | ⟨j, h1, h2⟩)
   ·exact ⟨k, by omega, rfl⟩
   ·exact ⟨j, by omega, h2⟩
  ·rintro ⟨j, h1, h2⟩
   by_cases e : j = k
   ·subst e; exact .inl h2.symm
   ·exact .inr ⟨j, by omega, h2⟩
theorem drawD_run {c : Cfg} {call : CallD} {ops : Array Oper} : ∀ (l : List Oper) (i : Nat) (rs : List Rec) (T : Tm) (h : Hp) (w : List Nat) (s : Dr), (∀ r ∈ rs, r.n' ≤ lim ∨ r.n' ≤ r.n) → drawD c call ops i l rs T h w = .ok s →
  ∃ q : Nat → Q, (q 0).T = T ∧ (q 0).h = h ∧ (q 0).w = w ∧ (q l.length).T = s.T ∧ (q l.length).h = s.h ∧ (q l.length).w = s.w ∧
   ∀ k, k < l.length → l[k]? = some (q k).r.o ∧ Cond c call ops (i + k) (rcs q k ++ rs) (q k) (q (k + 1))
 | [], i, rs, T, h, w, s, hrs, e => by
  unfold drawD at e
  cases e
  exact ⟨fun _ => ⟨T, h, w, ⟨0, default, 0, none, [], 0, 0⟩, false, undef, .leaf, h, []⟩, rfl, rfl, rfl, rfl, rfl, rfl, fun k hk => by simp at hk⟩
 | o :: l, i, rs, T, h, w, s, hrs, e => by
  unfold drawD at e
  simp only at e
  obtain ⟨u, e1, e⟩ := R.bind_ok e
  have e1 := R.of_ok e1
  split at e1
  case isFalse => cases e1
  rename_i hedge
  obtain ⟨b, e2, e⟩ := R.bind_ok e
  have e2 := R.of_ok e2
  have hedge' : ∀ e ∈ o.after.toList, Region.binds .any e = true → e.on < i := fun e he hb => by
   have := List.all_eq_true.1 hedge e he
   simp [hb] at this
   exact this
  have fin : ∀ (r : Rec) (v : Value) (M : PT Ob) (h1 h' : Hp) (Wf : List Nat) (s1 : Dr), r.o = o → drawD c call ops (i + 1) l (r :: rs) (putD T o.dst v) h1 (r.wr ++ w) = .ok s → (r.n' ≤ lim ∨ r.n' ≤ r.n) →
    (∀ y : Q, y.T = putD T o.dst v → y.h = h1 → y.w = r.wr ++ w → Cond c call ops i rs ⟨T, h, w, r, b, v, M, h', Wf⟩ y) →
    ∃ q : Nat → Q, (q 0).T = T ∧ (q 0).h = h ∧ (q 0).w = w ∧ (q (o :: l).length).T = s.T ∧ (q (o :: l).length).h = s.h ∧ (q (o :: l).length).w = s.w ∧
     ∀ k, k < (o :: l).length → (o :: l)[k]? = some (q k).r.o ∧ Cond c call ops (i + k) (rcs q k ++ rs) (q k) (q (k + 1)) := by
   intro r v M h1 h' Wf s1 hro hd hlim hc
   obtain ⟨q, g1, g2, g3, g4, g5, g6, g7⟩ := drawD_run l (i + 1) (r :: rs) _ h1 _ s (fun x hx => by rcases List.mem_cons.1 hx with rfl | hx; exact hlim; exact hrs x hx) hd
   let q' : Nat → Q := fun k => match k with | 0 => ⟨T, h, w, r, b, v, M, h', Wf⟩ | k + 1 => q k
   have hr : ∀ k, rcs q' (k + 1) ++ rs = rcs q k ++ (r :: rs) := by
    intro k
    induction k with
    | zero => rfl
    | succ k ih =>
     show (q' (k + 1)).r :: rcs q' (k + 1) ++ rs = (q k).r :: rcs q k ++ (r :: rs)
     rw [List.cons_append, List.cons_append, ih]
   refine ⟨q', rfl, rfl, rfl, g4, g5, g6, fun k hk => ?_⟩
   cases k with
   | zero => exact ⟨by rw [← hro]; rfl, hc (q 0) g1 g2 g3⟩
   | succ k =>
    obtain ⟨f1, f2⟩ := g7 k (by simpa using hk)
    refine ⟨by simpa using f1, ?_⟩
    rw [hr k, show i + (k + 1) = i + 1 + k by omega]
    exact f2
  cases b with
  | true =>
   simp only [cond_true] at e
   obtain ⟨outs, e3, e⟩ := R.bind_ok e
   split at e
   ·rename_i x
    cases e4 : (List.all (rs.filter fun r => !(befD rs o).testBit r.i) (fun q => apartD ops q ⟨i, o, befD rs o, footD c T o, x.2.2.filter (fun b => Nat.blt b h.n), h.n, x.2.1.n⟩) && Nat.blt x.2.1.n lim && idsOk (footD c T o) && (x.2.2.filter (fun b => Nat.blt b h.n)).all (fun b => Nat.blt b lim) && x.2.2.all (fun b => Nat.blt b x.2.1.n)) with
    | false => rw [e4] at e; cases e
    | true =>
     rw [e4] at e
     simp only [cond_true] at e
     simp only [Bool.and_eq_true] at e4
     obtain ⟨⟨⟨⟨e5, e6⟩, e7⟩, e8⟩, e9⟩ := e4
     have hlim := blt_t e6
     have hchk : h.n ≤ x.2.1.n := by
      unfold opD at e3
      obtain ⟨os, k1, k2⟩ := R.bind_ok e3
      obtain ⟨rfl, k3, k4⟩ := chk_ok k2
      exact k4 x (by simp)
     refine fin _ x.1 (maskD (footD c T o) h.t ((rs.filter fun r => !(befD rs o).testBit r.i).flatMap fun r => segL r.n (r.n' - r.n))) _ x.2.1 x.2.2 s rfl e (.inl (Nat.le_of_lt hlim)) (fun y y1 y2 y3 => ?_)
     refine ⟨hedge', rfl, rfl, rfl, by rw [y2], by rw [y2]; exact hchk, e2, fun _ => ⟨e3, by rw [y2], ⟨fun b => by simp [List.mem_filter, Nat.blt_eq], fun b hb => by rw [y2]; exact blt_t (List.all_eq_true.1 e9 b hb)⟩, fun b ob hb => ?_, fun b => ?_⟩, fun hh => (by cases hh), y1, y3, fun r hr hb => ?_⟩
     ·simp only at hb ⊢
      unfold maskD at hb
      split at hb
      ·rename_i ids hf
       rw [hf] at e7
       simp only [idsOk] at e7
       rw [mergeD_get _ _ _ _ (fun z hz => blt_t (List.all_eq_true.1 e7 z hz))] at hb
       split at hb
       ·rename_i hm; exact ⟨hb, by rw [hf]; exact hm⟩
       ·simp [PT.get_leaf] at hb
      ·rename_i hf
       obtain ⟨f1, f2⟩ := hideD_get _ _ _ _ (fun z hz => by
        obtain ⟨r, hr, hz⟩ := List.mem_flatMap.1 hz
        have hr' := (List.mem_filter.1 hr).1
        have := (mem_segL _ _ _).1 hz
        rcases hrs r hr' with h9 | h9 <;> omega) hb
       refine ⟨f1, ?_⟩
       rw [hf]
       intro r hr hbit
       cases hs : inSeg r b with
       | false => rfl
       | true =>
        simp only [inSeg, Bool.and_eq_true] at hs
        have h1 := ble_t hs.1
        have h2 := blt_t hs.2
        exact absurd (List.mem_flatMap.2 ⟨r, List.mem_filter.2 ⟨hr, by simp [hbit]⟩, (mem_segL _ _ _).2 ⟨h1, by omega⟩⟩) f2
     ·rw [y2]
      simp only
      rw [mergeD_get _ _ _ _ (fun z hz => by
       rcases List.mem_append.1 hz with hz | hz
       ·exact blt_t (List.all_eq_true.1 e8 z hz)
       ·have := (mem_segL _ _ _).1 hz; omega)]
      have : (b ∈ (x.2.2.filter fun b => Nat.blt b h.n) ++ segL h.n (x.2.1.n - h.n)) ↔ (b ∈ (x.2.2.filter fun b => Nat.blt b h.n) ∨ (h.n ≤ b ∧ b < x.2.1.n)) := by
       rw [List.mem_append, mem_segL]
       constructor <;> (rintro (h1 | h1); exact .inl h1; exact .inr (by omega))
      simp only [this]
     ·exact List.all_eq_true.1 e5 r (List.mem_filter.2 ⟨hr, by simp [hb]⟩)
   ·cases e
  | false =>
   simp only [cond_false] at e
   cases e4 : (List.all (rs.filter fun r => !(befD rs o).testBit r.i) (fun q => apartD ops q ⟨i, o, befD rs o, some [], [], h.n, h.n⟩)) with
   | false => rw [e4] at e; cases e
   | true =>
    rw [e4] at e
    simp only [cond_true] at e
    ·refine fin ⟨i, o, befD rs o, some [], [], h.n, h.n⟩ undef .leaf h h [] s rfl e (.inr (Nat.le_refl _)) (fun y y1 y2 y3 => ?_)
     exact ⟨hedge', rfl, rfl, rfl, by rw [y2], by rw [y2]; exact Nat.le_refl _, e2, fun hh => (by cases hh), fun _ => ⟨rfl, y2, rfl⟩, y1, y3, fun r hr hb => List.all_eq_true.1 e4 r (List.mem_filter.2 ⟨hr, by simp [hb]⟩)⟩
end
section
open Go
set_option linter.unusedSectionVars false
variable [Eta]
theorem EV_of {c : Cfg} {ρ : Emb} {w : World} {T : Tm} {a : Act} {x : Operand} (h : ∀ t, x = .tmp t → t < T.m → TV ρ w (T.get t) (a.tmps.getD t undef)) (hg : Glob c ρ) : EV c ρ w T a x := by
 intro v hv
 cases x with
 | tmp t =>
  simp only [_root_.Go.Proofs.YtaiokpmmjbiajaaGreatDoorDx.ev] at hv
  cases e : Nat.blt t T.m with
  | false => rw [e] at hv; cases hv
  | true =>
   rw [e] at hv
   exact h t rfl (blt_t e) v hv
 | const k =>
  simp only [_root_.Go.Proofs.YtaiokpmmjbiajaaGreatDoorDx.ev] at hv
  cases e : pfd 3 k with
  | false => rw [e] at hv; cases hv
  | true => rw [e] at hv; cases hv; exact VR.flatd 3 e
 | global g =>
  simp only [_root_.Go.Proofs.YtaiokpmmjbiajaaGreatDoorDx.ev] at hv
  cases e : Nat.blt g c.G with
  | false => rw [e] at hv; cases hv
  | true => rw [e] at hv; cases hv; exact .ptr g 0 g 0 (hg g (blt_t e))
 | func f =>
  simp only [_root_.Go.Proofs.YtaiokpmmjbiajaaGreatDoorDx.ev] at hv
  cases hv
  exact .func _ (fun l e => by cases e) _ _ _ _ rfl (fun i x y hx => by simp at hx) rfl (fun i x y hx => by simp at hx)
def cnt (S : Nat → Bool) : Nat → Nat
 | 0 => 0
 | n + 1 => cnt S n + if S n then 0 else 1
theorem cnt_same {S S' : Nat → Bool} : ∀ n, (∀ j, j < n → S' j = S j) → cnt S' n = cnt S n
 | 0, h => rfl
 | n + 1, h => by unfold cnt; rw [cnt_same n (fun j hj => h j (by omega)), h n (by omega)]
theorem cnt_put {S S' : Nat → Bool} {i : Nat} (h1 : S i = false) (h2 : S' i = true) (h3 : ∀ j, j ≠ i → S' j = S j) : ∀ n, i < n → cnt S' n + 1 = cnt S n
 | 0, h => by omega
 | n + 1, h => by
  unfold cnt
  by_cases e : i = n
  ·subst e
   rw [cnt_same i (fun j hj => h3 j (by omega)), h1, h2]
   simp
  ·have := cnt_put h1 h2 h3 n (by omega)
   rw [h3 n (fun e' => e e'.symm)]
   omega
theorem cnt_zero {S : Nat → Bool} : ∀ n, cnt S n = 0 → ∀ j, j < n → S j = true
 | 0, h, j, hj => by omega
 | n + 1, h, j, hj => by
  unfold cnt at h
  by_cases e : j = n
  ·subst e
   cases hs : S j with
   | true => rfl
   | false => rw [hs] at h; simp at h
  ·exact cnt_zero n (by omega) j (by omega)
theorem befD_bit {o : Oper} {rs : List Rec} {j : Nat} (h : (befD rs o).testBit j = true) : ∃ e ∈ o.after.toList, Region.binds .any e = true ∧ (j = e.on ∨ ∃ r ∈ rs, r.i = e.on ∧ r.bef.testBit j = true) := by
 unfold befD at h
 have key : ∀ (l : List Edge) (s : Nat), (l.foldl (fun s e => if Region.binds .any e then s ||| 2 ^ e.on ||| (match rs.find? (fun r => Nat.beq r.i e.on) with | some r => r.bef | none => 0) else s) s).testBit j = true →
   s.testBit j = true ∨ ∃ e ∈ l, Region.binds .any e = true ∧ (j = e.on ∨ ∃ r ∈ rs, r.i = e.on ∧ r.bef.testBit j = true) := by
  intro l
  induction l with
  | nil => intro s hs; exact .inl hs
  | cons e l ih =>
   intro s hs
   simp only [List.foldl_cons] at hs
   rcases ih _ hs with h1 | ⟨e', h1, h2⟩
   ·split at h1
    ·rename_i hb
     rw [Nat.testBit_or, Nat.testBit_or] at h1
     simp only [Bool.or_eq_true] at h1
     rcases h1 with (h1 | h1) | h1
     ·exact .inl h1
     ·rw [Nat.testBit_two_pow] at h1
      exact .inr ⟨e, by simp, hb, .inl (by simpa using (of_decide_eq_true h1).symm)⟩
     ·split at h1
      ·rename_i r hr
       exact .inr ⟨e, by simp, hb, .inr ⟨r, List.mem_of_find?_eq_some hr, beq_t (List.find?_some (p := fun (r : Rec) => Nat.beq r.i e.on) hr), h1⟩⟩
      ·simp at h1
    ·exact .inl h1
   ·exact .inr ⟨e', by simp [h1], h2⟩
 rcases key _ _ h with h1 | h1
 ·simp at h1
 ·exact h1
theorem clash_none {w : List Nat} (h : clash w none = false) : w = [] := by
 unfold clash at h
 cases w with
 | nil => rfl
 | cons x l => simp at h
theorem memN_iff {b : Nat} {l : List Nat} : memN b l = true ↔ b ∈ l := by
 unfold memN
 rw [List.any_eq_true]
 constructor
 ·rintro ⟨x, h1, h2⟩; rw [beq_t h2]; exact h1
 ·intro h; exact ⟨b, h, by simp⟩
theorem meets_f {a b : List Nat} (h : meets a b = false) : ∀ x ∈ a, x ∉ b := fun x hx hb => by
 unfold meets at h
 rw [List.any_eq_false] at h
 exact h x hx (memN_iff.2 hb)
theorem clash_some {w l : List Nat} (h : clash w (some l) = false) : ∀ b ∈ w, b ∉ l := meets_f h
theorem apart_spec {ops : Array Oper} {x y : Rec} (h : apartD ops x y = true) :
  (∀ d, x.o.dst = some d → d ∉ Oper.looksAt ops y.o) ∧ (∀ d, y.o.dst = some d → d ∉ Oper.looksAt ops x.o) ∧ (∀ d, x.o.dst = some d → y.o.dst ≠ some d) ∧ clash y.wr x.foot = false ∧ clash x.wr y.foot = false ∧
  (∀ b ∈ x.wr, b ∉ y.wr) ∧ (∀ b ∈ y.wr, inSeg x b = false) ∧ (∀ l, y.foot = some l → ∀ b ∈ l, inSeg x b = false) := by
 unfold apartD at h
 simp only [Bool.and_eq_true, Bool.not_eq_true'] at h
 obtain ⟨⟨⟨⟨⟨⟨⟨h1, h2⟩, h3⟩, h4⟩, h5⟩, h6⟩, h7⟩, h8⟩ := h
 refine ⟨fun d hd hm => ?_, fun d hd hm => ?_, fun d hd he => ?_, h4, h5, meets_f h6, fun b hb => ?_, fun l hl b hb => ?_⟩
 ·rw [hd] at h1
  have : memN d (looks ops y.o) = true := memN_iff.2 hm
  have h1' : memN d (looks ops y.o) = false := h1
  rw [this] at h1'; cases h1'
 ·rw [hd] at h2
  have : memN d (looks ops x.o) = true := memN_iff.2 hm
  have h2' : memN d (looks ops x.o) = false := h2
  rw [this] at h2'; cases h2'
 ·rw [hd, he] at h3
  simp at h3
 ·rw [List.any_eq_false] at h7
  simpa using h7 b hb
 ·rw [hl] at h8
  simp only [Bool.not_eq_true', List.any_eq_false] at h8
  simpa using h8 b hb
theorem inSeg_f {x : Rec} {b : Nat} (h : inSeg x b = false) : ¬ (x.n ≤ b ∧ b < x.n') := fun hh => by
 unfold inSeg at h
 rw [Nat.ble_eq_true_of_le hh.1] at h
 simp only [Bool.true_and] at h
 exact blt_f h hh.2
end
section
open Go
set_option linter.unusedSectionVars false
variable [Eta]
structure Run (c : Cfg) (call : CallD) (ops : Array Oper) (q : Nat → Q) : Prop where
  at_ : ∀ k, k < ops.size → ops[k]? = some (q k).r.o ∧ Cond c call ops k (rcs q k) (q k) (q (k + 1))
section
variable {c : Cfg} {call : CallD} {ops : Array Oper} {q : Nat → Q}
theorem Run.op (h : Run c call ops q) {k : Nat} (hk : k < ops.size) : ops[k]? = some (q k).r.o := (h.at_ k hk).1
theorem Run.co (h : Run c call ops q) {k : Nat} (hk : k < ops.size) : Cond c call ops k (rcs q k) (q k) (q (k + 1)) := (h.at_ k hk).2
theorem Run.mono (h : Run c call ops q) : ∀ {j k : Nat}, j ≤ k → k ≤ ops.size → (q j).h.n ≤ (q k).h.n
  | j, 0, h1, h2 => by obtain rfl : j = 0 := by omega
                       exact Nat.le_refl _
  | j, k + 1, h1, h2 => by
    by_cases e : j = k + 1
    · subst e; exact Nat.le_refl _
    · exact Nat.le_trans (h.mono (j := j) (k := k) (by omega) (by omega)) (h.co (k := k) (by omega)).nn
theorem Run.apart (h : Run c call ops q) {j k : Nat} (hj : j < k) (hk : k < ops.size) (hb : (q k).r.bef.testBit j = false) : apartD ops (q j).r (q k).r = true := by
  refine (h.co hk).apart _ ((rcs_num (c := c) (call := call) (ops := ops) k _).2 ⟨j, hj, rfl⟩) ?_
  rw [(h.co (k := j) (by omega)).num]
  exact hb
def Closed (ops : Array Oper) (q : Nat → Q) (S : Nat → Bool) : Prop := ∀ j, j < ops.size → S j = true → ∀ e ∈ (q j).r.o.after.toList, Region.binds .any e = true → S e.on = true
theorem Run.bef (h : Run c call ops q) {S : Nat → Bool} (hs : Closed ops q S) : ∀ (x : Nat), x < ops.size → (∀ e ∈ (q x).r.o.after.toList, Region.binds .any e = true → S e.on = true) → ∀ j, (q x).r.bef.testBit j = true → S j = true := by
  intro x
  induction x using Nat.strongRecOn with
  | _ x ih =>
    intro hx he j hj
    rw [(h.co hx).bef] at hj
    obtain ⟨e, h1, h2, h3⟩ := befD_bit hj
    rcases h3 with rfl | ⟨r, h4, h5, h6⟩
    · exact he e h1 h2
    · obtain ⟨m, h7, rfl⟩ := (rcs_num (c := c) (call := call) (ops := ops) x r).1 h4
      rw [(h.co (k := m) (by omega)).num] at h5
      have hm : S m = true := by rw [h5]; exact he e h1 h2
      exact ih m h7 (by omega) (hs m (by omega) hm) j h6
def valT (q : Nat → Q) (k : Nat) (_ : Nat) : Option Value := some (q k).v
def valH (q : Nat → Q) (k : Nat) (b : Nat) : Option Ob := (q k).h'.t.get b
def fT (q : Nat → Q) (S : Nat → Bool) (k : Nat) : Nat → Option Value := FX (touchT q) (valT q) (q 0).T.get S k
def fH (q : Nat → Q) (S : Nat → Bool) (k : Nat) : Nat → Option Ob := FX (touchH q) (valH q) (q 0).h.t.get S k
theorem Run.m (h : Run c call ops q) : ∀ k, k ≤ ops.size → (q k).T.m = (q 0).T.m
  | 0, _ => rfl
  | k + 1, hk => by
    rw [(h.co (k := k) (by omega)).T, ← h.m k (by omega)]
    unfold putD
    split
    · cases Nat.blt _ _ <;> rfl
    · rfl
theorem Run.T_all (h : Run c call ops q) (hm : (q 0).T.m ≤ lim) : ∀ k, k ≤ ops.size → ∀ t, t < (q 0).T.m → (q k).T.get t = fT q (fun _ => true) k t
  | 0, _, t, ht => rfl
  | k + 1, hk, t, ht => by
    have ih := h.T_all hm k (by omega) t ht
    have hmk := h.m k (by omega)
    rw [(h.co (k := k) (by omega)).T]
    show _ = (if true = true ∧ touchT q k t then valT q k t else FX (touchT q) (valT q) (q 0).T.get (fun _ => true) k t)
    by_cases hd : touchT q k t
    · rw [if_pos ⟨rfl, hd⟩]
      unfold touchT at hd
      unfold putD
      rw [hd]
      show Tm.get (bif Nat.blt t (q k).T.m then _ else _) t = _
      rw [show Nat.blt t (q k).T.m = true from by rw [Nat.blt_eq]; omega]
      unfold Tm.get
      simp only [cond_true]
      rw [PT.get_put_same _ _ _ (by omega)]
      rfl
    · rw [if_neg (fun hh => hd hh.2), ← show fT q (fun _ => true) k t = FX (touchT q) (valT q) (q 0).T.get (fun _ => true) k t from rfl, ← ih]
      unfold touchT at hd
      unfold putD
      split
      · rename_i d he
        cases hb : Nat.blt d (q k).T.m with
        | false => rfl
        | true =>
          unfold Tm.get
          simp only [cond_true]
          rw [PT.get_put_other _ _ _ _ (fun e => hd (by rw [he, e]))]
      · rfl
theorem Run.H_all (h : Run c call ops q) : ∀ k, k ≤ ops.size → ∀ b, (q k).h.t.get b = fH q (fun _ => true) k b
  | 0, _, b => rfl
  | k + 1, hk, b => by
    have ih := h.H_all k (by omega) b
    have co := h.co (k := k) (by omega)
    show _ = (if true = true ∧ touchH q k b then valH q k b else FX (touchH q) (valH q) (q 0).h.t.get (fun _ => true) k b)
    cases hb : (q k).b with
    | true =>
      obtain ⟨_, _, _, _, h5⟩ := co.yes hb
      rw [h5 b]
      have hiff : touchH q k b ↔ (b ∈ (q k).r.wr ∨ ((q k).h.n ≤ b ∧ b < (q (k + 1)).h.n)) := by unfold touchH; rw [co.n, co.n']
      by_cases ht : touchH q k b
      · rw [if_pos (hiff.1 ht), if_pos ⟨rfl, ht⟩]
        rfl
      · rw [if_neg (fun hh => ht (hiff.2 hh)), if_neg (fun hh => ht hh.2)]
        exact ih
    | false =>
      obtain ⟨_, h2, h3⟩ := co.no hb
      rw [h2, if_neg (fun hh => by
        have ht := hh.2
        unfold touchH at ht
        rw [co.n, co.n', h2, h3] at ht
        simp at ht
        omega)]
      exact ih
theorem fT_lt (i k : Nat) (hk : i ≤ k) (t : Nat) : fT q (fun j => decide (j < i)) k t = fT q (fun _ => true) i t := by
  unfold fT
  rw [FX_cut i k hk (fun j h1 h2 h3 => by simp at h3; omega)]
  exact FX_congr i t (fun j hj _ => by simp [hj])
theorem fH_lt (i k : Nat) (hk : i ≤ k) (b : Nat) : fH q (fun j => decide (j < i)) k b = fH q (fun _ => true) i b := by
  unfold fH
  rw [FX_cut i k hk (fun j h1 h2 h3 => by simp at h3; omega)]
  exact FX_congr i b (fun j hj _ => by simp [hj])
theorem Run.unordered (h : Run c call ops q) {S : Nat → Bool} (hs : Closed ops q S) {i j : Nat} (hi : i < ops.size) (hj : j < ops.size) (hij : i ≠ j) (hSi : S i = false) (he : ∀ e ∈ (q i).r.o.after.toList, Region.binds .any e = true → S e.on = true)
    (hne : S j ≠ decide (j < i)) : (j < i ∧ apartD ops (q j).r (q i).r = true) ∨ (i < j ∧ S j = true ∧ apartD ops (q i).r (q j).r = true) := by
  by_cases hlt : j < i
  · refine .inl ⟨hlt, h.apart hlt hi ?_⟩
    cases hb : (q i).r.bef.testBit j with
    | false => rfl
    | true => exact absurd ((h.bef hs i hi he j hb).trans (by simp [hlt])) hne
  · have hSj : S j = true := by
      cases hs : S j with
      | true => rfl
      | false => rw [hs] at hne; simp [hlt] at hne
    refine .inr ⟨by omega, hSj, h.apart (by omega) hj ?_⟩
    cases hb : (q j).r.bef.testBit i with
    | false => rfl
    | true => have := h.bef hs j hj (hs j hj hSj) i hb; rw [hSi] at this; cases this
theorem Run.sees (h : Run c call ops q) (hm : (q 0).T.m ≤ lim) {S : Nat → Bool} (hs : Closed ops q S) {i : Nat} (hi : i < ops.size) (hSi : S i = false) (he : ∀ e ∈ (q i).r.o.after.toList, Region.binds .any e = true → S e.on = true)
    {t : Nat} (ht : t ∈ Oper.looksAt ops (q i).r.o) (htm : t < (q 0).T.m) : (q i).T.get t = fT q S ops.size t := by
  rw [h.T_all hm i (by omega) t htm, ← fT_lt i ops.size (by omega)]
  refine (FX_congr ops.size t (fun j hj htj => ?_)).symm
  by_cases hij : i = j
  · subst hij; rw [hSi]; simp
  · by_cases hne : S j = decide (j < i)
    · exact hne
    · rcases h.unordered hs hi hj hij hSi he hne with ⟨_, ha⟩ | ⟨_, _, ha⟩
      · exact absurd ht ((apart_spec ha).1 t htj)
      · exact absurd ht ((apart_spec ha).2.1 t htj)
theorem Run.wr_lt (h : Run c call ops q) {j : Nat} (hj : j < ops.size) : ∀ b ∈ (q j).r.wr, b < (q j).h.n := fun b hb => by
  cases e : (q j).b with
  | true => exact (((h.co hj).yes e).2.2.1.1 b).1 hb |>.2
  | false => rw [((h.co hj).no e).2.2] at hb; cases hb
theorem Run.shown (h : Run c call ops q) {S : Nat → Bool} (hs : Closed ops q S) {i : Nat} (hi : i < ops.size) (hSi : S i = false) (he : ∀ e ∈ (q i).r.o.after.toList, Region.binds .any e = true → S e.on = true)
    (hb : (q i).b = true) (h0 : ∀ b, (q 0).h.n ≤ b → b < (q ops.size).h.n → (q 0).h.t.get b = none) {b : Nat} {o : Ob} (hM : (q i).M.get b = some o) : fH q S ops.size b = some o := by
  obtain ⟨_, _, _, h4, _⟩ := (h.co hi).yes hb
  obtain ⟨h5, h6⟩ := h4 b o hM
  have hlive : fH q (fun j => decide (j < i)) ops.size b = some o := by rw [fH_lt i ops.size (by omega), ← h.H_all i (by omega)]; exact h5
  have hlow : b < (q i).h.n ∨ (q ops.size).h.n ≤ b := by
    refine Classical.byContradiction fun hc => ?_
    have h7 : (q i).h.n ≤ b ∧ b < (q ops.size).h.n := by omega
    have h8 : fH q (fun j => decide (j < i)) ops.size b = (q 0).h.t.get b := by
      unfold fH
      refine FX_cut 0 ops.size (Nat.zero_le _) (fun j _ hj hj2 ht => ?_)
      have hji : j < i := by simpa using hj2
      unfold touchH at ht
      rcases ht with ht | ht
      · have := h.wr_lt hj b ht
        have := h.mono (j := j) (k := i) (by omega) (by omega)
        omega
      · rw [(h.co hj).n, (h.co hj).n'] at ht
        have := h.mono (j := j + 1) (k := i) (by omega) (by omega)
        omega
    rw [h8, h0 b (by have := h.mono (j := 0) (k := i) (by omega) (by omega); omega) h7.2] at hlive
    cases hlive
  have key : fH q S ops.size b = some o := by
    rw [← hlive]
    refine FX_congr ops.size b (fun j hj htj => ?_)
    by_cases hij : i = j
    · subst hij; rw [hSi]; simp
    · by_cases hne : S j = decide (j < i)
      · exact hne
      · exfalso
        unfold touchH at htj
        rcases h.unordered hs hi hj hij hSi he hne with ⟨hlt, ha⟩ | ⟨hlt, hSj, ha⟩
        · obtain ⟨_, _, _, _, a5, _, _, a8⟩ := apart_spec ha
          cases hf : (q i).r.foot with
          | none =>
            rw [hf] at h6 a5
            have hw := clash_none a5
            rcases htj with htj | htj
            · rw [hw] at htj; cases htj
            · refine inSeg_f (h6 _ ((rcs_num (c := c) (call := call) (ops := ops) i _).2 ⟨j, hlt, rfl⟩) ?_) htj
              rw [(h.co hj).num]
              cases hbit : (q i).r.bef.testBit j with
              | false => rfl
              | true => exact absurd ((h.bef hs i hi he j hbit).trans (by simp [hlt])) hne
          | some l =>
            rw [hf] at h6 a5
            simp only at h6
            rcases htj with htj | htj
            · exact clash_some a5 b htj h6
            · exact inSeg_f (a8 l hf b h6) htj
        · obtain ⟨_, _, _, a4, _, _, _, _⟩ := apart_spec ha
          rcases htj with htj | htj
          · cases hf : (q i).r.foot with
            | none => rw [hf] at a4; rw [clash_none a4] at htj; cases htj
            | some l => rw [hf] at h6 a4; exact clash_some a4 b htj h6
          · rw [(h.co hj).n, (h.co hj).n'] at htj
            have := h.mono (j := i) (k := j) (by omega) (by omega)
            have := h.mono (j := j + 1) (k := ops.size) (by omega) (Nat.le_refl _)
            omega
  exact key
end
end
section
open Go
set_option linter.unusedSectionVars false
variable [Eta]
structure INV (c : Cfg) (base : Nat) (I : World → Prop) (ops : Array Oper) (q : Nat → Q) (w0s : List Nat) (ρ0 : Emb) (w0 : World) (a0 : Act) (S : Nat → Bool) (a : Act) (w : World) (ρ : Emb) (W : List Nat) : Prop where
 size : (q 0).T.m = a.tmps.size
 tr : ∀ t, t < (q 0).T.m → TV ρ w (fT q S ops.size t) (a.tmps.getD t undef)
 defers : a.defers = a0.defers
 glob : Glob c ρ
 inv : I w
 free : ∀ j, j < ops.size → S j = false → Free ρ (q j).h.n (q (j + 1)).h.n
 ext : Ext base c.n0 ρ0 (q 0).h.t.get (q 0).h.n w0 ρ (fH q S ops.size) (q ops.size).h.n W w
 wr : ∀ b ∈ W, b ∈ w0s ∨ ∃ j, j < ops.size ∧ S j = true ∧ b ∈ (q j).r.wr
 wrn : ∀ j, j < ops.size → S j = true → ∀ b ∈ (q j).r.wr, c.n0 ≤ b
section
variable {c : Cfg} {base : Nat} {I : World → Prop} {call : CallD} {ops : Array Oper} {q : Nat → Q}
theorem put_getD (a : Act) (d : Option Tmp) (v : Value) (t : Nat) (ht : t < a.tmps.size) : (a.put d v).tmps.getD t undef = if d = some t then v else a.tmps.getD t undef := by
 cases d with
 | none => simp [Act.put]
 | some d =>
  by_cases e : d = t
  ·subst e; simp [Act.put, ht]
  ·rw [if_neg (by simpa using e)]
   simp [Act.put, Array.getElem?_setIfInBounds_ne e]
theorem put_size (a : Act) (d : Option Tmp) (v : Value) : (a.put d v).tmps.size = a.tmps.size := by cases d <;> simp [Act.put]
theorem fT_put (h : Run c call ops q) {S S' : Nat → Bool} (hs : Closed ops q S) {i : Nat} (hi : i < ops.size) (hSi : S i = false) (he : ∀ e ∈ (q i).r.o.after.toList, Region.binds .any e = true → S e.on = true)
  (h1 : S' i = true) (h2 : ∀ j, j ≠ i → S' j = S j) (t : Nat) : fT q S' ops.size t = if (q i).r.o.dst = some t then some (q i).v else fT q S ops.size t := by
 by_cases hd : (q i).r.o.dst = some t
 ·rw [if_pos hd]
  refine (FX_last (touch := touchT q) (val := valT q) (i := i) h1 hd ops.size hi (fun j hj hj2 hSj ht => ?_)).trans rfl
  have hSj' : S j = true := by rw [← h2 j (by omega)]; exact hSj
  rcases h.unordered hs hi hj2 (by omega) hSi he (by rw [hSj']; simp; omega) with ⟨hlt, _⟩ | ⟨_, _, ha⟩
  ·omega
  ·exact (apart_spec ha).2.2.1 t hd ht
 ·rw [if_neg hd]
  refine FX_congr ops.size t (fun j hj ht => ?_)
  by_cases e : j = i
  ·subst e; exact absurd ht hd
  ·exact h2 j e
theorem fH_put (h : Run c call ops q) {S S' : Nat → Bool} (hs : Closed ops q S) {i : Nat} (hi : i < ops.size) (hSi : S i = false) (he : ∀ e ∈ (q i).r.o.after.toList, Region.binds .any e = true → S e.on = true)
  (h1 : S' i = true) (h2 : ∀ j, j ≠ i → S' j = S j) (b : Nat) : fH q S' ops.size b = if b ∈ (q i).r.wr ∨ ((q i).h.n ≤ b ∧ b < (q (i + 1)).h.n) then (q i).h'.t.get b else fH q S ops.size b := by
 have co := h.co hi
 have hiff : touchH q i b ↔ (b ∈ (q i).r.wr ∨ ((q i).h.n ≤ b ∧ b < (q (i + 1)).h.n)) := by unfold touchH; rw [co.n, co.n']
 by_cases hd : touchH q i b
 ·rw [if_pos (hiff.1 hd)]
  refine (FX_last (touch := touchH q) (val := valH q) (i := i) h1 hd ops.size hi (fun j hj hj2 hSj ht => ?_)).trans rfl
  have hSj' : S j = true := by rw [← h2 j (by omega)]; exact hSj
  rcases h.unordered hs hi hj2 (by omega) hSi he (by rw [hSj']; simp; omega) with ⟨hlt, _⟩ | ⟨_, _, ha⟩
  ·omega
  ·obtain ⟨_, _, _, _, _, a6, a7, _⟩ := apart_spec ha
   unfold touchH at hd ht
   have m1 := h.mono (j := i + 1) (k := j) (by omega) (by omega)
   rcases hd with hd | hd
   ·rcases ht with ht | ht
    ·exact a6 b hd ht
    ·rw [(h.co hj2).n, (h.co hj2).n'] at ht
     have := h.wr_lt hi b hd
     have := h.mono (j := i) (k := j) (by omega) (by omega)
     omega
   ·rcases ht with ht | ht
    ·exact inSeg_f (a7 b ht) hd
    ·rw [(h.co hj2).n, (h.co hj2).n'] at ht
     rw [co.n, co.n'] at hd
     omega
 ·rw [if_neg (fun hh => hd (hiff.2 hh))]
  refine FX_congr ops.size b (fun j hj ht => ?_)
  by_cases e : j = i
  ·subst e; exact absurd ht hd
  ·exact h2 j e
theorem INV.step (hc : CfgOk c) (hI : Inv base I) (hcall : CallOk c base I call) (hprim : PrimOk c base I) (r : Option Nat) (h : Run c call ops q) (hm : (q 0).T.m ≤ lim) {w0s : List Nat} {ρ0 ρ : Emb} {w0 w : World} {a0 a : Act} {W : List Nat} {S S' : Nat → Bool}
  (hr0 : Rel base c.n0 ρ0 (q 0).h.t.get w0) (hfree0 : Free ρ0 (q 0).h.n (q ops.size).h.n)
  (hinv : INV c base I ops q w0s ρ0 w0 a0 S a w ρ W) (hs : Closed ops q S) {i : Nat} (hi : i < ops.size) (hSi : S i = false) (he : ∀ e ∈ (q i).r.o.after.toList, Region.binds .any e = true → S e.on = true)
  (h1 : S' i = true) (h2 : ∀ j, j ≠ i → S' j = S j) {K : Act → World → Prop} {Qp : Exit → Act → World → Prop} (hK : ∀ a' w' ρ' W', INV c base I ops q w0s ρ0 w0 a0 S' a' w' ρ' W' → K a' w') : wpOpIn (FW r) 0 c.P ops Qp i K a w := by
 have co := h.co hi
 have hmi := h.m i (by omega)
 have hsees : ∀ t : Nat, t ∈ Oper.looksAt ops (q i).r.o → t < (q i).T.m → TV ρ w ((q i).T.get t) (a.tmps.getD t undef) := fun t ht htm => by
  rw [h.sees hm hs hi hSi he ht (by omega)]
  exact hinv.tr t (by omega)
 have hwant := yielded_of (ops := ops) (ρ := ρ) (w := w) (a := a) (by rw [hmi]; exact hinv.size) (fun j want d hg hd hdm => hsees d (by
  unfold Oper.looksAt
  rw [hg]
  simp only [List.mem_append]
  exact .inr (by rw [hd]; simp)) hdm) co.want
 have h0 : ∀ b, (q 0).h.n ≤ b → b < (q ops.size).h.n → (q 0).h.t.get b = none := fun b hb1 hb2 => by
  cases e : (q 0).h.t.get b with
  | none => rfl
  | some o => obtain ⟨k, d, hk, _⟩ := hr0.at_ b o e; rw [hfree0 b hb1 hb2] at hk; cases hk
 unfold wpOpIn
 rw [h.op hi]
 simp only
 rw [hwant]
 have hfreeN : ∀ j, j < ops.size → S' j = false → S j = false := fun j hj hj' => by rw [← h2 j (fun e => by subst e; rw [h1] at hj'; cases hj')]; exact hj'
 cases hb : (q i).b with
 | false =>
  simp only [Bool.false_eq_true, if_false]
  obtain ⟨n1, n2, n3⟩ := co.no hb
  have hH : fH q S' ops.size = fH q S ops.size := by
   funext b
   rw [fH_put h hs hi hSi he h1 h2 b, if_neg (by rw [n3, n2]; simp)]
  refine ⟨fun _ _ => trivial, ?_⟩
  refine hK _ _ ρ W ⟨by rw [put_size]; exact hinv.size, fun t ht => ?_, by rw [put_defers]; exact hinv.defers, hinv.glob, hinv.inv, fun j hj hj' => hinv.free j hj (hfreeN j hj hj'), by rw [hH]; exact hinv.ext, fun b hb' => (hinv.wr b hb').imp id (fun ⟨j, k1, k2, k3⟩ => ⟨j, k1, by rw [h2 j (fun e => by subst e; rw [hSi] at k2; cases k2)]; exact k2, k3⟩), fun j hj hSj b hb' => ?_⟩
  ·rw [fT_put h hs hi hSi he h1 h2 t, put_getD _ _ _ _ (by rw [← hinv.size]; exact ht)]
   split
   ·rw [n1]; exact TV.some .undef
   ·exact hinv.tr t ht
  ·by_cases e : j = i
   ·subst e; rw [n3] at hb'; cases hb'
   ·exact hinv.wrn j hj (by rw [← h2 j e]; exact hSj) b hb'
 | true =>
  simp only [if_true]
  obtain ⟨g1, g2, ⟨g3, g3'⟩, g4, g5⟩ := co.yes hb
  have hrel : Rel base c.n0 ρ (fH q S ops.size) w := hinv.ext.rel
  have hshown : ∀ b o, (q i).M.get b = some o → fH q S ops.size b = some o := fun b o hM => h.shown hs hi hSi he hb h0 hM
  refine (op_wp hc hI hcall r (q i).r.o g1 (hrel.forget hshown) hinv.glob hinv.inv (fun x hx => EV_of (fun t ht htm => hsees t (by
   unfold Oper.looksAt
   refine List.mem_append_left _ (List.mem_filterMap.2 ⟨x, hx, ?_⟩)
   rw [ht]) htm) hinv.glob) hprim (fun x hx => ?_) (fun x hx v' w' ρ' hv hx2 => ?_))
  ·simp only [List.mem_singleton] at hx
   subst hx
   have := hinv.free i hi hSi
   rw [← g2] at this
   exact this
  ·simp only [List.mem_singleton] at hx
   subst hx
   have hfi := hinv.free i hi hSi
   have hx3 := Ext.lift (Hn := fH q S' ops.size) (W := (q i).r.wr) hrel hshown (by rw [g2]; exact g3') g3 (by rw [g2]; exact hfi) hx2 (fun b => by rw [fH_put h hs hi hSi he h1 h2 b, g2])
   rw [g2] at hx3
   have hx4 := Ext.trans' hfree0 hr0 (h.mono (Nat.zero_le i) (by omega)) (h.mono (j := i + 1) (k := ops.size) (by omega) (Nat.le_refl _)) hinv.ext hx3
   refine hK _ _ ρ' ((q i).r.wr ++ W) ⟨by rw [put_size]; exact hinv.size, fun t ht => ?_, by rw [put_defers]; exact hinv.defers, hinv.glob.le hx3.le, hI.on _ _ hinv.inv (hx3.low hrel), fun j hj hj' b hb1 hb2 => ?_, hx4, fun b hb' => ?_, fun j hj hSj b hb' => ?_⟩
   ·rw [fT_put h hs hi hSi he h1 h2 t, put_getD _ _ _ _ (by rw [← hinv.size]; exact ht)]
    split
    ·exact TV.some hv
    ·exact ((hinv.tr t ht).le hx3.le).grow hx3.grow
   ·cases e : ρ' b with
    | none => rfl
    | some x =>
     have hji : j ≠ i := fun e => by subst e; rw [h1] at hj'; cases hj'
     rcases hx3.dom b x e with k1 | k1
     ·rw [hinv.free j hj (hfreeN j hj hj') b hb1 hb2] at k1; cases k1
     ·rcases Nat.lt_or_ge j i with hlt | hge
      ·have := h.mono (j := j + 1) (k := i) (by omega) (by omega); omega
      ·have := h.mono (j := i + 1) (k := j) (by omega) (by omega); omega
   ·rcases List.mem_append.1 hb' with k1 | k1
    ·exact .inr ⟨i, hi, h1, k1⟩
    ·exact (hinv.wr b k1).imp id (fun ⟨j, k1, k2, k3⟩ => ⟨j, k1, by rw [h2 j (fun e => by subst e; rw [hSi] at k2; cases k2)]; exact k2, k3⟩)
   ·by_cases e : j = i
    ·subst e; exact hx3.wr b hb'
    ·exact hinv.wrn j hj (by rw [← h2 j e]; exact hSj) b hb'
end
end
section
open Go
set_option linter.unusedSectionVars false
variable [Eta]
section
variable {c : Cfg} {base : Nat} {I : World → Prop} {call : CallD} {ops : Array Oper} {q : Nat → Q}
theorem any_wp (hc : CfgOk c) (hI : Inv base I) (hcall : CallOk c base I call) (hprim : PrimOk c base I) (h : Run c call ops q) (hm : (q 0).T.m ≤ lim) {w0s : List Nat} {ρ0 : Emb} {w0 : World}
  {a0 : Act} (r : Option Nat) (hr0 : Rel base c.n0 ρ0 (q 0).h.t.get w0) (hfree0 : Free ρ0 (q 0).h.n (q ops.size).h.n) {Qp : Exit → Act → World → Prop}
  (hQ : ∀ S a w ρ W, (∀ j, j < ops.size → S j = true) → INV c base I ops q w0s ρ0 w0 a0 S a w ρ W → Qp .normal a w) :
  ∀ (fuel : Nat) (listed : Array Bool) (a : Act) (w : World) (ρ : Emb) (W : List Nat), listed.size = ops.size → Closed ops q (fun j => listed.getD j false) → INV c base I ops q w0s ρ0 w0 a0 (fun j => listed.getD j false) a w ρ W → cnt (fun j => listed.getD j false) ops.size ≤ fuel →
   wpAnyIn (FW r) 0 c.P .any ops Qp fuel listed a w := by
 have done : ∀ (listed : Array Bool), listed.size = ops.size → Region.ready .any ops listed = [] → ∀ j, j < ops.size → listed.getD j false = true := by
  intro listed hsz hr j
  induction j using Nat.strongRecOn with
  | _ j ih =>
   intro hj
   cases hb : listed.getD j false with
   | true => rfl
   | false =>
    have : j ∈ Region.ready .any ops listed := mem_ready.2 ⟨by
     have hjs : j < listed.size := by omega
     simp [hjs] at hb ⊢
     exact hb, (q j).r.o, h.op hj, fun e he hbd => ih e.on ((h.co hj).edge e (by simpa using he) hbd) (by have := (h.co hj).edge e (by simpa using he) hbd; omega)⟩
    rw [hr] at this
    cases this
 intro fuel
 induction fuel with
 | zero =>
  intro listed a w ρ W hsz hcl hinv hcnt
  have hall := cnt_zero (S := fun j => listed.getD j false) ops.size (by omega)
  refine ⟨?_, hQ _ a w ρ W hall hinv⟩
  cases hr : Region.ready .any ops listed with
  | nil => rfl
  | cons j l =>
   have hj : j ∈ Region.ready .any ops listed := by rw [hr]; simp
   obtain ⟨h1, o, h2, h3⟩ := mem_ready.1 hj
   have hlt : j < ops.size := (Array.getElem?_eq_some_iff.1 h2).1
   have := hall j hlt
   have hjs : j < listed.size := by omega
   simp [hjs] at h1 this
   rw [h1] at this
   cases this
 | succ fuel ih =>
  intro listed a w ρ W hsz hcl hinv hcnt
  refine ⟨fun hr => hQ _ a w ρ W (done listed hsz hr) hinv, fun i hi => ?_⟩
  obtain ⟨h1, o, h2, h3⟩ := mem_ready.1 hi
  have hlt : i < ops.size := (Array.getElem?_eq_some_iff.1 h2).1
  have hil : i < listed.size := by omega
  have ho : (q i).r.o = o := by have := h.op hlt; rw [h2] at this; exact (Option.some.inj this).symm
  have hSi : listed.getD i false = false := by simp [hil] at h1 ⊢; exact h1
  have hS' : (listed.setIfInBounds i true).getD i false = true := by simp [hil]
  have hSo : ∀ j, j ≠ i → (listed.setIfInBounds i true).getD j false = listed.getD j false := fun j hj => getD_set_ne false (fun e => hj e.symm)
  have he : ∀ e ∈ (q i).r.o.after.toList, Region.binds .any e = true → listed.getD e.on false = true := fun e hee hb => h3 e (by rw [ho] at hee; simpa using hee) hb
  refine INV.step (S := fun j => listed.getD j false) (S' := fun j => (listed.setIfInBounds i true).getD j false) hc hI hcall hprim r h hm hr0 hfree0 hinv hcl hlt hSi he hS' hSo (fun a' w' ρ' W' hinv' => ?_)
  refine ih _ a' w' ρ' W' (by simpa using hsz) (fun j hj hSj e hee hb => ?_) hinv' ?_
  ·by_cases hji : j = i
   ·subst hji
    exact getD_set_true (he e hee hb)
   ·have hSj' : listed.getD j false = true := by rw [← hSo j hji]; exact hSj
    exact getD_set_true (hcl j hj hSj' e hee hb)
  ·have := cnt_put (S := fun j => listed.getD j false) (S' := fun j => (listed.setIfInBounds i true).getD j false) hSi hS' hSo ops.size hlt
   omega
theorem draw_up : ∀ (l : List Oper) (i : Nat) (rs : List Rec) (T : Tm) (h : Hp) (w : List Nat) (s : Dr), (∀ r ∈ rs, r.n' ≤ lim ∨ r.n' ≤ r.n) → drawD c call ops i l rs T h w = .ok s → h.n ≤ s.h.n ∧ ∀ b ∈ w, b ∈ s.w := by
 intro l i rs T h w s hrs hd
 obtain ⟨q, g1, g2, g3, g4, g5, g6, g7⟩ := drawD_run l i rs T h w s hrs hd
 have key : ∀ k, k ≤ l.length → h.n ≤ (q k).h.n ∧ ∀ b ∈ w, b ∈ (q k).w := by
  intro k
  induction k with
  | zero => intro _; rw [g2, g3]; exact ⟨Nat.le_refl _, fun b hb => hb⟩
  | succ k ih =>
   intro hk
   obtain ⟨i1, i2⟩ := ih (by omega)
   have co := (g7 k (by omega)).2
   exact ⟨Nat.le_trans i1 co.nn, fun b hb => by rw [co.w]; exact List.mem_append_right _ (i2 b hb)⟩
 have := key l.length (Nat.le_refl _)
 rw [g5, g6] at this
 exact this
theorem regs_ok (hc : CfgOk c) (hI : Inv base I) (hmix : c.P.follows .mixedOrders = true) (hprim : PrimOk c base I) (hcall : CallOk c base I call) : RegOk c base I call := by
 intro ro id ops draw s outs ho
 cases draw with
 | false =>
  simp only [regD, cond_false] at ho
  obtain ⟨l, h1, h2⟩ := R.bind_ok ho
  cases h2
  have u := opsD_up _ _ _ h1
  refine ⟨⟨by simpa using u.ne, fun o ho => ?_, fun o ho b hb => ?_⟩, fun r hro ρ a w hs hf => ?_⟩
  ·obtain ⟨x, hx, rfl⟩ := List.mem_map.1 ho; exact u.n x hx
  ·obtain ⟨x, hx, rfl⟩ := List.mem_map.1 ho; exact u.w x hx b hb
  ·refine wpIn_region_list (ops_wp hc hI hcall hprim hro ops _ s l h1 ρ a w hs (fun o ho => hf _ (List.mem_map.2 ⟨o, ho, rfl⟩)) (fun o ho a' w' ht => ?_))
   exact ⟨_, List.mem_map.2 ⟨o, ho, rfl⟩, trivial, ht⟩
 | true =>
  simp only [regD, cond_true] at ho
  obtain ⟨s', h1, h2⟩ := R.bind_ok ho
  cases h2
  obtain ⟨u1, u2⟩ := draw_up ops.toList 0 [] s.T s.h s.w s' (fun r hr => by cases hr) h1
  refine ⟨⟨by simp, fun o ho => ?_, fun o ho b hb => ?_⟩, fun r hro ρ a w hs hf => ?_⟩
  ·simp only [List.mem_singleton] at ho; subst ho; exact u1
  ·simp only [List.mem_singleton] at ho; subst ho; exact u2 b hb
  ·obtain ⟨q, g1, g2, g3, g4, g5, g6, g7⟩ := drawD_run ops.toList 0 [] s.T s.h s.w s' (fun r hr => by cases hr) h1
   have hlen : ops.toList.length = ops.size := by simp
   rw [hlen] at g4 g5 g6 g7
   have hrun : Run c call ops q := ⟨fun k hk => by
    obtain ⟨k1, k2⟩ := g7 k hk
    rw [List.append_nil, Nat.zero_add] at k2
    exact ⟨by simpa using k1, k2⟩⟩
   have hfree := hf (.normal, ⟨s'.T, s'.h, s'.w, s.d⟩) (by simp)
   have hfree0 : Free ρ (q 0).h.n (q ops.size).h.n := by rw [g2, g5]; exact hfree
   have hrel0 : Rel base c.n0 ρ (q 0).h.t.get w.drew := by
    rw [g2]
    have hr := hs.rel
    exact ⟨fun b o hb => by obtain ⟨k, d, k1, k2⟩ := hr.at_ b o hb; exact ⟨k, d, k1, k2.grow (.drew w) rfl⟩, hr.inj, hr.high, hr.low, hr.sz⟩
   have hIw : I w.drew := hI.on _ _ hs.inv ⟨rfl, rfl, rfl, Nat.le_refl _, fun _ _ => rfl⟩
   have hm : (q 0).T.m ≤ lim := by rw [g1]; exact hs.lim
   refine wpIn_region_any hmix ?_
   show wpAnyIn (FW r) 0 c.P .any ops _ ops.size _ a w.drew
   have hfalse : ∀ j, (Array.replicate ops.size false).getD j false = false := fun j => by
    rw [Array.getD_eq_getD_getElem?, Array.getElem?_replicate]
    split <;> rfl
   have hT0 : ∀ t, fT q (fun j => (Array.replicate ops.size false).getD j false) ops.size t = (q 0).T.get t := fun t => FX_cut 0 ops.size (Nat.zero_le _) (fun j _ _ hj _ => by rw [hfalse j] at hj; cases hj)
   have hH0 : fH q (fun j => (Array.replicate ops.size false).getD j false) ops.size = (q 0).h.t.get := by
    funext b
    exact FX_cut 0 ops.size (Nat.zero_le _) (fun j _ _ hj _ => by rw [hfalse j] at hj; cases hj)
   have hn0 : ∀ b, (q 0).h.n ≤ b → b < (q ops.size).h.n → (q 0).h.t.get b = none := fun b hb1 hb2 => by
    cases e : (q 0).h.t.get b with
    | none => rfl
    | some o => obtain ⟨k, d, hk, _⟩ := hrel0.at_ b o e; rw [hfree0 b hb1 hb2] at hk; cases hk
   refine any_wp (w0s := s.w) (a0 := a) hc hI hcall hprim hrun hm r hrel0 hfree0 (fun S a' w' ρ' W' hall hinv => ?_) ops.size (Array.replicate ops.size false) a w.drew ρ [] (by simp) (fun j hj hSj => absurd ((hfalse j).symm.trans hSj) (by simp)) ?_ ?_
   ·
    have hTN : ∀ t, t < (q 0).T.m → fT q S ops.size t = (q ops.size).T.get t := fun t ht => by
     rw [hrun.T_all hm ops.size (Nat.le_refl _) t ht]
     exact FX_congr ops.size t (fun j hj _ => hall j hj)
    have hHN : fH q S ops.size = (q ops.size).h.t.get := by
     funext b
     rw [hrun.H_all ops.size (Nat.le_refl _) b]
     exact FX_congr ops.size b (fun j hj _ => hall j hj)
    have hmN := hrun.m ops.size (Nat.le_refl _)
    have hext := hinv.ext
    rw [hHN, g2, g5] at hext
    have hwr : ∀ b ∈ s'.w, c.n0 ≤ b := by
     have key : ∀ k, k ≤ ops.size → ∀ b ∈ (q k).w, c.n0 ≤ b := by
      intro k
      induction k with
      | zero => intro _ b hb; rw [g3] at hb; exact hs.wr b hb
      | succ k ih =>
       intro hk b hb
       rw [(hrun.co (k := k) (by omega)).w] at hb
       rcases List.mem_append.1 hb with hb | hb
       ·exact hinv.wrn k (by omega) (hall k (by omega)) b hb
       ·exact ih (by omega) b hb
     rw [← g6]
     exact key ops.size (Nat.le_refl _)
    have hsub : ∀ b ∈ W', b ∈ s'.w := by
     have key : ∀ k, k ≤ ops.size → (∀ b ∈ s.w, b ∈ (q k).w) ∧ ∀ j, j < k → ∀ b ∈ (q j).r.wr, b ∈ (q k).w := by
      intro k
      induction k with
      | zero => intro _; exact ⟨fun b hb => by rw [g3]; exact hb, fun j hj => by omega⟩
      | succ k ih =>
       intro hk
       obtain ⟨i1, i2⟩ := ih (by omega)
       rw [(hrun.co (k := k) (by omega)).w]
       refine ⟨fun b hb => List.mem_append_right _ (i1 b hb), fun j hj b hb => ?_⟩
       by_cases e : j = k
       ·subst e; exact List.mem_append_left _ hb
       ·exact List.mem_append_right _ (i2 j (by omega) b hb)
     obtain ⟨k1, k2⟩ := key ops.size (Nat.le_refl _)
     intro b hb
     rw [← g6]
     rcases hinv.wr b hb with h5 | ⟨j, h5, _, h6⟩
     ·exact k1 b h5
     ·exact k2 j h5 b h6
    have hext' : Ext base c.n0 ρ s.h.t.get s.h.n w ρ' s'.h.t.get s'.h.n s'.w w' := by
     have h5 := hext.weaken hsub hwr
     exact ⟨h5.le, h5.dom, h5.nn, h5.rel, (Grow.drew w).trans h5.grow, fun k hk hw => h5.frame k hk hw, h5.new, h5.old, h5.wr⟩
    refine ⟨(.normal, ⟨s'.T, s'.h, s'.w, s.d⟩), by simp, trivial, ρ', ⟨⟨?_, fun t ht => ?_⟩, by rw [hinv.defers]; exact (hs.dr.le hext'.le).grow hext'.grow, hext'.rel, hinv.glob, ?_, hwr, hinv.inv⟩, hext'⟩
    ·rw [← g4, hmN]; exact hinv.size
    ·have ht : t < s'.T.m := ht
     show TV ρ' w' (s'.T.get t) _
     rw [← g4] at ht ⊢
     rw [← hTN t (by omega)]
     exact hinv.tr t (by omega)
    ·rw [← g4, hmN]; exact hm
   ·refine ⟨by rw [g1]; exact hs.tr.size, fun t ht => ?_, rfl, hs.glob, hIw, fun j hj _ => fun b hb1 hb2 => hfree0 b (Nat.le_trans (hrun.mono (Nat.zero_le j) (by omega)) hb1) (Nat.lt_of_lt_of_le hb2 (hrun.mono (j := j + 1) (k := ops.size) (by omega) (Nat.le_refl _))), ?_, (fun b hb => by cases hb), fun j hj hSj => absurd ((hfalse j).symm.trans hSj) (by simp)⟩
    ·rw [hT0 t, g1]
     exact (hs.tr.at_ t (by rw [← g1]; exact ht)).grow (.drew w)
    ·rw [hH0]
     have hnn := hrun.mono (j := 0) (k := ops.size) (Nat.zero_le _) (Nat.le_refl _)
     exact ⟨.refl ρ, fun b x hb => .inl hb, hnn, hrel0, .refl _, fun _ _ _ => rfl, fun b k d k1 k2 k3 => absurd (hn0 b k1 k2) k3, fun b _ => .inl rfl, fun b hb => by cases hb⟩
   ·have : ∀ n, cnt (fun j => (Array.replicate ops.size false).getD j false) n ≤ n := by
     intro n
     induction n with
     | zero => exact Nat.le_refl _
     | succ n ih => unfold cnt; split <;> omega
    exact this ops.size
end
theorem sound {c : Cfg} {base : Nat} {I : World → Prop} (hc : CfgOk c) (hI : Inv base I) (hmix : c.P.follows .mixedOrders = true) (hname : ∀ f fn, c.fns f = some fn → (fn.name == "runtime.NumGoroutine") = false) (hprim : PrimOk c base I) (hlops : LopsOk c base I) (k : Nat) : CallOk c base I (callD c k) :=
 callD_ok hc hI hname hprim hlops (fun call hcall => regs_ok hc hI hmix hprim hcall) k
end
section
open Go
set_option linter.unusedSectionVars false
variable [Eta]
noncomputable def cfgL (P : Program) (G n0 : Nat) (eqs : TypeId → Bool) (prim : FuncId → List Value → Hp → Option Value) (facts : List Fact) (rows : List RF) (lops : FuncId → Code → St → Option (List (Ex × St))) (live : Nat → Nat → Option (List Nat)) : Cfg where
 P := P
 G := G
 n0 := n0
 und := fun t => P.underlying t
 siz := fun t => (P.info? t).map (·.size)
 zer := fun t => ((P.info? t).bind (·.zero)).bind fun z => bif pfd 2 z then some z else none
 byt := fun t => (P.info? t).map (·.bytes)
 eqs := eqs
 fns := fun f => P.funcs[f]?
 met := fun t m => (P.info? t).bind fun i => (i.methods.find? (·.name == m)).bind fun r => bif r.path.isEmpty then r.func else none
 prim := prim
 facts := facts
 rows := rows
 lops := lops
 live := live
theorem cfgL_ok (P : Program) (G n0 : Nat) (eqs : TypeId → Bool) (prim : FuncId → List Value → Hp → Option Value) (facts : List Fact) (rows : List RF) (lops : FuncId → Code → St → Option (List (Ex × St))) (live : Nat → Nat → Option (List Nat)) (he : ∀ t, eqs t = true → P.stoodInHeld t = false ∧ P.eqGuardType P.depth t = false) : CfgOk (cfgL P G n0 eqs prim facts rows lops live) where
 und := fun t d h => h
 siz := fun t n h => h
 zer := fun t z h => by
  obtain ⟨z', h1, h2⟩ := Option.bind_eq_some_iff.1 (show ((P.info? t).bind (·.zero)).bind (fun z => bif pfd 2 z then some z else none) = some z from h)
  cases e : pfd 2 z' with
  | false => rw [e] at h2; cases h2
  | true => rw [e] at h2; cases h2; exact ⟨h1, e⟩
 fns := fun f fn h => h
 byt := fun t n h => h
 eqs := he
 met := fun t m p h => by
  obtain ⟨i, h1, h2⟩ := Option.bind_eq_some_iff.1 (show (P.info? t).bind (fun i => (i.methods.find? (·.name == m)).bind fun r => bif r.path.isEmpty then r.func else none) = some p from h)
  obtain ⟨r, h3, h4⟩ := Option.bind_eq_some_iff.1 h2
  cases e : r.path.isEmpty with
  | false => rw [e] at h4; cases h4
  | true => rw [e] at h4; exact ⟨i, r, h1, h3, Array.isEmpty_iff.1 e, h4⟩
noncomputable def eqsOf (P : Program) (t : TypeId) : Bool := bif P.stoodInHeld t then false else !P.eqGuardType P.depth t
theorem eqsOf_ok {P : Program} {t : TypeId} (h : eqsOf P t = true) : P.stoodInHeld t = false ∧ P.eqGuardType P.depth t = false := by
 unfold eqsOf at h
 cases e : P.stoodInHeld t with
 | true => rw [e] at h; cases h
 | false => rw [e] at h; exact ⟨rfl, by simpa using h⟩
end
end Go.Proofs.YtaiokpmmjbiajaaGreatDoorDx
