/- A part of the proof that the interpreter of YthilbhbnimfcmaaDxDx is sound: what it computes of a call, the call comes to in the model. No condition beyond those that each theorem names. -/
import Derived.Test.YthilbhbnimfcmaaDxR18
import Derived.Test.YthilbhbnimfcmaaDxD1
namespace Go.Proofs.YthilbhbnimfcmaaDx
open Go
set_option linter.unusedVariables false
set_option linter.unusedSimpArgs false

/-- All that is told of one operation of a region: the frame and the memory ahead of it, what it saw and gave. -/
structure Q where
  T : Tm
  h : Hp
  w : List Nat
  r : Rec
  b : Bool
  v : Value
  M : PT Ob
  h' : Hp
  Wf : List Nat
def rcs (q : Nat → Q) : Nat → List Rec
  | 0 => []
  | k + 1 => (q k).r :: rcs q k
def touchH (q : Nat → Q) (k b : Nat) : Prop := b ∈ (q k).r.wr ∨ ((q k).r.n ≤ b ∧ b < (q k).r.n')
instance (q : Nat → Q) (k b : Nat) : Decidable (touchH q k b) := by unfold touchH; exact inferInstance
def touchT (q : Nat → Q) (k t : Nat) : Prop := (q k).r.o.dst = some t
instance (q : Nat → Q) (k t : Nat) : Decidable (touchT q k t) := by unfold touchT; exact inferInstance

/-- What is so of an operation (place i; rs: the records ahead of it; y: what is told of the next). -/
structure Cond (c : Cfg) (call : CallD) (ops : Array Oper) (i : Nat) (rs : List Rec) (x y : Q) : Prop where
  edge : ∀ e ∈ x.r.o.after.toList, Region.binds .any e = true → e.on < i
  num : x.r.i = i
  bef : x.r.bef = befD rs x.r.o
  n : x.r.n = x.h.n
  n' : x.r.n' = y.h.n
  nn : x.h.n ≤ y.h.n
  want : wantedD ops x.T x.r.o = some x.b
  yes : x.b = true → opD c call x.T ⟨x.M, x.h.n⟩ x.r.o = .ok [(x.v, x.h', x.Wf)] ∧ x.h'.n = y.h.n ∧ ((∀ b, b ∈ x.r.wr ↔ b ∈ x.Wf ∧ b < x.h.n) ∧ ∀ b ∈ x.Wf, b < y.h.n) ∧
    (∀ b o, x.M.get b = some o → x.h.t.get b = some o ∧ match x.r.foot with | some l => b ∈ l | none => ∀ r ∈ rs, x.r.bef.testBit r.i = false → inSeg r b = false) ∧
    (∀ b, y.h.t.get b = if b ∈ x.r.wr ∨ (x.h.n ≤ b ∧ b < y.h.n) then x.h'.t.get b else x.h.t.get b)
  no : x.b = false → x.v = undef ∧ y.h = x.h ∧ x.r.wr = []
  T : y.T = putD x.T x.r.o.dst x.v
  w : y.w = x.r.wr ++ x.w
  apart : ∀ r ∈ rs, x.r.bef.testBit r.i = false → apartD ops r x.r = true

theorem mergeD_get (t' : PT Ob) : ∀ (l : List Nat) (t : PT Ob) (b : Nat), (∀ x ∈ l, x < lim) → (mergeD t t' l).get b = if b ∈ l then t'.get b else t.get b
  | [], t, b, h => by simp [mergeD]
  | x :: l, t, b, h => by
    unfold mergeD
    rw [mergeD_get t' l _ b (fun y hy => h y (by simp [hy]))]
    by_cases h1 : b ∈ l
    · rw [if_pos h1, if_pos (by simp [h1])]
    · rw [if_neg h1]
      by_cases h2 : b = x
      · subst h2; rw [if_pos (by simp), PT.get_put_same _ _ _ (h b (by simp))]
      · rw [if_neg (by simp [h1, h2]), PT.get_put_other _ _ _ _ h2]
theorem hideD_get : ∀ (l : List Nat) (t : PT Ob) (b : Nat) (o : Ob), (∀ x ∈ l, x < lim) → (hideD t l).get b = some o → t.get b = some o ∧ b ∉ l
  | [], t, b, o, h, e => ⟨e, by simp⟩
  | x :: l, t, b, o, h, e => by
    unfold hideD at e
    obtain ⟨h1, h2⟩ := hideD_get l _ b o (fun y hy => h y (by simp [hy])) e
    by_cases h3 : b = x
    · subst h3; rw [PT.get_put_same _ _ _ (h b (by simp))] at h1; cases h1
    · rw [PT.get_put_other _ _ _ _ h3] at h1; exact ⟨h1, by simp [h2, h3]⟩
theorem mem_segL : ∀ (k n b : Nat), b ∈ segL n k ↔ n ≤ b ∧ b < n + k
  | 0, n, b => by simp [segL]
  | k + 1, n, b => by
    simp only [segL, List.mem_cons, mem_segL k (n + 1) b]
    omega
theorem rcs_num {c : Cfg} {call : CallD} {ops : Array Oper} {q : Nat → Q} : ∀ (k : Nat) (r : Rec), r ∈ rcs q k ↔ ∃ j, j < k ∧ (q j).r = r
  | 0, r => by simp [rcs]
  | k + 1, r => by
    simp only [rcs, List.mem_cons, rcs_num (c := c) (call := call) (ops := ops) k r]
    constructor
    · rintro (rfl | ⟨j, h1, h2⟩)
      · exact ⟨k, by omega, rfl⟩
      · exact ⟨j, by omega, h2⟩
    · rintro ⟨j, h1, h2⟩
      by_cases e : j = k
      · subst e; exact .inl h2.symm
      · exact .inr ⟨j, by omega, h2⟩
/-- What the computation has seen. -/
theorem drawD_run {c : Cfg} {call : CallD} {ops : Array Oper} : ∀ (l : List Oper) (i : Nat) (rs : List Rec) (T : Tm) (h : Hp) (w : List Nat) (s : Dr), (∀ r ∈ rs, r.n' ≤ lim ∨ r.n' ≤ r.n) → drawD c call ops i l rs T h w = .ok s →
    ∃ q : Nat → Q, (q 0).T = T ∧ (q 0).h = h ∧ (q 0).w = w ∧ (q l.length).T = s.T ∧ (q l.length).h = s.h ∧ (q l.length).w = s.w ∧
      ∀ k, k < l.length → l[k]? = some (q k).r.o ∧ Cond c call ops (i + k) (rcs q k ++ rs) (q k) (q (k + 1))
  | [], i, rs, T, h, w, s, hrs, e => by
    unfold drawD at e
    cases e
    exact ⟨fun _ => ⟨T, h, w, ⟨0, default, 0, none, [], 0, 0⟩, false, undef, .leaf, h, []⟩, rfl, rfl, rfl, rfl, rfl, rfl, fun k hk => by simp at hk⟩
  | o :: l, i, rs, T, h, w, s, hrs, e => by
    unfold drawD at e
    simp only at e
    obtain ⟨u, e1, e⟩ := R.bind_ok e
    have e1 := R.of_ok e1
    split at e1
    case isFalse => cases e1
    rename_i hedge
    obtain ⟨b, e2, e⟩ := R.bind_ok e
    have e2 := R.of_ok e2
    have hedge' : ∀ e ∈ o.after.toList, Region.binds .any e = true → e.on < i := fun e he hb => by
      have := List.all_eq_true.1 hedge e he
      simp [hb] at this
      exact this
    -- the rest
    have fin : ∀ (r : Rec) (v : Value) (M : PT Ob) (h1 h' : Hp) (Wf : List Nat) (s1 : Dr), r.o = o → drawD c call ops (i + 1) l (r :: rs) (putD T o.dst v) h1 (r.wr ++ w) = .ok s → (r.n' ≤ lim ∨ r.n' ≤ r.n) →
        (∀ y : Q, y.T = putD T o.dst v → y.h = h1 → y.w = r.wr ++ w → Cond c call ops i rs ⟨T, h, w, r, b, v, M, h', Wf⟩ y) →
        ∃ q : Nat → Q, (q 0).T = T ∧ (q 0).h = h ∧ (q 0).w = w ∧ (q (o :: l).length).T = s.T ∧ (q (o :: l).length).h = s.h ∧ (q (o :: l).length).w = s.w ∧
          ∀ k, k < (o :: l).length → (o :: l)[k]? = some (q k).r.o ∧ Cond c call ops (i + k) (rcs q k ++ rs) (q k) (q (k + 1)) := by
      intro r v M h1 h' Wf s1 hro hd hlim hc
      obtain ⟨q, g1, g2, g3, g4, g5, g6, g7⟩ := drawD_run l (i + 1) (r :: rs) _ h1 _ s (fun x hx => by rcases List.mem_cons.1 hx with rfl | hx; exact hlim; exact hrs x hx) hd
      let q' : Nat → Q := fun k => match k with | 0 => ⟨T, h, w, r, b, v, M, h', Wf⟩ | k + 1 => q k
      have hr : ∀ k, rcs q' (k + 1) ++ rs = rcs q k ++ (r :: rs) := by
        intro k
        induction k with
        | zero => rfl
        | succ k ih =>
          show (q' (k + 1)).r :: rcs q' (k + 1) ++ rs = (q k).r :: rcs q k ++ (r :: rs)
          rw [List.cons_append, List.cons_append, ih]
      refine ⟨q', rfl, rfl, rfl, g4, g5, g6, fun k hk => ?_⟩
      cases k with
      | zero => exact ⟨by rw [← hro]; rfl, hc (q 0) g1 g2 g3⟩
      | succ k =>
        obtain ⟨f1, f2⟩ := g7 k (by simpa using hk)
        refine ⟨by simpa using f1, ?_⟩
        rw [hr k, show i + (k + 1) = i + 1 + k by omega]
        exact f2
    cases b with
    | true =>
      simp only [cond_true] at e
      obtain ⟨outs, e3, e⟩ := R.bind_ok e
      split at e
      · rename_i x
        cases e4 : (List.all (rs.filter fun r => !(befD rs o).testBit r.i) (fun q => apartD ops q ⟨i, o, befD rs o, footD c T o, x.2.2.filter (fun b => Nat.blt b h.n), h.n, x.2.1.n⟩) && Nat.blt x.2.1.n lim && idsOk (footD c T o) && (x.2.2.filter (fun b => Nat.blt b h.n)).all (fun b => Nat.blt b lim) && x.2.2.all (fun b => Nat.blt b x.2.1.n)) with
        | false => rw [e4] at e; cases e
        | true =>
          rw [e4] at e
          simp only [cond_true] at e
          simp only [Bool.and_eq_true] at e4
          obtain ⟨⟨⟨⟨e5, e6⟩, e7⟩, e8⟩, e9⟩ := e4
          have hlim := blt_t e6
          have hchk : h.n ≤ x.2.1.n := by
            unfold opD at e3
            obtain ⟨os, k1, k2⟩ := R.bind_ok e3
            obtain ⟨rfl, k3, k4⟩ := chk_ok k2
            exact k4 x (by simp)
          refine fin _ x.1 (maskD (footD c T o) h.t ((rs.filter fun r => !(befD rs o).testBit r.i).flatMap fun r => segL r.n (r.n' - r.n))) _ x.2.1 x.2.2 s rfl e (.inl (Nat.le_of_lt hlim)) (fun y y1 y2 y3 => ?_)
          refine ⟨hedge', rfl, rfl, rfl, by rw [y2], by rw [y2]; exact hchk, e2, fun _ => ⟨e3, by rw [y2], ⟨fun b => by simp [List.mem_filter, Nat.blt_eq], fun b hb => by rw [y2]; exact blt_t (List.all_eq_true.1 e9 b hb)⟩, fun b ob hb => ?_, fun b => ?_⟩, fun hh => (by cases hh), y1, y3, fun r hr hb => ?_⟩
          · simp only at hb ⊢
            unfold maskD at hb
            split at hb
            · rename_i ids hf
              rw [hf] at e7
              simp only [idsOk] at e7
              rw [mergeD_get _ _ _ _ (fun z hz => blt_t (List.all_eq_true.1 e7 z hz))] at hb
              split at hb
              · rename_i hm; exact ⟨hb, by rw [hf]; exact hm⟩
              · simp [PT.get_leaf] at hb
            · rename_i hf
              obtain ⟨f1, f2⟩ := hideD_get _ _ _ _ (fun z hz => by
                obtain ⟨r, hr, hz⟩ := List.mem_flatMap.1 hz
                have hr' := (List.mem_filter.1 hr).1
                have := (mem_segL _ _ _).1 hz
                rcases hrs r hr' with h9 | h9 <;> omega) hb
              refine ⟨f1, ?_⟩
              rw [hf]
              intro r hr hbit
              cases hs : inSeg r b with
              | false => rfl
              | true =>
                simp only [inSeg, Bool.and_eq_true] at hs
                have h1 := ble_t hs.1
                have h2 := blt_t hs.2
                exact absurd (List.mem_flatMap.2 ⟨r, List.mem_filter.2 ⟨hr, by simp [hbit]⟩, (mem_segL _ _ _).2 ⟨h1, by omega⟩⟩) f2
          · rw [y2]
            simp only
            rw [mergeD_get _ _ _ _ (fun z hz => by
              rcases List.mem_append.1 hz with hz | hz
              · exact blt_t (List.all_eq_true.1 e8 z hz)
              · have := (mem_segL _ _ _).1 hz; omega)]
            have : (b ∈ (x.2.2.filter fun b => Nat.blt b h.n) ++ segL h.n (x.2.1.n - h.n)) ↔ (b ∈ (x.2.2.filter fun b => Nat.blt b h.n) ∨ (h.n ≤ b ∧ b < x.2.1.n)) := by
              rw [List.mem_append, mem_segL]
              constructor <;> (rintro (h1 | h1); exact .inl h1; exact .inr (by omega))
            simp only [this]
          · exact List.all_eq_true.1 e5 r (List.mem_filter.2 ⟨hr, by simp [hb]⟩)
      · cases e
    | false =>
      simp only [cond_false] at e
      cases e4 : (List.all (rs.filter fun r => !(befD rs o).testBit r.i) (fun q => apartD ops q ⟨i, o, befD rs o, some [], [], h.n, h.n⟩)) with
      | false => rw [e4] at e; cases e
      | true =>
        rw [e4] at e
        simp only [cond_true] at e
        · refine fin ⟨i, o, befD rs o, some [], [], h.n, h.n⟩ undef .leaf h h [] s rfl e (.inr (Nat.le_refl _)) (fun y y1 y2 y3 => ?_)
          exact ⟨hedge', rfl, rfl, rfl, by rw [y2], by rw [y2]; exact Nat.le_refl _, e2, fun hh => (by cases hh), fun _ => ⟨rfl, y2, rfl⟩, y1, y3, fun r hr hb => List.all_eq_true.1 e4 r (List.mem_filter.2 ⟨hr, by simp [hb]⟩)⟩
end Go.Proofs.YthilbhbnimfcmaaDx
