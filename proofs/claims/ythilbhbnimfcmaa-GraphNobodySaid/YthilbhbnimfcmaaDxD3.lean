/- A part of the proof that the interpreter of YthilbhbnimfcmaaDxDx is sound: what it computes of a call, the call comes to in the model. No condition beyond those that each theorem names. -/
import Derived.Test.YthilbhbnimfcmaaDxD2
namespace Go.Proofs.YthilbhbnimfcmaaDx
open Go
set_option linter.unusedVariables false
set_option linter.unusedSimpArgs false

theorem EV_of {c : Cfg} {ρ : Emb} {w : World} {T : Tm} {a : Act} {x : Operand} (h : ∀ t, x = .tmp t → t < T.m → TV ρ w (T.get t) (a.tmps.getD t undef)) (hg : Glob c ρ) : EV c ρ w T a x := by
  intro v hv
  cases x with
  | tmp t =>
    simp only [_root_.Go.Proofs.YthilbhbnimfcmaaDx.ev] at hv
    cases e : Nat.blt t T.m with
    | false => rw [e] at hv; cases hv
    | true =>
      rw [e] at hv
      exact h t rfl (blt_t e) v hv
  | const k =>
    simp only [_root_.Go.Proofs.YthilbhbnimfcmaaDx.ev] at hv
    cases e : pfd 3 k with
    | false => rw [e] at hv; cases hv
    | true => rw [e] at hv; cases hv; exact VR.flatd 3 e
  | global g =>
    simp only [_root_.Go.Proofs.YthilbhbnimfcmaaDx.ev] at hv
    cases e : Nat.blt g c.G with
    | false => rw [e] at hv; cases hv
    | true => rw [e] at hv; cases hv; exact .ptr g 0 g 0 (hg g (blt_t e))
  | func f =>
    simp only [_root_.Go.Proofs.YthilbhbnimfcmaaDx.ev] at hv
    cases hv
    exact .func _ (fun l e => by cases e) _ _ _ _ rfl (fun i x y hx => by simp at hx) rfl (fun i x y hx => by simp at hx)
def cnt (S : Nat → Bool) : Nat → Nat
  | 0 => 0
  | n + 1 => cnt S n + if S n then 0 else 1
theorem cnt_same {S S' : Nat → Bool} : ∀ n, (∀ j, j < n → S' j = S j) → cnt S' n = cnt S n
  | 0, h => rfl
  | n + 1, h => by unfold cnt; rw [cnt_same n (fun j hj => h j (by omega)), h n (by omega)]
theorem cnt_put {S S' : Nat → Bool} {i : Nat} (h1 : S i = false) (h2 : S' i = true) (h3 : ∀ j, j ≠ i → S' j = S j) : ∀ n, i < n → cnt S' n + 1 = cnt S n
  | 0, h => by omega
  | n + 1, h => by
    unfold cnt
    by_cases e : i = n
    · subst e
      rw [cnt_same i (fun j hj => h3 j (by omega)), h1, h2]
      simp
    · have := cnt_put h1 h2 h3 n (by omega)
      rw [h3 n (fun e' => e e'.symm)]
      omega
theorem cnt_zero {S : Nat → Bool} : ∀ n, cnt S n = 0 → ∀ j, j < n → S j = true
  | 0, h, j, hj => by omega
  | n + 1, h, j, hj => by
    unfold cnt at h
    by_cases e : j = n
    · subst e
      cases hs : S j with
      | true => rfl
      | false => rw [hs] at h; simp at h
    · exact cnt_zero n (by omega) j (by omega)

theorem befD_bit {o : Oper} {rs : List Rec} {j : Nat} (h : (befD rs o).testBit j = true) : ∃ e ∈ o.after.toList, Region.binds .any e = true ∧ (j = e.on ∨ ∃ r ∈ rs, r.i = e.on ∧ r.bef.testBit j = true) := by
  unfold befD at h
  have key : ∀ (l : List Edge) (s : Nat), (l.foldl (fun s e => if Region.binds .any e then s ||| 2 ^ e.on ||| (match rs.find? (fun r => Nat.beq r.i e.on) with | some r => r.bef | none => 0) else s) s).testBit j = true →
      s.testBit j = true ∨ ∃ e ∈ l, Region.binds .any e = true ∧ (j = e.on ∨ ∃ r ∈ rs, r.i = e.on ∧ r.bef.testBit j = true) := by
    intro l
    induction l with
    | nil => intro s hs; exact .inl hs
    | cons e l ih =>
      intro s hs
      simp only [List.foldl_cons] at hs
      rcases ih _ hs with h1 | ⟨e', h1, h2⟩
      · split at h1
        · rename_i hb
          rw [Nat.testBit_or, Nat.testBit_or] at h1
          simp only [Bool.or_eq_true] at h1
          rcases h1 with (h1 | h1) | h1
          · exact .inl h1
          · rw [Nat.testBit_two_pow] at h1
            exact .inr ⟨e, by simp, hb, .inl (by simpa using (of_decide_eq_true h1).symm)⟩
          · split at h1
            · rename_i r hr
              exact .inr ⟨e, by simp, hb, .inr ⟨r, List.mem_of_find?_eq_some hr, beq_t (List.find?_some (p := fun (r : Rec) => Nat.beq r.i e.on) hr), h1⟩⟩
            · simp at h1
        · exact .inl h1
      · exact .inr ⟨e', by simp [h1], h2⟩
  rcases key _ _ h with h1 | h1
  · simp at h1
  · exact h1
theorem clash_none {w : List Nat} (h : clash w none = false) : w = [] := by
  unfold clash at h
  cases w with
  | nil => rfl
  | cons x l => simp at h
theorem memN_iff {b : Nat} {l : List Nat} : memN b l = true ↔ b ∈ l := by
  unfold memN
  rw [List.any_eq_true]
  constructor
  · rintro ⟨x, h1, h2⟩; rw [beq_t h2]; exact h1
  · intro h; exact ⟨b, h, by simp⟩
theorem meets_f {a b : List Nat} (h : meets a b = false) : ∀ x ∈ a, x ∉ b := fun x hx hb => by
  unfold meets at h
  rw [List.any_eq_false] at h
  exact h x hx (memN_iff.2 hb)
theorem clash_some {w l : List Nat} (h : clash w (some l) = false) : ∀ b ∈ w, b ∉ l := meets_f h
theorem apart_spec {ops : Array Oper} {x y : Rec} (h : apartD ops x y = true) :
    (∀ d, x.o.dst = some d → d ∉ Oper.looksAt ops y.o) ∧ (∀ d, y.o.dst = some d → d ∉ Oper.looksAt ops x.o) ∧ (∀ d, x.o.dst = some d → y.o.dst ≠ some d) ∧ clash y.wr x.foot = false ∧ clash x.wr y.foot = false ∧
    (∀ b ∈ x.wr, b ∉ y.wr) ∧ (∀ b ∈ y.wr, inSeg x b = false) ∧ (∀ l, y.foot = some l → ∀ b ∈ l, inSeg x b = false) := by
  unfold apartD at h
  simp only [Bool.and_eq_true, Bool.not_eq_true'] at h
  obtain ⟨⟨⟨⟨⟨⟨⟨h1, h2⟩, h3⟩, h4⟩, h5⟩, h6⟩, h7⟩, h8⟩ := h
  refine ⟨fun d hd hm => ?_, fun d hd hm => ?_, fun d hd he => ?_, h4, h5, meets_f h6, fun b hb => ?_, fun l hl b hb => ?_⟩
  · rw [hd] at h1
    have : memN d (looks ops y.o) = true := memN_iff.2 hm
    have h1' : memN d (looks ops y.o) = false := h1
    rw [this] at h1'; cases h1'
  · rw [hd] at h2
    have : memN d (looks ops x.o) = true := memN_iff.2 hm
    have h2' : memN d (looks ops x.o) = false := h2
    rw [this] at h2'; cases h2'
  · rw [hd, he] at h3
    simp at h3
  · rw [List.any_eq_false] at h7
    simpa using h7 b hb
  · rw [hl] at h8
    simp only [Bool.not_eq_true', List.any_eq_false] at h8
    simpa using h8 b hb
theorem inSeg_f {x : Rec} {b : Nat} (h : inSeg x b = false) : ¬ (x.n ≤ b ∧ b < x.n') := fun hh => by
  unfold inSeg at h
  rw [Nat.ble_eq_true_of_le hh.1] at h
  simp only [Bool.true_and] at h
  exact blt_f h hh.2
end Go.Proofs.YthilbhbnimfcmaaDx
