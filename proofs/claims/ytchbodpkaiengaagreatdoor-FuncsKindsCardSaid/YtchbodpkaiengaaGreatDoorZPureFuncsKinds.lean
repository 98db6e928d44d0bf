/- A part of the proof of this claim. No condition beyond those that each theorem names. -/
import Derived.Test.YtchbodpkaiengaaGreatDoorZPFuncsKindsx5
namespace Go.Proofs.YtchbodpkaiengaaGreatDoor.Pure
set_option linter.unusedSimpArgs false
set_option linter.unusedVariables false
set_option maxRecDepth 4000
open Go.RowKit Go.Proofs.YtchbodpkaiengaaGreatDoor.PFuncsKinds Go.Proofs.YtchbodpkaiengaaGreatDoorW.PrintWords Go.Proofs.YtchbodpkaiengaaGreatDoorW.PrintLast Go.Proofs.YtchbodpkaiengaaGreatDoorW.PrintMore
theorem w1 {x : Nat} (h : x < 9223372036854775807) : wrap64 ((x : Int) + 1) = ((x + 1 : Nat) : Int) := by unfold wrap64; omega
theorem rd_at (l : List Int) (i : Nat) (h : i < l.length) : rd l (i : Int) = l[i] := by simp [rd, h]
theorem fits23 (k : Nat) (a : Int) : funcs_fits.f (k + 4) a [2, 3] = some (decide (a = 0 ∨ a = 2 ∨ a = 3)) := by
  unfold funcs_fits.f slices_Contains_int_int.f slices_Index_int_int.f
  by_cases h0 : a = 0
  · simp [h0]
  by_cases h2 : a = 2
  · simp [h0, h2, slices_Index_int_int.l0, rd]
  by_cases h3 : a = 3
  · simp [h0, h2, h3, slices_Index_int_int.l0, rd, wrap64]
  · simp [h0, h2, h3, slices_Index_int_int.l0, rd, wrap64]
theorem fits4 (k : Nat) (a : Int) : funcs_fits.f (k + 4) a [4] = some (decide (a = 0 ∨ a = 4)) := by
  unfold funcs_fits.f slices_Contains_int_int.f slices_Index_int_int.f
  by_cases h0 : a = 0
  · simp [h0]
  by_cases h2 : a = 4
  · simp [h0, h2, slices_Index_int_int.l0, rd]
  · simp [h0, h2, slices_Index_int_int.l0, rd, wrap64]
theorem fits2 (k : Nat) (a : Int) : funcs_fits.f (k + 4) a [2] = some (decide (a = 0 ∨ a = 2)) := by
  unfold funcs_fits.f slices_Contains_int_int.f slices_Index_int_int.f
  by_cases h0 : a = 0
  · simp [h0]
  by_cases h2 : a = 2
  · simp [h0, h2, slices_Index_int_int.l0, rd]
  · simp [h0, h2, slices_Index_int_int.l0, rd, wrap64]
theorem num_eq (a : Int) : marqueeref10_num.f a = some (decide (a = 0 ∨ a = 2 ∨ a = 3)) := by
  unfold marqueeref10_num.f marqueeref10_null.f
  by_cases h0 : a = 0
  · simp [h0]
  by_cases h2 : a = 2
  · simp [h0, h2]
  · simp [h0, h2]; by_cases h3 : a = 3 <;> simp [h3]
theorem text_eq (a : Int) : marqueeref10_text.f a = some (decide (a = 0 ∨ a = 4)) := by
  unfold marqueeref10_text.f marqueeref10_null.f
  by_cases h0 : a = 0
  · simp [h0]
  · simp [h0]; by_cases h3 : a = 4 <;> simp [h3]
theorem whole_eq (a : Int) : marqueeref10_whole.f a = some (decide (a = 0 ∨ a = 2)) := by
  unfold marqueeref10_whole.f marqueeref10_null.f
  by_cases h0 : a = 0
  · simp [h0]
  · simp [h0]; by_cases h3 : a = 2 <;> simp [h3]
theorem alike_no (l : List Int) (hn : l.length ≤ 9223372036854775807) : ∀ (j i k : Nat) (K : Int), i + j = l.length → j < k →
    ∃ r, funcs_alike.l0 k K false false l (l.length : Int) (i : Int) = some (r, false)
  | 0, i, k + 1, K, h, hk => by
    rw [funcs_alike.l0, if_neg (by omega), if_neg (by decide)]
    exact ⟨_, rfl⟩
  | j + 1, i, k + 1, K, h, hk => by
    rw [funcs_alike.l0, if_pos (by omega), if_pos (by omega), if_pos (by omega), w1 (by omega)]
    by_cases h0 : rd l (i : Int) = 0
    · rw [if_pos h0]
      exact alike_no l hn j (i + 1) k K (by omega) (by omega)
    · rw [if_neg h0, if_neg (by decide), if_neg (by decide)]
      exact alike_no l hn j (i + 1) k _ (by omega) (by omega)
theorem alike_both (l : List Int) (hn : l.length ≤ 9223372036854775807) (hg : ∀ x ∈ l, 0 ≤ x ∧ x ≤ 4) : ∀ (j i k m : Nat) (K out : Int) (s nu : Bool), i + j = l.length → j + 5 < k → 2 * j + 1 < m →
    (s = true → K = out ∧ 0 ≤ K ∧ K ≤ 4 ∧ nu = decide (K = 0 ∨ K = 2 ∨ K = 3)) → (s = false → nu = true ∧ K = 3 ∧ out = 3) →
    ∃ r ok q, funcs_alike.l0 k K s nu l (l.length : Int) (i : Int) = some (r, ok) ∧ marqueeref10_alike.l0 m l out (i : Int) = some (q, ok) ∧ (ok = true → r = q)
  | 0, i, k + 1, m + 1, K, out, s, nu, h, hk, hm, h1, h2 => by
    have e2 : marqueeref10_alike.l0 (m + 1) l out (i : Int) = some (out, true) := by rw [marqueeref10_alike.l0, if_neg (by omega)]
    rw [funcs_alike.l0, if_neg (by omega), e2]
    cases s with
    | true => exact ⟨_, _, _, rfl, rfl, fun _ => (h1 rfl).1⟩
    | false => obtain ⟨rfl, rfl, rfl⟩ := h2 rfl; exact ⟨_, _, _, rfl, rfl, fun _ => rfl⟩
  | j + 1, i, k + 1, m + 2, K, out, s, nu, h, hk, hm, h1, h2 => by
    have hx := hg l[i] (List.getElem_mem _)
    have hr := rd_at l i (by omega)
    obtain ⟨k, rfl⟩ : ∃ k', k = k' + 4 := ⟨k - 4, by omega⟩
    have IH := fun K' out' s' nu' => alike_both l hn hg j (i + 1) (k + 4) m K' out' s' nu' (by omega) (by omega) (by omega)
    have NO := fun K' => alike_no l hn j (i + 1) (k + 4) K' (by omega) (by omega)
    rw [funcs_alike.l0, if_pos (by omega), if_pos (by omega), if_pos (by omega), w1 (by omega), hr]
    simp only [fits23]
    have hl : ((i : Int) < (l.length : Int)) := by omega
    have h0i : (0 : Int) ≤ (i : Int) := by omega
    have e2 : marqueeref10_alike.l0 (m + 2) l out (i : Int) = if l[i] = 0 ∨ l[i] = out then marqueeref10_alike.l0 m l out ((i + 1 : Nat) : Int) else if out = 0 then marqueeref10_alike.l0 m l l[i] ((i + 1 : Nat) : Int) else if (out = 2 ∨ out = 3) ∧ (l[i] = 2 ∨ l[i] = 3) then marqueeref10_alike.l0 m l 3 ((i + 1 : Nat) : Int) else some (0, false) := by
      rw [marqueeref10_alike.l0, if_pos hl, if_pos h0i, hr, marqueeref10_null.f, Option.bind_some]
      have hw := w1 (x := i) (by omega)
      by_cases a : l[i] = 0
      · simp [a, marqueeref10_alike.j1, hw]
      by_cases b : l[i] = out
      · simp [← b, a, marqueeref10_alike.j1, hw]
      by_cases c : out = 0
      · simp [a, b, c, marqueeref10_alike.j1, hw, marqueeref10_null.f, hl, hr]
      by_cases d : out = 2 ∨ out = 3
      · by_cases e : l[i] = 2 ∨ l[i] = 3
        · simp [a, b, c, d, e, marqueeref10_alike.j1, hw, marqueeref10_null.f, num_eq, hl, hr]
        · simp [a, b, c, d, e, marqueeref10_alike.j1, hw, marqueeref10_null.f, num_eq, hl, hr]
      · simp [a, b, c, d, marqueeref10_alike.j1, hw, marqueeref10_null.f, num_eq, hl, hr]
    rw [e2]
    clear e2 hr hl h0i
    generalize l[i] = x at hx ⊢
    by_cases h0 : x = 0
    · subst h0
      rw [if_pos rfl, if_pos (Or.inl rfl)]
      exact IH K out s nu h1 h2
    rw [if_neg h0]
    cases s with
    | false =>
      obtain ⟨rfl, rfl, rfl⟩ := h2 rfl
      rw [if_neg (by decide), if_pos rfl, Option.bind_some]
      by_cases a : x = 2 ∨ x = 3
      · rw [show decide (x = 0 ∨ x = 2 ∨ x = 3) = true by simp [h0, a]]
        have e : mx 3 x = 3 := by unfold mx; split <;> omega
        rw [e]
        by_cases b : x = 3
        · rw [if_pos (Or.inr b)]
          exact IH 3 3 false true (fun h => by cases h) fun _ => ⟨rfl, rfl, rfl⟩
        · rw [if_neg (by omega), if_neg (by omega), if_pos ⟨by omega, a⟩]
          exact IH 3 3 false true (fun h => by cases h) fun _ => ⟨rfl, rfl, rfl⟩
      · rw [show decide (x = 0 ∨ x = 2 ∨ x = 3) = false by simp [h0, a], if_neg (by omega), if_neg (by omega), if_neg (by omega)]
        obtain ⟨r, hr⟩ := NO (mx 3 x)
        exact ⟨_, _, _, hr, rfl, fun h => by cases h⟩
    | true =>
      obtain ⟨rfl, k1, k2, rfl⟩ := h1 rfl
      rw [if_pos rfl]
      by_cases c : K = 0
      · subst c
        rw [if_pos rfl, if_pos (by decide), Option.bind_some, if_neg (by omega), if_pos rfl]
        have e : mx 0 x = x := by unfold mx; split <;> omega
        rw [e]
        exact IH x x true _ (fun _ => ⟨rfl, hx.1, hx.2, rfl⟩) fun h => by cases h
      rw [if_neg c]
      by_cases b : x = K
      · subst b
        have e : mx x x = x := by unfold mx; split <;> omega
        rw [e, if_pos (Or.inr rfl)]
        simp only [BEq.rfl]
        by_cases d : decide (x = 0 ∨ x = 2 ∨ x = 3) = true
        · rw [if_pos d, Option.bind_some]
          exact IH x x true _ (fun _ => ⟨rfl, hx.1, hx.2, rfl⟩) fun h => by cases h
        · rw [if_neg d]
          have d' : decide (x = 0 ∨ x = 2 ∨ x = 3) = false := by simpa using d
          exact IH x x true _ (fun _ => ⟨rfl, hx.1, hx.2, d'.symm⟩) fun h => by cases h
      have hb : (K == x) = false := by simp; omega
      rw [if_neg (by omega : ¬ (x = 0 ∨ x = K)), if_neg c, hb]
      by_cases d : K = 2 ∨ K = 3
      · rw [if_pos (by simp [c, d]), Option.bind_some]
        by_cases e : x = 2 ∨ x = 3
        · rw [if_pos ⟨d, e⟩, show decide (x = 0 ∨ x = 2 ∨ x = 3) = true by simp [h0, e]]
          have e : mx K x = 3 := by unfold mx; split <;> omega
          rw [e]
          exact IH 3 3 false true (fun h => by cases h) fun _ => ⟨rfl, rfl, rfl⟩
        · rw [if_neg (fun h => e h.2), show decide (x = 0 ∨ x = 2 ∨ x = 3) = false by simp [h0, e]]
          obtain ⟨r, hr⟩ := NO (mx K x)
          exact ⟨_, _, _, hr, rfl, fun h => by cases h⟩
      · rw [if_neg (by simp [c, d]), if_neg (fun h => d h.1)]
        obtain ⟨r, hr⟩ := NO (mx K x)
        exact ⟨_, _, _, hr, rfl, fun h => by cases h⟩
theorem alikes (l : List Int) (hn : l.length ≤ 9223372036854775807) (hg : ∀ x ∈ l, 0 ≤ x ∧ x ≤ 4) :
    ∃ r ok q, (ok = true → r = q) ∧ ∀ k, 2 * l.length + 6 ≤ k → funcs_alike.f k l = some (r, ok) ∧ marqueeref10_alike.f k l = some (q, ok) := by
  obtain ⟨r, ok, q, h1, h2, h3⟩ := alike_both l hn hg l.length 0 (l.length + 6) (2 * l.length + 2) 0 0 true true (by omega) (by omega) (by omega) (fun _ => ⟨rfl, by omega, by omega, by decide⟩) (fun h => by cases h)
  exact ⟨r, ok, q, h3, fun k hk => ⟨at_rounds (g := fun k => funcs_alike.f k l) (funcs_alike.mono l) (k := l.length + 6) (by omega) h1, at_rounds (g := fun k => marqueeref10_alike.f k l) (marqueeref10_alike.mono l) (k := 2 * l.length + 2) (by omega) h2⟩⟩
theorem concat1 (l : List Int) (hn : l.length ≤ 9223372036854775807) : ∀ (j i k : Nat) (b : Bool), i + j = l.length → j + 5 < k →
    funcs_Kind.l1 k 4 b l (l.length : Int) (i : Int) = some (if b = true ∧ ∀ x ∈ l.drop i, x = 0 ∨ x = 4 then (4, 0) else (0, 100))
  | 0, i, k + 1, b, h, hk => by
    rw [funcs_Kind.l1, if_neg (by omega)]
    have : l.drop i = [] := by simp; omega
    rw [this]
    cases b <;> simp
  | j + 1, i, k + 1, b, h, hk => by
    have IH := fun b => concat1 l hn j (i + 1) k b (by omega) (by omega)
    rw [funcs_Kind.l1, if_pos (by omega), if_pos (by omega), if_pos (by omega), w1 (by omega), rd_at l i (by omega)]
    obtain ⟨k, rfl⟩ : ∃ k', k = k' + 4 := ⟨k - 4, by omega⟩
    have e : l.drop i = l[i] :: l.drop (i + 1) := List.drop_eq_getElem_cons (by omega)
    rw [fits4, e]
    cases b with
    | false => rw [if_neg (by decide), IH]; simp
    | true =>
      rw [if_pos rfl, Option.bind_some, IH]
      simp only [List.mem_cons, forall_eq_or_imp, decide_eq_true_eq, true_and]
theorem concat2 (l : List Int) (hn : l.length ≤ 9223372036854775807) : ∀ (j i k : Nat) (b : Bool), i + j = l.length → j + 5 < k →
    marqueeref10_Kind.l1 k l (l.length : Int) b 4 (i : Int) = some (if b = true ∧ ∀ x ∈ l.drop i, x = 0 ∨ x = 4 then (4, 0) else (0, 100))
  | 0, i, k + 1, b, h, hk => by
    rw [marqueeref10_Kind.l1, if_neg (by omega)]
    have : l.drop i = [] := by simp; omega
    rw [this]
    cases b <;> simp
  | j + 1, i, k + 1, b, h, hk => by
    have IH := fun b => concat2 l hn j (i + 1) k b (by omega) (by omega)
    have e : l.drop i = l[i] :: l.drop (i + 1) := List.drop_eq_getElem_cons (by omega)
    rw [marqueeref10_Kind.l1, if_pos (by omega), w1 (by omega), e]
    cases b with
    | false => rw [if_neg (by decide), IH]; simp
    | true =>
      rw [if_pos rfl, if_pos (by omega), if_pos (by omega), rd_at l i (by omega), text_eq, Option.bind_some, IH]
      simp only [List.mem_cons, forall_eq_or_imp, decide_eq_true_eq, true_and]
theorem kinds1 (s : ByteArray) (l : List Int) (hn : l.length ≤ 9223372036854775807) (B : Nat) (R : Int × Int)
    (hR : (∀ x ∈ l, 0 ≤ x ∧ x ≤ 4) → ∀ k, B ≤ k → funcs_Kind.l0 (k + 1) s l l (l.length : Int) (l.length : Int) = some R) (hB : (¬ ∀ x ∈ l, 0 ≤ x ∧ x ≤ 4) → R = (0, 100)) :
    ∀ (j i k : Nat), i + j = l.length → B + j < k → (∀ n (h : n < i) (h' : n < l.length), 0 ≤ l[n] ∧ l[n] ≤ 4) → funcs_Kind.l0 k s l l (l.length : Int) (i : Int) = some R
  | 0, i, k + 1, h, hk, hg => by
    obtain rfl : i = l.length := by omega
    exact hR (fun x hx => by obtain ⟨n, hn, rfl⟩ := List.getElem_of_mem hx; exact hg n hn hn) k (by omega)
  | j + 1, i, k + 1, h, hk, hg => by
    rw [funcs_Kind.l0, if_pos (by omega), if_pos (by omega), if_pos (by omega), w1 (by omega), rd_at l i (by omega)]
    by_cases h1 : l[i] < 0
    · rw [if_pos h1, hB fun h => by have := h l[i] (List.getElem_mem _); omega]
    by_cases h2 : l[i] > 4
    · rw [if_neg h1, if_pos h2, hB fun h => by have := h l[i] (List.getElem_mem _); omega]
    · rw [if_neg h1, if_neg h2]
      exact kinds1 s l hn B R hR hB j (i + 1) k (by omega) (by omega) fun n h h' => by
        by_cases e : n = i
        · subst e; omega
        · exact hg n (by omega) h'
theorem kinds2 (s : ByteArray) (l : List Int) (hn : l.length ≤ 9223372036854775807) (B : Nat) (R : Int × Int)
    (hR : (∀ x ∈ l, 0 ≤ x ∧ x ≤ 4) → ∀ k, B ≤ k → marqueeref10_Kind.l0 (k + 1) s l (l.length : Int) (l.length : Int) = some R) (hB : (¬ ∀ x ∈ l, 0 ≤ x ∧ x ≤ 4) → R = (0, 100)) :
    ∀ (j i k : Nat), i + j = l.length → B + j < k → (∀ n (h : n < i) (h' : n < l.length), 0 ≤ l[n] ∧ l[n] ≤ 4) → marqueeref10_Kind.l0 k s l (l.length : Int) (i : Int) = some R
  | 0, i, k + 1, h, hk, hg => by
    obtain rfl : i = l.length := by omega
    exact hR (fun x hx => by obtain ⟨n, hn, rfl⟩ := List.getElem_of_mem hx; exact hg n hn hn) k (by omega)
  | j + 1, i, k + 1, h, hk, hg => by
    rw [marqueeref10_Kind.l0, if_pos (by omega), if_pos (by omega), if_pos (by omega), w1 (by omega), rd_at l i (by omega), marqueeref10_kindOk.f]
    by_cases h1 : l[i] < 0
    · rw [if_neg (by omega), Option.bind_some, if_neg (by decide), hB fun h => by have := h l[i] (List.getElem_mem _); omega]
    by_cases h2 : l[i] > 4
    · rw [if_pos (by omega), Option.bind_some, if_neg (by simp; omega), hB fun h => by have := h l[i] (List.getElem_mem _); omega]
    · rw [if_pos (by omega), Option.bind_some, if_pos (by simp; omega)]
      exact kinds2 s l hn B R hR hB j (i + 1) k (by omega) (by omega) fun n h h' => by
        by_cases e : n = i
        · subst e; omega
        · exact hg n (by omega) h'
theorem prog_in (s : ByteArray) (l : List Int) (k : Nat) : funcs_Kind.l0 (k + 29) s l l (l.length : Int) (l.length : Int) =
    funcs_Kind.j2 (k + 27) s l (l.length : Int) (decide (l.length = 1 ∧ (rd l 0 = 0 ∨ rd l 0 = 2 ∨ rd l 0 = 3))) (decide (l.length = 1 ∧ (rd l 0 = 0 ∨ rd l 0 = 4))) := by
  rw [funcs_Kind.l0, if_neg (by omega)]
  by_cases h : l.length = 1
  · rw [if_pos (by omega), if_pos (by omega), fits23, Option.bind_some, funcs_Kind.j1, if_pos (by omega), if_pos (by omega), fits4, Option.bind_some]
    simp [h]
  · rw [if_neg (by omega), funcs_Kind.j1, if_neg (by omega)]
    simp [h]
def names : List (List UInt8) := [[97, 98, 115], [99, 101, 105, 108], [102, 108, 111, 111, 114], [114, 111, 117, 110, 100], [115, 105, 103, 110], [116, 111, 105, 110, 116], [116, 111, 100, 101, 99], [99, 111, 97, 108, 101, 115, 99, 101], [103, 114, 101, 97, 116, 101, 115, 116], [108, 101, 97, 115, 116], [110, 117, 108, 108, 105, 102], [99, 111, 110, 99, 97, 116], [108, 101, 110, 103, 116, 104], [108, 111, 119, 101, 114], [117, 112, 112, 101, 114], [116, 114, 105, 109], [116, 111, 116, 101, 120, 116], [115, 117, 98, 115, 116, 114]]
theorem after (s : ByteArray) (l : List Int) (hn : l.length ≤ 9223372036854775807) (hg : ∀ x ∈ l, 0 ≤ x ∧ x ≤ 4) :
    ∃ R, ∀ k, 2 * l.length + 60 ≤ k → funcs_Kind.l0 (k + 1) s l l (l.length : Int) (l.length : Int) = some R ∧ marqueeref10_Kind.l0 (k + 1) s l (l.length : Int) (l.length : Int) = some R := by
  obtain ⟨r, ok, q, ha, hal⟩ := alikes l hn hg
  have step : (∃ R, ∀ k, 2 * l.length + 20 ≤ k → funcs_Kind.j2 (k + 27) s l (l.length : Int) (decide (l.length = 1 ∧ (rd l 0 = 0 ∨ rd l 0 = 2 ∨ rd l 0 = 3))) (decide (l.length = 1 ∧ (rd l 0 = 0 ∨ rd l 0 = 4))) = some R ∧ marqueeref10_Kind.l0 (k + 29) s l (l.length : Int) (l.length : Int) = some R) → ∃ R, ∀ k, 2 * l.length + 60 ≤ k → funcs_Kind.l0 (k + 1) s l l (l.length : Int) (l.length : Int) = some R ∧ marqueeref10_Kind.l0 (k + 1) s l (l.length : Int) (l.length : Int) = some R := by
    rintro ⟨R, h⟩
    refine ⟨R, fun k hk => ?_⟩
    obtain ⟨k, rfl⟩ : ∃ m, k = m + 28 := ⟨k - 28, by omega⟩
    have := h k (by omega)
    rw [prog_in]
    exact this
  apply step
  clear step
  have hin : ¬ ((l.length : Int) < (l.length : Int)) := by omega
  have hbe : ∀ a b : List UInt8, (a == b) = decide (a = b) := fun a b => by by_cases h : a = b <;> simp [h]
  generalize ht : s.toList = t
  by_cases hz1 : t = [97, 98, 115]
  · refine ⟨if l.length = 1 ∧ (rd l 0 = 0 ∨ rd l 0 = 2 ∨ rd l 0 = 3) then (rd l 0, 0) else (0, 100), fun k hk => ?_⟩
    subst hz1
    simp [funcs_Kind.j2, funcs_Kind.j3, funcs_Kind.j4, funcs_Kind.j6, marqueeref10_Kind.l0, marqueeref10_Kind.j1, marqueeref10_Kind.j2, marqueeref10_Kind.j4, marqueeref10_Kind.j5, ht, hin, if_false, hbe, List.cons.injEq, reduceCtorEq, and_false, false_and, and_true, true_and, decide_true, decide_false, Bool.false_eq_true, if_true, fits2, fits4, num_eq, text_eq, whole_eq, Option.bind_some]
    try refine ⟨?_, ?_⟩
    all_goals
      by_cases c1 : l.length = 1
      · by_cases c2 : (rd l 0 = 0 ∨ rd l 0 = 2 ∨ rd l 0 = 3) <;> simp [c1, c2]
      · simp [c1]; try omega
  by_cases hz2 : t = [99, 101, 105, 108]
  · refine ⟨if l.length = 1 ∧ (rd l 0 = 0 ∨ rd l 0 = 2 ∨ rd l 0 = 3) then (2, 0) else (0, 100), fun k hk => ?_⟩
    subst hz2
    simp [funcs_Kind.j2, funcs_Kind.j3, funcs_Kind.j4, funcs_Kind.j6, marqueeref10_Kind.l0, marqueeref10_Kind.j1, marqueeref10_Kind.j2, marqueeref10_Kind.j4, marqueeref10_Kind.j5, ht, hin, if_false, hbe, List.cons.injEq, reduceCtorEq, and_false, false_and, and_true, true_and, decide_true, decide_false, Bool.false_eq_true, if_true, fits2, fits4, num_eq, text_eq, whole_eq, Option.bind_some]
    try refine ⟨?_, ?_⟩
    all_goals
      by_cases c1 : l.length = 1
      · by_cases c2 : (rd l 0 = 0 ∨ rd l 0 = 2 ∨ rd l 0 = 3) <;> simp [c1, c2]
      · simp [c1]; try omega
  by_cases hz3 : t = [102, 108, 111, 111, 114]
  · refine ⟨if l.length = 1 ∧ (rd l 0 = 0 ∨ rd l 0 = 2 ∨ rd l 0 = 3) then (2, 0) else (0, 100), fun k hk => ?_⟩
    subst hz3
    simp [funcs_Kind.j2, funcs_Kind.j3, funcs_Kind.j4, funcs_Kind.j6, marqueeref10_Kind.l0, marqueeref10_Kind.j1, marqueeref10_Kind.j2, marqueeref10_Kind.j4, marqueeref10_Kind.j5, ht, hin, if_false, hbe, List.cons.injEq, reduceCtorEq, and_false, false_and, and_true, true_and, decide_true, decide_false, Bool.false_eq_true, if_true, fits2, fits4, num_eq, text_eq, whole_eq, Option.bind_some]
    try refine ⟨?_, ?_⟩
    all_goals
      by_cases c1 : l.length = 1
      · by_cases c2 : (rd l 0 = 0 ∨ rd l 0 = 2 ∨ rd l 0 = 3) <;> simp [c1, c2]
      · simp [c1]; try omega
  by_cases hz4 : t = [114, 111, 117, 110, 100]
  · refine ⟨if l.length = 1 ∧ (rd l 0 = 0 ∨ rd l 0 = 2 ∨ rd l 0 = 3) then (2, 0) else (0, 100), fun k hk => ?_⟩
    subst hz4
    simp [funcs_Kind.j2, funcs_Kind.j3, funcs_Kind.j4, funcs_Kind.j6, marqueeref10_Kind.l0, marqueeref10_Kind.j1, marqueeref10_Kind.j2, marqueeref10_Kind.j4, marqueeref10_Kind.j5, ht, hin, if_false, hbe, List.cons.injEq, reduceCtorEq, and_false, false_and, and_true, true_and, decide_true, decide_false, Bool.false_eq_true, if_true, fits2, fits4, num_eq, text_eq, whole_eq, Option.bind_some]
    try refine ⟨?_, ?_⟩
    all_goals
      by_cases c1 : l.length = 1
      · by_cases c2 : (rd l 0 = 0 ∨ rd l 0 = 2 ∨ rd l 0 = 3) <;> simp [c1, c2]
      · simp [c1]; try omega
  by_cases hz5 : t = [115, 105, 103, 110]
  · refine ⟨if l.length = 1 ∧ (rd l 0 = 0 ∨ rd l 0 = 2 ∨ rd l 0 = 3) then (2, 0) else (0, 100), fun k hk => ?_⟩
    subst hz5
    simp [funcs_Kind.j2, funcs_Kind.j3, funcs_Kind.j4, funcs_Kind.j6, marqueeref10_Kind.l0, marqueeref10_Kind.j1, marqueeref10_Kind.j2, marqueeref10_Kind.j4, marqueeref10_Kind.j5, ht, hin, if_false, hbe, List.cons.injEq, reduceCtorEq, and_false, false_and, and_true, true_and, decide_true, decide_false, Bool.false_eq_true, if_true, fits2, fits4, num_eq, text_eq, whole_eq, Option.bind_some]
    try refine ⟨?_, ?_⟩
    all_goals
      by_cases c1 : l.length = 1
      · by_cases c2 : (rd l 0 = 0 ∨ rd l 0 = 2 ∨ rd l 0 = 3) <;> simp [c1, c2]
      · simp [c1]; try omega
  by_cases hz6 : t = [116, 111, 105, 110, 116]
  · refine ⟨if l.length = 1 ∧ (rd l 0 = 0 ∨ rd l 0 = 2 ∨ rd l 0 = 3) then (2, 0) else (0, 100), fun k hk => ?_⟩
    subst hz6
    simp [funcs_Kind.j2, funcs_Kind.j3, funcs_Kind.j4, funcs_Kind.j6, marqueeref10_Kind.l0, marqueeref10_Kind.j1, marqueeref10_Kind.j2, marqueeref10_Kind.j4, marqueeref10_Kind.j5, ht, hin, if_false, hbe, List.cons.injEq, reduceCtorEq, and_false, false_and, and_true, true_and, decide_true, decide_false, Bool.false_eq_true, if_true, fits2, fits4, num_eq, text_eq, whole_eq, Option.bind_some]
    try refine ⟨?_, ?_⟩
    all_goals
      by_cases c1 : l.length = 1
      · by_cases c2 : (rd l 0 = 0 ∨ rd l 0 = 2 ∨ rd l 0 = 3) <;> simp [c1, c2]
      · simp [c1]; try omega
  by_cases hz7 : t = [116, 111, 100, 101, 99]
  · refine ⟨if l.length = 1 ∧ (rd l 0 = 0 ∨ rd l 0 = 2 ∨ rd l 0 = 3) then (3, 0) else (0, 100), fun k hk => ?_⟩
    subst hz7
    simp [funcs_Kind.j2, funcs_Kind.j3, funcs_Kind.j4, funcs_Kind.j6, marqueeref10_Kind.l0, marqueeref10_Kind.j1, marqueeref10_Kind.j2, marqueeref10_Kind.j4, marqueeref10_Kind.j5, ht, hin, if_false, hbe, List.cons.injEq, reduceCtorEq, and_false, false_and, and_true, true_and, decide_true, decide_false, Bool.false_eq_true, if_true, fits2, fits4, num_eq, text_eq, whole_eq, Option.bind_some]
    try refine ⟨?_, ?_⟩
    all_goals
      by_cases c1 : l.length = 1
      · by_cases c2 : (rd l 0 = 0 ∨ rd l 0 = 2 ∨ rd l 0 = 3) <;> simp [c1, c2]
      · simp [c1]; try omega
  by_cases hz8 : t = [108, 101, 110, 103, 116, 104]
  · refine ⟨if l.length = 1 ∧ (rd l 0 = 0 ∨ rd l 0 = 4) then (2, 0) else (0, 100), fun k hk => ?_⟩
    subst hz8
    simp [funcs_Kind.j2, funcs_Kind.j3, funcs_Kind.j4, funcs_Kind.j6, marqueeref10_Kind.l0, marqueeref10_Kind.j1, marqueeref10_Kind.j2, marqueeref10_Kind.j4, marqueeref10_Kind.j5, ht, hin, if_false, hbe, List.cons.injEq, reduceCtorEq, and_false, false_and, and_true, true_and, decide_true, decide_false, Bool.false_eq_true, if_true, fits2, fits4, num_eq, text_eq, whole_eq, Option.bind_some]
    try refine ⟨?_, ?_⟩
    all_goals
      by_cases c1 : l.length = 1
      · by_cases c2 : (rd l 0 = 0 ∨ rd l 0 = 4) <;> simp [c1, c2]
      · simp [c1]; try omega
  by_cases hz9 : t = [108, 111, 119, 101, 114]
  · refine ⟨if l.length = 1 ∧ (rd l 0 = 0 ∨ rd l 0 = 4) then (4, 0) else (0, 100), fun k hk => ?_⟩
    subst hz9
    simp [funcs_Kind.j2, funcs_Kind.j3, funcs_Kind.j4, funcs_Kind.j6, marqueeref10_Kind.l0, marqueeref10_Kind.j1, marqueeref10_Kind.j2, marqueeref10_Kind.j4, marqueeref10_Kind.j5, ht, hin, if_false, hbe, List.cons.injEq, reduceCtorEq, and_false, false_and, and_true, true_and, decide_true, decide_false, Bool.false_eq_true, if_true, fits2, fits4, num_eq, text_eq, whole_eq, Option.bind_some]
    try refine ⟨?_, ?_⟩
    all_goals
      by_cases c1 : l.length = 1
      · by_cases c2 : (rd l 0 = 0 ∨ rd l 0 = 4) <;> simp [c1, c2]
      · simp [c1]; try omega
  by_cases hz10 : t = [117, 112, 112, 101, 114]
  · refine ⟨if l.length = 1 ∧ (rd l 0 = 0 ∨ rd l 0 = 4) then (4, 0) else (0, 100), fun k hk => ?_⟩
    subst hz10
    simp [funcs_Kind.j2, funcs_Kind.j3, funcs_Kind.j4, funcs_Kind.j6, marqueeref10_Kind.l0, marqueeref10_Kind.j1, marqueeref10_Kind.j2, marqueeref10_Kind.j4, marqueeref10_Kind.j5, ht, hin, if_false, hbe, List.cons.injEq, reduceCtorEq, and_false, false_and, and_true, true_and, decide_true, decide_false, Bool.false_eq_true, if_true, fits2, fits4, num_eq, text_eq, whole_eq, Option.bind_some]
    try refine ⟨?_, ?_⟩
    all_goals
      by_cases c1 : l.length = 1
      · by_cases c2 : (rd l 0 = 0 ∨ rd l 0 = 4) <;> simp [c1, c2]
      · simp [c1]; try omega
  by_cases hz11 : t = [116, 114, 105, 109]
  · refine ⟨if l.length = 1 ∧ (rd l 0 = 0 ∨ rd l 0 = 4) then (4, 0) else (0, 100), fun k hk => ?_⟩
    subst hz11
    simp [funcs_Kind.j2, funcs_Kind.j3, funcs_Kind.j4, funcs_Kind.j6, marqueeref10_Kind.l0, marqueeref10_Kind.j1, marqueeref10_Kind.j2, marqueeref10_Kind.j4, marqueeref10_Kind.j5, ht, hin, if_false, hbe, List.cons.injEq, reduceCtorEq, and_false, false_and, and_true, true_and, decide_true, decide_false, Bool.false_eq_true, if_true, fits2, fits4, num_eq, text_eq, whole_eq, Option.bind_some]
    try refine ⟨?_, ?_⟩
    all_goals
      by_cases c1 : l.length = 1
      · by_cases c2 : (rd l 0 = 0 ∨ rd l 0 = 4) <;> simp [c1, c2]
      · simp [c1]; try omega
  by_cases hz12 : t = [116, 111, 116, 101, 120, 116]
  · refine ⟨if l.length = 1 then (4, 0) else (0, 100), fun k hk => ?_⟩
    subst hz12
    simp [funcs_Kind.j2, funcs_Kind.j3, funcs_Kind.j4, funcs_Kind.j6, marqueeref10_Kind.l0, marqueeref10_Kind.j1, marqueeref10_Kind.j2, marqueeref10_Kind.j4, marqueeref10_Kind.j5, ht, hin, if_false, hbe, List.cons.injEq, reduceCtorEq, and_false, false_and, and_true, true_and, decide_true, decide_false, Bool.false_eq_true, if_true, fits2, fits4, num_eq, text_eq, whole_eq, Option.bind_some]
    try refine ⟨?_, ?_⟩
    all_goals
      by_cases c1 : l.length = 1
      · simp [c1]
      · simp [c1]; try omega
  by_cases hz13 : t = [99, 111, 97, 108, 101, 115, 99, 101]
  · refine ⟨if ok = true ∧ 1 ≤ l.length then (r, 0) else (0, 100), fun k hk => ?_⟩
    subst hz13
    simp [funcs_Kind.j2, funcs_Kind.j3, funcs_Kind.j4, funcs_Kind.j6, marqueeref10_Kind.l0, marqueeref10_Kind.j1, marqueeref10_Kind.j2, marqueeref10_Kind.j4, marqueeref10_Kind.j5, ht, hin, if_false, hbe, List.cons.injEq, reduceCtorEq, and_false, false_and, and_true, true_and, decide_true, decide_false, Bool.false_eq_true, if_true, fits2, fits4, num_eq, text_eq, whole_eq, Option.bind_some]
    try refine ⟨?_, ?_⟩
    all_goals
      try simp only [(hal (k + 24) (by omega)).1, (hal (k + 26) (by omega)).2, (hal (k + 25) (by omega)).1, (hal (k + 25) (by omega)).2, (hal (k + 27) (by omega)).2]
      simp only [Option.bind_some]
      cases ok with
      | false => simp
      | true => have := ha rfl; subst this; by_cases c : 1 ≤ l.length <;> simp [c] <;> omega
  by_cases hz14 : t = [103, 114, 101, 97, 116, 101, 115, 116]
  · refine ⟨if ok = true ∧ 1 ≤ l.length then (r, 0) else (0, 100), fun k hk => ?_⟩
    subst hz14
    simp [funcs_Kind.j2, funcs_Kind.j3, funcs_Kind.j4, funcs_Kind.j6, marqueeref10_Kind.l0, marqueeref10_Kind.j1, marqueeref10_Kind.j2, marqueeref10_Kind.j4, marqueeref10_Kind.j5, ht, hin, if_false, hbe, List.cons.injEq, reduceCtorEq, and_false, false_and, and_true, true_and, decide_true, decide_false, Bool.false_eq_true, if_true, fits2, fits4, num_eq, text_eq, whole_eq, Option.bind_some]
    try refine ⟨?_, ?_⟩
    all_goals
      try simp only [(hal (k + 24) (by omega)).1, (hal (k + 26) (by omega)).2, (hal (k + 25) (by omega)).1, (hal (k + 25) (by omega)).2, (hal (k + 27) (by omega)).2]
      simp only [Option.bind_some]
      cases ok with
      | false => simp
      | true => have := ha rfl; subst this; by_cases c : 1 ≤ l.length <;> simp [c] <;> omega
  by_cases hz15 : t = [108, 101, 97, 115, 116]
  · refine ⟨if ok = true ∧ 1 ≤ l.length then (r, 0) else (0, 100), fun k hk => ?_⟩
    subst hz15
    simp [funcs_Kind.j2, funcs_Kind.j3, funcs_Kind.j4, funcs_Kind.j6, marqueeref10_Kind.l0, marqueeref10_Kind.j1, marqueeref10_Kind.j2, marqueeref10_Kind.j4, marqueeref10_Kind.j5, ht, hin, if_false, hbe, List.cons.injEq, reduceCtorEq, and_false, false_and, and_true, true_and, decide_true, decide_false, Bool.false_eq_true, if_true, fits2, fits4, num_eq, text_eq, whole_eq, Option.bind_some]
    try refine ⟨?_, ?_⟩
    all_goals
      try simp only [(hal (k + 24) (by omega)).1, (hal (k + 26) (by omega)).2, (hal (k + 25) (by omega)).1, (hal (k + 25) (by omega)).2, (hal (k + 27) (by omega)).2]
      simp only [Option.bind_some]
      cases ok with
      | false => simp
      | true => have := ha rfl; subst this; by_cases c : 1 ≤ l.length <;> simp [c] <;> omega
  by_cases hz16 : t = [110, 117, 108, 108, 105, 102]
  · refine ⟨if ok = true ∧ l.length = 2 then (rd l 0, 0) else (0, 100), fun k hk => ?_⟩
    subst hz16
    simp [funcs_Kind.j2, funcs_Kind.j3, funcs_Kind.j4, funcs_Kind.j6, marqueeref10_Kind.l0, marqueeref10_Kind.j1, marqueeref10_Kind.j2, marqueeref10_Kind.j4, marqueeref10_Kind.j5, ht, hin, if_false, hbe, List.cons.injEq, reduceCtorEq, and_false, false_and, and_true, true_and, decide_true, decide_false, Bool.false_eq_true, if_true, fits2, fits4, num_eq, text_eq, whole_eq, Option.bind_some]
    try refine ⟨?_, ?_⟩
    all_goals
      simp only [(hal (k + 23) (by omega)).1, (hal (k + 24) (by omega)).1, (hal (k + 24) (by omega)).2, (hal (k + 25) (by omega)).2, (hal (k + 23) (by omega)).2, (hal (k + 26) (by omega)).2, Option.bind_some]
      by_cases c1 : l.length = 2
      · cases ok <;> simp [c1]
      · cases ok <;> simp [c1] <;> omega
  by_cases hz17 : t = [99, 111, 110, 99, 97, 116]
  · refine ⟨if l.length ≥ 1 ∧ ∀ x ∈ l, x = 0 ∨ x = 4 then (4, 0) else (0, 100), fun k hk => ?_⟩
    subst hz17
    simp [funcs_Kind.j2, funcs_Kind.j3, funcs_Kind.j4, funcs_Kind.j6, marqueeref10_Kind.l0, marqueeref10_Kind.j1, marqueeref10_Kind.j2, marqueeref10_Kind.j4, marqueeref10_Kind.j5, ht, hin, if_false, hbe, List.cons.injEq, reduceCtorEq, and_false, false_and, and_true, true_and, decide_true, decide_false, Bool.false_eq_true, if_true, fits2, fits4, num_eq, text_eq, whole_eq, Option.bind_some]
    try refine ⟨?_, ?_⟩
    all_goals
      have e1 := concat1 l hn l.length 0 (k + 24) (decide (1 ≤ (l.length : Int))) (by omega) (by omega)
      have e2 := concat2 l hn l.length 0 (k + 26) (decide (1 ≤ (l.length : Int))) (by omega) (by omega)
      simp only [Int.natCast_zero, List.drop_zero, decide_eq_true_eq] at e1 e2
      have e3 : (1 ≤ (l.length : Int)) ↔ 1 ≤ l.length := by omega
      first | (rw [e1]; simp only [e3]; done) | (rw [e2]; simp only [e3]; done)
  by_cases hz18 : t = [115, 117, 98, 115, 116, 114]
  · refine ⟨if l.length = 3 ∧ (rd l 0 = 0 ∨ rd l 0 = 4) ∧ (rd l 1 = 0 ∨ rd l 1 = 2) ∧ (rd l 2 = 0 ∨ rd l 2 = 2) then (4, 0) else (0, 100), fun k hk => ?_⟩
    subst hz18
    simp [funcs_Kind.j2, funcs_Kind.j3, funcs_Kind.j4, funcs_Kind.j6, marqueeref10_Kind.l0, marqueeref10_Kind.j1, marqueeref10_Kind.j2, marqueeref10_Kind.j4, marqueeref10_Kind.j5, ht, hin, if_false, hbe, List.cons.injEq, reduceCtorEq, and_false, false_and, and_true, true_and, decide_true, decide_false, Bool.false_eq_true, if_true, fits2, fits4, num_eq, text_eq, whole_eq, Option.bind_some]
    try refine ⟨?_, ?_⟩
    all_goals
      by_cases c1 : l.length = 3
      · by_cases c2 : rd l 0 = 0 ∨ rd l 0 = 4 <;> by_cases c3 : rd l 1 = 0 ∨ rd l 1 = 2 <;> by_cases c4 : rd l 2 = 0 ∨ rd l 2 = 2 <;> simp [c1, c2, c3, c4]
      · simp [c1]; try omega
  refine ⟨(0, 100), fun k hk => ?_⟩
  simp [funcs_Kind.j2, funcs_Kind.j3, funcs_Kind.j4, funcs_Kind.j6, marqueeref10_Kind.l0, marqueeref10_Kind.j1, marqueeref10_Kind.j2, marqueeref10_Kind.j4, marqueeref10_Kind.j5, ht, hin, if_false, hbe, List.cons.injEq, reduceCtorEq, and_false, false_and, and_true, true_and, decide_true, decide_false, Bool.false_eq_true, if_true, fits2, fits4, num_eq, text_eq, whole_eq, Option.bind_some, hz1, hz2, hz3, hz4, hz5, hz6, hz7, hz8, hz9, hz10, hz11, hz12, hz13, hz14, hz15, hz16, hz17, hz18]
theorem kinds (s : ByteArray) (l : List Int) (hn : l.length ≤ 9223372036854775807) :
    ∃ R, ∀ k, 3 * l.length + 70 ≤ k → funcs_Kind.f k s l = some R ∧ marqueeref10_Kind.f k s l = some R := by
  by_cases hg : ∀ x ∈ l, 0 ≤ x ∧ x ≤ 4
  · obtain ⟨R, h⟩ := after s l hn hg
    refine ⟨R, fun k hk => ⟨?_, ?_⟩⟩
    · exact kinds1 s l hn (2 * l.length + 60) R (fun _ k hk => (h k hk).1) (fun x => absurd hg x) l.length 0 k (by omega) (by omega) fun n h => by omega
    · exact kinds2 s l hn (2 * l.length + 60) R (fun _ k hk => (h k hk).2) (fun x => absurd hg x) l.length 0 k (by omega) (by omega) fun n h => by omega
  · refine ⟨(0, 100), fun k hk => ⟨?_, ?_⟩⟩
    · exact kinds1 s l hn 0 (0, 100) (fun x => absurd x hg) (fun _ => rfl) l.length 0 k (by omega) (by omega) fun n h => by omega
    · exact kinds2 s l hn 0 (0, 100) (fun x => absurd x hg) (fun _ => rfl) l.length 0 k (by omega) (by omega) fun n h => by omega
theorem over (s : ByteArray) (l : List Int) (B : Nat) (R : Int × Int) (h : ∀ k, B ≤ k → funcs_Kind.f k s l = some R ∧ marqueeref10_Kind.f k s l = some R) (N : List ByteArray) (hN : N.length ≤ 9223372036854775807) :
    ∀ (j i k : Nat), i + j = N.length → B + j < k → marqueelaw10_FuncsKinds.l0 k s l N N (i : Int) = some true
  | 0, i, k + 1, hi, hk => by
    rw [marqueelaw10_FuncsKinds.l0, if_neg (by omega), (h k (by omega)).1, Option.bind_some, (h k (by omega)).2, Option.bind_some, if_pos rfl, if_pos rfl]
    rfl
  | j + 1, i, k + 1, hi, hk => by
    rw [marqueelaw10_FuncsKinds.l0, if_pos (by omega), if_pos (by omega), if_pos (by omega), if_pos rfl, w1 (by omega)]
    exact over s l B R h N hN j (i + 1) k (by omega) (by omega)
theorem FuncsKinds (a0 : ByteArray) (l1 : List Int) {p q : Prop} (w0 : p) (hl : l1.length ≤ maxLen) (hw : q) : ∃ k, marqueelaw10_FuncsKinds.f k a0 l1 = some true := by
  have hm : l1.length ≤ 9223372036854775807 := Nat.le_trans hl (by decide)
  obtain ⟨R, h⟩ := kinds a0 l1 hm
  refine ⟨3 * l1.length + 70 + 30, ?_⟩
  unfold marqueelaw10_FuncsKinds.f funcs_Names.f marqueeref10_Names.f
  rw [Option.bind_some, Option.bind_some, if_pos rfl]
  exact over a0 l1 _ R h _ (by simp) 18 0 _ (by simp) (by omega)
end Go.Proofs.YtchbodpkaiengaaGreatDoor.Pure
