/- The plain law of ValueCompares: whatever two values are, the program's comparing, equality and order answer as the document's. No Go and no memory in it. -/
import Derived.Test.YthfialcaddjjaaaDoorPValueComparesx0
import Derived.Test.YthfialcaddjjaaaDoorPValueComparesx1
import Derived.Test.YthfialcaddjjaaaDoorPValueComparesx2
import Derived.Test.YthfialcaddjjaaaDoorPValueComparesx3
import Derived.Test.YthfialcaddjjaaaDoorPValueComparesx4
import Derived.Test.YthfialcaddjjaaaDoorPValueComparesx5
import Derived.Test.YthfialcaddjjaaaDoorPValueComparesx6
import Derived.Test.YthfialcaddjjaaaDoorPValueComparesx7
import Derived.Test.YthfialcaddjjaaaDoorPValueComparesx8
import Derived.Test.YthfialcaddjjaaaDoorPValueComparesx9
import Derived.DataShut
namespace Go.Proofs.YthfialcaddjjaaaDoor.Pure
set_option linter.unusedSimpArgs false
open Go.RowKit Go.Proofs.YthfialcaddjjaaaDoor.PValueCompares Go.Proofs.YthfialcaddjjaaaDoorW.PrintWords
def cmpI (a b : Int) : Int := if a < b then -1 else if a > b then 1 else 0
theorem cmpI_prog (a b : Int) : cmp_Compare_int.f a b = some (cmpI a b) := by
  unfold cmp_Compare_int.f cmp_isNaN_int.f cmpI
  simp only [bne_self_eq_false, Option.bind_some, Bool.false_eq_true, if_false]
  repeat' split
  all_goals rfl
theorem cmpI_ref (a b : Int) : marqueeref01_ints.f a b = some (cmpI a b) := by
  unfold marqueeref01_ints.f cmpI
  repeat' split
  all_goals rfl
theorem cmpI_self (a : Int) : cmpI a a = 0 := by unfold cmpI; simp
theorem cmpL_eq : ∀ a b : List UInt8, (if Op.bytesLess a b = true then (-1 : Int) else if a = b then 0 else 1) = Lib.compareBytes a b
  | [], [] => by simp [Op.bytesLess, Lib.compareBytes]
  | [], _ :: _ => by simp [Op.bytesLess, Lib.compareBytes]
  | _ :: _, [] => by simp [Op.bytesLess, Lib.compareBytes]
  | x :: a, y :: b => by
    have ih := cmpL_eq a b
    simp only [Op.bytesLess, Lib.compareBytes]
    by_cases h1 : x < y
    · simp [h1]
    · by_cases h2 : y < x
      · have : ¬ x = y := fun e => by subst e; exact h1 h2
        simp [h1, h2, this]
      · have : x = y := UInt8.le_antisymm (UInt8.not_lt.1 h2) (UInt8.not_lt.1 h1)
        subst this
        simp only [h1, h2, if_false]
        rw [← ih]
        simp [h1]
def cmpT (s t : ByteArray) : Int := Lib.compareBytes s.data.toList t.data.toList
theorem cmpT_prog (s t : ByteArray) : strings_Compare.f s t = some (cmpT s t) := rfl
theorem cmpT_ref (s t : ByteArray) : marqueeref01_texts.f s t = some (cmpT s t) := by
  unfold marqueeref01_texts.f cmpT
  rw [ByteArray.toList_eq, ByteArray.toList_eq, cmpL_eq]
theorem or2 (k : Nat) (a b : Int) : cmp_Or_int.f (k + 3) [a, b] = some (if a = 0 then b else a) := by
  unfold cmp_Or_int.f
  by_cases ha : a = 0
  · by_cases hb : b = 0
    · simp [cmp_Or_int.l0, rd, wrap64, ha, hb]
    · simp [cmp_Or_int.l0, rd, wrap64, ha, hb]
  · simp [cmp_Or_int.l0, rd, ha]
theorem or3 (k : Nat) (a b c : Int) : cmp_Or_int.f (k + 4) [a, b, c] = some (if a = 0 then (if b = 0 then c else b) else a) := by
  unfold cmp_Or_int.f
  by_cases ha : a = 0
  · by_cases hb : b = 0
    · by_cases hc : c = 0
      · simp [cmp_Or_int.l0, rd, wrap64, ha, hb, hc]
      · simp [cmp_Or_int.l0, rd, wrap64, ha, hb, hc]
    · simp [cmp_Or_int.l0, rd, wrap64, ha, hb]
  · simp [cmp_Or_int.l0, rd, ha]
theorem tparts (n : Int) : ∃ q r, Int.tdiv n 10000 = q ∧ Int.tmod n 10000 = r ∧ n = 10000 * q + r ∧ -10000 < r ∧ r < 10000 ∧ (0 ≤ n → 0 ≤ r) ∧ (n ≤ 0 → r ≤ 0) := by
  refine ⟨_, _, rfl, rfl, (Int.mul_tdiv_add_tmod n 10000).symm, ?_, Int.tmod_lt_of_pos n (by decide), fun h => Int.tmod_nonneg _ h, ?_⟩
  · have := Int.tmod_lt_of_pos (-n) (show (0 : Int) < 10000 by decide)
    rw [Int.neg_tmod] at this; omega
  · intro h
    have := Int.tmod_nonneg (a := -n) 10000 (by omega)
    rw [Int.neg_tmod] at this; omega
theorem split_dec (n : Int) (s : ByteArray) (h : (Lit.int .i64 n).wf = true) : marqueeref01_split.f 3 n s = some (n / 10000, n % 10000) := by
  have hw : -9223372036854775808 ≤ n ∧ n ≤ 9223372036854775807 := (Lit.wf_int_iff .i64 n).1 h
  obtain ⟨q, r, hq, hr, e, h1, h2, h3, h4⟩ := tparts n
  unfold marqueeref01_split.f wrap64
  rw [hq, hr]
  by_cases hs : r < 0
  · simp [hs]; omega
  · simp [hs]; omega
theorem split_int (n : Int) (s : ByteArray) : marqueeref01_split.f 2 n s = some (n, 0) := by unfold marqueeref01_split.f; simp
theorem numbers (k : Nat) (k1 n : Int) (s : ByteArray) (k2 m : Int) (t : ByteArray) (h1 : k1 = 2 ∨ k1 = 3) (h2 : k2 = 2 ∨ k2 = 3) (hn : (Lit.int .i64 n).wf = true) (hm : (Lit.int .i64 m).wf = true) :
    ∃ c, value_numbers.f (k + 5) k1 n s k2 m t = some c ∧ marqueeref01_numbers.f k1 n s k2 m t = some c := by
  have wn : -9223372036854775808 ≤ n ∧ n ≤ 9223372036854775807 := (Lit.wf_int_iff .i64 n).1 hn
  have wm : -9223372036854775808 ≤ m ∧ m ≤ 9223372036854775807 := (Lit.wf_int_iff .i64 m).1 hm
  rcases h1 with rfl | rfl
  · rcases h2 with rfl | rfl
    · refine ⟨cmpI n m, by simp [value_numbers.f, cmpI_prog], ?_⟩
      simp only [marqueeref01_numbers.f, split_int, cmpI_ref, Option.bind_some, cmpI_self]
      split <;> simp_all
    · obtain ⟨q, r, hq, hr, e, g1, g2, g3, g4⟩ := tparts m
      refine ⟨_, by simp only [value_numbers.f, cmpI_prog, hq, hr, Option.bind_some, or2]; rfl, ?_⟩
      simp only [marqueeref01_numbers.f, split_int, split_dec _ _ hm, cmpI_ref, Option.bind_some, cmpI, wrap64]
      repeat' split
      all_goals first | rfl | (exfalso; omega) | (congr 1; omega)
  · rcases h2 with rfl | rfl
    · obtain ⟨q, r, hq, hr, e, g1, g2, g3, g4⟩ := tparts n
      refine ⟨_, by simp [value_numbers.f, cmpI_prog, hq, hr, Option.bind_some, or2]; rfl, ?_⟩
      simp only [marqueeref01_numbers.f, split_int, split_dec _ _ hn, cmpI_ref, Option.bind_some, cmpI, wrap64]
      repeat' split
      all_goals first | rfl | (exfalso; omega) | (congr 1; omega)
    · refine ⟨cmpI n m, by simp [value_numbers.f, cmpI_prog], ?_⟩
      simp only [marqueeref01_numbers.f, split_dec _ _ hn, split_dec _ _ hm, cmpI_ref, Option.bind_some, cmpI]
      repeat' split
      all_goals first | rfl | (exfalso; omega) | (congr 1; omega)
theorem kinds (k : Int) : k = 0 ∨ k = 1 ∨ k = 2 ∨ k = 3 ∨ k = 4 ∨ (¬ k = 0 ∧ ¬ k = 1 ∧ ¬ k = 2 ∧ ¬ k = 3 ∧ ¬ k = 4 ∧ (k < 0 ∨ 5 ≤ k)) := by omega
def rk (k : Int) : Int := if k = 0 then 0 else if k = 1 then 1 else if k = 2 then 2 else if k = 3 then 2 else if k = 4 then 3 else 4
theorem rk_prog (k : Int) : value_rank.f k = some (rk k) := by
  unfold value_rank.f rk
  rcases kinds k with rfl | rfl | rfl | rfl | rfl | ⟨h0, h1, h2, h3, h4, h5⟩
  all_goals first | rfl | skip
  rcases h5 with h5 | h5
  · simp [h0, h1, h2, h3, h4, h5]
  · have : ¬ k < 0 := by omega
    simp [h0, h1, h2, h3, h4, h5]
theorem rk_ref (j : Nat) (k : Int) : marqueeref01_rank.f (j + 1) k = some (rk k) := by
  unfold marqueeref01_rank.f rk
  rcases kinds k with rfl | rfl | rfl | rfl | rfl | ⟨h0, h1, h2, h3, h4, h5⟩
  all_goals first | rfl | skip
  simp [marqueeref01_rank.j0, h0, h1, h2, h3, h4]
def cb (k1 k2 : Int) : Bool := rk k1 = rk k2 && (rk k1 = 1 || rk k1 = 2 || rk k1 = 3)
theorem compare (k : Nat) (k1 n : Int) (s : ByteArray) (k2 m : Int) (t : ByteArray) (hn : (Lit.int .i64 n).wf = true) (hm : (Lit.int .i64 m).wf = true) :
    ∃ c, value_Compare.f (k + 6) k1 n s k2 m t = some (c, cb k1 k2) ∧ marqueeref01_Compare.f (k + 6) k1 n s k2 m t = some (c, cb k1 k2) := by
  have hnum : ∀ a b, (a = 2 ∨ a = 3) → (b = 2 ∨ b = 3) → ∃ c, value_numbers.f (k + 6) a n s b m t = some c ∧ marqueeref01_numbers.f a n s b m t = some c := fun a b h1 h2 => numbers (k + 1) a n s b m t h1 h2 hn hm
  unfold value_Compare.f marqueeref01_Compare.f
  simp only [rk_prog, Option.bind_some]
  rcases kinds k1 with rfl | rfl | rfl | rfl | rfl | ⟨h0, h1, h2, h3, h4, h5⟩ <;> rcases kinds k2 with rfl | rfl | rfl | rfl | rfl | ⟨g0, g1, g2, g3, g4, g5⟩
  all_goals first
    | (obtain ⟨c, e1, e2⟩ := hnum 2 2 (by decide) (by decide); refine ⟨c, ?_, ?_⟩ <;> (simp [rk, cb, marqueeref01_number.f, marqueeref01_Compare.j0, marqueeref01_Compare.j1, e1, e2]; done))
    | (obtain ⟨c, e1, e2⟩ := hnum 2 3 (by decide) (by decide); refine ⟨c, ?_, ?_⟩ <;> (simp [rk, cb, marqueeref01_number.f, marqueeref01_Compare.j0, marqueeref01_Compare.j1, e1, e2]; done))
    | (obtain ⟨c, e1, e2⟩ := hnum 3 2 (by decide) (by decide); refine ⟨c, ?_, ?_⟩ <;> (simp [rk, cb, marqueeref01_number.f, marqueeref01_Compare.j0, marqueeref01_Compare.j1, e1, e2]; done))
    | (obtain ⟨c, e1, e2⟩ := hnum 3 3 (by decide) (by decide); refine ⟨c, ?_, ?_⟩ <;> (simp [rk, cb, marqueeref01_number.f, marqueeref01_Compare.j0, marqueeref01_Compare.j1, e1, e2]; done))
    | (refine ⟨0, ?_, ?_⟩ <;> (simp [rk, cb, marqueeref01_number.f, marqueeref01_Compare.j0, marqueeref01_Compare.j1, *]; done))
    | (refine ⟨cmpI n m, ?_, ?_⟩ <;> (simp [rk, cb, marqueeref01_number.f, marqueeref01_Compare.j0, marqueeref01_Compare.j1, cmpI_prog, cmpI_ref]; done))
    | (refine ⟨cmpT s t, ?_, ?_⟩ <;> (simp [rk, cb, marqueeref01_number.f, marqueeref01_Compare.j0, marqueeref01_Compare.j1, cmpT_prog, cmpT_ref]; done))
theorem equal (k : Nat) (k1 n : Int) (s : ByteArray) (k2 m : Int) (t : ByteArray) (hn : (Lit.int .i64 n).wf = true) (hm : (Lit.int .i64 m).wf = true) :
    ∃ r, value_Equal.f (k + 7) k1 n s k2 m t = some r ∧ marqueeref01_Equal.f (k + 7) k1 n s k2 m t = some r := by
  obtain ⟨c, e1, e2⟩ := compare k k1 n s k2 m t hn hm
  have tr : ∀ b, marqueeref01_Truth.f b = value_truth.f b := fun _ => rfl
  have hv : ∀ b, ∃ r, value_truth.f b = some r := fun b => by cases b <;> exact ⟨_, rfl⟩
  have j : ∀ b, ∃ r, value_Equal.j0 (k + 7) b k1 n s k2 m t = some r ∧ marqueeref01_Equal.j0 (k + 7) b k1 n s k2 m t = some r := by
    intro b
    cases b
    · rw [value_Equal.j0, marqueeref01_Equal.j0, e1, e2]
      simp only [Bool.false_eq_true, if_false, Option.bind_some, tr]
      cases cb k1 k2
      · obtain ⟨r, h⟩ := hv false
        exact ⟨r, by simp only [Bool.false_eq_true, if_false, h, Option.bind_some], by simp only [Bool.false_eq_true, if_false, h, Option.bind_some]⟩
      · obtain ⟨r, h⟩ := hv (c == 0)
        exact ⟨r, by simp only [if_true, h, Option.bind_some], by simp only [if_true, h, Option.bind_some]⟩
    · exact ⟨_, rfl, rfl⟩
  unfold value_Equal.f marqueeref01_Equal.f
  by_cases h : k1 = 0
  · simp only [h, if_true]; rw [h] at j; exact j _
  · simp only [h, if_false]; exact j _
theorem order (k : Nat) (k1 n : Int) (s : ByteArray) (k2 m : Int) (t : ByteArray) (hn : (Lit.int .i64 n).wf = true) (hm : (Lit.int .i64 m).wf = true) :
    ∃ r, value_Order.f (k + 6) k1 n s k2 m t = some r ∧ marqueeref01_Order.f (k + 6) k1 n s k2 m t = some r := by
  obtain ⟨c, e1, e2⟩ := compare k k1 n s k2 m t hn hm
  unfold value_Order.f marqueeref01_Order.f
  simp only [rk_prog, rk_ref, Option.bind_some, cmpI_prog, cmpI_ref, cmpT_prog, cmpT_ref, or2, or3, e1, e2]
  rcases kinds k1 with rfl | rfl | rfl | rfl | rfl | ⟨h0, h1, h2, h3, h4, h5⟩ <;> rcases kinds k2 with rfl | rfl | rfl | rfl | rfl | ⟨g0, g1, g2, g3, g4, g5⟩
  all_goals try (exact ⟨_, rfl, rfl⟩)
  all_goals simp [rk, cb, cmpI_self, marqueeref01_number.f, *]
  all_goals first
    | (intro h; exact absurd h (by decide))
    | (by_cases hc : c = 0 <;> simp [hc]; done)
    | (repeat' split
       all_goals first | rfl | contradiction | simp_all)
theorem ValueCompares (a0_0 a0_1 : Int) (a0_2 : ByteArray) (a1_0 a1_1 : Int) (a1_2 : ByteArray) (_ : (Lit.int .i64 a0_0).wf = true) (h01 : (Lit.int .i64 a0_1).wf = true) (_ : a0_2.size ≤ maxLen) (_ : (Lit.int .i64 a1_0).wf = true) (h11 : (Lit.int .i64 a1_1).wf = true) (_ : a1_2.size ≤ maxLen) :
    ∃ k, marqueelaw01_ValueCompares.f k a0_0 a0_1 a0_2 a1_0 a1_1 a1_2 = some true := by
  refine ⟨10, ?_⟩
  obtain ⟨c, e1, e2⟩ := compare 4 a0_0 a0_1 a0_2 a1_0 a1_1 a1_2 h01 h11
  obtain ⟨r, f1, f2⟩ := equal 3 a0_0 a0_1 a0_2 a1_0 a1_1 a1_2 h01 h11
  obtain ⟨o, g1, g2⟩ := order 4 a0_0 a0_1 a0_2 a1_0 a1_1 a1_2 h01 h11
  unfold marqueelaw01_ValueCompares.f
  simp [e1, e2, f1, f2, g1, g2, marqueelaw01_awake.f]
end Go.Proofs.YthfialcaddjjaaaDoor.Pure
