/- The plain law of ValueOrders. No Go and no memory in it. -/
import Derived.Test.YthfialcaddjjaaaDoorPValueOrdersx0
import Derived.Test.YthfialcaddjjaaaDoorPValueOrdersx1
import Derived.Test.YthfialcaddjjaaaDoorPValueOrdersx2
import Derived.Test.YthfialcaddjjaaaDoorPValueOrdersx3
import Derived.Test.YthfialcaddjjaaaDoorPValueOrdersx4
import Derived.Test.YthfialcaddjjaaaDoorPValueOrdersx5
import Derived.Test.YthfialcaddjjaaaDoorPValueOrdersxL
import Derived.DataShut
import Derived.Lib.TrimUEq
import Derived.Lib.ValidLaws
import Derived.Lib.MapLaws
namespace Go.Proofs.YthfialcaddjjaaaDoor.Pure
set_option linter.unusedSimpArgs false
set_option maxRecDepth 4000
open Go.RowKit Go.Proofs.YthfialcaddjjaaaDoor.PValueOrders Go.Proofs.YthfialcaddjjaaaDoorW.PrintWords Go.WideShapes
def cmpI (a b : Int) : Int := if a < b then -1 else if a > b then 1 else 0
theorem cmpI_prog (a b : Int) : cmp_Compare_int.f a b = some (cmpI a b) := by
  unfold cmp_Compare_int.f cmp_isNaN_int.f cmpI
  simp only [bne_self_eq_false, Option.bind_some, Bool.false_eq_true, if_false]
  repeat' split
  all_goals rfl
def cmpT (s t : ByteArray) : Int := Lib.compareBytes s.data.toList t.data.toList
theorem cmpT_prog (s t : ByteArray) : strings_Compare.f s t = some (cmpT s t) := rfl
def lex (a b : Int) : Int := if a = 0 then b else a
theorem or2 (k : Nat) (a b : Int) : cmp_Or_int.f (k + 3) [a, b] = some (lex a b) := by
  unfold cmp_Or_int.f lex
  by_cases ha : a = 0
  · by_cases hb : b = 0
    · simp [cmp_Or_int.l0, rd, wrap64, ha, hb]
    · simp [cmp_Or_int.l0, rd, wrap64, ha, hb]
  · simp [cmp_Or_int.l0, rd, ha]
theorem or3 (k : Nat) (a b c : Int) : cmp_Or_int.f (k + 4) [a, b, c] = some (lex a (lex b c)) := by
  unfold cmp_Or_int.f lex
  by_cases ha : a = 0
  · by_cases hb : b = 0
    · by_cases hc : c = 0
      · simp [cmp_Or_int.l0, rd, wrap64, ha, hb, hc]
      · simp [cmp_Or_int.l0, rd, wrap64, ha, hb, hc]
    · simp [cmp_Or_int.l0, rd, wrap64, ha, hb]
  · simp [cmp_Or_int.l0, rd, ha]
theorem tparts (n : Int) : ∃ q r, Int.tdiv n 10000 = q ∧ Int.tmod n 10000 = r ∧ n = 10000 * q + r ∧ -10000 < r ∧ r < 10000 ∧ (0 ≤ n → 0 ≤ r) ∧ (n ≤ 0 → r ≤ 0) := by
  refine ⟨_, _, rfl, rfl, (Int.mul_tdiv_add_tmod n 10000).symm, ?_, Int.tmod_lt_of_pos n (by decide), fun h => Int.tmod_nonneg _ h, ?_⟩
  · have := Int.tmod_lt_of_pos (-n) (show (0 : Int) < 10000 by decide)
    rw [Int.neg_tmod] at this; omega
  · intro h
    have := Int.tmod_nonneg (a := -n) 10000 (by omega)
    rw [Int.neg_tmod] at this; omega
/-- A number in ten-thousandths. -/
def scaled (k n : Int) : Int := if k = 2 then n * 10000 else n
theorem numbers (k : Nat) (k1 n : Int) (s : ByteArray) (k2 m : Int) (t : ByteArray) (h1 : k1 = 2 ∨ k1 = 3) (h2 : k2 = 2 ∨ k2 = 3) (hn : (Lit.int .i64 n).wf = true) (hm : (Lit.int .i64 m).wf = true) :
    value_numbers.f (k + 5) k1 n s k2 m t = some (cmpI (scaled k1 n) (scaled k2 m)) := by
  have wn : -9223372036854775808 ≤ n ∧ n ≤ 9223372036854775807 := (Lit.wf_int_iff .i64 n).1 hn
  have wm : -9223372036854775808 ≤ m ∧ m ≤ 9223372036854775807 := (Lit.wf_int_iff .i64 m).1 hm
  rcases h1 with rfl | rfl
  · rcases h2 with rfl | rfl
    · simp only [value_numbers.f, cmpI_prog, Option.bind_some, if_true, scaled, cmpI]
      congr 1
      repeat' split
      all_goals first | rfl | (exfalso; omega)
    · obtain ⟨q, r, hq, hr, e, g1, g2, g3, g4⟩ := tparts m
      have hw : wrap64 q = q := by unfold wrap64; omega
      have c1 : scaled 2 n = n * 10000 := rfl
      have c2 : scaled 3 m = m := rfl
      rw [value_numbers.f, if_neg (by decide), if_neg (by decide), hq, hr, hw, cmpI_prog, Option.bind_some, cmpI_prog, Option.bind_some, show k + 4 = (k + 1) + 3 by omega, or2, Option.bind_some, c1, c2]
      congr 1
      unfold lex cmpI
      repeat' split
      all_goals first | rfl | (exfalso; omega) | omega
  · rcases h2 with rfl | rfl
    · obtain ⟨q, r, hq, hr, e, g1, g2, g3, g4⟩ := tparts n
      have hw : wrap64 q = q := by unfold wrap64; omega
      have c1 : scaled 3 n = n := rfl
      have c2 : scaled 2 m = m * 10000 := rfl
      rw [value_numbers.f, if_neg (by decide), if_pos rfl, value_numbers.f, if_neg (by decide), if_neg (by decide), hq, hr, hw, cmpI_prog, Option.bind_some, cmpI_prog, Option.bind_some, or2, Option.bind_some, Option.bind_some, c1, c2]
      congr 1
      unfold lex cmpI wrap64
      repeat' split
      all_goals first | rfl | (exfalso; omega) | omega
    · simp only [value_numbers.f, cmpI_prog, Option.bind_some, if_true, scaled]
      rfl
theorem kinds (k : Int) : k = 0 ∨ k = 1 ∨ k = 2 ∨ k = 3 ∨ k = 4 ∨ (¬ k = 0 ∧ ¬ k = 1 ∧ ¬ k = 2 ∧ ¬ k = 3 ∧ ¬ k = 4 ∧ (k < 0 ∨ 5 ≤ k)) := by omega
def rk (k : Int) : Int := if k = 0 then 0 else if k = 1 then 1 else if k = 2 then 2 else if k = 3 then 2 else if k = 4 then 3 else 4
theorem rk_prog (k : Int) : value_rank.f k = some (rk k) := by
  unfold value_rank.f rk
  rcases kinds k with rfl | rfl | rfl | rfl | rfl | ⟨h0, h1, h2, h3, h4, h5⟩
  all_goals first | rfl | skip
  rcases h5 with h5 | h5
  · simp [h0, h1, h2, h3, h4, h5]
  · have : ¬ k < 0 := by omega
    simp [h0, h1, h2, h3, h4, h5]
theorem rk_two (k : Int) (h : rk k = 2) : k = 2 ∨ k = 3 := by
  unfold rk at h
  rcases kinds k with rfl | rfl | rfl | rfl | rfl | ⟨h0, h1, h2, h3, h4, h5⟩
  all_goals first | (exact absurd h (by decide)) | (exact .inl rfl) | (exact .inr rfl) | skip
  simp [h0, h1, h2, h3, h4] at h
theorem rk_cases (k : Int) : rk k = 0 ∨ rk k = 1 ∨ rk k = 2 ∨ rk k = 3 ∨ rk k = 4 := by
  unfold rk
  rcases kinds k with rfl | rfl | rfl | rfl | rfl | ⟨h0, h1, h2, h3, h4, h5⟩
  all_goals first | decide | skip
  simp [h0, h1, h2, h3, h4]
/-- A value. -/
structure V where (k n : Int) (s : ByteArray)
/-- The order, by rank, then within a rank. -/
def within (r : Int) (a b : V) : Int := if r = 0 then 0 else if r = 1 then cmpI a.n b.n else if r = 2 then lex (cmpI (scaled a.k a.n) (scaled b.k b.n)) (cmpI a.k b.k) else if r = 3 then cmpT a.s b.s else lex (cmpI a.k b.k) (lex (cmpI a.n b.n) (cmpT a.s b.s))
def ord (a b : V) : Int := if rk a.k = rk b.k then within (rk a.k) a b else cmpI (rk a.k) (rk b.k)
theorem order_prog (k : Nat) (a b : V) (hn : (Lit.int .i64 a.n).wf = true) (hm : (Lit.int .i64 b.n).wf = true) : value_Order.f (k + 6) a.k a.n a.s b.k b.n b.s = some (ord a b) := by
  unfold value_Order.f ord
  rw [rk_prog, rk_prog, Option.bind_some, Option.bind_some]
  by_cases e : rk a.k = rk b.k
  · rw [if_pos e, if_pos e]
    unfold within value_Compare.f
    rw [rk_prog, rk_prog]
    rcases rk_cases a.k with h | h | h | h | h
    · rw [h]; rfl
    · rw [← e, h]
      simp [cmpI_prog]
    · have h' := h
      rw [e] at h'
      have o := or2 (k + 3) (cmpI (scaled a.k a.n) (scaled b.k b.n)) (cmpI a.k b.k)
      rw [show k + 3 + 3 = k + 6 by omega] at o
      rw [← e, h, numbers (k + 1) a.k a.n a.s b.k b.n b.s (rk_two _ h) (rk_two _ h') hn hm]
      simp [cmpI_prog, o]
    · rw [← e, h]
      simp [cmpT_prog]
    · have o := or3 (k + 2) (cmpI a.k b.k) (cmpI a.n b.n) (cmpT a.s b.s)
      rw [show k + 2 + 4 = k + 6 by omega] at o
      rw [h]
      simp [cmpI_prog, cmpT_prog, o]
  · rw [if_neg e, if_neg e, cmpI_prog]; rfl
/-! ### what makes an order -/
structure Good {α : Type} (c : α → α → Int) : Prop where
  anti : ∀ a b, (c a b = 1 ∧ c b a = -1) ∨ (c a b = 0 ∧ c b a = 0) ∨ (c a b = -1 ∧ c b a = 1)
  trans : ∀ a b d, c a b ≤ 0 → c b d ≤ 0 → c a d ≤ 0
theorem Good.refl {α : Type} {c : α → α → Int} (h : Good c) (a : α) : c a a = 0 := by rcases h.anti a a with ⟨h1, h2⟩ | ⟨h1, h2⟩ | ⟨h1, h2⟩ <;> omega
theorem Good.on {α β : Type} {c : α → α → Int} (h : Good c) (f : β → α) : Good (fun a b => c (f a) (f b)) := ⟨fun _ _ => h.anti _ _, fun _ _ _ => h.trans _ _ _⟩
theorem good_I : Good cmpI := by
  constructor
  · intro a b; unfold cmpI; repeat' split
    all_goals omega
  · intro a b d; unfold cmpI; repeat' split
    all_goals omega
theorem Good.lex {α : Type} {c e : α → α → Int} (h : Good c) (g : Good e) : Good (fun a b => lex (c a b) (e a b)) := by
  constructor
  · intro a b
    have h1 := h.anti a b
    have g1 := g.anti a b
    show (Pure.lex _ _ = 1 ∧ Pure.lex _ _ = -1) ∨ _
    unfold Pure.lex
    repeat' split
    all_goals omega
  · intro a b d
    have h1 := h.anti a b
    have h2 := h.anti b d
    have h3 := h.anti a d
    have t1 := h.trans a b d
    have t2 := h.trans b d a
    have t3 := h.trans d a b
    have g1 := g.trans a b d
    show Pure.lex _ _ ≤ 0 → Pure.lex _ _ ≤ 0 → Pure.lex _ _ ≤ 0
    unfold Pure.lex
    repeat' split
    all_goals omega
theorem anti_L : ∀ a b : List UInt8, (Lib.compareBytes a b = 1 ∧ Lib.compareBytes b a = -1) ∨ (Lib.compareBytes a b = 0 ∧ Lib.compareBytes b a = 0) ∨ (Lib.compareBytes a b = -1 ∧ Lib.compareBytes b a = 1)
  | [], [] => by simp [Lib.compareBytes]
  | [], _ :: _ => by simp [Lib.compareBytes]
  | _ :: _, [] => by simp [Lib.compareBytes]
  | x :: a, y :: b => by
    have ih := anti_L a b
    simp only [Lib.compareBytes, UInt8.lt_iff_toNat_lt]
    by_cases h1 : x.toNat < y.toNat
    · have h2 : ¬ y.toNat < x.toNat := by omega
      simp [h1, h2]
    · by_cases h2 : y.toNat < x.toNat
      · simp [h1, h2]
      · simpa [h1, h2] using ih
theorem trans_L : ∀ a b d : List UInt8, Lib.compareBytes a b ≤ 0 → Lib.compareBytes b d ≤ 0 → Lib.compareBytes a d ≤ 0
  | [], _, [], _, _ => by simp [Lib.compareBytes]
  | [], _, _ :: _, _, _ => by simp [Lib.compareBytes]
  | _ :: _, [], _, h, _ => by simp [Lib.compareBytes] at h
  | _ :: _, _ :: _, [], _, h => by simp [Lib.compareBytes] at h
  | x :: a, y :: b, z :: d, h, g => by
    have ih := trans_L a b d
    simp only [Lib.compareBytes, UInt8.lt_iff_toNat_lt] at h g ⊢
    by_cases h1 : x.toNat < y.toNat
    · by_cases g1 : y.toNat < z.toNat
      · rw [if_pos (by omega)]; decide
      · rw [if_neg g1] at g
        by_cases g2 : z.toNat < y.toNat
        · rw [if_pos g2] at g; omega
        · rw [if_pos (by omega)]; decide
    · rw [if_neg h1] at h
      by_cases h2 : y.toNat < x.toNat
      · rw [if_pos h2] at h; omega
      · rw [if_neg h2] at h
        by_cases g1 : y.toNat < z.toNat
        · rw [if_pos (by omega)]; decide
        · rw [if_neg g1] at g
          by_cases g2 : z.toNat < y.toNat
          · rw [if_pos g2] at g; omega
          · rw [if_neg g2] at g
            rw [if_neg (by omega), if_neg (by omega)]
            exact ih h g
theorem good_T : Good cmpT := ⟨fun _ _ => anti_L _ _, fun _ _ _ => trans_L _ _ _⟩
theorem good_within (r : Int) : Good (within r) := by
  unfold within
  by_cases h0 : r = 0
  · simp only [h0, if_true]; exact ⟨fun _ _ => .inr (.inl ⟨rfl, rfl⟩), fun _ _ _ _ _ => Int.le_refl 0⟩
  by_cases h1 : r = 1
  · simp only [h0, h1, if_true, if_false]; exact good_I.on V.n
  by_cases h2 : r = 2
  · simp only [h0, h1, h2, if_true, if_false]; exact (good_I.on (fun v : V => scaled v.k v.n)).lex (good_I.on V.k)
  by_cases h3 : r = 3
  · simp only [h0, h1, h2, h3, if_true, if_false]; exact good_T.on V.s
  simp only [h0, h1, h2, h3, if_false]
  exact (good_I.on V.k).lex ((good_I.on V.n).lex (good_T.on V.s))
theorem good_ord : Good ord := by
  constructor
  · intro a b
    unfold ord
    by_cases e : rk a.k = rk b.k
    · rw [if_pos e, if_pos e.symm, ← e]; exact (good_within _).anti a b
    · rw [if_neg e, if_neg (fun h => e h.symm)]; exact good_I.anti _ _
  · intro a b d h g
    unfold ord at h g ⊢
    by_cases e : rk a.k = rk b.k
    · rw [if_pos e] at h
      by_cases f : rk b.k = rk d.k
      · rw [if_pos f] at g; rw [if_pos (e.trans f)]
        rw [← e] at g
        exact (good_within _).trans a b d h g
      · rw [if_neg f] at g; rw [if_neg (fun h => f (e.symm.trans h)), e]; exact g
    · rw [if_neg e] at h
      by_cases f : rk b.k = rk d.k
      · rw [← f, if_neg e]; exact h
      · rw [if_neg f] at g
        have t := good_I.trans _ _ _ h g
        by_cases u : rk a.k = rk d.k
        · exfalso
          rw [← u] at g
          have := good_I.anti (rk a.k) (rk b.k)
          unfold cmpI at *
          repeat' split at *
          all_goals omega
        · rw [if_neg u]; exact t
theorem ValueOrders (a0_0 a0_1 : Int) (a0_2 : ByteArray) (a0_3 a0_4 : Int) (a0_5 : ByteArray) (a0_6 a0_7 : Int) (a0_8 : ByteArray) (_ : (Lit.int .i64 a0_0).wf = true) (h1 : (Lit.int .i64 a0_1).wf = true) (_ : a0_2.size ≤ maxLen) (_ : (Lit.int .i64 a0_3).wf = true) (h2 : (Lit.int .i64 a0_4).wf = true) (_ : a0_5.size ≤ maxLen) (_ : (Lit.int .i64 a0_6).wf = true) (h3 : (Lit.int .i64 a0_7).wf = true) (_ : a0_8.size ≤ maxLen) :
    ∃ k, marqueelaw01_ValueOrders.f k a0_0 a0_1 a0_2 a0_3 a0_4 a0_5 a0_6 a0_7 a0_8 = some true := by
  refine ⟨0 + 6, ?_⟩
  have ab := order_prog 0 ⟨a0_0, a0_1, a0_2⟩ ⟨a0_3, a0_4, a0_5⟩ h1 h2
  have ba := order_prog 0 ⟨a0_3, a0_4, a0_5⟩ ⟨a0_0, a0_1, a0_2⟩ h2 h1
  have aa := order_prog 0 ⟨a0_0, a0_1, a0_2⟩ ⟨a0_0, a0_1, a0_2⟩ h1 h1
  have bc := order_prog 0 ⟨a0_3, a0_4, a0_5⟩ ⟨a0_6, a0_7, a0_8⟩ h2 h3
  have ac := order_prog 0 ⟨a0_0, a0_1, a0_2⟩ ⟨a0_6, a0_7, a0_8⟩ h1 h3
  simp only at ab ba aa bc ac
  unfold marqueelaw01_ValueOrders.f
  rw [ab, Option.bind_some, ba, Option.bind_some, aa, Option.bind_some, bc, Option.bind_some, ac, Option.bind_some]
  refine if_pos ⟨good_ord.refl _, good_ord.anti _ _, ?_⟩
  by_cases g1 : ord ⟨a0_0, a0_1, a0_2⟩ ⟨a0_3, a0_4, a0_5⟩ > 0
  · exact .inl g1
  · by_cases g2 : ord ⟨a0_3, a0_4, a0_5⟩ ⟨a0_6, a0_7, a0_8⟩ > 0
    · exact .inr (.inl g2)
    · exact .inr (.inr (good_ord.trans ⟨a0_0, a0_1, a0_2⟩ ⟨a0_3, a0_4, a0_5⟩ ⟨a0_6, a0_7, a0_8⟩ (Int.not_lt.1 g1) (Int.not_lt.1 g2)))
end Go.Proofs.YthfialcaddjjaaaDoor.Pure
