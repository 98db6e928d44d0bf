/- The plain law of ValueShows. No Go and no memory in it. -/
import Derived.Test.YthfialcaddjjaaaDoorPValueShowsx0
import Derived.Test.YthfialcaddjjaaaDoorPValueShowsx1
import Derived.Test.YthfialcaddjjaaaDoorPValueShowsx2
import Derived.Test.YthfialcaddjjaaaDoorPValueShowsx3
import Derived.Test.YthfialcaddjjaaaDoorPValueShowsx4
import Derived.Test.YthfialcaddjjaaaDoorPValueShowsx5
import Derived.Test.YthfialcaddjjaaaDoorPValueShowsx6
import Derived.Test.YthfialcaddjjaaaDoorPValueShowsx7
import Derived.DataShut
import Derived.Lib.CountLaws
import Derived.Lib.Replace
import Derived.Lib.TrimUEq
import Derived.Lib.ValidLaws
import Derived.Lib.MapLaws
namespace Go.Proofs.YthfialcaddjjaaaDoor.Pure
set_option linter.unusedSimpArgs false
set_option maxRecDepth 4000
open Go.RowKit Go.Proofs.YthfialcaddjjaaaDoor.PValueShows Go.Proofs.YthfialcaddjjaaaDoorW.PrintWords Go.WideShapes
/-! ### UTF-8: the document's loop and the model's decoding -/
theorem runes_mono (s : ByteArray) (i : Int) (r : Bool) (k : Nat) (h : marqueeref01_Runes.l0 k s i = some r) : ∀ j, marqueeref01_Runes.l0 (k + j) s i = some r
  | 0 => h
  | j + 1 => (marqueeref01_Runes.mono_l (k + j)).1 s i r (runes_mono s i r k h j)
theorem wr {n : Int} (h1 : -4611686018427387904 ≤ n) (h2 : n < 4611686018427387904) : wrap64 n = n := by unfold wrap64; omega
theorem bt_at (s : ByteArray) (i j : Nat) (h : i + j < s.size) : bt s ((i : Int) + (j : Int)) = (((s.data.toList.drop i).getD j 0).toNat : Int) := by
  unfold bt
  have e : ((i : Int) + (j : Int)).toNat = i + j := by omega
  rw [dif_pos (by omega)]
  have h' : i + j < s.data.toList.length := by rw [data_length]; exact h
  simp only [e, List.getD, List.getElem?_drop, List.getElem?_eq_getElem h', Option.getD_some]
  rfl
theorem bt_lt (s : ByteArray) (i : Int) : 0 ≤ bt s i ∧ bt s i < 256 := by
  unfold bt
  split
  · have := UInt8.toNat_lt (s[i.toNat])
    omega
  · omega
theorem runes_step (k : Nat) (s : ByteArray) (i n least v c : Int) (hc : c < n) (h0 : 0 ≤ i) (hc0 : 0 ≤ c) (hi : i + c < s.size) (hs : (s.size : Int) < 1073741824) (hv : 0 ≤ v) (hv2 : v < 1073741824) :
    marqueeref01_Runes.l1 (k + 1) s i n least v c = if 128 ≤ bt s (i + c) ∧ bt s (i + c) < 192 then marqueeref01_Runes.l1 k s i n least (v * 64 + bt s (i + c) - 128) (c + 1) else some false := by
  have hb := bt_lt s (i + c)
  rw [marqueeref01_Runes.l1]
  rw [if_pos hc, wr (n := i + c) (by omega) (by omega), if_pos (by omega), if_pos (by omega), wr (n := bt s (i + c)) (by omega) (by omega), wr (n := v * 64) (by omega) (by omega), wr (n := v * 64 + _) (by omega) (by omega), wr (n := _ - 128) (by omega) (by omega), wr (n := c + 1) (by omega) (by omega)]
  by_cases h1 : bt s (i + c) < 128
  · rw [if_pos h1, if_neg (by omega)]
  · rw [if_neg h1]
    by_cases h2 : bt s (i + c) ≥ 192
    · rw [if_pos h2, if_neg (by omega)]
    · rw [if_neg h2, if_pos (by omega)]
theorem runes_end (k : Nat) (s : ByteArray) (i n least v : Int) (h0 : 0 ≤ i) (hn : 0 ≤ n) (hi : i + n ≤ s.size) (hs : (s.size : Int) < 1073741824) :
    marqueeref01_Runes.l1 (k + 1) s i n least v n = if least ≤ v ∧ v ≤ 1114111 ∧ (v < 55296 ∨ 57344 ≤ v) then marqueeref01_Runes.l0 k s (i + n) else some false := by
  rw [marqueeref01_Runes.l1]
  rw [if_neg (Int.lt_irrefl n), wr (n := i + n) (by omega) (by omega)]
  by_cases h1 : v < least
  · rw [if_pos h1, if_neg (by omega)]
  rw [if_neg h1]
  by_cases h2 : v > 1114111
  · rw [if_pos h2, if_neg (by omega)]
  rw [if_neg h2]
  by_cases h3 : v ≥ 55296
  · rw [if_pos h3]
    by_cases h4 : v < 57344
    · rw [if_pos h4, if_neg (by omega)]
    · rw [if_neg h4, if_pos (by omega)]
  · rw [if_neg h3, if_pos (by omega)]
theorem runes_j3 (k : Nat) (s : ByteArray) (i n least v : Int) (h0 : 0 ≤ i) (hi : i ≤ s.size) (hs : (s.size : Int) < 1073741824) :
    marqueeref01_Runes.j3 (k + 1) s i n least v = if s.size - i < n then some false else marqueeref01_Runes.l1 k s i n least v 1 := by
  rw [marqueeref01_Runes.j3, wr (n := (s.size : Int) - i) (by omega) (by omega)]
/-- One character of the document's loop, by the model's decoding. -/
theorem runes_char (k : Nat) (s : ByteArray) (i : Nat) (hi : i < s.size) (hs : (s.size : Int) < 1073741824) (r : Bool)
    (h : (if (Lib.decodeL (s.data.toList.drop i)).1 = 65533 ∧ (Lib.decodeL (s.data.toList.drop i)).2 = 1 then some false else marqueeref01_Runes.l0 k s ((i + (Lib.decodeL (s.data.toList.drop i)).2 : Nat) : Int)) = some r) :
    marqueeref01_Runes.l0 (k + 9) s (i : Int) = some r := by
  have hb0 := bt_at s i 0 (by omega)
  have hb1 := bt_at s i 1
  have hb2 := bt_at s i 2
  have hb3 := bt_at s i 3
  rw [Lib.decodeL_N, List.length_drop, data_length] at h
  generalize e0 : ((s.data.toList.drop i).getD 0 0).toNat = b0 at *
  generalize e1 : ((s.data.toList.drop i).getD 1 0).toNat = b1 at *
  generalize e2 : ((s.data.toList.drop i).getD 2 0).toNat = b2 at *
  generalize e3 : ((s.data.toList.drop i).getD 3 0).toNat = b3 at *
  have l0 : b0 < 256 := by rw [← e0]; exact UInt8.toNat_lt _
  have l1 : b1 < 256 := by rw [← e1]; exact UInt8.toNat_lt _
  have l2 : b2 < 256 := by rw [← e2]; exact UInt8.toNat_lt _
  have l3 : b3 < 256 := by rw [← e3]; exact UInt8.toNat_lt _
  clear e0 e1 e2 e3
  have hb0' : bt s (i : Int) = b0 := by simpa using hb0
  rw [marqueeref01_Runes.l0, if_pos (by omega), if_pos (by omega), hb0', wr (n := (b0 : Int)) (by omega) (by omega)]
  generalize hd : Lib.decodeN (s.size - i) b0 b1 b2 b3 = d at h
  unfold Lib.decodeN at hd
  have up : ∀ w j : Nat, marqueeref01_Runes.l0 k s ((i + w : Nat) : Int) = some r → marqueeref01_Runes.l0 (k + j) s ((i : Int) + (w : Int)) = some r := fun w j g => by
    have := runes_mono s _ r k g j
    simpa using this
  by_cases c1 : b0 < 128
  · rw [if_pos c1] at hd
    subst hd
    rw [if_pos (by omega), runes_j3 _ _ _ _ _ _ (by omega) (by omega) hs, if_neg (by omega), runes_end _ _ _ _ _ _ (by omega) (by omega) (by omega) hs, if_pos (by omega)]
    rw [if_neg (by simp; omega)] at h
    exact up 1 6 h
  rw [if_neg c1] at hd
  rw [if_neg (by omega)]
  by_cases c2 : 192 ≤ b0
  · rw [if_pos (by omega), marqueeref01_Runes.j1]
    by_cases c3 : b0 < 224
    · rw [if_pos (by simp; omega), wr (n := (b0 : Int) - 192) (by omega) (by omega), runes_j3 _ _ _ _ _ _ (by omega) (by omega) hs]
      by_cases n2 : 1 < s.size - i
      · rw [if_neg (by omega), runes_step _ _ _ _ _ _ _ (by omega) (by omega) (by omega) (by omega) hs (by omega) (by omega), show (i : Int) + 1 = (i : Int) + (1 : Nat) by rfl, hb1 (by omega)]
        by_cases d1 : b1 / 64 = 2
        · rw [if_pos (by omega)]
          rw [if_pos (by omega)] at hd
          rw [show ((1 : Int) + 1) = 2 by rfl, runes_end _ _ _ _ _ _ (by omega) (by omega) (by omega) hs]
          by_cases g : b0 % 32 * 64 + b1 % 64 ≥ 128
          · rw [if_pos g] at hd
            subst hd
            rw [if_neg (by simp)] at h
            rw [if_pos (by omega)]
            exact up 2 4 h
          · rw [if_neg g] at hd
            subst hd
            rw [if_pos (by simp)] at h
            rw [if_neg (by omega)]
            exact h
        · rw [if_neg (by omega)]
          rw [if_neg (by omega), if_neg (by omega), if_neg (by omega)] at hd
          subst hd
          rw [if_pos (by simp)] at h
          exact h
      · rw [if_pos (by omega)]
        rw [if_neg (by omega), if_neg (by omega), if_neg (by omega)] at hd
        subst hd
        rw [if_pos (by simp)] at h
        exact h
    · rw [if_neg (by simp; omega), if_pos (by omega), marqueeref01_Runes.j2]
      rw [if_neg (by omega)] at hd
      by_cases c4 : b0 < 240
      · rw [if_pos (by simp; omega), wr (n := (b0 : Int) - 224) (by omega) (by omega), runes_j3 _ _ _ _ _ _ (by omega) (by omega) hs]
        by_cases n3 : 2 < s.size - i
        · rw [if_neg (by omega), runes_step _ _ _ _ _ _ _ (by omega) (by omega) (by omega) (by omega) hs (by omega) (by omega), show (i : Int) + 1 = (i : Int) + (1 : Nat) by rfl, hb1 (by omega)]
          by_cases d1 : b1 / 64 = 2
          · rw [if_pos (by omega), show ((1 : Int) + 1) = 2 by rfl, runes_step _ _ _ _ _ _ _ (by omega) (by omega) (by omega) (by omega) hs (by omega) (by omega), show (i : Int) + 2 = (i : Int) + (2 : Nat) by rfl, hb2 (by omega)]
            by_cases d2 : b2 / 64 = 2
            · rw [if_pos (by omega), show ((2 : Int) + 1) = 3 by rfl, runes_end _ _ _ _ _ _ (by omega) (by omega) (by omega) hs]
              rw [if_pos (by omega)] at hd
              by_cases g : b0 % 16 * 4096 + b1 % 64 * 64 + b2 % 64 ≥ 2048 ∧ (b0 % 16 * 4096 + b1 % 64 * 64 + b2 % 64 < 55296 ∨ (57344 ≤ b0 % 16 * 4096 + b1 % 64 * 64 + b2 % 64 ∧ b0 % 16 * 4096 + b1 % 64 * 64 + b2 % 64 ≤ 1114111))
              · rw [if_pos g] at hd
                subst hd
                rw [if_neg (by simp)] at h
                rw [if_pos (by omega)]
                exact up 3 2 h
              · rw [if_neg g] at hd
                subst hd
                rw [if_pos (by simp)] at h
                rw [if_neg (by omega)]
                exact h
            · rw [if_neg (by omega)]
              rw [if_neg (by omega), if_neg (by omega)] at hd
              subst hd
              rw [if_pos (by simp)] at h
              exact h
          · rw [if_neg (by omega)]
            rw [if_neg (by omega), if_neg (by omega)] at hd
            subst hd
            rw [if_pos (by simp)] at h
            exact h
        · rw [if_pos (by omega)]
          rw [if_neg (by omega), if_neg (by omega)] at hd
          subst hd
          rw [if_pos (by simp)] at h
          exact h
      · rw [if_neg (by simp; omega), if_pos (by omega)]
        rw [if_neg (by omega)] at hd
        by_cases c5 : b0 < 248
        · rw [if_pos (by omega), wr (n := (b0 : Int) - 240) (by omega) (by omega), runes_j3 _ _ _ _ _ _ (by omega) (by omega) hs]
          by_cases n4 : 3 < s.size - i
          · rw [if_neg (by omega), runes_step _ _ _ _ _ _ _ (by omega) (by omega) (by omega) (by omega) hs (by omega) (by omega), show (i : Int) + 1 = (i : Int) + (1 : Nat) by rfl, hb1 (by omega)]
            by_cases d1 : b1 / 64 = 2
            · rw [if_pos (by omega), show ((1 : Int) + 1) = 2 by rfl, runes_step _ _ _ _ _ _ _ (by omega) (by omega) (by omega) (by omega) hs (by omega) (by omega), show (i : Int) + 2 = (i : Int) + (2 : Nat) by rfl, hb2 (by omega)]
              by_cases d2 : b2 / 64 = 2
              · rw [if_pos (by omega), show ((2 : Int) + 1) = 3 by rfl, runes_step _ _ _ _ _ _ _ (by omega) (by omega) (by omega) (by omega) hs (by omega) (by omega), show (i : Int) + 3 = (i : Int) + (3 : Nat) by rfl, hb3 (by omega)]
                by_cases d3 : b3 / 64 = 2
                · rw [if_pos (by omega), show ((3 : Int) + 1) = 4 by rfl, runes_end _ _ _ _ _ _ (by omega) (by omega) (by omega) hs]
                  rw [if_pos (by omega)] at hd
                  by_cases g : b0 % 8 * 262144 + b1 % 64 * 4096 + b2 % 64 * 64 + b3 % 64 ≥ 65536 ∧ (b0 % 8 * 262144 + b1 % 64 * 4096 + b2 % 64 * 64 + b3 % 64 < 55296 ∨ (57344 ≤ b0 % 8 * 262144 + b1 % 64 * 4096 + b2 % 64 * 64 + b3 % 64 ∧ b0 % 8 * 262144 + b1 % 64 * 4096 + b2 % 64 * 64 + b3 % 64 ≤ 1114111))
                  · rw [if_pos g] at hd
                    subst hd
                    rw [if_neg (by simp)] at h
                    rw [if_pos (by omega)]
                    exact up 4 1 h
                  · rw [if_neg g] at hd
                    subst hd
                    rw [if_pos (by simp)] at h
                    rw [if_neg (by omega)]
                    exact h
                · rw [if_neg (by omega)]
                  rw [if_neg (by omega)] at hd
                  subst hd
                  rw [if_pos (by simp)] at h
                  exact h
              · rw [if_neg (by omega)]
                rw [if_neg (by omega)] at hd
                subst hd
                rw [if_pos (by simp)] at h
                exact h
            · rw [if_neg (by omega)]
              rw [if_neg (by omega)] at hd
              subst hd
              rw [if_pos (by simp)] at h
              exact h
          · rw [if_pos (by omega)]
            rw [if_neg (by omega)] at hd
            subst hd
            rw [if_pos (by simp)] at h
            exact h
        · rw [if_neg (by omega)]
          rw [if_neg (by omega)] at hd
          subst hd
          rw [if_pos (by simp)] at h
          exact h
  · rw [if_neg (by omega), marqueeref01_Runes.j1, if_neg (by simp), if_neg (by omega), marqueeref01_Runes.j2, if_neg (by simp), if_neg (by omega)]
    rw [if_neg (by omega), if_neg (by omega), if_neg (by omega)] at hd
    subst hd
    rw [if_pos (by simp)] at h
    exact h
theorem runes_from (s : ByteArray) (hs : (s.size : Int) < 1073741824) : ∀ (f i : Nat), i ≤ s.size → s.size - i ≤ f → marqueeref01_Runes.l0 (9 * f + 1) s (i : Int) = some (Lib.validD (s.data.toList.drop i))
  | 0, i, h, h2 => by
    obtain rfl : i = s.size := by omega
    rw [marqueeref01_Runes.l0, if_neg (by omega), List.drop_of_length_le (by rw [data_length]; exact Nat.le_refl _)]
    rfl
  | f + 1, i, h, h2 => by
    by_cases hi : i < s.size
    · have hne : s.data.toList.drop i ≠ [] := fun e => by have := congrArg List.length e; rw [List.length_drop, data_length] at this; simp at this; omega
      have hw := Lib.decodeL_le _ hne
      have hw1 := Lib.decodeL_width (s.data.toList.drop i)
      rw [List.length_drop, data_length] at hw
      refine runes_char (9 * f + 1) s i hi hs _ ?_
      rw [Lib.validD_step _ hne]
      by_cases g : (Lib.decodeL (s.data.toList.drop i)).1 = 65533 ∧ (Lib.decodeL (s.data.toList.drop i)).2 = 1
      · rw [if_pos g, if_pos g]
      · rw [if_neg g, if_neg g, List.drop_drop]
        exact runes_from s hs f _ (by omega) (by omega)
    · obtain rfl : i = s.size := by omega
      rw [show 9 * (f + 1) + 1 = (9 * f + 9) + 1 by omega, marqueeref01_Runes.l0, if_neg (by omega), List.drop_of_length_le (by rw [data_length]; exact Nat.le_refl _)]
      rfl
theorem runes_eq (s : ByteArray) (hs : s.size ≤ 1024) (k : Nat) : marqueeref01_Runes.f (9300 + k) s = some (Lib.validD s.data.toList) := by
  have h := runes_from s (by omega) 1024 0 (by omega) (by omega)
  have := runes_mono s _ _ _ h (83 + k)
  unfold marqueeref01_Runes.f
  rw [show 9300 + k = 9 * 1024 + 1 + (83 + k) by omega]
  simpa using this
/-! ### numbers' texts -/
theorem dd_big {u : Nat} (h : 10 ≤ u) : Lib.decDigits u = Lib.decDigits (u / 10) ++ [UInt8.ofNat (48 + u % 10)] := by
  conv => lhs; rw [Lib.decDigits]
  rw [dif_neg (by omega)]
theorem dd_small {u : Nat} (h : u < 10) : Lib.decDigits u = [UInt8.ofNat (48 + u)] := by rw [Lib.decDigits, dif_pos h]
theorem u64n {n : Int} (h0 : 0 ≤ n) (h1 : n < 18446744073709551616) : IntKind.u64.wrap n = n := by rw [IntKind.wrap_u64]; omega
theorem one_digit (n : Nat) (h : n < 18446744073709551616) : strOfNums [(IntKind.u64.wrap (48 + (Int.tmod (n : Int) 10))) % 256] = ⟨#[UInt8.ofNat (48 + n % 10)]⟩ := by
  have e : Int.tmod (n : Int) 10 = ((n % 10 : Nat) : Int) := by rw [Int.tmod_eq_emod_of_nonneg (by omega)]; omega
  rw [e, u64n (by omega) (by omega)]
  unfold strOfNums
  have : ((48 + ((n % 10 : Nat) : Int)) % 256).toNat = 48 + n % 10 := by omega
  simp only [List.map, this]
theorem next_digits (n : Nat) (h : n < 18446744073709551616) : IntKind.u64.wrap (Int.tdiv (n : Int) 10) = ((n / 10 : Nat) : Int) := by
  have e : Int.tdiv (n : Int) 10 = ((n / 10 : Nat) : Int) := by rw [Int.tdiv_eq_ediv_of_nonneg (by omega)]; omega
  rw [e, u64n (by omega) (by omega)]
theorem digits_loop : ∀ (j k n : Nat) (out : ByteArray), n < 10 ^ j → n < 18446744073709551616 → j < k → out.size + j ≤ 4000000000 →
    marqueeref01_digits.l0 k (n : Int) out = some ⟨((if n = 0 then [] else Lib.decDigits n) ++ out.data.toList).toArray⟩
  | 0, 0, _, _, _, _, h, _ => absurd h (Nat.lt_irrefl 0)
  | 0, k + 1, n, out, h, _, _, _ => by
    obtain rfl : n = 0 := by simpa using h
    rw [marqueeref01_digits.l0, if_neg (by omega)]
    simp
  | j + 1, 0, _, _, _, _, h, _ => absurd h (Nat.not_lt_zero _)
  | j + 1, k + 1, n, out, h, hn, hk, hs => by
    rw [marqueeref01_digits.l0]
    by_cases h0 : n = 0
    · subst h0
      rw [if_neg (by omega)]
      simp
    · have hsz : (strOfNums [(IntKind.u64.wrap (48 + (Int.tmod (n : Int) 10))) % 256]).size = 1 := strOfNums_size _
      have hdata : ((strOfNums [(IntKind.u64.wrap (48 + (Int.tmod (n : Int) 10))) % 256]) ++ out).data.toList = UInt8.ofNat (48 + n % 10) :: out.data.toList := by
        rw [one_digit n hn]; simp
      rw [if_pos (by omega), Option.bind_some, if_pos (by omega), next_digits n hn]
      have h10 : n / 10 < 10 ^ j := by rw [Nat.pow_succ] at h; omega
      rw [digits_loop j k (n / 10) _ h10 (by omega) (by omega) (by rw [ByteArray.size_append]; omega), hdata, if_neg h0]
      by_cases h1 : n < 10
      · rw [if_pos (by omega), dd_small h1]
        have : n % 10 = n := by omega
        simp [this]
      · rw [if_neg (by omega), dd_big (u := n) (by omega)]
        simp
theorem digits_eq (n k : Nat) (h : n < 18446744073709551616) (hk : 20 < k) : marqueeref01_digits.f k (n : Int) = some ⟨(Lib.decDigits n).toArray⟩ := by
  unfold marqueeref01_digits.f
  rw [next_digits n h, one_digit n h, digits_loop 20 k (n / 10) _ (by omega) (by omega) hk (by simp [ByteArray.size])]
  by_cases h1 : n < 10
  · rw [if_pos (by omega), dd_small h1]
    have : n % 10 = n := by omega
    simp [this]
  · rw [if_neg (by omega), dd_big (u := n) (by omega)]
theorem dd_len (n : Nat) (h : n < 18446744073709551616) : (Lib.decDigits n).length ≤ 20 := by
  have : ∀ (j n : Nat), n < 10 ^ (j + 1) → (Lib.decDigits n).length ≤ j + 1 := by
    intro j
    induction j with
    | zero => intro n h; rw [dd_small (by simpa using h)]; simp
    | succ j ih =>
      intro n h
      by_cases h1 : n < 10
      · rw [dd_small h1]; simp
      · rw [dd_big (by omega)]
        have := ih (n / 10) (by rw [Nat.pow_succ] at h; omega)
        simp; omega
  exact this 19 n (by omega)
theorem Digits_eq (n : Int) (k : Nat) (h : (Lit.int .i64 n).wf = true) (hk : 20 < k) : marqueeref01_Digits.f k n = some ⟨(Lib.itoa n).toArray⟩ := by
  have hw : -9223372036854775808 ≤ n ∧ n ≤ 9223372036854775807 := (Lit.wf_int_iff .i64 n).1 h
  unfold marqueeref01_Digits.f
  by_cases hn : n < 0
  · have e : IntKind.u64.wrap (-(IntKind.u64.wrap n)) = ((n.natAbs : Nat) : Int) := by rw [IntKind.wrap_u64, IntKind.wrap_u64]; omega
    have hl := dd_len n.natAbs (by omega)
    rw [if_pos hn, e, digits_eq n.natAbs k (by omega) hk, Option.bind_some, if_pos (by simp [ByteArray.size]; omega)]
    unfold Lib.itoa
    rw [if_pos hn]
    exact congrArg some (bytes_inj (by simp))
  · have e : IntKind.u64.wrap n = ((n.toNat : Nat) : Int) := by rw [IntKind.wrap_u64]; omega
    have hl := dd_len n.toNat (by omega)
    rw [if_neg hn, e, digits_eq n.toNat k (by omega) hk, Option.bind_some, if_pos (by simp [ByteArray.size]; omega)]
    unfold Lib.itoa
    rw [if_neg hn]
    exact congrArg some (bytes_inj (by simp))
/-! ### decimals -/
def pad (r : Nat) : List UInt8 := Lib.repeatL [48] (4 - (Lib.decDigits r).length) ++ Lib.decDigits r
def fr (l : List UInt8) : List UInt8 := if Lib.trimRightB l 48 = [] then [48] else Lib.trimRightB l 48
theorem frac_eq (r : Nat) : value_decimal.frac r = fr (pad r) := rfl
theorem pad_eq (r : Nat) (h : r < 10000) : pad r = [UInt8.ofNat (48 + r / 1000), UInt8.ofNat (48 + r / 100 % 10), UInt8.ofNat (48 + r / 10 % 10), UInt8.ofNat (48 + r % 10)] := by
  unfold pad
  by_cases h1 : r < 10
  · have e1 : r / 1000 = 0 := by omega
    have e2 : r / 100 % 10 = 0 := by omega
    have e3 : r / 10 % 10 = 0 := by omega
    have e4 : r % 10 = r := by omega
    rw [dd_small h1, e1, e2, e3, e4]
    simp [Lib.repeatL]
  by_cases h2 : r < 100
  · have e1 : r / 1000 = 0 := by omega
    have e2 : r / 100 % 10 = 0 := by omega
    have e3 : r / 10 % 10 = r / 10 := by omega
    rw [dd_big (by omega), dd_small (by omega), e1, e2, e3]
    simp [Lib.repeatL]
  by_cases h3 : r < 1000
  · have e1 : r / 1000 = 0 := by omega
    have e2 : r / 100 % 10 = r / 10 / 10 := by omega
    rw [dd_big (by omega), dd_big (u := r / 10) (by omega), dd_small (u := r / 10 / 10) (by omega), e1, e2]
    simp [Lib.repeatL]
  · have e1 : r / 1000 = r / 10 / 10 / 10 := by omega
    have e2 : r / 100 % 10 = r / 10 / 10 % 10 := by omega
    rw [dd_big (by omega), dd_big (u := r / 10) (by omega), dd_big (u := r / 10 / 10) (by omega), dd_small (u := r / 10 / 10 / 10) (by omega), e1, e2]
    simp [Lib.repeatL]
theorem dd_10000 (r : Nat) (h : r < 10000) : Lib.decDigits (r + 10000) = 49 :: pad r := by
  rw [pad_eq r h, dd_big (by omega), dd_big (u := (r + 10000) / 10) (by omega), dd_big (u := (r + 10000) / 10 / 10) (by omega), dd_big (u := (r + 10000) / 10 / 10 / 10) (by omega), dd_small (u := (r + 10000) / 10 / 10 / 10 / 10) (by omega)]
  have e0 : (r + 10000) / 10 / 10 / 10 / 10 = 1 := by omega
  have e1 : (r + 10000) / 10 / 10 / 10 % 10 = r / 1000 := by omega
  have e2 : (r + 10000) / 10 / 10 % 10 = r / 100 % 10 := by omega
  have e3 : (r + 10000) / 10 % 10 = r / 10 % 10 := by omega
  have e4 : (r + 10000) % 10 = r % 10 := by omega
  rw [e0, e1, e2, e3, e4]
  rfl
theorem trimR_keep (l : List UInt8) (x : UInt8) (h : x ≠ 48) : Lib.trimRightB (l ++ [x]) 48 = l ++ [x] := by
  unfold Lib.trimRightB
  simp [List.dropWhile, h]
theorem trimR_drop (l : List UInt8) : Lib.trimRightB (l ++ [48]) 48 = Lib.trimRightB l 48 := by
  unfold Lib.trimRightB
  simp [List.dropWhile]
theorem dec_loop (q : Nat) (hq : q < 18446744073709551616 / 10000) (u : Int) (hu : IntKind.u64.wrap (Int.tdiv u 10000) = (q : Int)) (sg : ByteArray) (hsg : sg.size ≤ 1) :
    ∀ (j k : Nat) (l : List UInt8), l.length = j + 1 → j < 10 → 22 + j < k →
    marqueeref01_dec.l0 k u sg ⟨l.toArray⟩ = some ⟨(sg.data.toList ++ Lib.decDigits q ++ [46] ++ fr l).toArray⟩ := by
  intro j
  induction j with
  | zero =>
    intro k l hl _ hk
    obtain ⟨x, rfl⟩ : ∃ x, l = [x] := by
      match l, hl with
      | [x], _ => exact ⟨x, rfl⟩
    have hf : fr [x] = [x] := by
      unfold fr
      by_cases hx : x = 48
      · subst hx; rfl
      · have := trimR_keep [] x hx
        simp at this
        rw [this]; simp
    have hlen := dd_len q (by omega)
    have hQ : (⟨(Lib.decDigits q).toArray⟩ : ByteArray).size = (Lib.decDigits q).length := by simp [ByteArray.size]
    have hdot : (⟨#[46]⟩ : ByteArray).size = 1 := rfl
    have hL : (⟨[x].toArray⟩ : ByteArray).size = 1 := rfl
    obtain ⟨k, rfl⟩ : ∃ k', k = k' + 1 := ⟨k - 1, by omega⟩
    rw [marqueeref01_dec.l0, if_neg (by simp [ByteArray.size]), hu, digits_eq q k (by omega) (by omega), Option.bind_some]
    rw [if_pos (by rw [hQ]; omega), if_pos (by rw [ByteArray.size_append, hQ]; omega), if_pos (by rw [ByteArray.size_append, ByteArray.size_append, hQ, hdot, hL]; omega), hf]
    exact congrArg some (bytes_inj (by simp))
  | succ j ih =>
    intro k l hl hj hk
    have hne : l ≠ [] := fun e => by subst e; simp at hl
    obtain ⟨l', x, rfl⟩ : ∃ l' x, l = l' ++ [x] := ⟨l.dropLast, l.getLast hne, (List.dropLast_concat_getLast hne).symm⟩
    have hl' : l'.length = j + 1 := by simpa using hl
    have hsz : (⟨(l' ++ [x]).toArray⟩ : ByteArray).size = j + 2 := by simp [ByteArray.size, hl']
    have hlen := dd_len q (by omega)
    have hQ : (⟨(Lib.decDigits q).toArray⟩ : ByteArray).size = (Lib.decDigits q).length := by simp [ByteArray.size]
    have hdot : (⟨#[46]⟩ : ByteArray).size = 1 := rfl
    have hL := hsz
    obtain ⟨k, rfl⟩ : ∃ k', k = k' + 1 := ⟨k - 1, by omega⟩
    have hbt : bt ⟨(l' ++ [x]).toArray⟩ ((j : Int) + 1) = x.toNat := by
      unfold bt
      have e : ((j : Int) + 1).toNat = j + 1 := by omega
      rw [dif_pos (by rw [hsz]; omega)]
      simp only [e]
      have : (⟨(l' ++ [x]).toArray⟩ : ByteArray)[j + 1]'(by rw [hsz]; omega) = x := by
        show (l' ++ [x]).toArray[j + 1]'_ = x
        simp [← hl']
      rw [this]
    have hex : (⟨(l' ++ [x]).toArray⟩ : ByteArray).extract 0 ((j : Int) + 1).toNat = ⟨l'.toArray⟩ := by
      have e : ((j : Int) + 1).toNat = j + 1 := by omega
      rw [e]
      apply bytes_inj
      simp [← hl']
    have hw : wrap64 (((⟨(l' ++ [x]).toArray⟩ : ByteArray).size : Int) - 1) = (j : Int) + 1 := by rw [hsz]; unfold wrap64; omega
    rw [marqueeref01_dec.l0, hw, if_pos (by rw [hsz]; omega), if_pos (by omega), if_pos (by rw [hsz]; omega), hbt]
    by_cases hx : x = 48
    · subst hx
      rw [if_pos (by rfl), if_pos (by rw [hsz]; omega), hex, ih k l' hl' (by omega) (by omega)]
      unfold fr
      rw [trimR_drop]
    · have hx' : ¬ (x.toNat : Int) = 48 := fun e => hx (UInt8.toNat_inj.1 (show x.toNat = 48 by omega))
      have hf : fr (l' ++ [x]) = l' ++ [x] := by unfold fr; rw [trimR_keep _ _ hx]; simp
      rw [if_neg hx', hu, digits_eq q k (by omega) (by omega), Option.bind_some]
      rw [if_pos (by rw [hQ]; omega), if_pos (by rw [ByteArray.size_append, hQ]; omega), if_pos (by rw [ByteArray.size_append, ByteArray.size_append, hQ, hdot, hL]; omega), hf]
      exact congrArg some (bytes_inj (by simp))
theorem dec_j (m : Nat) (hm : m ≤ 9223372036854775808) (sg : ByteArray) (hsg : sg.size ≤ 1) (k : Nat) (hk : 40 < k) :
    marqueeref01_dec.j0 k (m : Int) sg = some ⟨(sg.data.toList ++ Lib.decDigits (m / 10000) ++ [46] ++ value_decimal.frac (m % 10000)).toArray⟩ := by
  obtain ⟨k, rfl⟩ : ∃ k', k = k' + 1 := ⟨k - 1, by omega⟩
  have e1 : Int.tmod (m : Int) 10000 = ((m % 10000 : Nat) : Int) := by rw [Int.tmod_eq_emod_of_nonneg (by omega)]; omega
  have e2 : IntKind.u64.wrap (Int.tdiv (m : Int) 10000) = ((m / 10000 : Nat) : Int) := by
    rw [Int.tdiv_eq_ediv_of_nonneg (by omega), u64n (by omega) (by omega)]; omega
  have e3 : IntKind.u64.wrap (((m % 10000 : Nat) : Int) + 10000) = ((m % 10000 + 10000 : Nat) : Int) := by rw [u64n (by omega) (by omega)]; omega
  have hp := pad_eq (m % 10000) (by omega)
  have hpl : (pad (m % 10000)).length = 4 := by rw [hp]; rfl
  rw [marqueeref01_dec.j0, e1, e3, digits_eq _ k (by omega) (by omega), Option.bind_some, dd_10000 _ (by omega)]
  rw [if_pos (by simp [ByteArray.size]; omega)]
  have hex : (⟨(49 :: pad (m % 10000)).toArray⟩ : ByteArray).extract 1 (⟨(49 :: pad (m % 10000)).toArray⟩ : ByteArray).size = ⟨(pad (m % 10000)).toArray⟩ := by
    apply bytes_inj
    simp [ByteArray.size, hpl, List.take_of_length_le]
  rw [hex, dec_loop (m / 10000) (by omega) _ e2 sg hsg 3 k _ hpl (by omega) (by omega), frac_eq]
theorem dec_eq (n : Int) (k : Nat) (h : (Lit.int .i64 n).wf = true) (hk : 40 < k) : marqueeref01_dec.f k n = some ⟨(value_decimal.text n).toArray⟩ := by
  have hw : -9223372036854775808 ≤ n ∧ n ≤ 9223372036854775807 := (Lit.wf_int_iff .i64 n).1 h
  unfold marqueeref01_dec.f value_decimal.text
  by_cases hn : n < 0
  · have e : IntKind.u64.wrap (-(IntKind.u64.wrap n)) = ((n.natAbs : Nat) : Int) := by rw [IntKind.wrap_u64, IntKind.wrap_u64]; omega
    rw [if_pos hn, e, dec_j n.natAbs (by omega) _ (by simp [ByteArray.size]) k hk, if_pos hn]
  · have e : IntKind.u64.wrap n = ((n.natAbs : Nat) : Int) := by rw [IntKind.wrap_u64]; omega
    rw [if_neg hn, e, dec_j n.natAbs (by omega) _ (by simp [ByteArray.size]) k hk, if_neg hn]
/-! ### quoted texts -/
def quoteL : List UInt8 → List UInt8
  | [] => []
  | b :: l => if b = 39 then 39 :: 39 :: quoteL l else b :: quoteL l
theorem quoteL_replace : ∀ s : List UInt8, Lib.replaceK [39] [39, 39] (Lib.count s [39]) s = quoteL s
  | [] => rfl
  | b :: l => by
    have ih := quoteL_replace l
    by_cases hb : b = 39
    · subst hb
      have hi : Lib.index (39 :: l) [39] = (0 : Nat) := by simp [Lib.index]
      rw [Lib.count_hit (by simp) hi, Nat.add_comm, Lib.replaceK_hit _ _ _ _ 0 hi]
      simp only [List.length_singleton, Nat.zero_add, List.drop_succ_cons, List.drop_zero, List.take_zero, List.nil_append]
      rw [ih, quoteL, if_pos rfl]
      rfl
    · have hp : ([39] : List UInt8).isPrefixOf (b :: l) = false := by simp [List.isPrefixOf]; exact fun e => hb e.symm
      rw [quoteL, if_neg hb]
      by_cases hl : Lib.index l [39] = -1
      · have hi : Lib.index (b :: l) [39] = -1 := by rw [Lib.index, hp, hl]; rfl
        rw [Lib.count_miss hi]
        rw [Lib.count_miss hl] at ih
        rw [← ih]
        rfl
      · have hge := Lib.index_ge l [39]
        obtain ⟨i, hi⟩ : ∃ i : Nat, Lib.index l [39] = i := ⟨(Lib.index l [39]).toNat, by omega⟩
        have hi' : Lib.index (b :: l) [39] = ((i + 1 : Nat) : Int) := by
          rw [Lib.index, hp, hi]
          have : ¬ ((i : Int) == -1) = true := fun e => by have := beq_iff_eq.1 e; omega
          rw [if_neg this]
          simp
        rw [Lib.count_hit (by simp) hi', Nat.add_comm, Lib.replaceK_hit _ _ _ _ _ hi']
        rw [Lib.count_hit (by simp) hi, Nat.add_comm, Lib.replaceK_hit _ _ _ _ _ hi] at ih
        rw [← ih]
        simp [Nat.add_assoc]
theorem replaceAll_quote (s : List UInt8) : Lib.replaceAll s [39] [39, 39] = quoteL s := by
  unfold Lib.replaceAll Lib.replace Lib.replaceNum
  rw [if_neg (by decide), if_pos (.inl (by decide))]
  exact quoteL_replace s
theorem quoteL_len : ∀ s, (quoteL s).length ≤ 2 * s.length
  | [] => by simp [quoteL]
  | b :: l => by
    have := quoteL_len l
    unfold quoteL
    split <;> simp <;> omega
theorem show_loop (s : ByteArray) (hs : s.size ≤ 1024) (a b : Int) : ∀ (f k i : Nat) (out : ByteArray), s.size - i = f → i ≤ s.size → f < k → out.size + 2 * f ≤ 1000000 →
    marqueeref01_Show.l0 k out (i : Int) a b s = some ⟨(out.data.toList ++ quoteL (s.data.toList.drop i) ++ [39]).toArray⟩ := by
  intro f
  induction f with
  | zero =>
    intro k i out hf hi hk ho
    obtain ⟨k, rfl⟩ : ∃ k', k = k' + 1 := ⟨k - 1, by omega⟩
    rw [marqueeref01_Show.l0, if_neg (by omega), if_pos (by omega), List.drop_of_length_le (by rw [data_length]; omega)]
    exact congrArg some (bytes_inj (by simp [quoteL]))
  | succ f ih =>
    intro k i out hf hi hk ho
    obtain ⟨k, rfl⟩ : ∃ k', k = k' + 1 := ⟨k - 1, by omega⟩
    have hlt : i < s.data.toList.length := by rw [data_length]; omega
    have hd : s.data.toList.drop i = s.data.toList[i] :: s.data.toList.drop (i + 1) := List.drop_eq_getElem_cons hlt
    have hbt : bt s (i : Int) = (s.data.toList[i].toNat : Int) := by
      unfold bt
      rw [dif_pos (by omega)]
      rfl
    have hw : wrap64 ((i : Int) + 1) = ((i + 1 : Nat) : Int) := by unfold wrap64; omega
    have hex : (s.extract ((i : Int)).toNat (((i + 1 : Nat) : Int)).toNat).data.toList = [s.data.toList[i]] := by
      simp [List.take_one, hd]
    have hes : (s.extract ((i : Int)).toNat (((i + 1 : Nat) : Int)).toNat).size = 1 := by rw [← data_length, hex]; rfl
    have hq1 : (⟨#[39]⟩ : ByteArray).size = 1 := rfl
    rw [marqueeref01_Show.l0, if_pos (by omega), if_pos (by omega), hbt, hw, hd]
    by_cases hb : s.data.toList[i] = 39
    · rw [if_pos (by rw [hb]; rfl), if_pos (by omega), if_pos (by omega), if_pos (by omega), if_pos (by rw [ByteArray.size_append, hes, hq1]; omega)]
      rw [ih k (i + 1) _ (by omega) (by omega) (by omega) (by rw [ByteArray.size_append, ByteArray.size_append, hes, hq1]; omega)]
      rw [quoteL, if_pos hb]
      refine congrArg some (bytes_inj ?_)
      simp only [ByteArray.data_append, Array.toList_append, hex, hb]
      simp
    · have hb' : ¬ (s.data.toList[i].toNat : Int) = 39 := fun e => hb (UInt8.toNat_inj.1 (show s.data.toList[i].toNat = 39 by omega))
      rw [if_neg hb', if_pos (by omega), if_pos (by omega), if_pos (by rw [hes]; omega)]
      rw [ih k (i + 1) _ (by omega) (by omega) (by omega) (by rw [ByteArray.size_append, hes]; omega)]
      rw [quoteL, if_neg hb]
      refine congrArg some (bytes_inj ?_)
      simp only [ByteArray.data_append, Array.toList_append, hex]
      simp
/-! ### which values may be, and their texts -/
theorem kinds (k : Int) : k = 0 ∨ k = 1 ∨ k = 2 ∨ k = 3 ∨ k = 4 ∨ (¬ k = 0 ∧ ¬ k = 1 ∧ ¬ k = 2 ∧ ¬ k = 3 ∧ ¬ k = 4) := by omega
/-- May a value be, in plain words. -/
def okB (k n : Int) (s : ByteArray) : Bool := if k = 0 then n = 0 && s.size = 0 else if k = 1 then s.size = 0 && (n = 0 || n = 1) else if k = 2 then s.size = 0 else if k = 3 then s.size = 0 else if k = 4 then n = 0 && s.size ≤ 1024 && Lib.validD s.data.toList else false
theorem toList_nil (s : ByteArray) : (s.toList == ([] : List UInt8)) = decide (s.size = 0) := by
  rw [ByteArray.toList_eq]
  by_cases h : s.size = 0
  · have : s.data.toList = [] := List.length_eq_zero_iff.1 (by rw [data_length]; exact h)
    simp [this, h]
  · have : s.data.toList ≠ [] := fun e => h (by rw [← data_length, e]; rfl)
    rw [decide_eq_false h]
    exact beq_eq_false_iff_ne.2 this
theorem toList_nil' (s : ByteArray) : (s.toList = ([] : List UInt8)) ↔ s.size = 0 := by
  have := toList_nil s
  constructor
  · intro h; rw [h] at this; simpa using this.symm
  · intro h; rw [decide_eq_true h] at this; simpa using this
theorem check_eq (k n : Int) (s : ByteArray) (hs : s.size ≤ maxLen) : value_Check.f k n s = some (if okB k n s then 0 else 1) := by
  have hm : s.size ≤ 9223372036854775807 := Nat.le_trans hs (by decide)
  unfold value_Check.f okB
  rcases kinds k with rfl | rfl | rfl | rfl | rfl | ⟨h0, h1, h2, h3, h4⟩
  · simp
  · simp
  · simp
  · simp
  · simp [hm, and_assoc]
  · simp [h0, h1, h2, h3, h4]
theorem toList_e (s : ByteArray) : s.toList.isEmpty = decide (s = ByteArray.empty) := by
  have := toList_nil s
  simpa using this
theorem may_eq (j : Nat) (k n : Int) (s : ByteArray) : marqueeref01_May.f (9301 + j) k n s = some (okB k n s) := by
  unfold marqueeref01_May.f okB
  rcases kinds k with rfl | rfl | rfl | rfl | rfl | ⟨h0, h1, h2, h3, h4⟩
  · by_cases hn : n = 0 <;> simp [hn, toList_e]
  · by_cases hz : s.size = 0
    · by_cases hn : n = 0
      · simp [hn, toList_nil', hz]
      · by_cases h1 : n = 1 <;> simp [hn, toList_nil', hz, h1]
    · simp [toList_nil', hz]
  · rw [show 9301 + j = (9300 + j) + 1 by omega]
    simp [marqueeref01_May.j0, toList_e]
  · rw [show 9301 + j = (9300 + j) + 1 by omega]
    simp [marqueeref01_May.j0, toList_e]
  · rw [show 9301 + j = (9300 + j) + 1 by omega]
    by_cases hn : n = 0
    · by_cases hz : s.size ≤ 1024
      · have hz' : (s.size : Int) ≤ 1024 := by omega
        simp [marqueeref01_May.j0, hn, hz, hz', runes_eq s hz j]
      · have hz' : ¬ (s.size : Int) ≤ 1024 := by omega
        simp [marqueeref01_May.j0, hn, hz, hz']
    · simp [marqueeref01_May.j0, hn]
  · rw [show 9301 + j = (9300 + j) + 1 by omega]
    simp [marqueeref01_May.j0, h0, h1, h2, h3, h4]
/-- A value's text, in plain words. -/
def textL (k n : Int) (s : ByteArray) : List UInt8 :=
  if okB k n s = false then []
  else if k = 0 then [110, 117, 108, 108] else if k = 1 then (if n = 1 then [116, 114, 117, 101] else [102, 97, 108, 115, 101])
  else if k = 2 then Lib.itoa n else if k = 3 then value_decimal.text n else [39] ++ quoteL s.data.toList ++ [39]
theorem show_prog (k n : Int) (s : ByteArray) (hn : (Lit.int .i64 n).wf = true) (hs : s.size ≤ maxLen) : value_Show.f k n s = some ⟨(textL k n s).toArray⟩ := by
  have hw : -9223372036854775808 ≤ n ∧ n ≤ 9223372036854775807 := (Lit.wf_int_iff .i64 n).1 hn
  unfold value_Show.f textL
  rw [check_eq k n s hs, Option.bind_some]
  cases ho : okB k n s
  · simp
  · simp only [if_true]
    rcases kinds k with rfl | rfl | rfl | rfl | rfl | ⟨h0, h1, h2, h3, h4⟩
    · rfl
    · by_cases h : n = 1 <;> simp [h]
    · simp [strconv_Itoa.f, hw.1, hw.2]
    · simp [value_decimal.f, hw.1, hw.2]
    · have hsz : s.size ≤ 1024 := by simp [okB] at ho; exact ho.1.2
      have hq := quoteL_len s.data.toList
      rw [data_length] at hq
      have hc := Lib.count_le s.data.toList [39]
      rw [data_length] at hc
      have hrep : strings_ReplaceAll.f s ⟨#[39]⟩ ⟨#[39, 39]⟩ = some ⟨(quoteL s.data.toList).toArray⟩ := by
        unfold strings_ReplaceAll.f
        have s1 : (⟨#[39]⟩ : ByteArray).size = 1 := rfl
        have s2 : (⟨#[39, 39]⟩ : ByteArray).size = 2 := rfl
        rw [if_pos (by omega), s1, if_pos (by omega), s2, if_pos (by show s.size + Lib.count s.data.toList [39] * 2 ≤ _; omega)]
        show some (⟨(Lib.replaceAll s.data.toList [39] [39, 39]).toArray⟩ : ByteArray) = _
        rw [replaceAll_quote]
      have hqs : (⟨(quoteL s.data.toList).toArray⟩ : ByteArray).size = (quoteL s.data.toList).length := by simp [ByteArray.size]
      simp only [hrep, Option.bind_some]
      rw [if_neg (by decide), if_neg (by decide), if_neg (by decide), if_pos (by decide), if_pos (by rw [hqs]; omega)]
      exact congrArg some (bytes_inj (by simp))
    · simp [okB, h0, h1, h2, h3, h4] at ho
theorem show_ref (j : Nat) (k n : Int) (s : ByteArray) (hn : (Lit.int .i64 n).wf = true) : marqueeref01_Show.f (9301 + j) k n s = some ⟨(textL k n s).toArray⟩ := by
  unfold marqueeref01_Show.f textL
  rw [may_eq j k n s, Option.bind_some]
  cases ho : okB k n s
  · simp
  · simp only [if_true]
    rcases kinds k with rfl | rfl | rfl | rfl | rfl | ⟨h0, h1, h2, h3, h4⟩
    · rfl
    · by_cases h : n = 1 <;> simp [h]
    · simp [Digits_eq n (9301 + j) hn (by omega)]
    · simp [dec_eq n (9301 + j) hn (by omega)]
    · have hsz : s.size ≤ 1024 := by simp [okB] at ho; exact ho.1.2
      have h := show_loop s hsz 4 n s.size (9301 + j) 0 ⟨#[39]⟩ (by omega) (by omega) (by omega) (by have s1 : (⟨#[39]⟩ : ByteArray).size = 1 := rfl
                                                                                                     rw [s1]; omega)
      rw [if_neg (by decide), if_neg (by decide), if_neg (by decide), if_neg (by decide)]
      simpa using h
    · simp [okB, h0, h1, h2, h3, h4] at ho
theorem ValueShows (a0_0 a0_1 : Int) (a0_2 : ByteArray) (_ : (Lit.int .i64 a0_0).wf = true) (h1 : (Lit.int .i64 a0_1).wf = true) (h2 : a0_2.size ≤ maxLen) :
    ∃ k, marqueelaw01_ValueShows.f k a0_0 a0_1 a0_2 = some true := by
  refine ⟨9301 + 0, ?_⟩
  unfold marqueelaw01_ValueShows.f
  rw [check_eq _ _ _ h2, may_eq 0, show_prog _ _ _ h1 h2, show_ref 0 _ _ _ h1]
  cases okB a0_0 a0_1 a0_2 <;> simp [marqueelaw01_awake.f]
end Go.Proofs.YthfialcaddjjaaaDoor.Pure
