/- The plain law of ValueUnlike. No Go and no memory in it. -/
import Derived.Test.YthfialcaddjjaaaDoorPValueUnlikex0
import Derived.Test.YthfialcaddjjaaaDoorPValueUnlikex1
import Derived.Test.YthfialcaddjjaaaDoorPValueUnlikex2
import Derived.Test.YthfialcaddjjaaaDoorPValueUnlikex3
import Derived.Test.YthfialcaddjjaaaDoorPValueUnlikex4
import Derived.Test.YthfialcaddjjaaaDoorPValueUnlikex5
import Derived.Test.YthfialcaddjjaaaDoorPValueUnlikex6
import Derived.DataShut
import Derived.Lib.CountLaws
import Derived.Lib.Replace
import Derived.Lib.TrimUEq
import Derived.Lib.ValidLaws
import Derived.Lib.MapLaws
namespace Go.Proofs.YthfialcaddjjaaaDoor.Pure
set_option linter.unusedSimpArgs false
set_option maxRecDepth 4000
open Go.RowKit Go.Proofs.YthfialcaddjjaaaDoor.PValueUnlike Go.Proofs.YthfialcaddjjaaaDoorW.PrintWords Go.WideShapes
/-! ### UTF-8: the document's loop and the model's decoding -/
theorem runes_mono (s : ByteArray) (i : Int) (r : Bool) (k : Nat) (h : marqueeref01_Runes.l0 k s i = some r) : ∀ j, marqueeref01_Runes.l0 (k + j) s i = some r
  | 0 => h
  | j + 1 => (marqueeref01_Runes.mono_l (k + j)).1 s i r (runes_mono s i r k h j)
theorem wr {n : Int} (h1 : -4611686018427387904 ≤ n) (h2 : n < 4611686018427387904) : wrap64 n = n := by unfold wrap64; omega
theorem bt_at (s : ByteArray) (i j : Nat) (h : i + j < s.size) : bt s ((i : Int) + (j : Int)) = (((s.data.toList.drop i).getD j 0).toNat : Int) := by
  unfold bt
  have e : ((i : Int) + (j : Int)).toNat = i + j := by omega
  rw [dif_pos (by omega)]
  have h' : i + j < s.data.toList.length := by rw [data_length]; exact h
  simp only [e, List.getD, List.getElem?_drop, List.getElem?_eq_getElem h', Option.getD_some]
  rfl
theorem bt_lt (s : ByteArray) (i : Int) : 0 ≤ bt s i ∧ bt s i < 256 := by
  unfold bt
  split
  · have := UInt8.toNat_lt (s[i.toNat])
    omega
  · omega
theorem runes_step (k : Nat) (s : ByteArray) (i n least v c : Int) (hc : c < n) (h0 : 0 ≤ i) (hc0 : 0 ≤ c) (hi : i + c < s.size) (hs : (s.size : Int) < 1073741824) (hv : 0 ≤ v) (hv2 : v < 1073741824) :
    marqueeref01_Runes.l1 (k + 1) s i n least v c = if 128 ≤ bt s (i + c) ∧ bt s (i + c) < 192 then marqueeref01_Runes.l1 k s i n least (v * 64 + bt s (i + c) - 128) (c + 1) else some false := by
  have hb := bt_lt s (i + c)
  rw [marqueeref01_Runes.l1]
  rw [if_pos hc, wr (n := i + c) (by omega) (by omega), if_pos (by omega), if_pos (by omega), wr (n := bt s (i + c)) (by omega) (by omega), wr (n := v * 64) (by omega) (by omega), wr (n := v * 64 + _) (by omega) (by omega), wr (n := _ - 128) (by omega) (by omega), wr (n := c + 1) (by omega) (by omega)]
  by_cases h1 : bt s (i + c) < 128
  · rw [if_pos h1, if_neg (by omega)]
  · rw [if_neg h1]
    by_cases h2 : bt s (i + c) ≥ 192
    · rw [if_pos h2, if_neg (by omega)]
    · rw [if_neg h2, if_pos (by omega)]
theorem runes_end (k : Nat) (s : ByteArray) (i n least v : Int) (h0 : 0 ≤ i) (hn : 0 ≤ n) (hi : i + n ≤ s.size) (hs : (s.size : Int) < 1073741824) :
    marqueeref01_Runes.l1 (k + 1) s i n least v n = if least ≤ v ∧ v ≤ 1114111 ∧ (v < 55296 ∨ 57344 ≤ v) then marqueeref01_Runes.l0 k s (i + n) else some false := by
  rw [marqueeref01_Runes.l1]
  rw [if_neg (Int.lt_irrefl n), wr (n := i + n) (by omega) (by omega)]
  by_cases h1 : v < least
  · rw [if_pos h1, if_neg (by omega)]
  rw [if_neg h1]
  by_cases h2 : v > 1114111
  · rw [if_pos h2, if_neg (by omega)]
  rw [if_neg h2]
  by_cases h3 : v ≥ 55296
  · rw [if_pos h3]
    by_cases h4 : v < 57344
    · rw [if_pos h4, if_neg (by omega)]
    · rw [if_neg h4, if_pos (by omega)]
  · rw [if_neg h3, if_pos (by omega)]
theorem runes_j3 (k : Nat) (s : ByteArray) (i n least v : Int) (h0 : 0 ≤ i) (hi : i ≤ s.size) (hs : (s.size : Int) < 1073741824) :
    marqueeref01_Runes.j3 (k + 1) s i n least v = if s.size - i < n then some false else marqueeref01_Runes.l1 k s i n least v 1 := by
  rw [marqueeref01_Runes.j3, wr (n := (s.size : Int) - i) (by omega) (by omega)]
/-- One character of the document's loop, by the model's decoding. -/
theorem runes_char (k : Nat) (s : ByteArray) (i : Nat) (hi : i < s.size) (hs : (s.size : Int) < 1073741824) (r : Bool)
    (h : (if (Lib.decodeL (s.data.toList.drop i)).1 = 65533 ∧ (Lib.decodeL (s.data.toList.drop i)).2 = 1 then some false else marqueeref01_Runes.l0 k s ((i + (Lib.decodeL (s.data.toList.drop i)).2 : Nat) : Int)) = some r) :
    marqueeref01_Runes.l0 (k + 9) s (i : Int) = some r := by
  have hb0 := bt_at s i 0 (by omega)
  have hb1 := bt_at s i 1
  have hb2 := bt_at s i 2
  have hb3 := bt_at s i 3
  rw [Lib.decodeL_N, List.length_drop, data_length] at h
  generalize e0 : ((s.data.toList.drop i).getD 0 0).toNat = b0 at *
  generalize e1 : ((s.data.toList.drop i).getD 1 0).toNat = b1 at *
  generalize e2 : ((s.data.toList.drop i).getD 2 0).toNat = b2 at *
  generalize e3 : ((s.data.toList.drop i).getD 3 0).toNat = b3 at *
  have l0 : b0 < 256 := by rw [← e0]; exact UInt8.toNat_lt _
  have l1 : b1 < 256 := by rw [← e1]; exact UInt8.toNat_lt _
  have l2 : b2 < 256 := by rw [← e2]; exact UInt8.toNat_lt _
  have l3 : b3 < 256 := by rw [← e3]; exact UInt8.toNat_lt _
  clear e0 e1 e2 e3
  have hb0' : bt s (i : Int) = b0 := by simpa using hb0
  rw [marqueeref01_Runes.l0, if_pos (by omega), if_pos (by omega), hb0', wr (n := (b0 : Int)) (by omega) (by omega)]
  generalize hd : Lib.decodeN (s.size - i) b0 b1 b2 b3 = d at h
  unfold Lib.decodeN at hd
  have up : ∀ w j : Nat, marqueeref01_Runes.l0 k s ((i + w : Nat) : Int) = some r → marqueeref01_Runes.l0 (k + j) s ((i : Int) + (w : Int)) = some r := fun w j g => by
    have := runes_mono s _ r k g j
    simpa using this
  by_cases c1 : b0 < 128
  · rw [if_pos c1] at hd
    subst hd
    rw [if_pos (by omega), runes_j3 _ _ _ _ _ _ (by omega) (by omega) hs, if_neg (by omega), runes_end _ _ _ _ _ _ (by omega) (by omega) (by omega) hs, if_pos (by omega)]
    rw [if_neg (by simp; omega)] at h
    exact up 1 6 h
  rw [if_neg c1] at hd
  rw [if_neg (by omega)]
  by_cases c2 : 192 ≤ b0
  · rw [if_pos (by omega), marqueeref01_Runes.j1]
    by_cases c3 : b0 < 224
    · rw [if_pos (by simp; omega), wr (n := (b0 : Int) - 192) (by omega) (by omega), runes_j3 _ _ _ _ _ _ (by omega) (by omega) hs]
      by_cases n2 : 1 < s.size - i
      · rw [if_neg (by omega), runes_step _ _ _ _ _ _ _ (by omega) (by omega) (by omega) (by omega) hs (by omega) (by omega), show (i : Int) + 1 = (i : Int) + (1 : Nat) by rfl, hb1 (by omega)]
        by_cases d1 : b1 / 64 = 2
        · rw [if_pos (by omega)]
          rw [if_pos (by omega)] at hd
          rw [show ((1 : Int) + 1) = 2 by rfl, runes_end _ _ _ _ _ _ (by omega) (by omega) (by omega) hs]
          by_cases g : b0 % 32 * 64 + b1 % 64 ≥ 128
          · rw [if_pos g] at hd
            subst hd
            rw [if_neg (by simp)] at h
            rw [if_pos (by omega)]
            exact up 2 4 h
          · rw [if_neg g] at hd
            subst hd
            rw [if_pos (by simp)] at h
            rw [if_neg (by omega)]
            exact h
        · rw [if_neg (by omega)]
          rw [if_neg (by omega), if_neg (by omega), if_neg (by omega)] at hd
          subst hd
          rw [if_pos (by simp)] at h
          exact h
      · rw [if_pos (by omega)]
        rw [if_neg (by omega), if_neg (by omega), if_neg (by omega)] at hd
        subst hd
        rw [if_pos (by simp)] at h
        exact h
    · rw [if_neg (by simp; omega), if_pos (by omega), marqueeref01_Runes.j2]
      rw [if_neg (by omega)] at hd
      by_cases c4 : b0 < 240
      · rw [if_pos (by simp; omega), wr (n := (b0 : Int) - 224) (by omega) (by omega), runes_j3 _ _ _ _ _ _ (by omega) (by omega) hs]
        by_cases n3 : 2 < s.size - i
        · rw [if_neg (by omega), runes_step _ _ _ _ _ _ _ (by omega) (by omega) (by omega) (by omega) hs (by omega) (by omega), show (i : Int) + 1 = (i : Int) + (1 : Nat) by rfl, hb1 (by omega)]
          by_cases d1 : b1 / 64 = 2
          · rw [if_pos (by omega), show ((1 : Int) + 1) = 2 by rfl, runes_step _ _ _ _ _ _ _ (by omega) (by omega) (by omega) (by omega) hs (by omega) (by omega), show (i : Int) + 2 = (i : Int) + (2 : Nat) by rfl, hb2 (by omega)]
            by_cases d2 : b2 / 64 = 2
            · rw [if_pos (by omega), show ((2 : Int) + 1) = 3 by rfl, runes_end _ _ _ _ _ _ (by omega) (by omega) (by omega) hs]
              rw [if_pos (by omega)] at hd
              by_cases g : b0 % 16 * 4096 + b1 % 64 * 64 + b2 % 64 ≥ 2048 ∧ (b0 % 16 * 4096 + b1 % 64 * 64 + b2 % 64 < 55296 ∨ (57344 ≤ b0 % 16 * 4096 + b1 % 64 * 64 + b2 % 64 ∧ b0 % 16 * 4096 + b1 % 64 * 64 + b2 % 64 ≤ 1114111))
              · rw [if_pos g] at hd
                subst hd
                rw [if_neg (by simp)] at h
                rw [if_pos (by omega)]
                exact up 3 2 h
              · rw [if_neg g] at hd
                subst hd
                rw [if_pos (by simp)] at h
                rw [if_neg (by omega)]
                exact h
            · rw [if_neg (by omega)]
              rw [if_neg (by omega), if_neg (by omega)] at hd
              subst hd
              rw [if_pos (by simp)] at h
              exact h
          · rw [if_neg (by omega)]
            rw [if_neg (by omega), if_neg (by omega)] at hd
            subst hd
            rw [if_pos (by simp)] at h
            exact h
        · rw [if_pos (by omega)]
          rw [if_neg (by omega), if_neg (by omega)] at hd
          subst hd
          rw [if_pos (by simp)] at h
          exact h
      · rw [if_neg (by simp; omega), if_pos (by omega)]
        rw [if_neg (by omega)] at hd
        by_cases c5 : b0 < 248
        · rw [if_pos (by omega), wr (n := (b0 : Int) - 240) (by omega) (by omega), runes_j3 _ _ _ _ _ _ (by omega) (by omega) hs]
          by_cases n4 : 3 < s.size - i
          · rw [if_neg (by omega), runes_step _ _ _ _ _ _ _ (by omega) (by omega) (by omega) (by omega) hs (by omega) (by omega), show (i : Int) + 1 = (i : Int) + (1 : Nat) by rfl, hb1 (by omega)]
            by_cases d1 : b1 / 64 = 2
            · rw [if_pos (by omega), show ((1 : Int) + 1) = 2 by rfl, runes_step _ _ _ _ _ _ _ (by omega) (by omega) (by omega) (by omega) hs (by omega) (by omega), show (i : Int) + 2 = (i : Int) + (2 : Nat) by rfl, hb2 (by omega)]
              by_cases d2 : b2 / 64 = 2
              · rw [if_pos (by omega), show ((2 : Int) + 1) = 3 by rfl, runes_step _ _ _ _ _ _ _ (by omega) (by omega) (by omega) (by omega) hs (by omega) (by omega), show (i : Int) + 3 = (i : Int) + (3 : Nat) by rfl, hb3 (by omega)]
                by_cases d3 : b3 / 64 = 2
                · rw [if_pos (by omega), show ((3 : Int) + 1) = 4 by rfl, runes_end _ _ _ _ _ _ (by omega) (by omega) (by omega) hs]
                  rw [if_pos (by omega)] at hd
                  by_cases g : b0 % 8 * 262144 + b1 % 64 * 4096 + b2 % 64 * 64 + b3 % 64 ≥ 65536 ∧ (b0 % 8 * 262144 + b1 % 64 * 4096 + b2 % 64 * 64 + b3 % 64 < 55296 ∨ (57344 ≤ b0 % 8 * 262144 + b1 % 64 * 4096 + b2 % 64 * 64 + b3 % 64 ∧ b0 % 8 * 262144 + b1 % 64 * 4096 + b2 % 64 * 64 + b3 % 64 ≤ 1114111))
                  · rw [if_pos g] at hd
                    subst hd
                    rw [if_neg (by simp)] at h
                    rw [if_pos (by omega)]
                    exact up 4 1 h
                  · rw [if_neg g] at hd
                    subst hd
                    rw [if_pos (by simp)] at h
                    rw [if_neg (by omega)]
                    exact h
                · rw [if_neg (by omega)]
                  rw [if_neg (by omega)] at hd
                  subst hd
                  rw [if_pos (by simp)] at h
                  exact h
              · rw [if_neg (by omega)]
                rw [if_neg (by omega)] at hd
                subst hd
                rw [if_pos (by simp)] at h
                exact h
            · rw [if_neg (by omega)]
              rw [if_neg (by omega)] at hd
              subst hd
              rw [if_pos (by simp)] at h
              exact h
          · rw [if_pos (by omega)]
            rw [if_neg (by omega)] at hd
            subst hd
            rw [if_pos (by simp)] at h
            exact h
        · rw [if_neg (by omega)]
          rw [if_neg (by omega)] at hd
          subst hd
          rw [if_pos (by simp)] at h
          exact h
  · rw [if_neg (by omega), marqueeref01_Runes.j1, if_neg (by simp), if_neg (by omega), marqueeref01_Runes.j2, if_neg (by simp), if_neg (by omega)]
    rw [if_neg (by omega), if_neg (by omega), if_neg (by omega)] at hd
    subst hd
    rw [if_pos (by simp)] at h
    exact h
theorem runes_from (s : ByteArray) (hs : (s.size : Int) < 1073741824) : ∀ (f i : Nat), i ≤ s.size → s.size - i ≤ f → marqueeref01_Runes.l0 (9 * f + 1) s (i : Int) = some (Lib.validD (s.data.toList.drop i))
  | 0, i, h, h2 => by
    obtain rfl : i = s.size := by omega
    rw [marqueeref01_Runes.l0, if_neg (by omega), List.drop_of_length_le (by rw [data_length]; exact Nat.le_refl _)]
    rfl
  | f + 1, i, h, h2 => by
    by_cases hi : i < s.size
    · have hne : s.data.toList.drop i ≠ [] := fun e => by have := congrArg List.length e; rw [List.length_drop, data_length] at this; simp at this; omega
      have hw := Lib.decodeL_le _ hne
      have hw1 := Lib.decodeL_width (s.data.toList.drop i)
      rw [List.length_drop, data_length] at hw
      refine runes_char (9 * f + 1) s i hi hs _ ?_
      rw [Lib.validD_step _ hne]
      by_cases g : (Lib.decodeL (s.data.toList.drop i)).1 = 65533 ∧ (Lib.decodeL (s.data.toList.drop i)).2 = 1
      · rw [if_pos g, if_pos g]
      · rw [if_neg g, if_neg g, List.drop_drop]
        exact runes_from s hs f _ (by omega) (by omega)
    · obtain rfl : i = s.size := by omega
      rw [show 9 * (f + 1) + 1 = (9 * f + 9) + 1 by omega, marqueeref01_Runes.l0, if_neg (by omega), List.drop_of_length_le (by rw [data_length]; exact Nat.le_refl _)]
      rfl
theorem runes_eq (s : ByteArray) (hs : s.size ≤ 1024) (k : Nat) : marqueeref01_Runes.f (9300 + k) s = some (Lib.validD s.data.toList) := by
  have h := runes_from s (by omega) 1024 0 (by omega) (by omega)
  have := runes_mono s _ _ _ h (83 + k)
  unfold marqueeref01_Runes.f
  rw [show 9300 + k = 9 * 1024 + 1 + (83 + k) by omega]
  simpa using this
/-! ### numbers' texts -/
theorem dd_big {u : Nat} (h : 10 ≤ u) : Lib.decDigits u = Lib.decDigits (u / 10) ++ [UInt8.ofNat (48 + u % 10)] := by
  conv => lhs; rw [Lib.decDigits]
  rw [dif_neg (by omega)]
theorem dd_small {u : Nat} (h : u < 10) : Lib.decDigits u = [UInt8.ofNat (48 + u)] := by rw [Lib.decDigits, dif_pos h]
theorem u64n {n : Int} (h0 : 0 ≤ n) (h1 : n < 18446744073709551616) : IntKind.u64.wrap n = n := by rw [IntKind.wrap_u64]; omega
theorem one_digit (n : Nat) (h : n < 18446744073709551616) : strOfNums [(IntKind.u64.wrap (48 + (Int.tmod (n : Int) 10))) % 256] = ⟨#[UInt8.ofNat (48 + n % 10)]⟩ := by
  have e : Int.tmod (n : Int) 10 = ((n % 10 : Nat) : Int) := by rw [Int.tmod_eq_emod_of_nonneg (by omega)]; omega
  rw [e, u64n (by omega) (by omega)]
  unfold strOfNums
  have : ((48 + ((n % 10 : Nat) : Int)) % 256).toNat = 48 + n % 10 := by omega
  simp only [List.map, this]
theorem next_digits (n : Nat) (h : n < 18446744073709551616) : IntKind.u64.wrap (Int.tdiv (n : Int) 10) = ((n / 10 : Nat) : Int) := by
  have e : Int.tdiv (n : Int) 10 = ((n / 10 : Nat) : Int) := by rw [Int.tdiv_eq_ediv_of_nonneg (by omega)]; omega
  rw [e, u64n (by omega) (by omega)]
theorem dd_len (n : Nat) (h : n < 18446744073709551616) : (Lib.decDigits n).length ≤ 20 := by
  have : ∀ (j n : Nat), n < 10 ^ (j + 1) → (Lib.decDigits n).length ≤ j + 1 := by
    intro j
    induction j with
    | zero => intro n h; rw [dd_small (by simpa using h)]; simp
    | succ j ih =>
      intro n h
      by_cases h1 : n < 10
      · rw [dd_small h1]; simp
      · rw [dd_big (by omega)]
        have := ih (n / 10) (by rw [Nat.pow_succ] at h; omega)
        simp; omega
  exact this 19 n (by omega)
/-! ### decimals -/
def pad (r : Nat) : List UInt8 := Lib.repeatL [48] (4 - (Lib.decDigits r).length) ++ Lib.decDigits r
def fr (l : List UInt8) : List UInt8 := if Lib.trimRightB l 48 = [] then [48] else Lib.trimRightB l 48
theorem frac_eq (r : Nat) : value_decimal.frac r = fr (pad r) := rfl
theorem pad_eq (r : Nat) (h : r < 10000) : pad r = [UInt8.ofNat (48 + r / 1000), UInt8.ofNat (48 + r / 100 % 10), UInt8.ofNat (48 + r / 10 % 10), UInt8.ofNat (48 + r % 10)] := by
  unfold pad
  by_cases h1 : r < 10
  · have e1 : r / 1000 = 0 := by omega
    have e2 : r / 100 % 10 = 0 := by omega
    have e3 : r / 10 % 10 = 0 := by omega
    have e4 : r % 10 = r := by omega
    rw [dd_small h1, e1, e2, e3, e4]
    simp [Lib.repeatL]
  by_cases h2 : r < 100
  · have e1 : r / 1000 = 0 := by omega
    have e2 : r / 100 % 10 = 0 := by omega
    have e3 : r / 10 % 10 = r / 10 := by omega
    rw [dd_big (by omega), dd_small (by omega), e1, e2, e3]
    simp [Lib.repeatL]
  by_cases h3 : r < 1000
  · have e1 : r / 1000 = 0 := by omega
    have e2 : r / 100 % 10 = r / 10 / 10 := by omega
    rw [dd_big (by omega), dd_big (u := r / 10) (by omega), dd_small (u := r / 10 / 10) (by omega), e1, e2]
    simp [Lib.repeatL]
  · have e1 : r / 1000 = r / 10 / 10 / 10 := by omega
    have e2 : r / 100 % 10 = r / 10 / 10 % 10 := by omega
    rw [dd_big (by omega), dd_big (u := r / 10) (by omega), dd_big (u := r / 10 / 10) (by omega), dd_small (u := r / 10 / 10 / 10) (by omega), e1, e2]
    simp [Lib.repeatL]
theorem dd_10000 (r : Nat) (h : r < 10000) : Lib.decDigits (r + 10000) = 49 :: pad r := by
  rw [pad_eq r h, dd_big (by omega), dd_big (u := (r + 10000) / 10) (by omega), dd_big (u := (r + 10000) / 10 / 10) (by omega), dd_big (u := (r + 10000) / 10 / 10 / 10) (by omega), dd_small (u := (r + 10000) / 10 / 10 / 10 / 10) (by omega)]
  have e0 : (r + 10000) / 10 / 10 / 10 / 10 = 1 := by omega
  have e1 : (r + 10000) / 10 / 10 / 10 % 10 = r / 1000 := by omega
  have e2 : (r + 10000) / 10 / 10 % 10 = r / 100 % 10 := by omega
  have e3 : (r + 10000) / 10 % 10 = r / 10 % 10 := by omega
  have e4 : (r + 10000) % 10 = r % 10 := by omega
  rw [e0, e1, e2, e3, e4]
  rfl
theorem trimR_keep (l : List UInt8) (x : UInt8) (h : x ≠ 48) : Lib.trimRightB (l ++ [x]) 48 = l ++ [x] := by
  unfold Lib.trimRightB
  simp [List.dropWhile, h]
theorem trimR_drop (l : List UInt8) : Lib.trimRightB (l ++ [48]) 48 = Lib.trimRightB l 48 := by
  unfold Lib.trimRightB
  simp [List.dropWhile]
/-! ### quoted texts -/
def quoteL : List UInt8 → List UInt8
  | [] => []
  | b :: l => if b = 39 then 39 :: 39 :: quoteL l else b :: quoteL l
theorem quoteL_replace : ∀ s : List UInt8, Lib.replaceK [39] [39, 39] (Lib.count s [39]) s = quoteL s
  | [] => rfl
  | b :: l => by
    have ih := quoteL_replace l
    by_cases hb : b = 39
    · subst hb
      have hi : Lib.index (39 :: l) [39] = (0 : Nat) := by simp [Lib.index]
      rw [Lib.count_hit (by simp) hi, Nat.add_comm, Lib.replaceK_hit _ _ _ _ 0 hi]
      simp only [List.length_singleton, Nat.zero_add, List.drop_succ_cons, List.drop_zero, List.take_zero, List.nil_append]
      rw [ih, quoteL, if_pos rfl]
      rfl
    · have hp : ([39] : List UInt8).isPrefixOf (b :: l) = false := by simp [List.isPrefixOf]; exact fun e => hb e.symm
      rw [quoteL, if_neg hb]
      by_cases hl : Lib.index l [39] = -1
      · have hi : Lib.index (b :: l) [39] = -1 := by rw [Lib.index, hp, hl]; rfl
        rw [Lib.count_miss hi]
        rw [Lib.count_miss hl] at ih
        rw [← ih]
        rfl
      · have hge := Lib.index_ge l [39]
        obtain ⟨i, hi⟩ : ∃ i : Nat, Lib.index l [39] = i := ⟨(Lib.index l [39]).toNat, by omega⟩
        have hi' : Lib.index (b :: l) [39] = ((i + 1 : Nat) : Int) := by
          rw [Lib.index, hp, hi]
          have : ¬ ((i : Int) == -1) = true := fun e => by have := beq_iff_eq.1 e; omega
          rw [if_neg this]
          simp
        rw [Lib.count_hit (by simp) hi', Nat.add_comm, Lib.replaceK_hit _ _ _ _ _ hi']
        rw [Lib.count_hit (by simp) hi, Nat.add_comm, Lib.replaceK_hit _ _ _ _ _ hi] at ih
        rw [← ih]
        simp [Nat.add_assoc]
theorem replaceAll_quote (s : List UInt8) : Lib.replaceAll s [39] [39, 39] = quoteL s := by
  unfold Lib.replaceAll Lib.replace Lib.replaceNum
  rw [if_neg (by decide), if_pos (.inl (by decide))]
  exact quoteL_replace s
theorem quoteL_len : ∀ s, (quoteL s).length ≤ 2 * s.length
  | [] => by simp [quoteL]
  | b :: l => by
    have := quoteL_len l
    unfold quoteL
    split <;> simp <;> omega
/-! ### which values may be, and their texts -/
theorem kinds (k : Int) : k = 0 ∨ k = 1 ∨ k = 2 ∨ k = 3 ∨ k = 4 ∨ (¬ k = 0 ∧ ¬ k = 1 ∧ ¬ k = 2 ∧ ¬ k = 3 ∧ ¬ k = 4) := by omega
/-- May a value be, in plain words. -/
def okB (k n : Int) (s : ByteArray) : Bool := if k = 0 then n = 0 && s.size = 0 else if k = 1 then s.size = 0 && (n = 0 || n = 1) else if k = 2 then s.size = 0 else if k = 3 then s.size = 0 else if k = 4 then n = 0 && s.size ≤ 1024 && Lib.validD s.data.toList else false
theorem toList_nil (s : ByteArray) : (s.toList == ([] : List UInt8)) = decide (s.size = 0) := by
  rw [ByteArray.toList_eq]
  by_cases h : s.size = 0
  · have : s.data.toList = [] := List.length_eq_zero_iff.1 (by rw [data_length]; exact h)
    simp [this, h]
  · have : s.data.toList ≠ [] := fun e => h (by rw [← data_length, e]; rfl)
    rw [decide_eq_false h]
    exact beq_eq_false_iff_ne.2 this
theorem toList_nil' (s : ByteArray) : (s.toList = ([] : List UInt8)) ↔ s.size = 0 := by
  have := toList_nil s
  constructor
  · intro h; rw [h] at this; simpa using this.symm
  · intro h; rw [decide_eq_true h] at this; simpa using this
theorem check_eq (k n : Int) (s : ByteArray) (hs : s.size ≤ maxLen) : value_Check.f k n s = some (if okB k n s then 0 else 1) := by
  have hm : s.size ≤ 9223372036854775807 := Nat.le_trans hs (by decide)
  unfold value_Check.f okB
  rcases kinds k with rfl | rfl | rfl | rfl | rfl | ⟨h0, h1, h2, h3, h4⟩
  · simp
  · simp
  · simp
  · simp
  · simp [hm, and_assoc]
  · simp [h0, h1, h2, h3, h4]
theorem toList_e (s : ByteArray) : s.toList.isEmpty = decide (s = ByteArray.empty) := by
  have := toList_nil s
  simpa using this
theorem may_eq (j : Nat) (k n : Int) (s : ByteArray) : marqueeref01_May.f (9301 + j) k n s = some (okB k n s) := by
  unfold marqueeref01_May.f okB
  rcases kinds k with rfl | rfl | rfl | rfl | rfl | ⟨h0, h1, h2, h3, h4⟩
  · by_cases hn : n = 0 <;> simp [hn, toList_e]
  · by_cases hz : s.size = 0
    · by_cases hn : n = 0
      · simp [hn, toList_nil', hz]
      · by_cases h1 : n = 1 <;> simp [hn, toList_nil', hz, h1]
    · simp [toList_nil', hz]
  · rw [show 9301 + j = (9300 + j) + 1 by omega]
    simp [marqueeref01_May.j0, toList_e]
  · rw [show 9301 + j = (9300 + j) + 1 by omega]
    simp [marqueeref01_May.j0, toList_e]
  · rw [show 9301 + j = (9300 + j) + 1 by omega]
    by_cases hn : n = 0
    · by_cases hz : s.size ≤ 1024
      · have hz' : (s.size : Int) ≤ 1024 := by omega
        simp [marqueeref01_May.j0, hn, hz, hz', runes_eq s hz j]
      · have hz' : ¬ (s.size : Int) ≤ 1024 := by omega
        simp [marqueeref01_May.j0, hn, hz, hz']
    · simp [marqueeref01_May.j0, hn]
  · rw [show 9301 + j = (9300 + j) + 1 by omega]
    simp [marqueeref01_May.j0, h0, h1, h2, h3, h4]
/-- A value's text, in plain words. -/
def textL (k n : Int) (s : ByteArray) : List UInt8 :=
  if okB k n s = false then []
  else if k = 0 then [110, 117, 108, 108] else if k = 1 then (if n = 1 then [116, 114, 117, 101] else [102, 97, 108, 115, 101])
  else if k = 2 then Lib.itoa n else if k = 3 then value_decimal.text n else [39] ++ quoteL s.data.toList ++ [39]
theorem show_prog (k n : Int) (s : ByteArray) (hn : (Lit.int .i64 n).wf = true) (hs : s.size ≤ maxLen) : value_Show.f k n s = some ⟨(textL k n s).toArray⟩ := by
  have hw : -9223372036854775808 ≤ n ∧ n ≤ 9223372036854775807 := (Lit.wf_int_iff .i64 n).1 hn
  unfold value_Show.f textL
  rw [check_eq k n s hs, Option.bind_some]
  cases ho : okB k n s
  · simp
  · simp only [if_true]
    rcases kinds k with rfl | rfl | rfl | rfl | rfl | ⟨h0, h1, h2, h3, h4⟩
    · rfl
    · by_cases h : n = 1 <;> simp [h]
    · simp [strconv_Itoa.f, hw.1, hw.2]
    · simp [value_decimal.f, hw.1, hw.2]
    · have hsz : s.size ≤ 1024 := by simp [okB] at ho; exact ho.1.2
      have hq := quoteL_len s.data.toList
      rw [data_length] at hq
      have hc := Lib.count_le s.data.toList [39]
      rw [data_length] at hc
      have hrep : strings_ReplaceAll.f s ⟨#[39]⟩ ⟨#[39, 39]⟩ = some ⟨(quoteL s.data.toList).toArray⟩ := by
        unfold strings_ReplaceAll.f
        have s1 : (⟨#[39]⟩ : ByteArray).size = 1 := rfl
        have s2 : (⟨#[39, 39]⟩ : ByteArray).size = 2 := rfl
        rw [if_pos (by omega), s1, if_pos (by omega), s2, if_pos (by show s.size + Lib.count s.data.toList [39] * 2 ≤ _; omega)]
        show some (⟨(Lib.replaceAll s.data.toList [39] [39, 39]).toArray⟩ : ByteArray) = _
        rw [replaceAll_quote]
      have hqs : (⟨(quoteL s.data.toList).toArray⟩ : ByteArray).size = (quoteL s.data.toList).length := by simp [ByteArray.size]
      simp only [hrep, Option.bind_some]
      rw [if_neg (by decide), if_neg (by decide), if_neg (by decide), if_pos (by decide), if_pos (by rw [hqs]; omega)]
      exact congrArg some (bytes_inj (by simp))
    · simp [okB, h0, h1, h2, h3, h4] at ho
/-! ### a text tells its value -/
def isDig (x : UInt8) : Prop := 48 ≤ x.toNat ∧ x.toNat ≤ 57
theorem dig_of (n : Nat) (h : n < 10) : isDig (UInt8.ofNat (48 + n)) := by
  unfold isDig
  have : (UInt8.ofNat (48 + n)).toNat = 48 + n := by simp; omega
  rw [this]; omega
theorem dd_all (n : Nat) : ∀ x ∈ Lib.decDigits n, isDig x := by
  induction n using Nat.strongRecOn with
  | _ n ih =>
    by_cases h : n < 10
    · rw [dd_small h]; intro x hx; simp at hx; subst hx; simpa using dig_of n h
    · rw [dd_big (by omega)]
      intro x hx
      simp only [List.mem_append, List.mem_singleton] at hx
      rcases hx with hx | rfl
      · exact ih (n / 10) (by omega) x hx
      · exact dig_of _ (by omega)
theorem dd_head (n : Nat) : ∃ x l, Lib.decDigits n = x :: l ∧ isDig x := by
  have h := dd_all n
  cases hd : Lib.decDigits n with
  | nil =>
    exfalso
    by_cases h10 : n < 10
    · rw [dd_small h10] at hd; cases hd
    · rw [dd_big (by omega)] at hd; simp at hd
  | cons x l => exact ⟨x, l, rfl, h x (by rw [hd]; simp)⟩
def valD (l : List UInt8) : Nat := l.foldl (fun a b => a * 10 + (b.toNat - 48)) 0
theorem valD_dd (n : Nat) : valD (Lib.decDigits n) = n := by
  induction n using Nat.strongRecOn with
  | _ n ih =>
    by_cases h : n < 10
    · rw [dd_small h]
      have : (UInt8.ofNat (48 + n)).toNat = 48 + n := by simp; omega
      simp only [valD, List.foldl, this]
      omega
    · rw [dd_big (by omega)]
      have : (UInt8.ofNat (48 + n % 10)).toNat = 48 + n % 10 := by simp; omega
      have ih' := ih (n / 10) (by omega)
      unfold valD at ih' ⊢
      rw [List.foldl_append, ih']
      simp only [List.foldl, this]
      omega
theorem dd_inj {a b : Nat} (h : Lib.decDigits a = Lib.decDigits b) : a = b := by rw [← valD_dd a, h, valD_dd]
theorem itoa_head (n : Int) : ∃ x l, Lib.itoa n = x :: l ∧ (x = 45 ∨ isDig x) ∧ ∀ y ∈ Lib.itoa n, y = 45 ∨ isDig y := by
  unfold Lib.itoa
  by_cases h : n < 0
  · rw [if_pos h]
    refine ⟨45, _, rfl, .inl rfl, fun y hy => ?_⟩
    rcases List.mem_cons.1 hy with rfl | hy
    · exact .inl rfl
    · exact .inr (dd_all _ y hy)
  · rw [if_neg h]
    obtain ⟨x, l, e, hx⟩ := dd_head n.toNat
    exact ⟨x, l, e, .inr hx, fun y hy => .inr (dd_all _ y hy)⟩
theorem not45 {x : UInt8} (h : isDig x) : x ≠ 45 := fun e => by subst e; exact absurd h.1 (by decide)
theorem not46 {x : UInt8} (h : isDig x) : x ≠ 46 := fun e => by subst e; exact absurd h.1 (by decide)
theorem itoa_inj {a b : Int} (h : Lib.itoa a = Lib.itoa b) : a = b := by
  unfold Lib.itoa at h
  obtain ⟨x, l, e, hx⟩ := dd_head a.toNat
  obtain ⟨y, m, f, hy⟩ := dd_head b.toNat
  by_cases ha : a < 0 <;> by_cases hb : b < 0
  · rw [if_pos ha, if_pos hb] at h
    have := dd_inj (List.cons.inj h).2
    omega
  · rw [if_pos ha, if_neg hb, f] at h
    exact absurd (List.cons.inj h).1.symm (not45 hy)
  · rw [if_neg ha, if_pos hb, e] at h
    exact absurd (List.cons.inj h).1 (not45 hx)
  · rw [if_neg ha, if_neg hb] at h
    have := dd_inj h
    omega
theorem at_dot : ∀ (l l' m m' : List UInt8), (∀ x ∈ l, x ≠ 46) → (∀ x ∈ l', x ≠ 46) → l ++ 46 :: m = l' ++ 46 :: m' → l = l' ∧ m = m'
  | [], [], m, m', _, _, h => ⟨rfl, (List.cons.inj h).2⟩
  | [], y :: l', m, m', _, h2, h => absurd (List.cons.inj h).1.symm (h2 y (by simp))
  | x :: l, [], m, m', h1, _, h => absurd (List.cons.inj h).1 (h1 x (by simp))
  | x :: l, y :: l', m, m', h1, h2, h => by
    obtain ⟨e, h'⟩ := List.cons.inj h
    obtain ⟨rfl, rfl⟩ := at_dot l l' m m' (fun z hz => h1 z (by simp [hz])) (fun z hz => h2 z (by simp [hz])) h'
    exact ⟨by rw [e], rfl⟩
theorem fr_back (a b c d : UInt8) : (fr [a, b, c, d] ++ [48, 48, 48]).take 4 = [a, b, c, d] := by
  have ne : ∀ {x : UInt8}, ¬ x = 48 → (x == 48) = false := fun h => beq_eq_false_iff_ne.2 h
  unfold fr Lib.trimRightB
  by_cases hd : d = 48
  · by_cases hc : c = 48
    · by_cases hb : b = 48
      · by_cases ha : a = 48
        · simp [List.dropWhile, hd, hc, hb, ha]
        · simp [List.dropWhile, hd, hc, hb, ne ha]
      · simp [List.dropWhile, hd, hc, ne hb]
    · simp [List.dropWhile, hd, ne hc]
  · simp [List.dropWhile, ne hd]
theorem frac_inj {r t : Nat} (hr : r < 10000) (ht : t < 10000) (h : value_decimal.frac r = value_decimal.frac t) : r = t := by
  rw [frac_eq, frac_eq, pad_eq r hr, pad_eq t ht] at h
  have g := congrArg (fun l => (l ++ [48, 48, 48]).take 4) h
  simp only [fr_back] at g
  simp only [List.cons.injEq, and_true] at g
  obtain ⟨g1, g2, g3, g4⟩ := g
  have n : ∀ x : Nat, x < 10 → (UInt8.ofNat (48 + x)).toNat = 48 + x := fun x hx => by simp; omega
  have e1 := congrArg UInt8.toNat g1
  have e2 := congrArg UInt8.toNat g2
  have e3 := congrArg UInt8.toNat g3
  have e4 := congrArg UInt8.toNat g4
  rw [n _ (by omega), n _ (by omega)] at e1 e2 e3 e4
  omega
theorem text_shape (n : Int) : ∃ sg : List UInt8, (sg = if n < 0 then [45] else []) ∧ value_decimal.text n = sg ++ (Lib.decDigits (n.natAbs / 10000) ++ 46 :: value_decimal.frac (n.natAbs % 10000)) := ⟨_, rfl, by unfold value_decimal.text; simp⟩
theorem text_head (n : Int) : ∃ x l, value_decimal.text n = x :: l ∧ (x = 45 ∨ isDig x) ∧ 46 ∈ value_decimal.text n := by
  obtain ⟨sg, hs, e⟩ := text_shape n
  rw [e]
  obtain ⟨x, l, f, hx⟩ := dd_head (n.natAbs / 10000)
  by_cases h : n < 0
  · rw [if_pos h] at hs; subst hs
    exact ⟨45, _, rfl, .inl rfl, by simp⟩
  · rw [if_neg h] at hs; subst hs
    exact ⟨x, l ++ 46 :: value_decimal.frac (n.natAbs % 10000), by rw [f]; rfl, .inr hx, by simp⟩
theorem text_inj {a b : Int} (h : value_decimal.text a = value_decimal.text b) : a = b := by
  obtain ⟨sa, ha, ea⟩ := text_shape a
  obtain ⟨sb, hb, eb⟩ := text_shape b
  rw [ea, eb] at h
  obtain ⟨x, l, f, hx⟩ := dd_head (a.natAbs / 10000)
  obtain ⟨y, m, g, hy⟩ := dd_head (b.natAbs / 10000)
  have core : Lib.decDigits (a.natAbs / 10000) ++ 46 :: value_decimal.frac (a.natAbs % 10000) = Lib.decDigits (b.natAbs / 10000) ++ 46 :: value_decimal.frac (b.natAbs % 10000) → a.natAbs = b.natAbs := fun k => by
    obtain ⟨k1, k2⟩ := at_dot _ _ _ _ (fun z hz => not46 (dd_all _ z hz)) (fun z hz => not46 (dd_all _ z hz)) k
    have := dd_inj k1
    have := frac_inj (by omega) (by omega) k2
    omega
  by_cases h1 : a < 0 <;> by_cases h2 : b < 0
  · rw [if_pos h1] at ha; rw [if_pos h2] at hb; subst ha; subst hb
    have := core (List.cons.inj h).2
    omega
  · rw [if_pos h1] at ha; rw [if_neg h2] at hb; subst ha; subst hb
    rw [g] at h
    exact absurd (List.cons.inj h).1.symm (not45 hy)
  · rw [if_neg h1] at ha; rw [if_pos h2] at hb; subst ha; subst hb
    rw [f] at h
    exact absurd (List.cons.inj h).1 (not45 hx)
  · rw [if_neg h1] at ha; rw [if_neg h2] at hb; subst ha; subst hb
    have := core h
    omega
theorem quoteL_inj : ∀ l m : List UInt8, quoteL l = quoteL m → l = m
  | [], [], _ => rfl
  | [], y :: m, h => by unfold quoteL at h; split at h <;> cases h
  | x :: l, [], h => by unfold quoteL at h; split at h <;> cases h
  | x :: l, y :: m, h => by
    rw [quoteL, quoteL] at h
    by_cases hx : x = 39 <;> by_cases hy : y = 39
    · rw [if_pos hx, if_pos hy] at h
      rw [hx, hy, quoteL_inj l m (List.cons.inj (List.cons.inj h).2).2]
    · rw [if_pos hx, if_neg hy] at h
      exact absurd (List.cons.inj h).1.symm hy
    · rw [if_neg hx, if_pos hy] at h
      exact absurd (List.cons.inj h).1 hx
    · rw [if_neg hx, if_neg hy] at h
      obtain ⟨e, h'⟩ := List.cons.inj h
      rw [e, quoteL_inj l m h']
def tag : List UInt8 → Int
  | [] => 9
  | x :: l => if x = 110 then 0 else if x = 116 ∨ x = 102 then 1 else if x = 39 then 4 else if 46 ∈ x :: l then 3 else 2
theorem num_ne {x : UInt8} (h : x = 45 ∨ isDig x) : ¬ x = 110 ∧ ¬ (x = 116 ∨ x = 102) ∧ ¬ x = 39 := by
  rcases h with rfl | h
  · decide
  · refine ⟨fun e => ?_, fun e => ?_, fun e => ?_⟩
    · subst e; exact absurd h.2 (by decide)
    · rcases e with e | e <;> (subst e; exact absurd h.2 (by decide))
    · subst e; exact absurd h.1 (by decide)
theorem text1 {n : Int} {s : ByteArray} (h : okB 1 n s = true) : textL 1 n s = if n = 1 then [116, 114, 117, 101] else [102, 97, 108, 115, 101] := by unfold textL; rw [h]; rfl
theorem text2 {n : Int} {s : ByteArray} (h : okB 2 n s = true) : textL 2 n s = Lib.itoa n := by unfold textL; rw [h]; rfl
theorem text3 {n : Int} {s : ByteArray} (h : okB 3 n s = true) : textL 3 n s = value_decimal.text n := by unfold textL; rw [h]; rfl
theorem text4 {n : Int} {s : ByteArray} (h : okB 4 n s = true) : textL 4 n s = [39] ++ quoteL s.data.toList ++ [39] := by unfold textL; rw [h]; rfl
theorem ok0 (n : Int) (s : ByteArray) : okB 0 n s = (decide (n = 0) && decide (s.size = 0)) := rfl
theorem ok1 (n : Int) (s : ByteArray) : okB 1 n s = (decide (s.size = 0) && (decide (n = 0) || decide (n = 1))) := rfl
theorem ok2 (n : Int) (s : ByteArray) : okB 2 n s = decide (s.size = 0) := rfl
theorem ok3 (n : Int) (s : ByteArray) : okB 3 n s = decide (s.size = 0) := rfl
theorem ok4 (n : Int) (s : ByteArray) : okB 4 n s = (decide (n = 0) && decide (s.size ≤ 1024) && Lib.validD s.data.toList) := rfl
theorem tag_eq (k n : Int) (s : ByteArray) (h : okB k n s = true) : tag (textL k n s) = k := by
  rcases kinds k with rfl | rfl | rfl | rfl | rfl | ⟨h0, h1, h2, h3, h4⟩
  · unfold textL; rw [h]; rfl
  · rw [text1 h]
    by_cases hn : n = 1
    · rw [if_pos hn]; rfl
    · rw [if_neg hn]; rfl
  · obtain ⟨x, l, e, hx, ha⟩ := itoa_head n
    obtain ⟨n1, n2, n3⟩ := num_ne hx
    rw [text2 h]
    have hm : ¬ 46 ∈ x :: l := fun hm => by
      rw [← e] at hm
      rcases ha 46 hm with h | h
      · exact absurd h (by decide)
      · exact absurd h.1 (by decide)
    rw [e, tag, if_neg n1, if_neg n2, if_neg n3, if_neg hm]
  · obtain ⟨x, l, e, hx, ha⟩ := text_head n
    obtain ⟨n1, n2, n3⟩ := num_ne hx
    rw [text3 h]
    rw [e] at ha
    rw [e, tag, if_neg n1, if_neg n2, if_neg n3, if_pos ha]
  · rw [text4 h]; rfl
  · simp [okB, h0, h1, h2, h3, h4] at h
theorem size_zero {s : ByteArray} (h : s.size = 0) : s.data.toList = [] := List.length_eq_zero_iff.1 (by rw [data_length]; exact h)
theorem text_tells {k n k' n' : Int} {s s' : ByteArray} (h : okB k n s = true) (h' : okB k' n' s' = true) (e : textL k n s = textL k' n' s') : k = k' ∧ n = n' ∧ s.data.toList = s'.data.toList := by
  have hk : k = k' := by rw [← tag_eq k n s h, e, tag_eq k' n' s' h']
  subst hk
  refine ⟨rfl, ?_⟩
  rcases kinds k with rfl | rfl | rfl | rfl | rfl | ⟨h0, h1, h2, h3, h4⟩
  · simp only [ok0, Bool.and_eq_true, decide_eq_true_eq] at h h'
    exact ⟨by rw [h.1, h'.1], by rw [size_zero h.2, size_zero h'.2]⟩
  · rw [text1 h, text1 h'] at e
    simp only [ok1, Bool.and_eq_true, Bool.or_eq_true, decide_eq_true_eq] at h h'
    refine ⟨?_, by rw [size_zero h.1, size_zero h'.1]⟩
    by_cases a : n = 1 <;> by_cases b : n' = 1
    · omega
    · rw [if_pos a, if_neg b] at e; exact absurd e (by decide)
    · rw [if_neg a, if_pos b] at e; exact absurd e (by decide)
    · omega
  · rw [text2 h, text2 h'] at e
    simp only [ok2, decide_eq_true_eq] at h h'
    exact ⟨itoa_inj e, by rw [size_zero h, size_zero h']⟩
  · rw [text3 h, text3 h'] at e
    simp only [ok3, decide_eq_true_eq] at h h'
    exact ⟨text_inj e, by rw [size_zero h, size_zero h']⟩
  · rw [text4 h, text4 h'] at e
    simp only [ok4, Bool.and_eq_true, decide_eq_true_eq] at h h'
    have e2 : quoteL s.data.toList ++ [39] = quoteL s'.data.toList ++ [39] := by simpa using e
    exact ⟨by rw [h.1.1, h'.1.1], quoteL_inj _ _ (List.append_cancel_right e2)⟩
  · simp [okB, h0, h1, h2, h3, h4] at h
theorem text_none {k n : Int} {s : ByteArray} (h : okB k n s = false) : textL k n s = [] := by unfold textL; rw [h, if_pos rfl]
theorem unlike_j (j : Nat) (b : Bool) (k n : Int) (s : ByteArray) (k' n' : Int) (s' : ByteArray) (h1 : (Lit.int .i64 n).wf = true) (h2 : s.size ≤ maxLen) (h1' : (Lit.int .i64 n').wf = true) (h2' : s'.size ≤ maxLen)
    (hb : b = false → okB k n s = true ∧ okB k' n' s' = true) : marqueelaw01_ValueUnlike.j0 (9302 + j) b k n s k' n' s' = some true := by
  rw [show 9302 + j = (9301 + j) + 1 by omega, marqueelaw01_ValueUnlike.j0, show_prog _ _ _ h1 h2, show_prog _ _ _ h1' h2', may_eq j, may_eq j]
  have te : ∀ l : List UInt8, (⟨l.toArray⟩ : ByteArray).toList = l := fun l => by rw [ByteArray.toList_eq]
  cases b
  · obtain ⟨o, o'⟩ := hb rfl
    simp only [Bool.false_eq_true, if_false, Option.bind_some, te, ByteArray.toList_eq]
    by_cases e : textL k n s = textL k' n' s'
    · obtain ⟨rfl, rfl, e3⟩ := text_tells o o' e
      simp [e, e3, marqueelaw01_awake.f]
    · have : (k == k' && (n == n' && (s.data.toList == s'.data.toList))) = false := by
        rw [Bool.eq_false_iff]
        intro hh
        simp only [Bool.and_eq_true, beq_iff_eq] at hh
        obtain ⟨rfl, rfl, e3⟩ := hh
        exact e (by rw [bytes_inj e3])
      rw [this, beq_eq_false_iff_ne.2 e]
      simp [marqueelaw01_awake.f]
  · simp only [if_true, Option.bind_some, te]
    cases o : okB k n s <;> cases o' : okB k' n' s'
    · simp [text_none o, text_none o', marqueelaw01_awake.f]
    · rw [if_pos (text_none o)]
      split <;> simp [marqueelaw01_awake.f]
    · rw [if_pos (text_none o')]
      split <;> simp [marqueelaw01_awake.f]
    · simp only [if_true]
      repeat' split
      all_goals rfl
theorem ValueUnlike (a0_0 a0_1 : Int) (a0_2 : ByteArray) (a1_0 a1_1 : Int) (a1_2 : ByteArray) (_ : (Lit.int .i64 a0_0).wf = true) (h1 : (Lit.int .i64 a0_1).wf = true) (h2 : a0_2.size ≤ maxLen) (_ : (Lit.int .i64 a1_0).wf = true) (h1' : (Lit.int .i64 a1_1).wf = true) (h2' : a1_2.size ≤ maxLen) :
    ∃ k, marqueelaw01_ValueUnlike.f k a0_0 a0_1 a0_2 a1_0 a1_1 a1_2 = some true := by
  refine ⟨9302 + 0, ?_⟩
  unfold marqueelaw01_ValueUnlike.f
  rw [show 9302 + 0 = 9301 + 1 by rfl, may_eq 1, may_eq 1, show 9301 + 1 = 9302 + 0 by rfl, Option.bind_some, Option.bind_some]
  cases o : okB a0_0 a0_1 a0_2
  · simp only [Bool.false_eq_true, if_false]
    exact unlike_j 0 true _ _ _ _ _ _ h1 h2 h1' h2' (fun h => by cases h)
  · simp only [if_true]
    exact unlike_j 0 _ _ _ _ _ _ _ h1 h2 h1' h2' (fun h => ⟨o, by simpa using h⟩)
end Go.Proofs.YthfialcaddjjaaaDoor.Pure
