-- made by this session's own program (wip/tools/xprint.py) with the kit's printer's help; checked by Lean alone
import Derived.Test.YthfialcaddjjaaaDoorPValueLawsx0
import Derived.Test.YthfialcaddjjaaaDoorPValueLawsx1
import Derived.Test.YthfialcaddjjaaaDoorPValueLawsx2
namespace Go.Proofs.YthfialcaddjjaaaDoor.PValueLaws
open Go.RowKit Go.Proofs.YthfialcaddjjaaaDoorW.PrintWords Go.Proofs.YthfialcaddjjaaaDoorW.PrintLast Go.Proofs.YthfialcaddjjaaaDoorW.PrintMore
attribute [local go_sem] max2_int min2_int max_two min_two max_three min_three max_four min_four   -- for this text's walks alone
set_option linter.unusedVariables false
set_option linter.unusedSimpArgs false

/-! ### value_Check: function 9 -/
def value_Check.f (a0_0 a0_1 : Int) (a0_2 : ByteArray) : Option Int :=
  if a0_0 = 0 then some (if a0_1 = 0 ∧ a0_2.size = 0 then 0 else 1)
  else if a0_0 = 1 then some (if a0_2.size = 0 ∧ (a0_1 = 0 ∨ a0_1 = 1) then 0 else 1)
  else if a0_0 = 2 ∨ a0_0 = 3 then some (if a0_2.size = 0 then 0 else 1)
  else if a0_0 = 4 then (if a0_2.size ≤ 9223372036854775807 then some (if a0_1 = 0 ∧ a0_2.size ≤ 1024 ∧ Lib.validD a0_2.data.toList = true then 0 else 1) else none)
  else some 1
theorem value_Check.empty {s : ByteArray} (h : s.size = 0) : s = ⟨#[]⟩ := by
  obtain ⟨a⟩ := s
  have : a.size = 0 := h
  rw [Array.size_eq_zero_iff.1 this]
set_option maxHeartbeats 8000000 in
theorem value_Check.calls (a0_0 a0_1 : Int) (a0_2 : ByteArray) (r : Int) (w : World) (hG : Laid w) (h : value_Check.f a0_0 a0_1 a0_2 = some r) :
    Calls Tryd.prog 9 #[.agg #[.int .i64 a0_0, .int .i64 a0_1, .string a0_2]] w fun e w' => e = .returned (.int .i64 r) ∧ Below w.heap.size w w' := by
  have hb0 : Below w.heap.size w (w.alloc (.cells #[.int .i64 a0_0, .int .i64 a0_1, .string a0_2] 23)) := (Below.refl _ _).alloc (Nat.le_refl _) _
  have HB := Lib.hid hb0
  have hne : ∀ s : ByteArray, ¬ s.size = 0 → s.toList.isEmpty = false ∧ ¬ s.toList = [] := fun s hs => by
    have hl : s.toList.length = s.size := by rw [ByteArray.toList_eq]; exact data_length s
    cases hh : s.toList with
    | nil => rw [hh] at hl; exact absurd hl.symm hs
    | cons a l => exact ⟨rfl, by simp⟩
  unfold value_Check.f at h
  by_cases k0 : a0_0 = 0
  · subst k0
    rw [if_pos rfl] at h
    by_cases s0 : a0_2.size = 0
    · obtain rfl := value_Check.empty s0
      by_cases n0 : a0_1 = 0
      · subst n0
        obtain rfl := Option.some.inj h
        clear h hG hne hb0
        go_enter Tryd.func9, Tryd.ntmps9
        go_wp2
        go_ret
        exact ⟨rfl, HB.out⟩
      · rw [if_neg (by simp [n0])] at h
        obtain rfl := Option.some.inj h
        have n0b : (a0_1 == 0) = false := by simpa using n0
        clear h hG hne hb0 n0
        go_enter Tryd.func9, Tryd.ntmps9
        go_wp2
        go_ret
        exact ⟨rfl, HB.out⟩
    · rw [if_neg (by simp [s0])] at h
      obtain rfl := Option.some.inj h
      obtain ⟨e1, e2⟩ := hne _ s0
      clear h hG hne hb0 s0
      by_cases n0 : a0_1 = 0
      · subst n0
        go_enter Tryd.func9, Tryd.ntmps9
        go_wp2
        go_ret
        exact ⟨rfl, HB.out⟩
      · have n0b : (a0_1 == 0) = false := by simpa using n0
        clear n0
        go_enter Tryd.func9, Tryd.ntmps9
        go_wp2
        go_ret
        exact ⟨rfl, HB.out⟩
  rw [if_neg k0] at h
  by_cases k1 : a0_0 = 1
  · subst k1
    rw [if_pos rfl] at h
    clear k0
    by_cases s0 : a0_2.size = 0
    · obtain rfl := value_Check.empty s0
      by_cases n0 : a0_1 = 0
      · subst n0
        obtain rfl := Option.some.inj h
        clear h hG hne hb0
        go_enter Tryd.func9, Tryd.ntmps9
        go_wp2
        go_ret
        exact ⟨rfl, HB.out⟩
      · by_cases n1 : a0_1 = 1
        · subst n1
          obtain rfl := Option.some.inj h
          clear h hG hne hb0
          go_enter Tryd.func9, Tryd.ntmps9
          go_wp2
          go_ret
          exact ⟨rfl, HB.out⟩
        · rw [if_neg (by simp [n0, n1])] at h
          obtain rfl := Option.some.inj h
          have n0b : (a0_1 == 0) = false := by simpa using n0
          have n1b : (a0_1 == 1) = false := by simpa using n1
          clear h hG hne hb0 n0 n1
          go_enter Tryd.func9, Tryd.ntmps9
          go_wp2
          go_ret
          exact ⟨rfl, HB.out⟩
    · rw [if_neg (by simp [s0])] at h
      obtain rfl := Option.some.inj h
      obtain ⟨e1, e2⟩ := hne _ s0
      clear h hG hne hb0 s0
      go_enter Tryd.func9, Tryd.ntmps9
      go_wp2
      go_ret
      exact ⟨rfl, HB.out⟩
  rw [if_neg k1] at h
  by_cases k2 : a0_0 = 2 ∨ a0_0 = 3
  · rw [if_pos k2] at h
    clear k0 k1
    by_cases s0 : a0_2.size = 0
    · obtain rfl := value_Check.empty s0
      obtain rfl := Option.some.inj h
      clear h hG hne hb0
      rcases k2 with rfl | rfl
      all_goals
        go_enter Tryd.func9, Tryd.ntmps9
        go_wp2
        go_ret
        exact ⟨rfl, HB.out⟩
    · rw [if_neg s0] at h
      obtain rfl := Option.some.inj h
      obtain ⟨e1, e2⟩ := hne _ s0
      clear h hG hne hb0 s0
      rcases k2 with rfl | rfl
      all_goals
        go_enter Tryd.func9, Tryd.ntmps9
        go_wp2
        go_ret
        exact ⟨rfl, HB.out⟩
  rw [if_neg k2] at h
  by_cases k4 : a0_0 = 4
  · subst k4
    rw [if_pos rfl] at h
    clear k0 k1 k2 hne
    by_cases hs : a0_2.size ≤ 9223372036854775807
    · rw [if_pos hs] at h
      have hl : Laid (w.alloc (.cells #[.int .i64 4, .int .i64 a0_1, .string a0_2] 23)) := hG.below hb0
      have cV := Tryd.utf8_ValidString a0_2 _ hs hl.1
      have HV := Lib.hid cV
      clear cV hl hG
      by_cases n0 : a0_1 = 0
      · subst n0
        by_cases hm : a0_2.size ≤ 1024
        · obtain ⟨v, hv⟩ : ∃ v, Lib.validD a0_2.data.toList = v := ⟨_, rfl⟩
          rw [hv] at HV
          rw [hv] at h
          cases v
          · obtain rfl := Option.some.inj (h.symm.trans (congrArg some (if_neg (by simp))))
            have hm1 : (a0_2.size : Int) ≤ 1024 := by omega
            clear h hb0 hv hs hm
            go_enter Tryd.func9, Tryd.ntmps9
            go_wp2_with (go_at_call 28; refine HV.out.mono ?_; rintro e w1 ⟨rfl, hb1⟩; have HB2 := Lib.hid (HB.out.trans (hb1.mono (by simp))); clear hb1)
            go_ret
            exact ⟨rfl, HB2.out⟩
          · obtain rfl := Option.some.inj (h.symm.trans (congrArg some (if_pos ⟨rfl, hm, rfl⟩)))
            have hm1 : (a0_2.size : Int) ≤ 1024 := by omega
            clear h hb0 hv hs hm
            go_enter Tryd.func9, Tryd.ntmps9
            go_wp2_with (go_at_call 28; refine HV.out.mono ?_; rintro e w1 ⟨rfl, hb1⟩; have HB2 := Lib.hid (HB.out.trans (hb1.mono (by simp))); clear hb1)
            go_ret
            exact ⟨rfl, HB2.out⟩
        · rw [if_neg (by simp [hm])] at h
          obtain rfl := Option.some.inj h
          have hm1 : ¬ (a0_2.size : Int) ≤ 1024 := by omega
          clear h hb0 hs hm HV
          go_enter Tryd.func9, Tryd.ntmps9
          go_wp2
          go_ret
          exact ⟨rfl, HB.out⟩
      · rw [if_neg (by simp [n0])] at h
        obtain rfl := Option.some.inj h
        have n0b : (a0_1 == 0) = false := by simpa using n0
        clear h hb0 n0 hs HV
        go_enter Tryd.func9, Tryd.ntmps9
        go_wp2
        go_ret
        exact ⟨rfl, HB.out⟩
    · rw [if_neg hs] at h
      cases h
  · rw [if_neg k4] at h
    obtain rfl := Option.some.inj h
    have k0b : (a0_0 == 0) = false := by simpa using k0
    have k1b : (a0_0 == 1) = false := by simpa using k1
    have k2b : (a0_0 == 2) = false := by simp; omega
    have k3b : (a0_0 == 3) = false := by simp; omega
    have k4b : (a0_0 == 4) = false := by simpa using k4
    clear h hG hne hb0 k0 k1 k2 k4
    go_enter Tryd.func9, Tryd.ntmps9
    go_wp2
    go_ret
    exact ⟨rfl, HB.out⟩

/-! ### strconv_Itoa: function 31 -/
def strconv_Itoa.f (a0 : Int) : Option ByteArray := if -9223372036854775808 ≤ a0 then (if a0 ≤ 9223372036854775807 then some ⟨(Lib.itoa a0).toArray⟩ else none) else none
theorem strconv_Itoa.calls (a0 : Int) (r : ByteArray) (w : World) (hG : Laid w) (h : strconv_Itoa.f a0 = some r) :
    Calls Tryd.prog 31 #[.int .i64 a0] w fun e w' => e = .returned (.string r) ∧ Below w.heap.size w w' := by
  unfold strconv_Itoa.f at h
  split at h; rotate_left; · cases h
  split at h; rotate_left; · cases h
  rename_i h1 h2
  obtain rfl := Option.some.inj h
  refine (Tryd.strconv_Itoa a0 h1 h2 w hG.2.1).mono ?_
  rintro e w' ⟨rfl, k, os, rfl⟩
  exact ⟨rfl, Lib.below_grow _ w (Nat.le_refl _) k os⟩

/-! ### strconv_FormatUint: function 55 -/
def strconv_FormatUint.f (a0 a1 : Int) : Option ByteArray := if a1 = 10 then (if 0 ≤ a0 then (if a0 < 18446744073709551616 then some ⟨(Lib.decDigits a0.toNat).toArray⟩ else none) else none) else none
set_option maxHeartbeats 6400000 in
set_option maxRecDepth 100000 in
theorem strconv_FormatUint.inner (u : Nat) (hu64 : u < 18446744073709551616) (w : World) (htab : Lib.TabIs Tryd.prog w "internal/strconv.uint64pow10" .u64 Lib.pow10Tab) :
    Calls Tryd.prog 64 #[.int .u64 u, .int .i64 10] w fun e w' => e = .returned (.string ⟨(Lib.decDigits u).toArray⟩) ∧ ∃ k os, w' = Sort.grow (w.drewN k) os := by
  by_cases hs : u < 100
  · go_enter Tryd.func64, Tryd.ntmps64
    go_wp2_with (go_at_call 79; refine (Tryd.internal_strconv_small u hs _).mono ?_; rintro e w' ⟨rfl, rfl⟩)
    go_ret
    exact ⟨rfl, 0, #[], by simp [World.drewN_zero]⟩
  · have hu1 : 1 ≤ u := by omega
    have hnd20 : Lib.nDigits u ≤ 20 := by have := Lib.numDigits_eq u hu1 hu64; split at this <;> omega
    have hal : Tryd.prog.arrayLen 89 = 24 := by kernel_rfl
    have hsl1 : ∀ W, (Instr.sliceAt 89 (.pointer (some ⟨w.heap.size, 0, none⟩)) none (some (.int .i64 (Lib.nDigits u : Int))) none).run Tryd.prog W = .ok (.slice (some ⟨w.heap.size, 0, none⟩) (Lib.nDigits u) 24) W := fun W => by
      rw [run_sliceAt_array_h W 89 ⟨w.heap.size, 0, none⟩ (by simp [Program.arrayLen, Program.elem, Tryd.underlying89]) .i64 (Lib.nDigits u : Int) (by omega) (by rw [hal]; omega)]
      go_simp
    have hH0 := Lib.holds_zero0 w 89 (Lib.nDigits u) (by omega)
    have hfmt := Tryd.internal_strconv_formatBase10 w.heap.size 0 24 u (Array.replicate (Lib.nDigits u) 0) (w.alloc (.cells Lib.zeros24 89)) hH0 (by rw [Array.size_replicate]; exact Lib.lt_pow_nDigits u) hu64 (by rw [Array.size_replicate]; omega)
    rw [Array.size_replicate] at hfmt
    have HH0 := Lib.hid hH0
    clear hH0 hal
    go_enter Tryd.func64, Tryd.ntmps64
    go_wp2_with (first
      | (go_at_call 80; refine (Tryd.internal_strconv_numDigits u hu1 hu64 _ (Lib.tabIs_alloc htab _)).mono ?_; rintro e w' ⟨rfl, rfl⟩))
    go_at_call 81
    refine hfmt.mono ?_
    rintro e w' ⟨rfl, k, v', dk, rfl, hF⟩
    have hcv : (convert 77 9 (.slice (some ⟨w.heap.size, 0, none⟩) (Lib.nDigits u) 24)).run Tryd.prog ((Sort.putRow (fun (b : UInt8) => Value.int .u8 (b.toNat : Int)) (w.alloc (.cells Lib.zeros24 89)) w.heap.size 0 dk).drewN k) = .ok (.string ⟨(Lib.decDigits u).toArray⟩) ((Sort.putRow (fun (b : UInt8) => Value.int .u8 (b.toNat : Int)) (w.alloc (.cells Lib.zeros24 89)) w.heap.size 0 dk).drewN k) := by
      have h := run_convert_bytes_back (P := Tryd.prog) ((Sort.putRow (fun (b : UInt8) => Value.int .u8 (b.toNat : Int)) (w.alloc (.cells Lib.zeros24 89)) w.heap.size 0 dk).drewN k) 77 9 5 ⟨w.heap.size, 0, none⟩ 24 (Lib.decDigits u) Tryd.underlying77 Tryd.underlying5 Tryd.underlying9 (fun j hj => by
        rw [Lib.row_is_numeral hF j hj, Lib.add_plain, World.cell?_drewN]
        exact Sort.cell?_putRow (fun (b : UInt8) => Value.int .u8 (b.toNat : Int)) _ w.heap.size 0 _ dk HH0.out (by rw [hF.size, Array.size_replicate]) j (by rw [hF.size]; rw [Lib.decDigits_length] at hj; exact hj))
      rw [Lib.decDigits_length] at h
      exact h
    go_wp2
    go_ret
    obtain ⟨os, eo⟩ := Lib.fin_at w (.cells Lib.zeros24 89) dk k 0
    exact ⟨rfl, k, os, eo⟩
theorem strconv_FormatUint.calls (a0 a1 : Int) (r : ByteArray) (w : World) (hG : Laid w) (h : strconv_FormatUint.f a0 a1 = some r) :
    Calls Tryd.prog 55 #[.int .u64 a0, .int .i64 a1] w fun e w' => e = .returned (.string r) ∧ Below w.heap.size w w' := by
  unfold strconv_FormatUint.f at h
  split at h; rotate_left; · cases h
  split at h; rotate_left; · cases h
  split at h; rotate_left; · cases h
  rename_i h1 h2 h3
  obtain rfl := Option.some.inj h
  subst h1
  obtain ⟨u, rfl⟩ := Int.eq_ofNat_of_zero_le h2
  have c := strconv_FormatUint.inner u (by omega) w hG.2.1
  have hg := hG.2.1
  clear h hG h2 h3
  go_enter Tryd.func55, Tryd.ntmps55
  go_wp2_with (go_at_call 64; refine (c).mono ?_; rintro e w' ⟨rfl, k, os, rfl⟩)
  go_ret
  exact ⟨rfl, Lib.below_grow _ w (Nat.le_refl _) k os⟩

/-! ### strings_Repeat: function 57 -/
def strings_Repeat.f (a0 : ByteArray) (a1 : Int) : Option ByteArray := if 0 ≤ a1 then (if a1 ≤ 9223372036854775807 then (if a0.size * a1.toNat ≤ 140737488355328 then some ⟨(Lib.repeatL a0.data.toList a1.toNat).toArray⟩ else none) else none) else none
theorem strings_Repeat.calls (a0 : ByteArray) (a1 : Int) (r : ByteArray) (w : World) (h : strings_Repeat.f a0 a1 = some r) :
    Calls Tryd.prog 57 #[.string a0, .int .i64 a1] w fun e w' => e = .returned (.string r) ∧ Below w.heap.size w w' := by
  unfold strings_Repeat.f at h
  split at h; rotate_left; · cases h
  split at h; rotate_left; · cases h
  split at h; rotate_left; · cases h
  rename_i h1 h2 h3
  obtain rfl := Option.some.inj h
  obtain ⟨c, rfl⟩ := Int.eq_ofNat_of_zero_le h1
  exact Tryd.strings_Repeat a0 c w (by omega) h3

/-! ### strings_TrimRight: function 56 -/
def strings_TrimRight.f (a0 a1 : ByteArray) : Option ByteArray := if a1 = ⟨#[48]⟩ then (if a0.size ≤ 9223372036854775807 then some ⟨(Lib.trimRightB a0.data.toList 48).toArray⟩ else none) else none
theorem strings_TrimRight.calls (a0 a1 : ByteArray) (r : ByteArray) (w : World) (h : strings_TrimRight.f a0 a1 = some r) :
    Calls Tryd.prog 56 #[.string a0, .string a1] w fun e w' => e = .returned (.string r) ∧ Drawn0 w w' := by
  unfold strings_TrimRight.f at h
  split at h; rotate_left; · cases h
  split at h; rotate_left; · cases h
  rename_i h1 h2
  obtain rfl := Option.some.inj h
  subst h1
  refine (Tryd.strings_TrimRight_one a0 48 (by decide) w h2).mono ?_
  rintro e w' ⟨rfl, rfl⟩
  exact ⟨rfl, Drawn0.refl _⟩

/-! ### value_decimal: function 32 -/
/-- The places behind the point. -/
def value_decimal.frac (r : Nat) : List UInt8 := if Lib.trimRightB (Lib.repeatL [48] (4 - (Lib.decDigits r).length) ++ Lib.decDigits r) 48 = [] then [48] else Lib.trimRightB (Lib.repeatL [48] (4 - (Lib.decDigits r).length) ++ Lib.decDigits r) 48
def value_decimal.text (n : Int) : List UInt8 := (if n < 0 then [45] else []) ++ Lib.decDigits (n.natAbs / 10000) ++ [46] ++ value_decimal.frac (n.natAbs % 10000)
def value_decimal.f (a0 : Int) : Option ByteArray := if -9223372036854775808 ≤ a0 then (if a0 ≤ 9223372036854775807 then some ⟨(value_decimal.text a0).toArray⟩ else none) else none
theorem value_decimal.nd_le : ∀ (k u : Nat), 1 ≤ k → u < 10 ^ k → Lib.nDigits u ≤ k
  | 0, _, h, _ => absurd h (by omega)
  | 1, u, _, h => by rw [Lib.nDigits_small (by simpa using h)]; exact Nat.le_refl _
  | k + 2, u, _, h => by
    by_cases hu : u < 10
    · rw [Lib.nDigits_small hu]; omega
    · rw [Lib.nDigits_big hu]
      have := value_decimal.nd_le (k + 1) (u / 10) (by omega) (by rw [Nat.pow_succ] at h; omega)
      omega
theorem value_decimal.str_empty {s : ByteArray} (h : s.size = 0) : s = ⟨#[]⟩ := by
  obtain ⟨a⟩ := s
  have : a.size = 0 := h
  rw [Array.size_eq_zero_iff.1 this]
theorem value_decimal.str_some {s : ByteArray} (h : ¬ s.size = 0) : s.toList.isEmpty = false := by
  have hl : s.toList.length = s.size := by rw [ByteArray.toList_eq]; exact data_length s
  cases hh : s.toList with
  | nil => rw [hh] at hl; exact absurd hl.symm h
  | cons a l => rfl
set_option maxHeartbeats 8000000 in
set_option maxRecDepth 100000 in
theorem value_decimal.core (neg : Bool) (u : Nat) (n : Int) (hn : n = if neg then -(u : Int) else u) (hu : u ≤ 9223372036854775808) (hp : if neg then 1 ≤ u else u ≤ 9223372036854775807) (w : World) (hG : Laid w)
    (z p t q : ByteArray) (sg : ByteArray) (hsg : sg = if neg then ⟨#[45]⟩ else ⟨#[]⟩)
    (c1 : ∀ W, Laid W → Calls Tryd.prog 55 #[.int .u64 ((u : Int) % 10000), .int .i64 10] W fun e w' => e = .returned (.string p) ∧ Below W.heap.size W w') (p1 : 1 ≤ p.size) (p2 : p.size ≤ 4)
    (c2 : ∀ W, Calls Tryd.prog 57 #[.string ⟨#[48]⟩, .int .i64 (4 - (p.size : Int))] W fun e w' => e = .returned (.string z) ∧ Below W.heap.size W w') (z2 : z.size ≤ 4)
    (c3 : ∀ W, Calls Tryd.prog 56 #[.string (z ++ p), .string ⟨#[48]⟩] W fun e w' => e = .returned (.string t) ∧ Drawn0 W w') (t2 : t.size ≤ 8)
    (c4 : ∀ W, Laid W → Calls Tryd.prog 55 #[.int .u64 ((u : Int) / 10000), .int .i64 10] W fun e w' => e = .returned (.string q) ∧ Below W.heap.size W w') (q2 : q.size ≤ 20) :
    Calls Tryd.prog 32 #[.int .i64 n] w fun e w' => e = .returned (.string (sg ++ q ++ ⟨#[46]⟩ ++ (if t.size = 0 then ⟨#[48]⟩ else t))) ∧ Below w.heap.size w w' := by
  have HG := Lib.hid hG
  clear hG
  have hzp : z.size + p.size ≤ 9223372036854775807 := by omega
  by_cases ht : t.size = 0
  all_goals
    first
      | (rw [if_pos ht]; obtain rfl := value_decimal.str_empty ht; clear ht t2)
      | (rw [if_neg ht]; have te := value_decimal.str_some ht; clear ht)
    have C1 := Lib.hid c1
    have C2 := Lib.hid c2
    have C3 := Lib.hid c3
    have C4 := Lib.hid c4
    clear c1 c2 c3 c4
    cases neg
    all_goals
      simp only [Bool.false_eq_true, if_true, if_false] at hn hp hsg
      subst hsg
      subst hn
      try have hwr : IntKind.u64.wrap (-IntKind.u64.wrap (-(u : Int))) = (u : Int) := by rw [IntKind.wrap_u64, IntKind.wrap_u64]; omega
      go_enter Tryd.func32, Tryd.ntmps32
      go_wp2_with fail
      refine (C1.out _ HG.out).mono ?_
      rintro e w1 ⟨rfl, hb1⟩
      have HB1 := Lib.hid hb1
      clear hb1
      go_wp2_with fail
      refine (C2.out _).mono ?_
      rintro e w2 ⟨rfl, hb2⟩
      have HB2 := Lib.hid (HB1.out.trans (hb2.mono HB1.out.size))
      clear hb2
      go_wp2_with fail
      refine (C3.out _).mono ?_
      rintro e w3 ⟨rfl, hb3⟩
      have HB3 := Lib.hid (HB2.out.trans (hb3.below.mono HB2.out.size))
      clear hb3
      go_wp2_with fail
      refine (C4.out _ (HG.out.below HB3.out)).mono ?_
      rintro e w4 ⟨rfl, hb4⟩
      have HB4 := Lib.hid (HB3.out.trans (hb4.mono HB3.out.size))
      clear hb4
      go_wp2
      go_ret
      refine ⟨?_, HB4.out⟩
      first | rfl | simp
theorem value_decimal.mk_app (a b : List UInt8) : (ByteArray.mk a.toArray ++ ByteArray.mk b.toArray : ByteArray) = ⟨(a ++ b).toArray⟩ := by
  apply ByteArray.ext
  apply Array.ext'
  simp [ByteArray.data_append]
theorem value_decimal.tr_len (l : List UInt8) (c : UInt8) : (Lib.trimRightB l c).length ≤ l.length := by
  unfold Lib.trimRightB
  rw [List.length_reverse]
  have h : (l.reverse.dropWhile (· == c)).length ≤ l.reverse.length := (List.dropWhile_sublist _).length_le
  rwa [List.length_reverse] at h
theorem value_decimal.calls (a0 : Int) (r : ByteArray) (w : World) (hG : Laid w) (h : value_decimal.f a0 = some r) :
    Calls Tryd.prog 32 #[.int .i64 a0] w fun e w' => e = .returned (.string r) ∧ Below w.heap.size w w' := by
  unfold value_decimal.f at h
  split at h; rotate_left; · cases h
  split at h; rotate_left; · cases h
  rename_i h1 h2
  obtain rfl := Option.some.inj h
  have n4 : Lib.nDigits (a0.natAbs % 10000) ≤ 4 := value_decimal.nd_le 4 _ (by omega) (by have := Nat.mod_lt a0.natAbs (show 0 < 10000 by omega); omega)
  have n1 := Lib.nDigits_pos (a0.natAbs % 10000)
  have n20 : Lib.nDigits (a0.natAbs / 10000) ≤ 20 := Lib.nDigits_le20 _ (by omega)
  have l1 : (Lib.decDigits (a0.natAbs % 10000)).length = Lib.nDigits (a0.natAbs % 10000) := Lib.decDigits_length _
  have l2 : (Lib.decDigits (a0.natAbs / 10000)).length = Lib.nDigits (a0.natAbs / 10000) := Lib.decDigits_length _
  have lr : (Lib.repeatL [48] (4 - (Lib.decDigits (a0.natAbs % 10000)).length)).length = 4 - (Lib.decDigits (a0.natAbs % 10000)).length := by rw [Lib.repeatL_length]; simp
  have lt := value_decimal.tr_len (Lib.repeatL [48] (4 - (Lib.decDigits (a0.natAbs % 10000)).length) ++ Lib.decDigits (a0.natAbs % 10000)) 48
  rw [List.length_append] at lt
  have sz : ∀ l : List UInt8, (ByteArray.mk l.toArray).size = l.length := fun l => by show l.toArray.size = _; simp
  have core := value_decimal.core (decide (a0 < 0)) a0.natAbs a0 (by by_cases hn : a0 < 0 <;> simp [hn] <;> omega) (by omega) (by by_cases hn : a0 < 0 <;> simp [hn] <;> omega) w hG
    ⟨(Lib.repeatL [48] (4 - (Lib.decDigits (a0.natAbs % 10000)).length)).toArray⟩ ⟨(Lib.decDigits (a0.natAbs % 10000)).toArray⟩
    ⟨(Lib.trimRightB (Lib.repeatL [48] (4 - (Lib.decDigits (a0.natAbs % 10000)).length) ++ Lib.decDigits (a0.natAbs % 10000)) 48).toArray⟩
    ⟨(Lib.decDigits (a0.natAbs / 10000)).toArray⟩ (if decide (a0 < 0) then ⟨#[45]⟩ else ⟨#[]⟩) rfl
    (fun W hW => strconv_FormatUint.calls _ _ _ W hW (by unfold strconv_FormatUint.f; rw [if_pos rfl, if_pos (by omega), if_pos (by omega)]; congr 5 <;> omega)) (by rw [sz]; omega) (by rw [sz]; omega)
    (fun W => strings_Repeat.calls _ _ _ W (by
      unfold strings_Repeat.f
      rw [sz, if_pos (by omega), if_pos (by omega), if_pos (by show 1 * _ ≤ _; omega)]
      rw [show ((4 : Int) - ((Lib.decDigits (a0.natAbs % 10000)).length : Int)).toNat = 4 - (Lib.decDigits (a0.natAbs % 10000)).length by omega])) (by rw [sz]; omega)
    (fun W => strings_TrimRight.calls _ _ _ W (by
      unfold strings_TrimRight.f
      rw [if_pos rfl, if_pos (by rw [ByteArray.size_append, sz, sz]; omega)]
      rfl)) (by rw [sz]; omega)
    (fun W hW => strconv_FormatUint.calls _ _ _ W hW (by unfold strconv_FormatUint.f; rw [if_pos rfl, if_pos (by omega), if_pos (by omega)]; congr 5 <;> omega)) (by rw [sz]; omega)
  refine core.mono ?_
  rintro e w' ⟨rfl, hb⟩
  refine ⟨?_, hb⟩
  refine congrArg (fun s => Ending.returned (.string s)) ?_
  rw [sz]
  unfold value_decimal.text value_decimal.frac
  by_cases hn : a0 < 0
  · rw [if_pos (decide_eq_true hn), if_pos hn]
    by_cases he : Lib.trimRightB (Lib.repeatL [48] (4 - (Lib.decDigits (a0.natAbs % 10000)).length) ++ Lib.decDigits (a0.natAbs % 10000)) 48 = []
    · rw [if_pos he, if_pos (by rw [he]; rfl)]
      exact (congrArg (· ++ _) ((congrArg (· ++ _) (value_decimal.mk_app [45] _)).trans (value_decimal.mk_app _ [46]))).trans (value_decimal.mk_app _ [48])
    · rw [if_neg he, if_neg (fun h0 => he (List.length_eq_zero_iff.1 h0))]
      exact (congrArg (· ++ _) ((congrArg (· ++ _) (value_decimal.mk_app [45] _)).trans (value_decimal.mk_app _ [46]))).trans (value_decimal.mk_app _ _)
  · rw [if_neg (by simpa using hn), if_neg hn]
    by_cases he : Lib.trimRightB (Lib.repeatL [48] (4 - (Lib.decDigits (a0.natAbs % 10000)).length) ++ Lib.decDigits (a0.natAbs % 10000)) 48 = []
    · rw [if_pos he, if_pos (by rw [he]; rfl)]
      exact (congrArg (· ++ _) ((congrArg (· ++ _) (value_decimal.mk_app [] _)).trans (value_decimal.mk_app _ [46]))).trans (value_decimal.mk_app _ [48])
    · rw [if_neg he, if_neg (fun h0 => he (List.length_eq_zero_iff.1 h0))]
      exact (congrArg (· ++ _) ((congrArg (· ++ _) (value_decimal.mk_app [] _)).trans (value_decimal.mk_app _ [46]))).trans (value_decimal.mk_app _ _)

/-! ### strings_ReplaceAll: function 33 -/
def strings_ReplaceAll.f (a0 a1 a2 : ByteArray) : Option ByteArray := if a0.size < 4294967281 then (if 1 ≤ a1.size then (if a0.size + Lib.countB a0 a1 * a2.size ≤ 140737488355328 then some ⟨(Lib.replaceAll a0.data.toList a1.data.toList a2.data.toList).toArray⟩ else none) else none) else none
theorem strings_ReplaceAll.calls (a0 a1 a2 : ByteArray) (r : ByteArray) (w : World) (hG : Laid w) (h : strings_ReplaceAll.f a0 a1 a2 = some r) :
    Calls Tryd.prog 33 #[.string a0, .string a1, .string a2] w fun e w' => e = .returned (.string r) ∧ Below w.heap.size w w' := by
  unfold strings_ReplaceAll.f at h
  split at h; rotate_left; · cases h
  split at h; rotate_left; · cases h
  split at h; rotate_left; · cases h
  rename_i h1 h2 h3
  obtain rfl := Option.some.inj h
  obtain ⟨m, hm⟩ := hG.2.2
  exact Tryd.strings_ReplaceAll a0 a1 a2 m w h1 hm h2 h3

/-! ### value_Show: function 11 -/
def value_Show.f (a0_0 a0_1 : Int) (a0_2 : ByteArray) : Option ByteArray :=
  (value_Check.f a0_0 a0_1 a0_2).bind fun c =>
    if c = 0 then
      (if a0_0 = 1 then some (if a0_1 = 1 then (⟨#[116, 114, 117, 101]⟩ : ByteArray) else ⟨#[102, 97, 108, 115, 101]⟩)
       else if a0_0 = 2 then strconv_Itoa.f a0_1
       else if a0_0 = 3 then value_decimal.f a0_1
       else if a0_0 = 4 then (strings_ReplaceAll.f a0_2 ⟨#[39]⟩ ⟨#[39, 39]⟩).bind fun t => if t.size ≤ 140737488355328 then some (⟨#[39]⟩ ++ t ++ ⟨#[39]⟩) else none
       else some ⟨#[110, 117, 108, 108]⟩)
    else some ⟨#[]⟩
set_option maxHeartbeats 8000000 in
set_option maxRecDepth 100000 in
theorem value_Show.calls (a0_0 a0_1 : Int) (a0_2 : ByteArray) (r : ByteArray) (w : World) (hG : Laid w) (h : value_Show.f a0_0 a0_1 a0_2 = some r) :
    Calls Tryd.prog 11 #[.agg #[.int .i64 a0_0, .int .i64 a0_1, .string a0_2]] w fun e w' => e = .returned (.string r) ∧ Below w.heap.size w w' := by
  have hb0 : Below w.heap.size w (w.alloc (.cells #[.int .i64 a0_0, .int .i64 a0_1, .string a0_2] 23)) := (Below.refl _ _).alloc (Nat.le_refl _) _
  unfold value_Show.f at h
  replace h := Option.bind_eq_some_iff.1 h
  obtain ⟨c, hc, h⟩ := h
  have hl := hG.below hb0
  have CK := Lib.hid (value_Check.calls a0_0 a0_1 a0_2 c _ hl hc)
  have HB := Lib.hid hb0
  have HL := Lib.hid hl
  have HC := Lib.hid hc
  clear hl hG hb0 hc
  by_cases c0 : c = 0
  · subst c0
    rw [if_pos rfl] at h
    by_cases k1 : a0_0 = 1
    · subst k1
      rw [if_pos rfl] at h
      by_cases n1 : a0_1 = 1
      all_goals
        first
          | (subst n1; rw [if_pos rfl] at h)
          | (rw [if_neg n1] at h; have n1b : (a0_1 == 1) = false := by simpa using n1)
        try clear n1
        obtain rfl := Option.some.inj h
        clear h
        go_enter Tryd.func11, Tryd.ntmps11
        go_wp2_with fail
        refine CK.out.mono ?_
        rintro e w1 ⟨rfl, hb1⟩
        have HB1 := Lib.hid (HB.out.trans (hb1.mono (by simp)))
        have q0 : w1.cell? ⟨w.heap.size, 0, none⟩ = some (.int .i64 1) := (hb1.cell (p := ⟨w.heap.size, 0, none⟩) (by simp)).trans (World.cell?_alloc_new _ _ _ _)
        have q1 := (hb1.cell (p := ⟨w.heap.size, 1, none⟩) (by simp)).trans (World.cell?_alloc_new _ _ _ _)
        simp at q1
        clear hb1
        go_wp2
        go_ret
        exact ⟨rfl, HB1.out⟩
    rw [if_neg k1] at h
    by_cases k2 : a0_0 = 2
    · subst k2
      rw [if_pos rfl] at h
      clear k1
      go_enter Tryd.func11, Tryd.ntmps11
      go_wp2_with fail
      refine CK.out.mono ?_
      rintro e w1 ⟨rfl, hb1⟩
      have HB1 := Lib.hid (HB.out.trans (hb1.mono (by simp)))
      have HL1 := Lib.hid (HL.out.below hb1)
      have q0 : w1.cell? ⟨w.heap.size, 0, none⟩ = some (.int .i64 2) := (hb1.cell (p := ⟨w.heap.size, 0, none⟩) (by simp)).trans (World.cell?_alloc_new _ _ _ _)
      have q1 : w1.cell? ⟨w.heap.size, 1, none⟩ = some (.int .i64 a0_1) := (hb1.cell (p := ⟨w.heap.size, 1, none⟩) (by simp)).trans (World.cell?_alloc_new _ _ _ _)
      have q2 : w1.cell? ⟨w.heap.size, 2, none⟩ = some (.string a0_2) := (hb1.cell (p := ⟨w.heap.size, 2, none⟩) (by simp)).trans (World.cell?_alloc_new _ _ _ _)
      clear hb1
      have CC := Lib.hid (strconv_Itoa.calls a0_1 r w1 HL1.out h)
      clear h
      go_wp2_with fail
      refine CC.out.mono ?_
      rintro e w2 ⟨rfl, hb2⟩
      have HB2 := Lib.hid (HB1.out.trans (hb2.mono HB1.out.size))
      clear hb2
      go_wp2
      go_ret
      exact ⟨rfl, HB2.out⟩
    rw [if_neg k2] at h
    by_cases k3 : a0_0 = 3
    · subst k3
      rw [if_pos rfl] at h
      clear k1 k2
      go_enter Tryd.func11, Tryd.ntmps11
      go_wp2_with fail
      refine CK.out.mono ?_
      rintro e w1 ⟨rfl, hb1⟩
      have HB1 := Lib.hid (HB.out.trans (hb1.mono (by simp)))
      have HL1 := Lib.hid (HL.out.below hb1)
      have q0 : w1.cell? ⟨w.heap.size, 0, none⟩ = some (.int .i64 3) := (hb1.cell (p := ⟨w.heap.size, 0, none⟩) (by simp)).trans (World.cell?_alloc_new _ _ _ _)
      have q1 : w1.cell? ⟨w.heap.size, 1, none⟩ = some (.int .i64 a0_1) := (hb1.cell (p := ⟨w.heap.size, 1, none⟩) (by simp)).trans (World.cell?_alloc_new _ _ _ _)
      have q2 : w1.cell? ⟨w.heap.size, 2, none⟩ = some (.string a0_2) := (hb1.cell (p := ⟨w.heap.size, 2, none⟩) (by simp)).trans (World.cell?_alloc_new _ _ _ _)
      clear hb1
      have CC := Lib.hid (value_decimal.calls a0_1 r w1 HL1.out h)
      clear h
      go_wp2_with fail
      refine CC.out.mono ?_
      rintro e w2 ⟨rfl, hb2⟩
      have HB2 := Lib.hid (HB1.out.trans (hb2.mono HB1.out.size))
      clear hb2
      go_wp2
      go_ret
      exact ⟨rfl, HB2.out⟩
    rw [if_neg k3] at h
    by_cases k4 : a0_0 = 4
    · subst k4
      rw [if_pos rfl] at h
      clear k1 k2 k3
      go_enter Tryd.func11, Tryd.ntmps11
      go_wp2_with fail
      refine CK.out.mono ?_
      rintro e w1 ⟨rfl, hb1⟩
      have HB1 := Lib.hid (HB.out.trans (hb1.mono (by simp)))
      have HL1 := Lib.hid (HL.out.below hb1)
      have q0 : w1.cell? ⟨w.heap.size, 0, none⟩ = some (.int .i64 4) := (hb1.cell (p := ⟨w.heap.size, 0, none⟩) (by simp)).trans (World.cell?_alloc_new _ _ _ _)
      have q1 : w1.cell? ⟨w.heap.size, 1, none⟩ = some (.int .i64 a0_1) := (hb1.cell (p := ⟨w.heap.size, 1, none⟩) (by simp)).trans (World.cell?_alloc_new _ _ _ _)
      have q2 : w1.cell? ⟨w.heap.size, 2, none⟩ = some (.string a0_2) := (hb1.cell (p := ⟨w.heap.size, 2, none⟩) (by simp)).trans (World.cell?_alloc_new _ _ _ _)
      clear hb1
      replace h := Option.bind_eq_some_iff.1 h
      obtain ⟨t, ht, h⟩ := h
      split at h; rotate_left; · cases h
      rename_i hsz
      obtain rfl := Option.some.inj h
      have CC := Lib.hid (strings_ReplaceAll.calls a0_2 ⟨#[39]⟩ ⟨#[39, 39]⟩ t w1 HL1.out ht)
      clear h ht
      go_wp2_with fail
      refine CC.out.mono ?_
      rintro e w2 ⟨rfl, hb2⟩
      have HB2 := Lib.hid (HB1.out.trans (hb2.mono HB1.out.size))
      clear hb2
      go_wp2
      go_ret
      exact ⟨rfl, HB2.out⟩
    rw [if_neg k4] at h
    obtain rfl := Option.some.inj h
    have k1b : (a0_0 == 1) = false := by simpa using k1
    have k2b : (a0_0 == 2) = false := by simpa using k2
    have k3b : (a0_0 == 3) = false := by simpa using k3
    have k4b : (a0_0 == 4) = false := by simpa using k4
    clear h k1 k2 k3 k4
    go_enter Tryd.func11, Tryd.ntmps11
    go_wp2_with fail
    refine CK.out.mono ?_
    rintro e w1 ⟨rfl, hb1⟩
    have HB1 := Lib.hid (HB.out.trans (hb1.mono (by simp)))
    have q0 : w1.cell? ⟨w.heap.size, 0, none⟩ = some (.int .i64 a0_0) := (hb1.cell (p := ⟨w.heap.size, 0, none⟩) (by simp)).trans (World.cell?_alloc_new _ _ _ _)
    clear hb1
    go_wp2
    go_ret
    exact ⟨rfl, HB1.out⟩
  · rw [if_neg c0] at h
    obtain rfl := Option.some.inj h
    have c0b : (c == 0) = false := by simpa using c0
    have c0n : (c != 0) = true := by simpa using c0
    clear h c0
    go_enter Tryd.func11, Tryd.ntmps11
    go_wp2_with fail
    refine CK.out.mono ?_
    rintro e w1 ⟨rfl, hb1⟩
    have HB1 := Lib.hid (HB.out.trans (hb1.mono (by simp)))
    clear hb1
    go_wp2
    go_ret
    exact ⟨rfl, HB1.out⟩

/-! ### marqueelaw01_awake: function 13 -/
def marqueelaw01_awake.f : Option Bool := some true
/-- What the boxes hold, and what is new alone is written. -/
abbrev marqueelaw01_awake.F (w W : World) : Prop :=
  (W.cell? ⟨w.heap.size, 0, none⟩ = some (.int .i64 0) ∧ W.cell? ⟨w.heap.size, 1, none⟩ = some (.int .i64 0) ∧ W.cell? ⟨w.heap.size, 2, none⟩ = some (.string ⟨#[]⟩)) ∧
  (W.cell? ⟨w.heap.size + 1, 0, none⟩ = some (.int .i64 1) ∧ W.cell? ⟨w.heap.size + 1, 1, none⟩ = some (.int .i64 1) ∧ W.cell? ⟨w.heap.size + 1, 2, none⟩ = some (.string ⟨#[]⟩)) ∧
  Hid (Laid W ∧ Below w.heap.size w W)
theorem marqueelaw01_awake.on {w W W' : World} (h : marqueelaw01_awake.F w W) (hb : Below W.heap.size W W') : marqueelaw01_awake.F w W' := by
  obtain ⟨⟨a0, a1, a2⟩, ⟨b0, b1, b2⟩, hh⟩ := h
  obtain ⟨h1, h2⟩ := hh.out
  refine ⟨⟨?_, ?_, ?_⟩, ⟨?_, ?_, ?_⟩, Lib.hid ⟨h1.below hb, h2.trans (hb.mono h2.size)⟩⟩
  · exact (hb.cell (World.block_lt_of_cell? _ _ a0)).trans a0
  · exact (hb.cell (World.block_lt_of_cell? _ _ a1)).trans a1
  · exact (hb.cell (World.block_lt_of_cell? _ _ a2)).trans a2
  · exact (hb.cell (World.block_lt_of_cell? _ _ b0)).trans b0
  · exact (hb.cell (World.block_lt_of_cell? _ _ b1)).trans b1
  · exact (hb.cell (World.block_lt_of_cell? _ _ b2)).trans b2
theorem marqueelaw01_awake.drawn {w W : World} (h : marqueelaw01_awake.F w W) : marqueelaw01_awake.F w W.drew := marqueelaw01_awake.on h (below_drew1 (Below.refl _ _))
set_option maxHeartbeats 8000000 in
set_option maxRecDepth 100000 in
theorem marqueelaw01_awake.calls (r : Bool) (w : World) (hG : Laid w) (h : marqueelaw01_awake.f = some r) :
    Calls Tryd.prog 13 #[] w fun e w' => e = .returned (.bool r) ∧ Below w.heap.size w w' := by
  obtain rfl := Option.some.inj h
  clear h
  have HG := Lib.hid hG
  clear hG
  go_enter Tryd.func13, Tryd.ntmps13
  go_wp2_with fail
  refine (value_Compare.calls 3 2 1 ⟨#[]⟩ 3 15000 ⟨#[]⟩ (-1) true _ (by kernel_rfl)).mono ?_
  rintro e w1 ⟨rfl, hb1⟩
  have hs : marqueelaw01_awake.F w w1 := by
    have k1 : Below w.heap.size w w1 := (((Below.refl _ _).alloc (Nat.le_refl _) _).alloc (by simp) _).trans (hb1.mono (by simp; omega))
    have hc := fun (i : Nat) => hb1.cell (p := ⟨w.heap.size, i, none⟩) (by simp; omega)
    have hd := fun (i : Nat) => hb1.cell (p := ⟨w.heap.size + 1, i, none⟩) (by simp)
    refine ⟨⟨(hc 0).trans ?_, (hc 1).trans ?_, (hc 2).trans ?_⟩, ⟨(hd 0).trans ?_, (hd 1).trans ?_, (hd 2).trans ?_⟩, Lib.hid ⟨HG.out.below k1, k1⟩⟩
    all_goals first | (go_simp; done) | (simp; done)
  clear hb1
  go_wp2_with fail
  go_region_held3 (fun W => marqueelaw01_awake.F w W) (first | exact marqueelaw01_awake.drawn ‹_› | exact marqueelaw01_awake.on ‹_› ‹_›)
    (first
      | (go_at_call 14; refine (value_Not.calls 1 1 ⟨#[]⟩ 1 0 ⟨#[]⟩ _ (by kernel_rfl)).mono ?_; rintro e w' ⟨rfl, hb⟩)
      | (go_at_call 15; refine (value_And.calls 0 0 ⟨#[]⟩ 1 0 ⟨#[]⟩ 1 0 ⟨#[]⟩ _ (by kernel_rfl)).mono ?_; rintro e w' ⟨rfl, hb⟩)
      | (go_at_call 16; refine (value_Or.calls 0 0 ⟨#[]⟩ 1 1 ⟨#[]⟩ 1 1 ⟨#[]⟩ _ (by kernel_rfl)).mono ?_; rintro e w' ⟨rfl, hb⟩)
      | (go_at_call 11; (with_reducible refine (value_Show.calls 3 15000 ⟨#[]⟩ ⟨#[49, 46, 53]⟩ _ ?g (by kernel_rfl)).mono ?_); (case g => exact (‹marqueelaw01_awake.F w _›).2.2.out.1); rintro e w' ⟨rfl, hb⟩)
      | (go_at_call 11; (with_reducible refine (value_Show.calls 4 0 ⟨#[105, 116, 39, 115]⟩ ⟨#[39, 105, 116, 39, 39, 115, 39]⟩ _ ?g (by kernel_rfl)).mono ?_); (case g => exact (‹marqueelaw01_awake.F w _›).2.2.out.1); rintro e w' ⟨rfl, hb⟩)
      | (go_at_call 9; (with_reducible refine (value_Check.calls 9 0 ⟨#[]⟩ 1 _ ?g (by kernel_rfl)).mono ?_); (case g => exact (‹marqueelaw01_awake.F w _›).2.2.out.1); rintro e w' ⟨rfl, hb⟩))
  all_goals
    rename_i hF
    go_wp2
    go_ret
    exact ⟨rfl, hF.2.2.out.2⟩

-- NOT PRINTED: function 4 (marqueelaw01_ValueLaws)

end Go.Proofs.YthfialcaddjjaaaDoor.PValueLaws
