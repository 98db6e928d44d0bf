/- A part of the proof of this claim. No condition beyond those that each theorem names. -/
import Derived.Lib.ValidLaws
import Derived.Lib.TrimUEq
import Derived.Lib.MapLaws
import Derived.Lib.RuneCount
import Derived.Laws.Cover4
namespace Go.Proofs.YtchbodpkaiengaaGreatDoorU8
open Go Go.Lib
set_option linter.unusedVariables false
set_option linter.unusedSimpArgs false
def Scal (n : Int) : Prop := (0 ≤ n ∧ n < 55296) ∨ (57344 ≤ n ∧ n ≤ 1114111)
def enc (n : Int) : List UInt8 := (Utf8.encode n).data.toList
def u8s (l : List Int) : List UInt8 := l.flatMap enc
theorem u8s_nil : u8s [] = [] := rfl
theorem u8s_cons (n : Int) (l : List Int) : u8s (n :: l) = enc n ++ u8s l := rfl
theorem u8s_append (a b : List Int) : u8s (a ++ b) = u8s a ++ u8s b := by simp [u8s]
theorem enc_eq {n : Int} (h : Scal n) : enc n =
    if n < 128 then [UInt8.ofNat n.toNat]
    else if n < 2048 then [UInt8.ofNat (192 + n.toNat / 64), UInt8.ofNat (128 + n.toNat % 64)]
    else if n < 65536 then [UInt8.ofNat (224 + n.toNat / 4096), UInt8.ofNat (128 + n.toNat / 64 % 64), UInt8.ofNat (128 + n.toNat % 64)]
    else [UInt8.ofNat (240 + n.toNat / 262144), UInt8.ofNat (128 + n.toNat / 4096 % 64), UInt8.ofNat (128 + n.toNat / 64 % 64), UInt8.ofNat (128 + n.toNat % 64)] := by
  unfold enc Utf8.encode
  have hv : Utf8.valid n = true := by
    unfold Utf8.valid
    unfold Scal at h
    simp only [Bool.or_eq_true, Bool.and_eq_true, decide_eq_true_eq]
    omega
  simp only [hv, if_true]
  unfold Scal at h
  by_cases h1 : n < 128
  · rw [if_pos h1, if_pos (by omega)]
  by_cases h2 : n < 2048
  · rw [if_neg h1, if_pos h2, if_neg (by omega), if_pos (by omega)]
  by_cases h3 : n < 65536
  · rw [if_neg h1, if_neg h2, if_pos h3, if_neg (by omega), if_neg (by omega), if_pos (by omega)]
  · rw [if_neg h1, if_neg h2, if_neg h3, if_neg (by omega), if_neg (by omega), if_neg (by omega)]
theorem tn {n : Nat} (h : n < 256) : (UInt8.ofNat n).toNat = n := by simp; omega
theorem dec_enc {n : Int} (h : Scal n) (t : List UInt8) : decodeL (enc n ++ t) = (n.toNat, (enc n).length) := by
  rw [decodeL_N, enc_eq h]
  unfold Scal at h
  obtain ⟨m, rfl⟩ : ∃ m : Nat, n = m := ⟨n.toNat, by omega⟩
  simp only [Int.toNat_natCast]
  by_cases h1 : m < 128
  · rw [if_pos (by omega)]
    simp only [List.cons_append, List.nil_append, List.getD_cons_zero, tn (show m < 256 by omega), List.length_cons, List.length_nil]
    unfold decodeN
    rw [if_pos h1]
  by_cases h2 : m < 2048
  · rw [if_neg (by omega), if_pos (by omega)]
    simp only [List.cons_append, List.nil_append, List.getD_cons_zero, List.getD_cons_succ, tn (show 192 + m / 64 < 256 by omega), tn (show 128 + m % 64 < 256 by omega), List.length_cons, List.length_nil]
    unfold decodeN
    rw [if_neg (by omega), if_pos ⟨by omega, by omega, by omega⟩, if_pos (by omega)]
    congr 1; omega
  by_cases h3 : m < 65536
  · rw [if_neg (by omega), if_neg (by omega), if_pos (by omega)]
    simp only [List.cons_append, List.nil_append, List.getD_cons_zero, List.getD_cons_succ, tn (show 224 + m / 4096 < 256 by omega), tn (show 128 + m / 64 % 64 < 256 by omega), tn (show 128 + m % 64 < 256 by omega), List.length_cons, List.length_nil]
    have e : (224 + m / 4096) % 16 * 4096 + (128 + m / 64 % 64) % 64 * 64 + (128 + m % 64) % 64 = m := by omega
    unfold decodeN
    rw [if_neg (by omega), if_neg (by omega), if_pos ⟨by omega, ⟨by omega, by omega⟩, by omega, by omega⟩, e, if_pos (by omega)]
  · rw [if_neg (by omega), if_neg (by omega), if_neg (by omega)]
    simp only [List.cons_append, List.nil_append, List.getD_cons_zero, List.getD_cons_succ, tn (show 240 + m / 262144 < 256 by omega), tn (show 128 + m / 4096 % 64 < 256 by omega), tn (show 128 + m / 64 % 64 < 256 by omega), tn (show 128 + m % 64 < 256 by omega), List.length_cons, List.length_nil]
    have e : (240 + m / 262144) % 8 * 262144 + (128 + m / 4096 % 64) % 64 * 4096 + (128 + m / 64 % 64) % 64 * 64 + (128 + m % 64) % 64 = m := by omega
    unfold decodeN
    rw [if_neg (by omega), if_neg (by omega), if_neg (by omega), if_pos ⟨by omega, ⟨by omega, by omega⟩, ⟨by omega, by omega⟩, by omega, by omega⟩, e, if_pos (by omega)]
theorem enc_len {n : Int} (h : Scal n) : 1 ≤ (enc n).length ∧ (enc n).length ≤ 4 ∧ ((enc n).length = 1 → n < 128) := by
  rw [enc_eq h]
  by_cases h1 : n < 128
  · simp [h1]
  by_cases h2 : n < 2048
  · simp [h1, h2]
  by_cases h3 : n < 65536
  · simp [h1, h2, h3]
  · simp [h1, h2, h3]
theorem valid_u8s : ∀ (l : List Int), (∀ n ∈ l, Scal n) → validD (u8s l) = true
  | [], _ => rfl
  | n :: l, h => by
    have hn := h n List.mem_cons_self
    have hl := enc_len hn
    rw [u8s_cons, validD_step _ (by intro e; have := congrArg List.length e; simp at this; simp [this.1] at hl), dec_enc hn]
    rw [if_neg (by
      rintro ⟨h1, h2⟩
      have := hl.2.2 h2
      unfold Scal at hn
      simp only at h1
      omega)]
    simp only [List.drop_left]
    exact valid_u8s l fun m hm => h m (List.mem_cons_of_mem _ hm)
theorem of_tn {b : UInt8} {n : Nat} (h : n = b.toNat) : UInt8.ofNat n = b := by subst h; simp
theorem enc_dec (l : List UInt8) (hne : l ≠ []) (h : ¬ ((decodeL l).1 = 65533 ∧ (decodeL l).2 = 1)) : Scal ((decodeL l).1 : Int) ∧ enc ((decodeL l).1 : Int) ++ l.drop (decodeL l).2 = l := by
  rw [decodeL_N] at h ⊢
  have hb : ∀ b : UInt8, b.toNat < 256 := fun b => b.toNat_lt
  match l, hne with
  | b0 :: t, _ =>
  have q0 := hb b0
  unfold decodeN at h ⊢
  simp only [List.getD_cons_zero, List.getD_cons_succ] at h ⊢
  by_cases h0 : b0.toNat < 128
  · rw [if_pos h0] at h ⊢
    simp only
    have hs : Scal (b0.toNat : Int) := by unfold Scal; omega
    refine ⟨hs, ?_⟩
    rw [enc_eq hs, if_pos (by omega)]
    simp
  rw [if_neg h0] at h ⊢
  cases t with
  | nil =>
    rw [if_neg (by simp), if_neg (by simp), if_neg (by simp)] at h
    simp at h
  | cons b1 t =>
  have q1 := hb b1
  simp only [List.getD_cons_zero, List.getD_cons_succ, List.length_cons] at h ⊢
  by_cases c1 : b0.toNat / 32 = 6 ∧ (1 < t.length + 1 + 1 ∧ b1.toNat / 64 = 2)
  · rw [if_pos c1] at h ⊢
    by_cases d : b0.toNat % 32 * 64 + b1.toNat % 64 ≥ 128
    · rw [if_pos d] at h ⊢
      simp only
      have hs : Scal ((b0.toNat % 32 * 64 + b1.toNat % 64 : Nat) : Int) := by unfold Scal; omega
      refine ⟨hs, ?_⟩
      rw [enc_eq hs, if_neg (by omega), if_pos (by omega), Int.toNat_natCast]
      simp only [List.cons_append, List.nil_append, List.drop_succ_cons, List.drop_zero]
      rw [of_tn (b := b0) (by omega), of_tn (b := b1) (by omega)]
    · rw [if_neg d] at h; simp at h
  rw [if_neg c1] at h ⊢
  cases t with
  | nil =>
    rw [if_neg (by simp), if_neg (by simp)] at h
    simp at h
  | cons b2 t =>
  have q2 := hb b2
  simp only [List.getD_cons_zero, List.getD_cons_succ, List.length_cons] at h ⊢
  by_cases c2 : b0.toNat / 16 = 14 ∧ (1 < t.length + 1 + 1 + 1 ∧ b1.toNat / 64 = 2) ∧ (2 < t.length + 1 + 1 + 1 ∧ b2.toNat / 64 = 2)
  · rw [if_pos c2] at h ⊢
    generalize hm : b0.toNat % 16 * 4096 + b1.toNat % 64 * 64 + b2.toNat % 64 = m at h ⊢
    by_cases d : m ≥ 2048 ∧ (m < 55296 ∨ (57344 ≤ m ∧ m ≤ 1114111))
    · rw [if_pos d] at h ⊢
      simp only
      have hs : Scal (m : Int) := by unfold Scal; omega
      refine ⟨hs, ?_⟩
      rw [enc_eq hs, if_neg (by omega), if_neg (by omega), if_pos (by omega), Int.toNat_natCast]
      simp only [List.cons_append, List.nil_append, List.drop_succ_cons, List.drop_zero]
      rw [of_tn (b := b0) (by omega), of_tn (b := b1) (by omega), of_tn (b := b2) (by omega)]
    · rw [if_neg d] at h; simp at h
  rw [if_neg c2] at h ⊢
  cases t with
  | nil =>
    rw [if_neg (by simp)] at h
    simp at h
  | cons b3 t =>
  have q3 := hb b3
  simp only [List.getD_cons_zero, List.getD_cons_succ, List.length_cons] at h ⊢
  by_cases c3 : b0.toNat / 8 = 30 ∧ (1 < t.length + 1 + 1 + 1 + 1 ∧ b1.toNat / 64 = 2) ∧ (2 < t.length + 1 + 1 + 1 + 1 ∧ b2.toNat / 64 = 2) ∧ (3 < t.length + 1 + 1 + 1 + 1 ∧ b3.toNat / 64 = 2)
  · rw [if_pos c3] at h ⊢
    generalize hm : b0.toNat % 8 * 262144 + b1.toNat % 64 * 4096 + b2.toNat % 64 * 64 + b3.toNat % 64 = m at h ⊢
    by_cases d : m ≥ 65536 ∧ (m < 55296 ∨ (57344 ≤ m ∧ m ≤ 1114111))
    · rw [if_pos d] at h ⊢
      simp only
      have hs : Scal (m : Int) := by unfold Scal; omega
      refine ⟨hs, ?_⟩
      rw [enc_eq hs, if_neg (by omega), if_neg (by omega), if_neg (by omega), Int.toNat_natCast]
      simp only [List.cons_append, List.nil_append, List.drop_succ_cons, List.drop_zero]
      rw [of_tn (b := b0) (by omega), of_tn (b := b1) (by omega), of_tn (b := b2) (by omega), of_tn (b := b3) (by omega)]
    · rw [if_neg d] at h; simp at h
  rw [if_neg c3] at h
  simp at h
theorem valid_split : ∀ (n : Nat) (l : List UInt8), l.length ≤ n → validD l = true → ∃ p : List Int, (∀ x ∈ p, Scal x) ∧ l = u8s p
  | 0, l, hl, _ => ⟨[], fun x h => by (cases h), by cases l with | nil => rfl | cons => simp at hl⟩
  | n + 1, l, hl, hv => by
    by_cases hne : l = []
    · exact ⟨[], fun x h => by (cases h), hne⟩
    rw [validD_step l hne] at hv
    by_cases hd : (decodeL l).1 = 65533 ∧ (decodeL l).2 = 1
    · rw [if_pos hd] at hv; cases hv
    rw [if_neg hd] at hv
    obtain ⟨h1, h2⟩ := enc_dec l hne hd
    have h3 := enc_len h1
    have h4 := congrArg List.length h2
    have h5 := decodeL_le l hne
    have h6 := decodeL_width l
    simp only [List.length_append, List.length_drop] at h4
    obtain ⟨p, h7, h8⟩ := valid_split n (l.drop (decodeL l).2) (by simp; omega) hv
    exact ⟨(decodeL l).1 :: p, fun x hx => by
      rcases List.mem_cons.1 hx with rfl | hx
      · exact h1
      · exact h7 x hx, by rw [u8s_cons, ← h8, h2]⟩
end Go.Proofs.YtchbodpkaiengaaGreatDoorU8
