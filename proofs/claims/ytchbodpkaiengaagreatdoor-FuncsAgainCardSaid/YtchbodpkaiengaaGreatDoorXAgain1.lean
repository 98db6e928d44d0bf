/- A part of the proof of this claim. No condition beyond those that each theorem names. -/
import Derived.Test.YtchbodpkaiengaaGreatDoorXLeaf1
import Derived.Test.YtchbodpkaiengaaGreatDoorXPLeafx2
namespace Go.Proofs.YtchbodpkaiengaaGreatDoor.Pure
set_option linter.unusedSimpArgs false
set_option linter.unusedVariables false
open Go.RowKit Go.Proofs.YtchbodpkaiengaaGreatDoor.PLeaf
open Go.Proofs.YtchbodpkaiengaaGreatDoorU8
open Go.WideShapes (bytes_inj)
def turn (lo hi d n : Int) : Int := if lo ≤ n ∧ n ≤ hi then n + d else n
theorem one_high (lo hi d : Int) (hh : hi < 128) (k : Nat) (h : 128 ≤ k) (hk : k < 256) : funcs_cased.one lo hi d (UInt8.ofNat k) = UInt8.ofNat k := by
  unfold funcs_cased.one
  rw [tn hk, if_neg (by omega)]
theorem enc_turn (lo hi d : Int) (hl : 0 ≤ lo) (hh : hi < 128) (h1 : 0 ≤ lo + d) (h2 : hi + d < 128) (n : Int) (hn : Scal n) : (enc n).map (funcs_cased.one lo hi d) = enc (turn lo hi d n) ∧ Scal (turn lo hi d n) ∧ (enc (turn lo hi d n)).length = (enc n).length := by
  by_cases hlt : n < 128
  · have h0 : 0 ≤ n := by unfold Scal at hn; omega
    have hs : Scal (turn lo hi d n) := by unfold turn Scal; split <;> omega
    have ht : turn lo hi d n < 128 := by unfold turn; split <;> omega
    refine ⟨?_, hs, ?_⟩
    · rw [enc_eq hn, enc_eq hs, if_pos hlt, if_pos ht]
      simp only [List.map]
      unfold funcs_cased.one turn
      rw [tn (by omega)]
      by_cases c : lo ≤ n ∧ n ≤ hi
      · rw [if_pos (by omega), if_pos c]
        congr 2; omega
      · rw [if_neg (by omega), if_neg c]
    · rw [enc_eq hn, enc_eq hs, if_pos hlt, if_pos ht]; rfl
  · have e : turn lo hi d n = n := by unfold turn; rw [if_neg (by omega)]
    rw [e]
    refine ⟨?_, hn, rfl⟩
    unfold Scal at hn
    rw [enc_eq hn, if_neg hlt]
    by_cases c2 : n < 2048
    · rw [if_pos c2]
      simp only [List.map]
      rw [one_high lo hi d hh _ (by omega) (by omega), one_high lo hi d hh _ (by omega) (by omega)]
    by_cases c3 : n < 65536
    · rw [if_neg c2, if_pos c3]
      simp only [List.map]
      rw [one_high lo hi d hh _ (by omega) (by omega), one_high lo hi d hh _ (by omega) (by omega), one_high lo hi d hh _ (by omega) (by omega)]
    · rw [if_neg c2, if_neg c3]
      simp only [List.map]
      rw [one_high lo hi d hh _ (by omega) (by omega), one_high lo hi d hh _ (by omega) (by omega), one_high lo hi d hh _ (by omega) (by omega), one_high lo hi d hh _ (by omega) (by omega)]
theorem u8s_turn (lo hi d : Int) (hl : 0 ≤ lo) (hh : hi < 128) (h1 : 0 ≤ lo + d) (h2 : hi + d < 128) : ∀ (p : List Int), (∀ x ∈ p, Scal x) → (u8s p).map (funcs_cased.one lo hi d) = u8s (p.map (turn lo hi d)) ∧ (∀ x ∈ p.map (turn lo hi d), Scal x) ∧ (u8s (p.map (turn lo hi d))).length = (u8s p).length
  | [], _ => ⟨rfl, (fun x h => by cases h), rfl⟩
  | n :: p, h => by
    obtain ⟨a1, a2, a3⟩ := enc_turn lo hi d hl hh h1 h2 n (h n (by simp))
    obtain ⟨b1, b2, b3⟩ := u8s_turn lo hi d hl hh h1 h2 p fun x hx => h x (by simp [hx])
    refine ⟨by rw [u8s_cons, List.map_append, a1, b1]; rfl, fun x hx => ?_, by rw [List.map_cons, u8s_cons, u8s_cons, List.length_append, List.length_append, a3, b3]⟩
    rcases List.mem_cons.1 hx with rfl | hx
    · exact a2
    · exact b2 x hx
theorem cased_T (lo hi d : Int) (hl : 0 ≤ lo) (hh : hi < 128) (h1 : 0 ≤ lo + d) (h2 : hi + d < 128) (hd : -1000 ≤ d ∧ d ≤ 1000) (p : List Int) (h : Ok p) :
    funcs_cased.f (T p) lo hi d = some (T (p.map (turn lo hi d))) ∧ Ok (p.map (turn lo hi d)) ∧ (u8s (p.map (turn lo hi d))).length = (u8s p).length := by
  obtain ⟨a, b, c⟩ := u8s_turn lo hi d hl hh h1 h2 p h.1
  have hs := T_size p
  have := h.2
  refine ⟨?_, ⟨b, by omega⟩, c⟩
  unfold funcs_cased.f funcs_cased.g
  rw [if_pos (by omega), if_pos hd.1, if_pos hd.2, T_data, a]
  rfl
theorem turns (p : List Int) (f g h : Int → Int) (e : ∀ x, f (g x) = h x) : (p.map g).map f = p.map h := by
  rw [List.map_map]
  exact List.map_congr_left fun x _ => e x
abbrev up : Int → Int := turn 97 122 (-32)
abbrev lw : Int → Int := turn 65 90 32
theorem up_up (x : Int) : up (up x) = up x := by unfold up turn; repeat' split <;> omega
theorem lw_lw (x : Int) : lw (lw x) = lw x := by unfold lw turn; repeat' split <;> omega
theorem up_lw (x : Int) : up (lw x) = up x := by unfold up lw turn; repeat' split <;> omega
theorem lw_up (x : Int) : lw (up x) = lw x := by unfold up lw turn; repeat' split <;> omega
theorem enc_ends (n : Int) (h : Scal n) (h32 : n ≠ 32) : ∃ a b l l', enc n = a :: l ∧ enc n = l' ++ [b] ∧ a ≠ 32 ∧ b ≠ 32 := by
  have ne : ∀ k : Nat, k < 256 → k ≠ 32 → UInt8.ofNat k ≠ 32 := fun k hk h e => h (by have := congrArg UInt8.toNat e; rw [tn hk] at this; simpa using this)
  have h0 : 0 ≤ n := by unfold Scal at h; omega
  rw [enc_eq h]
  unfold Scal at h
  by_cases c1 : n < 128
  · rw [if_pos c1]
    exact ⟨_, _, [], [], rfl, rfl, ne _ (by omega) (by omega), ne _ (by omega) (by omega)⟩
  by_cases c2 : n < 2048
  · rw [if_neg c1, if_pos c2]
    exact ⟨_, _, _, [_], rfl, rfl, ne _ (by omega) (by omega), ne _ (by omega) (by omega)⟩
  by_cases c3 : n < 65536
  · rw [if_neg c1, if_neg c2, if_pos c3]
    exact ⟨_, _, _, [_, _], rfl, rfl, ne _ (by omega) (by omega), ne _ (by omega) (by omega)⟩
  · rw [if_neg c1, if_neg c2, if_neg c3]
    exact ⟨_, _, _, [_, _, _], rfl, rfl, ne _ (by omega) (by omega), ne _ (by omega) (by omega)⟩
theorem enc32 : enc 32 = [32] := by rw [enc_eq (by unfold Scal; omega)]; rfl
theorem left_T : ∀ (p : List Int), (∀ x ∈ p, Scal x) → ∃ k, Go.Lib.trimLeftB (u8s p) 32 = u8s (p.drop k)
  | [], _ => ⟨0, rfl⟩
  | n :: p, h => by
    by_cases c : n = 32
    · subst c
      obtain ⟨k, hk⟩ := left_T p fun x hx => h x (by simp [hx])
      refine ⟨k + 1, ?_⟩
      rw [u8s_cons, enc32]
      exact hk
    · obtain ⟨a, b, l, l', e1, e2, h1, h2⟩ := enc_ends n (h n (by simp)) c
      refine ⟨0, ?_⟩
      rw [List.drop_zero, u8s_cons, e1]
      unfold Go.Lib.trimLeftB
      rw [List.cons_append, List.dropWhile_cons_of_neg (by simpa using h1)]
theorem right_T : ∀ (q : List Int), (∀ x ∈ q, Scal x) → ∃ k, Go.Lib.trimRightB (u8s q.reverse) 32 = u8s (q.reverse.take k)
  | [], _ => ⟨0, rfl⟩
  | n :: q, h => by
    by_cases c : n = 32
    · subst c
      obtain ⟨k, hk⟩ := right_T q fun x hx => h x (by simp [hx])
      refine ⟨min k q.length, ?_⟩
      have e : u8s (32 :: q).reverse = u8s q.reverse ++ [32] := by rw [List.reverse_cons, u8s_append, u8s_cons, enc32]; rfl
      rw [e]
      unfold Go.Lib.trimRightB
      rw [List.reverse_append]
      have : (u8s (q.reverse.take k)) = u8s (((32 : Int) :: q).reverse.take (min k q.length)) := by
        rw [List.reverse_cons, List.take_append_of_le_length (by simp; omega)]
        congr 1
        rw [List.take_eq_take_iff]
        simp
      rw [← this, ← hk]
      rfl
    · obtain ⟨a, b, l, l', e1, e2, h1, h2⟩ := enc_ends n (h n (by simp)) c
      refine ⟨(n :: q).length, ?_⟩
      rw [List.take_of_length_le (by simp)]
      have e : u8s (n :: q).reverse = (u8s q.reverse ++ l') ++ [b] := by rw [List.reverse_cons, u8s_append, u8s_cons, e2]; simp [u8s_nil]
      rw [e]
      unfold Go.Lib.trimRightB
      rw [List.reverse_append, List.reverse_singleton, List.singleton_append, List.dropWhile_cons_of_neg (by simpa using h2)]
      simp
theorem trim_T (p : List Int) (h : Ok p) : ∃ q, Ok q ∧ Go.Lib.trimB (u8s p) 32 = u8s q := by
  obtain ⟨k, hk⟩ := right_T p.reverse (fun x hx => h.1 x (by simpa using hx))
  rw [List.reverse_reverse] at hk
  have h1 : Ok (p.take k) := by have := Ok.part h 0 k; simpa using this
  obtain ⟨j, hj⟩ := left_T (p.take k) h1.1
  refine ⟨(p.take k).drop j, ?_, ?_⟩
  · have := Ok.part h1 j (p.take k).length
    rwa [List.take_of_length_le (by simp)] at this
  · unfold Go.Lib.trimB
    rw [hk, hj]
theorem trim_trim (l : List UInt8) (c : UInt8) : Go.Lib.trimB (Go.Lib.trimB l c) c = Go.Lib.trimB l c := by
  have key : ∀ m : List UInt8, (∀ x, m.head? = some x → (x == c) = false) → (∀ x, m.getLast? = some x → (x == c) = false) → Go.Lib.trimB m c = m := by
    intro m h1 h2
    have hr : Go.Lib.trimRightB m c = m := by
      unfold Go.Lib.trimRightB
      have : m.reverse.dropWhile (· == c) = m.reverse := by
        cases e : m.reverse with
        | nil => rfl
        | cons x t =>
          have : m.getLast? = some x := by rw [← List.head?_reverse, e]; rfl
          rw [List.dropWhile_cons_of_neg (by simpa using h2 x this)]
      rw [this, List.reverse_reverse]
    unfold Go.Lib.trimB
    rw [hr]
    unfold Go.Lib.trimLeftB
    cases e : m with
    | nil => rfl
    | cons x t => rw [List.dropWhile_cons_of_neg (by simpa using h1 x (by rw [e]; rfl))]
  apply key
  · intro x hx
    unfold Go.Lib.trimB Go.Lib.trimLeftB at hx
    have := List.head?_dropWhile_not (· == c) (Go.Lib.trimRightB l c)
    rw [hx] at this
    simpa using this
  · intro x hx
    unfold Go.Lib.trimB Go.Lib.trimLeftB at hx
    obtain ⟨a, ha⟩ := List.dropWhile_suffix (· == c) (l := Go.Lib.trimRightB l c)
    have hl : (Go.Lib.trimRightB l c).getLast? = some x := by
      rw [← ha, List.getLast?_append, hx]; rfl
    unfold Go.Lib.trimRightB at hl
    rw [List.getLast?_reverse] at hl
    have := List.head?_dropWhile_not (· == c) l.reverse
    rw [hl] at this
    simpa using this
theorem quot (n : Int) : n = 10000 * n.tdiv 10000 + n.tmod 10000 ∧ -10000 < n.tmod 10000 ∧ n.tmod 10000 < 10000 ∧ (0 ≤ n → 0 ≤ n.tmod 10000 ∧ 0 ≤ n.tdiv 10000) ∧ (n ≤ 0 → n.tmod 10000 ≤ 0 ∧ n.tdiv 10000 ≤ 0) := by
  rcases Int.lt_or_le n 0 with h | h
  · obtain ⟨m, rfl⟩ : ∃ m : Int, n = -m := ⟨-n, by omega⟩
    rw [Int.neg_tdiv, Int.neg_tmod, Int.tdiv_eq_ediv_of_nonneg (by omega), Int.tmod_eq_emod_of_nonneg (by omega)]
    omega
  · rw [Int.tdiv_eq_ediv_of_nonneg h, Int.tmod_eq_emod_of_nonneg h]
    omega
end Go.Proofs.YtchbodpkaiengaaGreatDoor.Pure
