/- A part of the proof of this claim. No condition beyond those that each theorem names. -/
import Derived.Test.YtchbodpkaiengaaGreatDoorYPLeafx1
import Derived.Test.YtchbodpkaiengaaGreatDoorYPLeafx2
import Derived.Test.YtchbodpkaiengaaGreatDoorYCallU8
import Derived.WideShapes
namespace Go.Proofs.YtchbodpkaiengaaGreatDoor.Pure
set_option linter.unusedSimpArgs false
set_option linter.unusedVariables false
set_option maxRecDepth 4000
open Go.RowKit Go.Proofs.YtchbodpkaiengaaGreatDoor.PLeaf Go.Proofs.YtchbodpkaiengaaGreatDoorW.PrintWords Go.Proofs.YtchbodpkaiengaaGreatDoorW.PrintLast Go.Proofs.YtchbodpkaiengaaGreatDoorW.PrintMore
open Go.Proofs.YtchbodpkaiengaaGreatDoorU8
open Go.WideShapes (bytes_inj)
def T (p : List Int) : ByteArray := ⟨(u8s p).toArray⟩
theorem T_size (p : List Int) : (T p).size = (u8s p).length := by simp [T, ByteArray.size]
theorem T_data (p : List Int) : (T p).data.toList = u8s p := by simp [T]
theorem dec_at (p q : List Int) (n : Int) (hn : Scal n) : Utf8.decode (T (p ++ n :: q)) (u8s p).length = (n.toNat, (enc n).length) := by
  rw [← Go.Lib.decodeL_drop, T_data, u8s_append, List.drop_left, u8s_cons]
  exact dec_enc hn _
theorem pts_at : ∀ (q p : List Int) (k : Nat), (∀ x ∈ p ++ q, Scal x) → (u8s q).length ≤ k → funcs_piece.pts (T (p ++ q)) k (u8s p).length = q
  | [], p, 0, h, hk => rfl
  | [], p, k + 1, h, hk => by
    rw [funcs_piece.pts, if_neg (by rw [T_size]; simp)]
  | n :: q, p, 0, h, hk => by
    have := enc_len (h n (by simp))
    rw [u8s_cons, List.length_append] at hk
    omega
  | n :: q, p, k + 1, h, hk => by
    have hn := h n (by simp)
    have hl := enc_len hn
    rw [u8s_cons, List.length_append] at hk
    rw [funcs_piece.pts, if_pos (by rw [T_size, u8s_append, u8s_cons]; simp; omega), dec_at p q n hn]
    have e : p ++ n :: q = (p ++ [n]) ++ q := by simp
    have e2 : (u8s p).length + (enc n).length = (u8s (p ++ [n])).length := by rw [u8s_append, u8s_cons]; simp [u8s_nil]
    simp only
    rw [e, e2, pts_at q (p ++ [n]) k (by rw [← e]; exact h) (by omega)]
    congr 1
    have : 0 ≤ n := by unfold Scal at hn; omega
    show ((n.toNat : Nat) : Int) = n
    omega
theorem pts_eq (p : List Int) (h : ∀ x ∈ p, Scal x) : funcs_piece.pts (T p) (T p).size 0 = p := pts_at p [] _ h (by rw [T_size]; exact Nat.le_refl _)
theorem count_at : ∀ (q p : List Int) (k : Nat), (∀ x ∈ p ++ q, Scal x) → (u8s q).length ≤ k → Go.Lib.runeCountFrom (T (p ++ q)) k (u8s p).length = q.length
  | [], p, 0, h, hk => rfl
  | [], p, k + 1, h, hk => by
    rw [Go.Lib.runeCountFrom, if_neg (by rw [T_size]; simp)]; rfl
  | n :: q, p, 0, h, hk => by
    have := enc_len (h n (by simp))
    rw [u8s_cons, List.length_append] at hk
    omega
  | n :: q, p, k + 1, h, hk => by
    have hn := h n (by simp)
    have hl := enc_len hn
    rw [u8s_cons, List.length_append] at hk
    rw [Go.Lib.runeCountFrom, if_pos (by rw [T_size, u8s_append, u8s_cons]; simp; omega), dec_at p q n hn]
    have e : p ++ n :: q = (p ++ [n]) ++ q := by simp
    have e2 : (u8s p).length + (enc n).length = (u8s (p ++ [n])).length := by rw [u8s_append, u8s_cons]; simp [u8s_nil]
    simp only
    rw [e, e2, count_at q (p ++ [n]) k (by rw [← e]; exact h) (by omega)]
    simp; omega
theorem count_eq (p : List Int) (h : ∀ x ∈ p, Scal x) : Go.Lib.runeCount (T p) = p.length := count_at p [] _ h (by rw [T_size]; exact Nat.le_refl _)
theorem piece_eq (p : List Int) (h : ∀ x ∈ p, Scal x) (a n : Int) : funcs_piece.g (T p) a n = T ((p.drop (funcs_piece.from_ p a)).take (funcs_piece.cnt p a n)) := by
  unfold funcs_piece.g
  rw [pts_eq p h, runes_u8s]; rfl
def Ok (p : List Int) : Prop := (∀ x ∈ p, Scal x) ∧ (u8s p).length ≤ 1024
theorem len_p (p : List Int) (h : ∀ x ∈ p, Scal x) : p.length ≤ (u8s p).length := by
  induction p with
  | nil => simp
  | cons n p ih =>
    have := enc_len (h n (by simp))
    have := ih fun x hx => h x (by simp [hx])
    rw [u8s_cons]; simp; omega
theorem u8s_take (p : List Int) (n : Nat) : (u8s (p.take n)).length ≤ (u8s p).length := by
  have e : u8s p = u8s (p.take n) ++ u8s (p.drop n) := by rw [← u8s_append, List.take_append_drop]
  rw [e]; simp
theorem u8s_drop (p : List Int) (n : Nat) : (u8s (p.drop n)).length ≤ (u8s p).length := by
  have e : u8s p = u8s (p.take n) ++ u8s (p.drop n) := by rw [← u8s_append, List.take_append_drop]
  rw [e]; simp
theorem Ok.part {p : List Int} (h : Ok p) (i n : Nat) : Ok ((p.drop i).take n) :=
  ⟨fun x hx => h.1 x (List.mem_of_mem_drop (List.mem_of_mem_take hx)), Nat.le_trans (u8s_take _ _) (Nat.le_trans (u8s_drop _ _) h.2)⟩
end Go.Proofs.YtchbodpkaiengaaGreatDoor.Pure
