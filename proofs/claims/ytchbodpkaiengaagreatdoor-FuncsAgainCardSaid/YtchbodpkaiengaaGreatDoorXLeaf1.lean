/- A part of the proof of this claim. No condition beyond those that each theorem names. -/
import Derived.Test.YtchbodpkaiengaaGreatDoorXPLeafx1
import Derived.Test.YtchbodpkaiengaaGreatDoorXPLeafx2
import Derived.Test.YtchbodpkaiengaaGreatDoorXCallU8
import Derived.WideShapes
namespace Go.Proofs.YtchbodpkaiengaaGreatDoor.Pure
set_option linter.unusedSimpArgs false
set_option linter.unusedVariables false
set_option maxRecDepth 4000
open Go.RowKit Go.Proofs.YtchbodpkaiengaaGreatDoor.PLeaf Go.Proofs.YtchbodpkaiengaaGreatDoorW.PrintWords Go.Proofs.YtchbodpkaiengaaGreatDoorW.PrintLast Go.Proofs.YtchbodpkaiengaaGreatDoorW.PrintMore
open Go.Proofs.YtchbodpkaiengaaGreatDoorU8
open Go.WideShapes (bytes_inj)
def T (p : List Int) : ByteArray := ⟨(u8s p).toArray⟩
theorem T_size (p : List Int) : (T p).size = (u8s p).length := by simp [T, ByteArray.size]
theorem T_data (p : List Int) : (T p).data.toList = u8s p := by simp [T]
def Ok (p : List Int) : Prop := (∀ x ∈ p, Scal x) ∧ (u8s p).length ≤ 1024
theorem u8s_take (p : List Int) (n : Nat) : (u8s (p.take n)).length ≤ (u8s p).length := by
  have e : u8s p = u8s (p.take n) ++ u8s (p.drop n) := by rw [← u8s_append, List.take_append_drop]
  rw [e]; simp
theorem u8s_drop (p : List Int) (n : Nat) : (u8s (p.drop n)).length ≤ (u8s p).length := by
  have e : u8s p = u8s (p.take n) ++ u8s (p.drop n) := by rw [← u8s_append, List.take_append_drop]
  rw [e]; simp
theorem Ok.part {p : List Int} (h : Ok p) (i n : Nat) : Ok ((p.drop i).take n) :=
  ⟨fun x hx => h.1 x (List.mem_of_mem_drop (List.mem_of_mem_take hx)), Nat.le_trans (u8s_take _ _) (Nat.le_trans (u8s_drop _ _) h.2)⟩
end Go.Proofs.YtchbodpkaiengaaGreatDoor.Pure
