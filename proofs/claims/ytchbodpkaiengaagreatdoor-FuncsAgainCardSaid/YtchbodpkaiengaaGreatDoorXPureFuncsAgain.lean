/- A part of the proof of this claim. No condition beyond those that each theorem names. -/
import Derived.Test.YtchbodpkaiengaaGreatDoorXPFuncsAgainx0
namespace Go.Proofs.YtchbodpkaiengaaGreatDoor.Pure
open Go Go.Proofs
theorem FuncsAgain (a0 : ByteArray) (a1 : Int) (w0 : a0.size ≤ maxLen) (w1 : (Lit.int .i64 a1).wf = true) : true = true ∧ a0.size ≤ 9223372036854775807 ∧ -9223372036854775808 ≤ a1 ∧ a1 ≤ 9223372036854775807 :=
  ⟨rfl, Nat.le_trans w0 (by decide), (Lit.wf_int_iff .i64 a1).1 w1⟩
end Go.Proofs.YtchbodpkaiengaaGreatDoor.Pure
