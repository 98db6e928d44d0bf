/- A part of the proof of this claim. No condition beyond those that each theorem names. -/
import Derived.Test.YtchbodpkaiengaaGreatDoorXRunAgain2
namespace Go.Proofs.YtchbodpkaiengaaGreatDoor.PFuncsAgain
open Go Go.Proofs
theorem marqueelaw10_FuncsAgain.calls (a0 : ByteArray) (a1 : Int) (r : Bool) (w : World) (hG : Laid w) (h : r = true ∧ a0.size ≤ 9223372036854775807 ∧ -9223372036854775808 ≤ a1 ∧ a1 ≤ 9223372036854775807) :
    Calls Tryz.prog 7 #[.string a0, .int .i64 a1] w fun e w' => e = .returned (.bool r) ∧ RowKit.Below w.heap.size w w' := by
  obtain ⟨rfl, h1, h2⟩ := h
  exact funcsAgain.calls a0 a1 h1 h2 w hG
end Go.Proofs.YtchbodpkaiengaaGreatDoor.PFuncsAgain
