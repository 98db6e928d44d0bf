/- A part of the proof of this claim. No condition beyond those that each theorem names. -/
import Derived.Test.YtchbodpkaiengaaGreatDoorXRunAgain
namespace Go.Proofs.YtchbodpkaiengaaGreatDoor.funcsAgain
open Go Go.Proofs Go.Proofs.YtchbodpkaiengaaGreatDoorDx Go.Proofs.YtchbodpkaiengaaGreatDoor Go.Proofs.YtchbodpkaiengaaGreatDoor.Apps
set_option maxRecDepth 1000000 in
theorem runsT0 : saysD true (callD (cfg true (ways.getD 0 default)) 60 (.fn 7) [tk 0, tk 1] ⟨.leaf, 0⟩) = true := by kernel_rfl
set_option maxRecDepth 1000000 in
theorem runsT1 : saysD true (callD (cfg true (ways.getD 1 default)) 60 (.fn 7) [tk 0, tk 1] ⟨.leaf, 0⟩) = true := by kernel_rfl
set_option maxRecDepth 1000000 in
theorem runsT2 : saysD true (callD (cfg true (ways.getD 2 default)) 60 (.fn 7) [tk 0, tk 1] ⟨.leaf, 0⟩) = true := by kernel_rfl
set_option maxRecDepth 1000000 in
theorem runsT3 : saysD true (callD (cfg true (ways.getD 3 default)) 60 (.fn 7) [tk 0, tk 1] ⟨.leaf, 0⟩) = true := by kernel_rfl
end Go.Proofs.YtchbodpkaiengaaGreatDoor.funcsAgain
