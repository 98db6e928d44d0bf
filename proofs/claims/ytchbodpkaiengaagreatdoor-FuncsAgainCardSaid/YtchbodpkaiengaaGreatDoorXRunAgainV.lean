/- A part of the proof of this claim. No condition beyond those that each theorem names. -/
import Derived.Test.YtchbodpkaiengaaGreatDoorXRunAgain
namespace Go.Proofs.YtchbodpkaiengaaGreatDoor.funcsAgain
open Go Go.Proofs Go.Proofs.YtchbodpkaiengaaGreatDoorDx Go.Proofs.YtchbodpkaiengaaGreatDoor Go.Proofs.YtchbodpkaiengaaGreatDoor.Apps
set_option maxRecDepth 1000000 in
theorem runsT4 : saysD true (callD (cfg true (ways.getD 4 default)) 60 (.fn 7) [tk 0, tk 1] ⟨.leaf, 0⟩) = true := by kernel_rfl
set_option maxRecDepth 1000000 in
theorem runsT5 : saysD true (callD (cfg true (ways.getD 5 default)) 60 (.fn 7) [tk 0, tk 1] ⟨.leaf, 0⟩) = true := by kernel_rfl
set_option maxRecDepth 1000000 in
theorem runsT6 : saysD true (callD (cfg true (ways.getD 6 default)) 60 (.fn 7) [tk 0, tk 1] ⟨.leaf, 0⟩) = true := by kernel_rfl
set_option maxRecDepth 1000000 in
theorem runsT7 : saysD true (callD (cfg true (ways.getD 7 default)) 60 (.fn 7) [tk 0, tk 1] ⟨.leaf, 0⟩) = true := by kernel_rfl
end Go.Proofs.YtchbodpkaiengaaGreatDoor.funcsAgain
