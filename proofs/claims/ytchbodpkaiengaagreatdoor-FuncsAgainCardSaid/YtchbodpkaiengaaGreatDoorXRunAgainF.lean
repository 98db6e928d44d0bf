/- A part of the proof of this claim. No condition beyond those that each theorem names. -/
import Derived.Test.YtchbodpkaiengaaGreatDoorXRunAgain
namespace Go.Proofs.YtchbodpkaiengaaGreatDoor.funcsAgain
open Go Go.Proofs Go.Proofs.YtchbodpkaiengaaGreatDoorDx Go.Proofs.YtchbodpkaiengaaGreatDoor Go.Proofs.YtchbodpkaiengaaGreatDoor.Apps
set_option maxRecDepth 1000000 in
theorem runsF0 : saysD true (callD (cfg false (ways.getD 0 default)) 60 (.fn 7) [tk 0, tk 1] ⟨.leaf, 0⟩) = true := by kernel_rfl
set_option maxRecDepth 1000000 in
theorem runsF1 : saysD true (callD (cfg false (ways.getD 1 default)) 60 (.fn 7) [tk 0, tk 1] ⟨.leaf, 0⟩) = true := by kernel_rfl
set_option maxRecDepth 1000000 in
theorem runsF2 : saysD true (callD (cfg false (ways.getD 2 default)) 60 (.fn 7) [tk 0, tk 1] ⟨.leaf, 0⟩) = true := by kernel_rfl
set_option maxRecDepth 1000000 in
theorem runsF3 : saysD true (callD (cfg false (ways.getD 3 default)) 60 (.fn 7) [tk 0, tk 1] ⟨.leaf, 0⟩) = true := by kernel_rfl
set_option maxRecDepth 1000000 in
theorem runsF4 : saysD true (callD (cfg false (ways.getD 4 default)) 60 (.fn 7) [tk 0, tk 1] ⟨.leaf, 0⟩) = true := by kernel_rfl
set_option maxRecDepth 1000000 in
theorem runsF5 : saysD true (callD (cfg false (ways.getD 5 default)) 60 (.fn 7) [tk 0, tk 1] ⟨.leaf, 0⟩) = true := by kernel_rfl
set_option maxRecDepth 1000000 in
theorem runsF6 : saysD true (callD (cfg false (ways.getD 6 default)) 60 (.fn 7) [tk 0, tk 1] ⟨.leaf, 0⟩) = true := by kernel_rfl
set_option maxRecDepth 1000000 in
theorem runsF7 : saysD true (callD (cfg false (ways.getD 7 default)) 60 (.fn 7) [tk 0, tk 1] ⟨.leaf, 0⟩) = true := by kernel_rfl
end Go.Proofs.YtchbodpkaiengaaGreatDoor.funcsAgain
