/- A part of the proof of this claim. No condition beyond those that each theorem names. -/
import Derived.Test.YtchbodpkaiengaaGreatDoorZSure
import Derived.Below
namespace Go.Proofs.YtchbodpkaiengaaGreatDoor
open Go.RowKit
abbrev Laid (w : World) : Prop := sure.Laid w
theorem Laid.below {w w' : World} (h : Laid w) (hb : Below w.heap.size w w') : Laid w' := sure.Laid.below h hb
end Go.Proofs.YtchbodpkaiengaaGreatDoor
