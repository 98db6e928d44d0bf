/- A part of the proof of this claim. No condition beyond those that each theorem names. -/
import Derived.Test.YtchbodpkaiengaaGreatDoorXSure
import Derived.Test.YtchbodpkaiengaaGreatDoorXShelf
import Derived.Below
import Derived.WalkSmall
import Derived.Lib.LaidU8
import Derived.Shelf.Unicode.DecodeSlow
namespace Go.Proofs.YtchbodpkaiengaaGreatDoor
open Go.RowKit
def Laid (w : World) : Prop := sure.Laid w ∧ Lib.Utf8Tabs (Tryz.lays196_ren.g 3) (Tryz.lays196_ren.g 4) w
theorem Laid.below {w w' : World} (h : Laid w) (hb : Below w.heap.size w w') : Laid w' := ⟨sure.Laid.below h.1 hb, Utf8Tabs_below h.2 hb⟩
end Go.Proofs.YtchbodpkaiengaaGreatDoor
