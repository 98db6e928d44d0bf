/- A part of the proof of this claim. No condition beyond those that each theorem names. -/
import Derived.Test.YtaiokpmmjbiajaaGreatDoorAShelf
import Derived.Below
import Derived.WalkSmall
import Derived.Lib.ItoaMem
import Derived.Lib.AppendIntMem
import Derived.Lib.LaidU8
import Derived.Shelf.Unicode.DecodeSlow
namespace Go.Proofs.YtaiokpmmjbiajaaGreatDoor
open Go.RowKit
def Laid (w:World):Prop:=Lib.Utf8Tabs (Tryz.vO.g 3) (Tryz.vO.g 4) w∧Lib.TabIs Tryz.prog w "internal/strconv.uint64pow10" .u64 Lib.pow10Tab∧ ∃m,w.cell? ⟨2,0,none⟩=some (.int .i64 m)
theorem Laid.below {w w':World} (h:Laid w) (hb:Below w.heap.size w w'):Laid w':=by
 obtain⟨h1,h2,m,h3⟩:=h
 refine⟨Utf8Tabs_below h1 hb,?_,m,?_⟩
 ·have hg : Tryz.prog.globalNamed "internal/strconv.uint64pow10" = some 5 := by kernel_rfl
  refine var?_below hb hg ?_ h2
  rcases Nat.lt_or_ge 5 w.heap.size with h'|h'
  ·exact h'
  ·unfold Lib.TabIs World.var? at h2
   simp[hg,Array.getElem?_eq_none h']at h2
 ·exact(hb.cell (World.block_lt_of_cell? w _ h3)).trans h3
end Go.Proofs.YtaiokpmmjbiajaaGreatDoor
