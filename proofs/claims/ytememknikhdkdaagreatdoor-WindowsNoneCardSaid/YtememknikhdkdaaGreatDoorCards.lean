/-
  DERIVED. GIVEN WITH THE SEED: THE CARDS: each row of YtememknikhdkdaaGreatDoorRows.lean that lists a variable, with what it lists TIED to the program's text (the seventh form; the later family's looks); each row that meets fmt, with fmt's text TOLD by the authors' own Lean function (tested against real Go, not proved from fmt's source: count such statements apart). THE CARD IS WHAT COUNTS. Prove the row's statement (the work); the ties are given (YtememknikhdkdaaGreatDoorTie.lean); close each card by the builder's one call (the guide's Derived/Test/ToyasCard.lean, 'card_holds'). Laid BY PROGRAM, IN A SANDBOX (cutbox-door.mjs). By AI agents, Wed Nov 11 2026. No macro, syntax, notation, axiom, sorry.
-/
import Derived.Test.YtememknikhdkdaaGreatDoorRows
import GoSem.ClaimSeven
namespace Go.Proofs.YtememknikhdkdaaGreatDoor
namespace Rows

/-- THE TIED CARD OF 'marqueelaw23.WindowsNone'. -/
def windowsNoneCard : Claim7 := { stood := { row := windowsNoneRow, standIns := [], harness := (true, "a43d724ea3b25ff569c3d0c4ccc370d4e01b5755fd8cc79f1c2ff3166eff4fda"), looks := false }, kinds := [], alts := [], laidByText := true, laidKinds := [.data, .data, .data, .data, .pinned], laidTests := true, laidLooks := .later }
def WindowsNoneCardSaid : Prop := Claim7.holds Tryz.pinned (.plain (OpenSpec.ofChange windowsNoneSpec)) windowsNoneCard

/-- THE SECOND FORM's CARD OF 'marqueelaw23.WindowsNone'. -/
def windowsNoneUptoCard : Claim7 := { stood := { row := windowsNoneUptoRow, standIns := [], harness := (true, "a43d724ea3b25ff569c3d0c4ccc370d4e01b5755fd8cc79f1c2ff3166eff4fda"), looks := false }, kinds := [], alts := [], laidByText := true, laidKinds := [.data, .data, .data, .data, .pinned], laidTests := true, laidLooks := .later }
def WindowsNoneUptoCardSaid : Prop := Claim7.holds Tryz.pinned (.plain (OpenSpec.upto windowsNoneSpec)) windowsNoneUptoCard
end Rows
end Go.Proofs.YtememknikhdkdaaGreatDoor
