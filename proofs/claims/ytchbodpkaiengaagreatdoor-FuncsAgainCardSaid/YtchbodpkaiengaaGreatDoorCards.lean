/-
  DERIVED. GIVEN WITH THE SEED: THE CARDS: each row of YtchbodpkaiengaaGreatDoorRows.lean that lists a variable, with what it lists TIED to the program's text (the seventh form; the later family's looks); each row that meets fmt, with fmt's text TOLD by the authors' own Lean function (tested against real Go, not proved from fmt's source: count such statements apart). THE CARD IS WHAT COUNTS. Prove the row's statement (the work); the ties are given (YtchbodpkaiengaaGreatDoorTie.lean); close each card by the builder's one call (the guide's Derived/Test/ToyasCard.lean, 'card_holds'). Laid BY PROGRAM, IN A SANDBOX (cutbox-door.mjs). By AI agents, Wed Nov 11 2026. No macro, syntax, notation, axiom, sorry.
-/
import Derived.Test.YtchbodpkaiengaaGreatDoorRows
import GoSem.ClaimSeven
namespace Go.Proofs.YtchbodpkaiengaaGreatDoor
namespace Rows

/-- THE TIED CARD OF 'marqueelaw10.FuncsKinds'. -/
def funcsKindsCard : Claim7 := { stood := { row := funcsKindsRow, standIns := [], harness := (true, "52d0edbdb29ebed6e03518fcb437f92925bf473a93f8fc16b237f7acc92554a6"), looks := false }, kinds := [], alts := [], laidByText := true, laidKinds := [.data, .data, .data, .data, .pinned], laidTests := true, laidLooks := .later }
def FuncsKindsCardSaid : Prop := Claim7.holds Tryz.pinned (.plain (OpenSpec.ofChange funcsKindsSpec)) funcsKindsCard

/-- THE TIED CARD OF 'marqueelaw10.FuncsCalls'. -/
def funcsCallsCard : Claim7 := { stood := { row := funcsCallsRow, standIns := [], harness := (true, "52d0edbdb29ebed6e03518fcb437f92925bf473a93f8fc16b237f7acc92554a6"), looks := false }, kinds := [], alts := [], laidByText := true, laidKinds := [.data, .data, .data, .data, .pinned], laidTests := true, laidLooks := .later }
def FuncsCallsCardSaid : Prop := Claim7.holds Tryz.pinned (.plain (OpenSpec.ofChange funcsCallsSpec)) funcsCallsCard

/-- THE TIED CARD OF 'marqueelaw10.FuncsFit'. -/
def funcsFitCard : Claim7 := { stood := { row := funcsFitRow, standIns := [], harness := (true, "52d0edbdb29ebed6e03518fcb437f92925bf473a93f8fc16b237f7acc92554a6"), looks := false }, kinds := [], alts := [], laidByText := true, laidKinds := [.data, .data, .data, .data, .pinned], laidTests := true, laidLooks := .later }
def FuncsFitCardSaid : Prop := Claim7.holds Tryz.pinned (.plain (OpenSpec.ofChange funcsFitSpec)) funcsFitCard

/-- THE TIED CARD OF 'marqueelaw10.FuncsPieces'. -/
def funcsPiecesCard : Claim7 := { stood := { row := funcsPiecesRow, standIns := [], harness := (true, "52d0edbdb29ebed6e03518fcb437f92925bf473a93f8fc16b237f7acc92554a6"), looks := false }, kinds := [], alts := [], laidByText := true, laidKinds := [.data, .data, .data, .data, .pinned], laidTests := true, laidLooks := .later }
def FuncsPiecesCardSaid : Prop := Claim7.holds Tryz.pinned (.plain (OpenSpec.ofChange funcsPiecesSpec)) funcsPiecesCard

/-- THE TIED CARD OF 'marqueelaw10.FuncsAgain'. -/
def funcsAgainCard : Claim7 := { stood := { row := funcsAgainRow, standIns := [], harness := (true, "52d0edbdb29ebed6e03518fcb437f92925bf473a93f8fc16b237f7acc92554a6"), looks := false }, kinds := [], alts := [], laidByText := true, laidKinds := [.data, .data, .data, .data, .pinned], laidTests := true, laidLooks := .later }
def FuncsAgainCardSaid : Prop := Claim7.holds Tryz.pinned (.plain (OpenSpec.ofChange funcsAgainSpec)) funcsAgainCard

/-- THE SECOND FORM's CARD OF 'marqueelaw10.FuncsKinds'. -/
def funcsKindsUptoCard : Claim7 := { stood := { row := funcsKindsUptoRow, standIns := [], harness := (true, "52d0edbdb29ebed6e03518fcb437f92925bf473a93f8fc16b237f7acc92554a6"), looks := false }, kinds := [], alts := [], laidByText := true, laidKinds := [.data, .data, .data, .data, .pinned], laidTests := true, laidLooks := .later }
def FuncsKindsUptoCardSaid : Prop := Claim7.holds Tryz.pinned (.plain (OpenSpec.upto funcsKindsSpec)) funcsKindsUptoCard

/-- THE SECOND FORM's CARD OF 'marqueelaw10.FuncsCalls'. -/
def funcsCallsUptoCard : Claim7 := { stood := { row := funcsCallsUptoRow, standIns := [], harness := (true, "52d0edbdb29ebed6e03518fcb437f92925bf473a93f8fc16b237f7acc92554a6"), looks := false }, kinds := [], alts := [], laidByText := true, laidKinds := [.data, .data, .data, .data, .pinned], laidTests := true, laidLooks := .later }
def FuncsCallsUptoCardSaid : Prop := Claim7.holds Tryz.pinned (.plain (OpenSpec.upto funcsCallsSpec)) funcsCallsUptoCard

/-- THE SECOND FORM's CARD OF 'marqueelaw10.FuncsFit'. -/
def funcsFitUptoCard : Claim7 := { stood := { row := funcsFitUptoRow, standIns := [], harness := (true, "52d0edbdb29ebed6e03518fcb437f92925bf473a93f8fc16b237f7acc92554a6"), looks := false }, kinds := [], alts := [], laidByText := true, laidKinds := [.data, .data, .data, .data, .pinned], laidTests := true, laidLooks := .later }
def FuncsFitUptoCardSaid : Prop := Claim7.holds Tryz.pinned (.plain (OpenSpec.upto funcsFitSpec)) funcsFitUptoCard

/-- THE SECOND FORM's CARD OF 'marqueelaw10.FuncsPieces'. -/
def funcsPiecesUptoCard : Claim7 := { stood := { row := funcsPiecesUptoRow, standIns := [], harness := (true, "52d0edbdb29ebed6e03518fcb437f92925bf473a93f8fc16b237f7acc92554a6"), looks := false }, kinds := [], alts := [], laidByText := true, laidKinds := [.data, .data, .data, .data, .pinned], laidTests := true, laidLooks := .later }
def FuncsPiecesUptoCardSaid : Prop := Claim7.holds Tryz.pinned (.plain (OpenSpec.upto funcsPiecesSpec)) funcsPiecesUptoCard

/-- THE SECOND FORM's CARD OF 'marqueelaw10.FuncsAgain'. -/
def funcsAgainUptoCard : Claim7 := { stood := { row := funcsAgainUptoRow, standIns := [], harness := (true, "52d0edbdb29ebed6e03518fcb437f92925bf473a93f8fc16b237f7acc92554a6"), looks := false }, kinds := [], alts := [], laidByText := true, laidKinds := [.data, .data, .data, .data, .pinned], laidTests := true, laidLooks := .later }
def FuncsAgainUptoCardSaid : Prop := Claim7.holds Tryz.pinned (.plain (OpenSpec.upto funcsAgainSpec)) funcsAgainUptoCard
end Rows
end Go.Proofs.YtchbodpkaiengaaGreatDoor
