/-
  DERIVED. GIVEN WITH THE SEED: THE CARDS: each row of YtaiokpmmjbiajaaGreatDoorRows.lean that lists a variable, with what it lists TIED to the program's text (the seventh form; the later family's looks); each row that meets fmt, with fmt's text TOLD by the authors' own Lean function (tested against real Go, not proved from fmt's source: count such statements apart). THE CARD IS WHAT COUNTS. Prove the row's statement (the work); the ties are given (YtaiokpmmjbiajaaGreatDoorTie.lean); close each card by the builder's one call (the guide's Derived/Test/ToyasCard.lean, 'card_holds'). Laid BY PROGRAM, IN A SANDBOX (cutbox-door.mjs). By AI agents, Wed Nov 11 2026. No macro, syntax, notation, axiom, sorry.
-/
import Derived.Test.YtaiokpmmjbiajaaGreatDoorRows
import GoSem.ClaimSeven
namespace Go.Proofs.YtaiokpmmjbiajaaGreatDoor
namespace Rows

/-- THE TIED CARD OF 'marqueelaw10.FuncsCalls'. -/
def funcsCallsCard : Claim7 := { stood := { row := funcsCallsRow, standIns := [], harness := (true, "28a354d3fbbad68cf303efb1f044e2a783068caf95eee6d1c8457343d842d5e2"), looks := false }, kinds := [], alts := [], laidByText := true, laidKinds := [.data, .data, .data, .data, .pinned], laidTests := true, laidLooks := .later }
def FuncsCallsCardSaid : Prop := Claim7.holds Tryz.pinned (.plain (OpenSpec.ofChange funcsCallsSpec)) funcsCallsCard

/-- THE TIED CARD OF 'marqueelaw10.FuncsFit'. -/
def funcsFitCard : Claim7 := { stood := { row := funcsFitRow, standIns := [], harness := (true, "28a354d3fbbad68cf303efb1f044e2a783068caf95eee6d1c8457343d842d5e2"), looks := false }, kinds := [], alts := [], laidByText := true, laidKinds := [.data, .data, .data, .data, .pinned], laidTests := true, laidLooks := .later }
def FuncsFitCardSaid : Prop := Claim7.holds Tryz.pinned (.plain (OpenSpec.ofChange funcsFitSpec)) funcsFitCard

/-- THE TIED CARD OF 'marqueelaw13.MachineRuns'. -/
def machineRunsCard : Claim7 := { stood := { row := machineRunsRow, standIns := [], harness := (true, "28a354d3fbbad68cf303efb1f044e2a783068caf95eee6d1c8457343d842d5e2"), looks := false }, kinds := [], alts := [], laidByText := true, laidKinds := [.data, .data, .data, .data, .pinned], laidTests := true, laidLooks := .later }
def MachineRunsCardSaid : Prop := Claim7.holds Tryz.pinned (.plain (OpenSpec.ofChange machineRunsSpec)) machineRunsCard

/-- THE TIED CARD OF 'marqueelaw13.MachineJoined'. -/
def machineJoinedCard : Claim7 := { stood := { row := machineJoinedRow, standIns := [], harness := (true, "28a354d3fbbad68cf303efb1f044e2a783068caf95eee6d1c8457343d842d5e2"), looks := false }, kinds := [], alts := [], laidByText := true, laidKinds := [.data, .data, .data, .data, .pinned], laidTests := true, laidLooks := .later }
def MachineJoinedCardSaid : Prop := Claim7.holds Tryz.pinned (.plain (OpenSpec.ofChange machineJoinedSpec)) machineJoinedCard

/-- THE TIED CARD OF 'marqueelaw13.MachineAll'. -/
def machineAllCard : Claim7 := { stood := { row := machineAllRow, standIns := [], harness := (true, "28a354d3fbbad68cf303efb1f044e2a783068caf95eee6d1c8457343d842d5e2"), looks := false }, kinds := [], alts := [], laidByText := true, laidKinds := [.data, .data, .data, .data, .pinned], laidTests := true, laidLooks := .later }
def MachineAllCardSaid : Prop := Claim7.holds Tryz.pinned (.plain (OpenSpec.ofChange machineAllSpec)) machineAllCard

/-- THE TIED CARD OF 'marqueelaw22.ContextLife'. -/
def contextLifeCard : Claim7 := { stood := { row := contextLifeRow, standIns := [], harness := (true, "28a354d3fbbad68cf303efb1f044e2a783068caf95eee6d1c8457343d842d5e2"), looks := false }, kinds := [], alts := [], laidByText := true, laidKinds := [.data, .data, .data, .data, .pinned], laidTests := true, laidLooks := .later }
def ContextLifeCardSaid : Prop := Claim7.holds Tryz.pinned (.plain (OpenSpec.ofChange contextLifeSpec)) contextLifeCard

/-- THE TIED CARD OF 'marqueelaw22.ContextSplit'. -/
def contextSplitCard : Claim7 := { stood := { row := contextSplitRow, standIns := [], harness := (true, "28a354d3fbbad68cf303efb1f044e2a783068caf95eee6d1c8457343d842d5e2"), looks := false }, kinds := [], alts := [], laidByText := true, laidKinds := [.data, .data, .data, .data, .pinned], laidTests := true, laidLooks := .later }
def ContextSplitCardSaid : Prop := Claim7.holds Tryz.pinned (.plain (OpenSpec.ofChange contextSplitSpec)) contextSplitCard

/-- THE SECOND FORM's CARD OF 'marqueelaw10.FuncsCalls'. -/
def funcsCallsUptoCard : Claim7 := { stood := { row := funcsCallsUptoRow, standIns := [], harness := (true, "28a354d3fbbad68cf303efb1f044e2a783068caf95eee6d1c8457343d842d5e2"), looks := false }, kinds := [], alts := [], laidByText := true, laidKinds := [.data, .data, .data, .data, .pinned], laidTests := true, laidLooks := .later }
def FuncsCallsUptoCardSaid : Prop := Claim7.holds Tryz.pinned (.plain (OpenSpec.upto funcsCallsSpec)) funcsCallsUptoCard

/-- THE SECOND FORM's CARD OF 'marqueelaw10.FuncsFit'. -/
def funcsFitUptoCard : Claim7 := { stood := { row := funcsFitUptoRow, standIns := [], harness := (true, "28a354d3fbbad68cf303efb1f044e2a783068caf95eee6d1c8457343d842d5e2"), looks := false }, kinds := [], alts := [], laidByText := true, laidKinds := [.data, .data, .data, .data, .pinned], laidTests := true, laidLooks := .later }
def FuncsFitUptoCardSaid : Prop := Claim7.holds Tryz.pinned (.plain (OpenSpec.upto funcsFitSpec)) funcsFitUptoCard

/-- THE SECOND FORM's CARD OF 'marqueelaw13.MachineRuns'. -/
def machineRunsUptoCard : Claim7 := { stood := { row := machineRunsUptoRow, standIns := [], harness := (true, "28a354d3fbbad68cf303efb1f044e2a783068caf95eee6d1c8457343d842d5e2"), looks := false }, kinds := [], alts := [], laidByText := true, laidKinds := [.data, .data, .data, .data, .pinned], laidTests := true, laidLooks := .later }
def MachineRunsUptoCardSaid : Prop := Claim7.holds Tryz.pinned (.plain (OpenSpec.upto machineRunsSpec)) machineRunsUptoCard

/-- THE SECOND FORM's CARD OF 'marqueelaw13.MachineJoined'. -/
def machineJoinedUptoCard : Claim7 := { stood := { row := machineJoinedUptoRow, standIns := [], harness := (true, "28a354d3fbbad68cf303efb1f044e2a783068caf95eee6d1c8457343d842d5e2"), looks := false }, kinds := [], alts := [], laidByText := true, laidKinds := [.data, .data, .data, .data, .pinned], laidTests := true, laidLooks := .later }
def MachineJoinedUptoCardSaid : Prop := Claim7.holds Tryz.pinned (.plain (OpenSpec.upto machineJoinedSpec)) machineJoinedUptoCard

/-- THE SECOND FORM's CARD OF 'marqueelaw13.MachineAll'. -/
def machineAllUptoCard : Claim7 := { stood := { row := machineAllUptoRow, standIns := [], harness := (true, "28a354d3fbbad68cf303efb1f044e2a783068caf95eee6d1c8457343d842d5e2"), looks := false }, kinds := [], alts := [], laidByText := true, laidKinds := [.data, .data, .data, .data, .pinned], laidTests := true, laidLooks := .later }
def MachineAllUptoCardSaid : Prop := Claim7.holds Tryz.pinned (.plain (OpenSpec.upto machineAllSpec)) machineAllUptoCard

/-- THE SECOND FORM's CARD OF 'marqueelaw22.ContextLife'. -/
def contextLifeUptoCard : Claim7 := { stood := { row := contextLifeUptoRow, standIns := [], harness := (true, "28a354d3fbbad68cf303efb1f044e2a783068caf95eee6d1c8457343d842d5e2"), looks := false }, kinds := [], alts := [], laidByText := true, laidKinds := [.data, .data, .data, .data, .pinned], laidTests := true, laidLooks := .later }
def ContextLifeUptoCardSaid : Prop := Claim7.holds Tryz.pinned (.plain (OpenSpec.upto contextLifeSpec)) contextLifeUptoCard

/-- THE SECOND FORM's CARD OF 'marqueelaw22.ContextSplit'. -/
def contextSplitUptoCard : Claim7 := { stood := { row := contextSplitUptoRow, standIns := [], harness := (true, "28a354d3fbbad68cf303efb1f044e2a783068caf95eee6d1c8457343d842d5e2"), looks := false }, kinds := [], alts := [], laidByText := true, laidKinds := [.data, .data, .data, .data, .pinned], laidTests := true, laidLooks := .later }
def ContextSplitUptoCardSaid : Prop := Claim7.holds Tryz.pinned (.plain (OpenSpec.upto contextSplitSpec)) contextSplitUptoCard
end Rows
end Go.Proofs.YtaiokpmmjbiajaaGreatDoor
