/-
  DERIVED. GIVEN WITH THE SEED: THE CARDS: each row of YtcpnacphbnajlaaGreatDoorRows.lean that lists a variable, with what it lists TIED to the program's text (the seventh form; the later family's looks); each row that meets fmt, with fmt's text TOLD by the authors' own Lean function (tested against real Go, not proved from fmt's source: count such statements apart). THE CARD IS WHAT COUNTS. Prove the row's statement (the work); the ties are given (YtcpnacphbnajlaaGreatDoorTie.lean); close each card by the builder's one call (the guide's Derived/Test/ToyasCard.lean, 'card_holds'). Laid BY PROGRAM, IN A SANDBOX (cutbox-door.mjs). By AI agents, Wed Nov 11 2026. No macro, syntax, notation, axiom, sorry.
-/
import Derived.Test.YtcpnacphbnajlaaGreatDoorRows
import GoSem.ClaimSeven
namespace Go.Proofs.YtcpnacphbnajlaaGreatDoor
namespace Rows

/-- THE TIED CARD OF 'marqueelaw22.ContextNobody'. -/
def contextNobodyCard : Claim7 := { stood := { row := contextNobodyRow, standIns := [], harness := (true, "eea04e127f4ef4a196800f3589fe8fcd30d2bf9381a45dad28a406c848c5e240"), looks := false }, kinds := [], alts := [], laidByText := true, laidKinds := [.data, .data, .data, .data, .pinned], laidTests := true, laidLooks := .later }
def ContextNobodyCardSaid : Prop := Claim7.holds Tryz.pinned (.plain (OpenSpec.ofChange contextNobodySpec)) contextNobodyCard

/-- THE TIED CARD OF 'marqueelaw22.ContextLife'. -/
def contextLifeCard : Claim7 := { stood := { row := contextLifeRow, standIns := [], harness := (true, "eea04e127f4ef4a196800f3589fe8fcd30d2bf9381a45dad28a406c848c5e240"), looks := false }, kinds := [], alts := [], laidByText := true, laidKinds := [.data, .data, .data, .data, .pinned], laidTests := true, laidLooks := .later }
def ContextLifeCardSaid : Prop := Claim7.holds Tryz.pinned (.plain (OpenSpec.ofChange contextLifeSpec)) contextLifeCard

/-- THE TIED CARD OF 'marqueelaw22.ContextSplit'. -/
def contextSplitCard : Claim7 := { stood := { row := contextSplitRow, standIns := [], harness := (true, "eea04e127f4ef4a196800f3589fe8fcd30d2bf9381a45dad28a406c848c5e240"), looks := false }, kinds := [], alts := [], laidByText := true, laidKinds := [.data, .data, .data, .data, .pinned], laidTests := true, laidLooks := .later }
def ContextSplitCardSaid : Prop := Claim7.holds Tryz.pinned (.plain (OpenSpec.ofChange contextSplitSpec)) contextSplitCard

/-- THE SECOND FORM's CARD OF 'marqueelaw22.ContextNobody'. -/
def contextNobodyUptoCard : Claim7 := { stood := { row := contextNobodyUptoRow, standIns := [], harness := (true, "eea04e127f4ef4a196800f3589fe8fcd30d2bf9381a45dad28a406c848c5e240"), looks := false }, kinds := [], alts := [], laidByText := true, laidKinds := [.data, .data, .data, .data, .pinned], laidTests := true, laidLooks := .later }
def ContextNobodyUptoCardSaid : Prop := Claim7.holds Tryz.pinned (.plain (OpenSpec.upto contextNobodySpec)) contextNobodyUptoCard

/-- THE SECOND FORM's CARD OF 'marqueelaw22.ContextLife'. -/
def contextLifeUptoCard : Claim7 := { stood := { row := contextLifeUptoRow, standIns := [], harness := (true, "eea04e127f4ef4a196800f3589fe8fcd30d2bf9381a45dad28a406c848c5e240"), looks := false }, kinds := [], alts := [], laidByText := true, laidKinds := [.data, .data, .data, .data, .pinned], laidTests := true, laidLooks := .later }
def ContextLifeUptoCardSaid : Prop := Claim7.holds Tryz.pinned (.plain (OpenSpec.upto contextLifeSpec)) contextLifeUptoCard

/-- THE SECOND FORM's CARD OF 'marqueelaw22.ContextSplit'. -/
def contextSplitUptoCard : Claim7 := { stood := { row := contextSplitUptoRow, standIns := [], harness := (true, "eea04e127f4ef4a196800f3589fe8fcd30d2bf9381a45dad28a406c848c5e240"), looks := false }, kinds := [], alts := [], laidByText := true, laidKinds := [.data, .data, .data, .data, .pinned], laidTests := true, laidLooks := .later }
def ContextSplitUptoCardSaid : Prop := Claim7.holds Tryz.pinned (.plain (OpenSpec.upto contextSplitSpec)) contextSplitUptoCard
end Rows
end Go.Proofs.YtcpnacphbnajlaaGreatDoor
