/-
  DERIVED. GIVEN WITH THE SEED: THE CARDS: each row of YtfkbfnpjggkdmaaGreatDoorRows.lean that lists a variable, with what it lists TIED to the program's text (the seventh form; the later family's looks); each row that meets fmt, with fmt's text TOLD by the authors' own Lean function (tested against real Go, not proved from fmt's source: count such statements apart). THE CARD IS WHAT COUNTS. Prove the row's statement (the work); the ties are given (YtfkbfnpjggkdmaaGreatDoorTie.lean); close each card by the builder's one call (the guide's Derived/Test/ToyasCard.lean, 'card_holds'). Laid BY PROGRAM, IN A SANDBOX (cutbox-door.mjs). By AI agents, Wed Nov 11 2026. No macro, syntax, notation, axiom, sorry.
-/
import Derived.Test.YtfkbfnpjggkdmaaGreatDoorRows
import GoSem.ClaimSeven
namespace Go.Proofs.YtfkbfnpjggkdmaaGreatDoor
namespace Rows

/-- THE TIED CARD OF 'gaugelaw21.ExecPasses'. -/
def execPassesCard : Claim7 := { stood := { row := execPassesRow, standIns := [], harness := (true, "83921584998b0bcfa54646e77694667cda7278bf7eb9a45402b328d3775fcccd"), looks := true }, kinds := [], alts := [], laidByText := true, laidKinds := [.handle], laidTests := true, laidLooks := .later }
def ExecPassesCardSaid : Prop := Claim7.holds Tryz.pinned (.plain (OpenSpec.ofChange execPassesSpec)) execPassesCard

/-- THE TIED CARD OF 'gaugelaw21.ExecMoments'. -/
def execMomentsCard : Claim7 := { stood := { row := execMomentsRow, standIns := [], harness := (true, "83921584998b0bcfa54646e77694667cda7278bf7eb9a45402b328d3775fcccd"), looks := true }, kinds := [], alts := [], laidByText := true, laidKinds := [.handle], laidTests := true, laidLooks := .later }
def ExecMomentsCardSaid : Prop := Claim7.holds Tryz.pinned (.plain (OpenSpec.ofChange execMomentsSpec)) execMomentsCard

/-- THE TIED CARD OF 'gaugelaw21.ExecOffsets'. -/
def execOffsetsCard : Claim7 := { stood := { row := execOffsetsRow, standIns := [], harness := (true, "83921584998b0bcfa54646e77694667cda7278bf7eb9a45402b328d3775fcccd"), looks := true }, kinds := [], alts := [], laidByText := true, laidKinds := [.handle], laidTests := true, laidLooks := .later }
def ExecOffsetsCardSaid : Prop := Claim7.holds Tryz.pinned (.plain (OpenSpec.ofChange execOffsetsSpec)) execOffsetsCard

/-- THE TIED CARD OF 'gaugelaw21.ExecCounts'. -/
def execCountsCard : Claim7 := { stood := { row := execCountsRow, standIns := [], harness := (true, "83921584998b0bcfa54646e77694667cda7278bf7eb9a45402b328d3775fcccd"), looks := true }, kinds := [], alts := [], laidByText := true, laidKinds := [.handle], laidTests := true, laidLooks := .later }
def ExecCountsCardSaid : Prop := Claim7.holds Tryz.pinned (.plain (OpenSpec.ofChange execCountsSpec)) execCountsCard

/-- THE TIED CARD OF 'gaugelaw21.ExecNone'. -/
def execNoneCard : Claim7 := { stood := { row := execNoneRow, standIns := [], harness := (true, "83921584998b0bcfa54646e77694667cda7278bf7eb9a45402b328d3775fcccd"), looks := true }, kinds := [], alts := [], laidByText := true, laidKinds := [.handle], laidTests := true, laidLooks := .later }
def ExecNoneCardSaid : Prop := Claim7.holds Tryz.pinned (.plain (OpenSpec.ofChange execNoneSpec)) execNoneCard

/-- THE SECOND FORM's CARD OF 'gaugelaw21.ExecPasses'. -/
def execPassesUptoCard : Claim7 := { stood := { row := execPassesUptoRow, standIns := [], harness := (true, "83921584998b0bcfa54646e77694667cda7278bf7eb9a45402b328d3775fcccd"), looks := true }, kinds := [], alts := [], laidByText := true, laidKinds := [.handle], laidTests := true, laidLooks := .later }
def ExecPassesUptoCardSaid : Prop := Claim7.holds Tryz.pinned (.plain (OpenSpec.upto execPassesSpec)) execPassesUptoCard

/-- THE SECOND FORM's CARD OF 'gaugelaw21.ExecMoments'. -/
def execMomentsUptoCard : Claim7 := { stood := { row := execMomentsUptoRow, standIns := [], harness := (true, "83921584998b0bcfa54646e77694667cda7278bf7eb9a45402b328d3775fcccd"), looks := true }, kinds := [], alts := [], laidByText := true, laidKinds := [.handle], laidTests := true, laidLooks := .later }
def ExecMomentsUptoCardSaid : Prop := Claim7.holds Tryz.pinned (.plain (OpenSpec.upto execMomentsSpec)) execMomentsUptoCard

/-- THE SECOND FORM's CARD OF 'gaugelaw21.ExecOffsets'. -/
def execOffsetsUptoCard : Claim7 := { stood := { row := execOffsetsUptoRow, standIns := [], harness := (true, "83921584998b0bcfa54646e77694667cda7278bf7eb9a45402b328d3775fcccd"), looks := true }, kinds := [], alts := [], laidByText := true, laidKinds := [.handle], laidTests := true, laidLooks := .later }
def ExecOffsetsUptoCardSaid : Prop := Claim7.holds Tryz.pinned (.plain (OpenSpec.upto execOffsetsSpec)) execOffsetsUptoCard

/-- THE SECOND FORM's CARD OF 'gaugelaw21.ExecCounts'. -/
def execCountsUptoCard : Claim7 := { stood := { row := execCountsUptoRow, standIns := [], harness := (true, "83921584998b0bcfa54646e77694667cda7278bf7eb9a45402b328d3775fcccd"), looks := true }, kinds := [], alts := [], laidByText := true, laidKinds := [.handle], laidTests := true, laidLooks := .later }
def ExecCountsUptoCardSaid : Prop := Claim7.holds Tryz.pinned (.plain (OpenSpec.upto execCountsSpec)) execCountsUptoCard

/-- THE SECOND FORM's CARD OF 'gaugelaw21.ExecNone'. -/
def execNoneUptoCard : Claim7 := { stood := { row := execNoneUptoRow, standIns := [], harness := (true, "83921584998b0bcfa54646e77694667cda7278bf7eb9a45402b328d3775fcccd"), looks := true }, kinds := [], alts := [], laidByText := true, laidKinds := [.handle], laidTests := true, laidLooks := .later }
def ExecNoneUptoCardSaid : Prop := Claim7.holds Tryz.pinned (.plain (OpenSpec.upto execNoneSpec)) execNoneUptoCard
end Rows
end Go.Proofs.YtfkbfnpjggkdmaaGreatDoor
