/-
  DERIVED. GIVEN WITH THE SEED: THE CARDS: each row of YtdpcpnhkkedfcaaDoorRows.lean that lists a variable, with what it lists TIED to the program's text (the seventh form; the later family's looks); each row that meets fmt, with fmt's text TOLD by the authors' own Lean function (tested against real Go, not proved from fmt's source: count such statements apart). THE CARD IS WHAT COUNTS. Prove the row's statement (the work); the ties are given (YtdpcpnhkkedfcaaDoorTie.lean); close each card by the builder's one call (the guide's Derived/Test/ToyasCard.lean, 'card_holds'). Laid BY PROGRAM, IN A SANDBOX (cutbox-door.mjs). By AI agents, Wed Nov 11 2026. No macro, syntax, notation, axiom, sorry.
-/
import Derived.Test.YtdpcpnhkkedfcaaDoorRows
import GoSem.ClaimSeven
namespace Go.Proofs.YtdpcpnhkkedfcaaDoor
namespace Rows

/-- THE TIED CARD OF 'gaugelaw15.LexPlaces'. -/
def lexPlacesCard : Claim7 := { stood := { row := lexPlacesRow, standIns := [], harness := (true, "7a84d35b686d6c506b752b97d0015466fa582429bb2c3f23be43aad2997fb3c3"), looks := true }, kinds := [], alts := [], laidByText := true, laidKinds := [.data, .data, .data, .sentinel, .sentinel], laidTests := true, laidLooks := .later }
def LexPlacesCardSaid : Prop := Claim7.holds Tryd.pinned (.plain (OpenSpec.ofChange lexPlacesSpec)) lexPlacesCard

/-- THE TIED CARD OF 'gaugelaw15.LexSpaced'. -/
def lexSpacedCard : Claim7 := { stood := { row := lexSpacedRow, standIns := [], harness := (true, "7a84d35b686d6c506b752b97d0015466fa582429bb2c3f23be43aad2997fb3c3"), looks := true }, kinds := [], alts := [], laidByText := true, laidKinds := [.data, .data, .data, .sentinel, .sentinel], laidTests := true, laidLooks := .later }
def LexSpacedCardSaid : Prop := Claim7.holds Tryd.pinned (.plain (OpenSpec.ofChange lexSpacedSpec)) lexSpacedCard

/-- THE TIED CARD OF 'gaugelaw15.LexDurs'. -/
def lexDursCard : Claim7 := { stood := { row := lexDursRow, standIns := [], harness := (true, "7a84d35b686d6c506b752b97d0015466fa582429bb2c3f23be43aad2997fb3c3"), looks := true }, kinds := [], alts := [], laidByText := true, laidKinds := [.data, .data, .data, .sentinel, .sentinel], laidTests := true, laidLooks := .later }
def LexDursCardSaid : Prop := Claim7.holds Tryd.pinned (.plain (OpenSpec.ofChange lexDursSpec)) lexDursCard

/-- THE TIED CARD OF 'gaugelaw15.LexBack'. -/
def lexBackCard : Claim7 := { stood := { row := lexBackRow, standIns := [], harness := (true, "7a84d35b686d6c506b752b97d0015466fa582429bb2c3f23be43aad2997fb3c3"), looks := true }, kinds := [], alts := [], laidByText := true, laidKinds := [.data, .data, .data, .sentinel, .sentinel], laidTests := true, laidLooks := .later }
def LexBackCardSaid : Prop := Claim7.holds Tryd.pinned (.plain (OpenSpec.ofChange lexBackSpec)) lexBackCard

/-- THE SECOND FORM's CARD OF 'gaugelaw15.LexPlaces'. -/
def lexPlacesUptoCard : Claim7 := { stood := { row := lexPlacesUptoRow, standIns := [], harness := (true, "7a84d35b686d6c506b752b97d0015466fa582429bb2c3f23be43aad2997fb3c3"), looks := true }, kinds := [], alts := [], laidByText := true, laidKinds := [.data, .data, .data, .sentinel, .sentinel], laidTests := true, laidLooks := .later }
def LexPlacesUptoCardSaid : Prop := Claim7.holds Tryd.pinned (.plain (OpenSpec.upto lexPlacesSpec)) lexPlacesUptoCard

/-- THE SECOND FORM's CARD OF 'gaugelaw15.LexSpaced'. -/
def lexSpacedUptoCard : Claim7 := { stood := { row := lexSpacedUptoRow, standIns := [], harness := (true, "7a84d35b686d6c506b752b97d0015466fa582429bb2c3f23be43aad2997fb3c3"), looks := true }, kinds := [], alts := [], laidByText := true, laidKinds := [.data, .data, .data, .sentinel, .sentinel], laidTests := true, laidLooks := .later }
def LexSpacedUptoCardSaid : Prop := Claim7.holds Tryd.pinned (.plain (OpenSpec.upto lexSpacedSpec)) lexSpacedUptoCard

/-- THE SECOND FORM's CARD OF 'gaugelaw15.LexDurs'. -/
def lexDursUptoCard : Claim7 := { stood := { row := lexDursUptoRow, standIns := [], harness := (true, "7a84d35b686d6c506b752b97d0015466fa582429bb2c3f23be43aad2997fb3c3"), looks := true }, kinds := [], alts := [], laidByText := true, laidKinds := [.data, .data, .data, .sentinel, .sentinel], laidTests := true, laidLooks := .later }
def LexDursUptoCardSaid : Prop := Claim7.holds Tryd.pinned (.plain (OpenSpec.upto lexDursSpec)) lexDursUptoCard

/-- THE SECOND FORM's CARD OF 'gaugelaw15.LexBack'. -/
def lexBackUptoCard : Claim7 := { stood := { row := lexBackUptoRow, standIns := [], harness := (true, "7a84d35b686d6c506b752b97d0015466fa582429bb2c3f23be43aad2997fb3c3"), looks := true }, kinds := [], alts := [], laidByText := true, laidKinds := [.data, .data, .data, .sentinel, .sentinel], laidTests := true, laidLooks := .later }
def LexBackUptoCardSaid : Prop := Claim7.holds Tryd.pinned (.plain (OpenSpec.upto lexBackSpec)) lexBackUptoCard
end Rows
end Go.Proofs.YtdpcpnhkkedfcaaDoor
