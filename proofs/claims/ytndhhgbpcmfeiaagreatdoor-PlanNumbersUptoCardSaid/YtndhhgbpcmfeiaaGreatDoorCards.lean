/-
  DERIVED. GIVEN WITH THE SEED: THE CARDS: each row of YtndhhgbpcmfeiaaGreatDoorRows.lean that lists a variable, with what it lists TIED to the program's text (the seventh form; the later family's looks); each row that meets fmt, with fmt's text TOLD by the authors' own Lean function (tested against real Go, not proved from fmt's source: count such statements apart). THE CARD IS WHAT COUNTS. Prove the row's statement (the work); the ties are given (YtndhhgbpcmfeiaaGreatDoorTie.lean); close each card by the builder's one call (the guide's Derived/Test/ToyasCard.lean, 'card_holds'). Laid BY PROGRAM, IN A SANDBOX (cutbox-door.mjs). By AI agents, Wed Nov 11 2026. No macro, syntax, notation, axiom, sorry.
-/
import Derived.Test.YtndhhgbpcmfeiaaGreatDoorRows
import GoSem.ClaimSeven
namespace Go.Proofs.YtndhhgbpcmfeiaaGreatDoor
namespace Rows

/-- THE TIED CARD OF 'gaugelaw20.PlanMakes'. -/
def planMakesCard : Claim7 := { stood := { row := planMakesRow, standIns := [], harness := (true, "685e878da94f16f50216ecab913f82d428f41a1e26df9fbbe34fb688b31ad50b"), looks := false }, kinds := [], alts := [], laidByText := true, laidKinds := [.data, .data, .data, .data, .pinned], laidTests := true, laidLooks := .later }
def PlanMakesCardSaid : Prop := Claim7.holds Tryz.pinned (.plain (OpenSpec.ofChange planMakesSpec)) planMakesCard

/-- THE TIED CARD OF 'gaugelaw20.PlanPasses'. -/
def planPassesCard : Claim7 := { stood := { row := planPassesRow, standIns := [], harness := (true, "685e878da94f16f50216ecab913f82d428f41a1e26df9fbbe34fb688b31ad50b"), looks := false }, kinds := [], alts := [], laidByText := true, laidKinds := [.data, .data, .data, .data, .pinned], laidTests := true, laidLooks := .later }
def PlanPassesCardSaid : Prop := Claim7.holds Tryz.pinned (.plain (OpenSpec.ofChange planPassesSpec)) planPassesCard

/-- THE TIED CARD OF 'gaugelaw20.PlanOnce'. -/
def planOnceCard : Claim7 := { stood := { row := planOnceRow, standIns := [], harness := (true, "685e878da94f16f50216ecab913f82d428f41a1e26df9fbbe34fb688b31ad50b"), looks := false }, kinds := [], alts := [], laidByText := true, laidKinds := [.data, .data, .data, .data, .pinned], laidTests := true, laidLooks := .later }
def PlanOnceCardSaid : Prop := Claim7.holds Tryz.pinned (.plain (OpenSpec.ofChange planOnceSpec)) planOnceCard

/-- THE TIED CARD OF 'gaugelaw20.PlanNumbers'. -/
def planNumbersCard : Claim7 := { stood := { row := planNumbersRow, standIns := [], harness := (true, "685e878da94f16f50216ecab913f82d428f41a1e26df9fbbe34fb688b31ad50b"), looks := false }, kinds := [], alts := [], laidByText := true, laidKinds := [.data, .data, .data, .data, .pinned], laidTests := true, laidLooks := .later }
def PlanNumbersCardSaid : Prop := Claim7.holds Tryz.pinned (.plain (OpenSpec.ofChange planNumbersSpec)) planNumbersCard

/-- THE TIED CARD OF 'gaugelaw20.PlanMeans'. -/
def planMeansCard : Claim7 := { stood := { row := planMeansRow, standIns := [], harness := (true, "685e878da94f16f50216ecab913f82d428f41a1e26df9fbbe34fb688b31ad50b"), looks := false }, kinds := [], alts := [], laidByText := true, laidKinds := [.data, .data, .data, .data, .pinned], laidTests := true, laidLooks := .later }
def PlanMeansCardSaid : Prop := Claim7.holds Tryz.pinned (.plain (OpenSpec.ofChange planMeansSpec)) planMeansCard

/-- THE TIED CARD OF 'gaugelaw20.PlanNeeds'. -/
def planNeedsCard : Claim7 := { stood := { row := planNeedsRow, standIns := [], harness := (true, "685e878da94f16f50216ecab913f82d428f41a1e26df9fbbe34fb688b31ad50b"), looks := false }, kinds := [], alts := [], laidByText := true, laidKinds := [.data, .data, .data, .data, .pinned], laidTests := true, laidLooks := .later }
def PlanNeedsCardSaid : Prop := Claim7.holds Tryz.pinned (.plain (OpenSpec.ofChange planNeedsSpec)) planNeedsCard

/-- THE SECOND FORM's CARD OF 'gaugelaw20.PlanMakes'. -/
def planMakesUptoCard : Claim7 := { stood := { row := planMakesUptoRow, standIns := [], harness := (true, "685e878da94f16f50216ecab913f82d428f41a1e26df9fbbe34fb688b31ad50b"), looks := false }, kinds := [], alts := [], laidByText := true, laidKinds := [.data, .data, .data, .data, .pinned], laidTests := true, laidLooks := .later }
def PlanMakesUptoCardSaid : Prop := Claim7.holds Tryz.pinned (.plain (OpenSpec.upto planMakesSpec)) planMakesUptoCard

/-- THE SECOND FORM's CARD OF 'gaugelaw20.PlanPasses'. -/
def planPassesUptoCard : Claim7 := { stood := { row := planPassesUptoRow, standIns := [], harness := (true, "685e878da94f16f50216ecab913f82d428f41a1e26df9fbbe34fb688b31ad50b"), looks := false }, kinds := [], alts := [], laidByText := true, laidKinds := [.data, .data, .data, .data, .pinned], laidTests := true, laidLooks := .later }
def PlanPassesUptoCardSaid : Prop := Claim7.holds Tryz.pinned (.plain (OpenSpec.upto planPassesSpec)) planPassesUptoCard

/-- THE SECOND FORM's CARD OF 'gaugelaw20.PlanOnce'. -/
def planOnceUptoCard : Claim7 := { stood := { row := planOnceUptoRow, standIns := [], harness := (true, "685e878da94f16f50216ecab913f82d428f41a1e26df9fbbe34fb688b31ad50b"), looks := false }, kinds := [], alts := [], laidByText := true, laidKinds := [.data, .data, .data, .data, .pinned], laidTests := true, laidLooks := .later }
def PlanOnceUptoCardSaid : Prop := Claim7.holds Tryz.pinned (.plain (OpenSpec.upto planOnceSpec)) planOnceUptoCard

/-- THE SECOND FORM's CARD OF 'gaugelaw20.PlanNumbers'. -/
def planNumbersUptoCard : Claim7 := { stood := { row := planNumbersUptoRow, standIns := [], harness := (true, "685e878da94f16f50216ecab913f82d428f41a1e26df9fbbe34fb688b31ad50b"), looks := false }, kinds := [], alts := [], laidByText := true, laidKinds := [.data, .data, .data, .data, .pinned], laidTests := true, laidLooks := .later }
def PlanNumbersUptoCardSaid : Prop := Claim7.holds Tryz.pinned (.plain (OpenSpec.upto planNumbersSpec)) planNumbersUptoCard

/-- THE SECOND FORM's CARD OF 'gaugelaw20.PlanMeans'. -/
def planMeansUptoCard : Claim7 := { stood := { row := planMeansUptoRow, standIns := [], harness := (true, "685e878da94f16f50216ecab913f82d428f41a1e26df9fbbe34fb688b31ad50b"), looks := false }, kinds := [], alts := [], laidByText := true, laidKinds := [.data, .data, .data, .data, .pinned], laidTests := true, laidLooks := .later }
def PlanMeansUptoCardSaid : Prop := Claim7.holds Tryz.pinned (.plain (OpenSpec.upto planMeansSpec)) planMeansUptoCard

/-- THE SECOND FORM's CARD OF 'gaugelaw20.PlanNeeds'. -/
def planNeedsUptoCard : Claim7 := { stood := { row := planNeedsUptoRow, standIns := [], harness := (true, "685e878da94f16f50216ecab913f82d428f41a1e26df9fbbe34fb688b31ad50b"), looks := false }, kinds := [], alts := [], laidByText := true, laidKinds := [.data, .data, .data, .data, .pinned], laidTests := true, laidLooks := .later }
def PlanNeedsUptoCardSaid : Prop := Claim7.holds Tryz.pinned (.plain (OpenSpec.upto planNeedsSpec)) planNeedsUptoCard
end Rows
end Go.Proofs.YtndhhgbpcmfeiaaGreatDoor
