/-
  DERIVED. GIVEN WITH THE SEED: THE CARDS: each row of YthacnbbijmgjfaaDoorRows.lean that lists a variable, with what it lists TIED to the program's text (the seventh form; the later family's looks); each row that meets fmt, with fmt's text TOLD by the authors' own Lean function (tested against real Go, not proved from fmt's source: count such statements apart). THE CARD IS WHAT COUNTS. Prove the row's statement (the work); the ties are given (YthacnbbijmgjfaaDoorTie.lean); close each card by the builder's one call (the guide's Derived/Test/ToyasCard.lean, 'card_holds'). Laid BY PROGRAM, IN A SANDBOX (cutbox-door.mjs). By AI agents, Wed Nov 11 2026. No macro, syntax, notation, axiom, sorry.
-/
import Derived.Test.YthacnbbijmgjfaaDoorRows
import GoSem.ClaimSeven
namespace Go.Proofs.YthacnbbijmgjfaaDoor
namespace Rows

/-- THE TIED CARD OF 'columbariumlaw19.WalScans'. -/
def walScansCard : Claim7 := { stood := { row := walScansRow, standIns := [], harness := (true, "55ec3a7001010c502c089ebc1079558ccf342a0c0f7d1cd4db41bcbf0db414c8"), looks := true }, kinds := [], alts := [], laidByText := true, laidKinds := [.data, .data, .data], laidTests := true, laidLooks := .later }
def WalScansCardSaid : Prop := Claim7.holds Tryd.pinned (.plain (OpenSpec.ofChange walScansSpec)) walScansCard

/-- THE TIED CARD OF 'columbariumlaw19.WalSurvives'. -/
def walSurvivesCard : Claim7 := { stood := { row := walSurvivesRow, standIns := [], harness := (true, "55ec3a7001010c502c089ebc1079558ccf342a0c0f7d1cd4db41bcbf0db414c8"), looks := true }, kinds := [], alts := [], laidByText := true, laidKinds := [.data, .data, .data], laidTests := true, laidLooks := .later }
def WalSurvivesCardSaid : Prop := Claim7.holds Tryd.pinned (.plain (OpenSpec.ofChange walSurvivesSpec)) walSurvivesCard

/-- THE TIED CARD OF 'columbariumlaw19.WalFull'. -/
def walFullCard : Claim7 := { stood := { row := walFullRow, standIns := [], harness := (true, "55ec3a7001010c502c089ebc1079558ccf342a0c0f7d1cd4db41bcbf0db414c8"), looks := true }, kinds := [], alts := [], laidByText := true, laidKinds := [.data, .data, .data], laidTests := true, laidLooks := .later }
def WalFullCardSaid : Prop := Claim7.holds Tryd.pinned (.plain (OpenSpec.ofChange walFullSpec)) walFullCard

/-- THE TIED CARD OF 'columbariumlaw19.WalOpens'. -/
def walOpensCard : Claim7 := { stood := { row := walOpensRow, standIns := [], harness := (true, "55ec3a7001010c502c089ebc1079558ccf342a0c0f7d1cd4db41bcbf0db414c8"), looks := true }, kinds := [], alts := [], laidByText := true, laidKinds := [.data, .data, .data], laidTests := true, laidLooks := .later }
def WalOpensCardSaid : Prop := Claim7.holds Tryd.pinned (.plain (OpenSpec.ofChange walOpensSpec)) walOpensCard

/-- THE TIED CARD OF 'columbariumlaw19.WalGoes'. -/
def walGoesCard : Claim7 := { stood := { row := walGoesRow, standIns := [], harness := (true, "55ec3a7001010c502c089ebc1079558ccf342a0c0f7d1cd4db41bcbf0db414c8"), looks := true }, kinds := [], alts := [], laidByText := true, laidKinds := [.data, .data, .data], laidTests := true, laidLooks := .later }
def WalGoesCardSaid : Prop := Claim7.holds Tryd.pinned (.plain (OpenSpec.ofChange walGoesSpec)) walGoesCard

/-- THE TIED CARD OF 'columbariumlaw19.WalTurned'. -/
def walTurnedCard : Claim7 := { stood := { row := walTurnedRow, standIns := [], harness := (true, "55ec3a7001010c502c089ebc1079558ccf342a0c0f7d1cd4db41bcbf0db414c8"), looks := true }, kinds := [], alts := [], laidByText := true, laidKinds := [.data, .data, .data], laidTests := true, laidLooks := .later }
def WalTurnedCardSaid : Prop := Claim7.holds Tryd.pinned (.plain (OpenSpec.ofChange walTurnedSpec)) walTurnedCard

/-- THE TIED CARD OF 'columbariumlaw19.WalNumbers'. -/
def walNumbersCard : Claim7 := { stood := { row := walNumbersRow, standIns := [], harness := (true, "55ec3a7001010c502c089ebc1079558ccf342a0c0f7d1cd4db41bcbf0db414c8"), looks := true }, kinds := [], alts := [], laidByText := true, laidKinds := [.data, .data, .data], laidTests := true, laidLooks := .later }
def WalNumbersCardSaid : Prop := Claim7.holds Tryd.pinned (.plain (OpenSpec.ofChange walNumbersSpec)) walNumbersCard

/-- THE SECOND FORM's CARD OF 'columbariumlaw19.WalScans'. -/
def walScansUptoCard : Claim7 := { stood := { row := walScansUptoRow, standIns := [], harness := (true, "55ec3a7001010c502c089ebc1079558ccf342a0c0f7d1cd4db41bcbf0db414c8"), looks := true }, kinds := [], alts := [], laidByText := true, laidKinds := [.data, .data, .data], laidTests := true, laidLooks := .later }
def WalScansUptoCardSaid : Prop := Claim7.holds Tryd.pinned (.plain (OpenSpec.upto walScansSpec)) walScansUptoCard

/-- THE SECOND FORM's CARD OF 'columbariumlaw19.WalSurvives'. -/
def walSurvivesUptoCard : Claim7 := { stood := { row := walSurvivesUptoRow, standIns := [], harness := (true, "55ec3a7001010c502c089ebc1079558ccf342a0c0f7d1cd4db41bcbf0db414c8"), looks := true }, kinds := [], alts := [], laidByText := true, laidKinds := [.data, .data, .data], laidTests := true, laidLooks := .later }
def WalSurvivesUptoCardSaid : Prop := Claim7.holds Tryd.pinned (.plain (OpenSpec.upto walSurvivesSpec)) walSurvivesUptoCard

/-- THE SECOND FORM's CARD OF 'columbariumlaw19.WalFull'. -/
def walFullUptoCard : Claim7 := { stood := { row := walFullUptoRow, standIns := [], harness := (true, "55ec3a7001010c502c089ebc1079558ccf342a0c0f7d1cd4db41bcbf0db414c8"), looks := true }, kinds := [], alts := [], laidByText := true, laidKinds := [.data, .data, .data], laidTests := true, laidLooks := .later }
def WalFullUptoCardSaid : Prop := Claim7.holds Tryd.pinned (.plain (OpenSpec.upto walFullSpec)) walFullUptoCard

/-- THE SECOND FORM's CARD OF 'columbariumlaw19.WalOpens'. -/
def walOpensUptoCard : Claim7 := { stood := { row := walOpensUptoRow, standIns := [], harness := (true, "55ec3a7001010c502c089ebc1079558ccf342a0c0f7d1cd4db41bcbf0db414c8"), looks := true }, kinds := [], alts := [], laidByText := true, laidKinds := [.data, .data, .data], laidTests := true, laidLooks := .later }
def WalOpensUptoCardSaid : Prop := Claim7.holds Tryd.pinned (.plain (OpenSpec.upto walOpensSpec)) walOpensUptoCard

/-- THE SECOND FORM's CARD OF 'columbariumlaw19.WalGoes'. -/
def walGoesUptoCard : Claim7 := { stood := { row := walGoesUptoRow, standIns := [], harness := (true, "55ec3a7001010c502c089ebc1079558ccf342a0c0f7d1cd4db41bcbf0db414c8"), looks := true }, kinds := [], alts := [], laidByText := true, laidKinds := [.data, .data, .data], laidTests := true, laidLooks := .later }
def WalGoesUptoCardSaid : Prop := Claim7.holds Tryd.pinned (.plain (OpenSpec.upto walGoesSpec)) walGoesUptoCard

/-- THE SECOND FORM's CARD OF 'columbariumlaw19.WalTurned'. -/
def walTurnedUptoCard : Claim7 := { stood := { row := walTurnedUptoRow, standIns := [], harness := (true, "55ec3a7001010c502c089ebc1079558ccf342a0c0f7d1cd4db41bcbf0db414c8"), looks := true }, kinds := [], alts := [], laidByText := true, laidKinds := [.data, .data, .data], laidTests := true, laidLooks := .later }
def WalTurnedUptoCardSaid : Prop := Claim7.holds Tryd.pinned (.plain (OpenSpec.upto walTurnedSpec)) walTurnedUptoCard

/-- THE SECOND FORM's CARD OF 'columbariumlaw19.WalNumbers'. -/
def walNumbersUptoCard : Claim7 := { stood := { row := walNumbersUptoRow, standIns := [], harness := (true, "55ec3a7001010c502c089ebc1079558ccf342a0c0f7d1cd4db41bcbf0db414c8"), looks := true }, kinds := [], alts := [], laidByText := true, laidKinds := [.data, .data, .data], laidTests := true, laidLooks := .later }
def WalNumbersUptoCardSaid : Prop := Claim7.holds Tryd.pinned (.plain (OpenSpec.upto walNumbersSpec)) walNumbersUptoCard
end Rows
end Go.Proofs.YthacnbbijmgjfaaDoor
