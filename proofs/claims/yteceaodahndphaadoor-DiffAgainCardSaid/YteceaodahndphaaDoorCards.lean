/-
  DERIVED. GIVEN WITH THE SEED: THE CARDS: each row of YteceaodahndphaaDoorRows.lean that lists a variable, with what it lists TIED to the program's text (the seventh form; the later family's looks); each row that meets fmt, with fmt's text TOLD by the authors' own Lean function (tested against real Go, not proved from fmt's source: count such statements apart). THE CARD IS WHAT COUNTS. Prove the row's statement (the work); the ties are given (YteceaodahndphaaDoorTie.lean); close each card by the builder's one call (the guide's Derived/Test/ToyasCard.lean, 'card_holds'). Laid BY PROGRAM, IN A SANDBOX (cutbox-door.mjs). By AI agents, Wed Nov 11 2026. No macro, syntax, notation, axiom, sorry.
-/
import Derived.Test.YteceaodahndphaaDoorRows
import GoSem.ClaimSeven
namespace Go.Proofs.YteceaodahndphaaDoor
namespace Rows

/-- THE TIED CARD OF 'codesearchlaw23.DiffLines'. -/
def diffLinesCard : Claim7 := { stood := { row := diffLinesRow, standIns := [], harness := (true, "709e960270fb402a343a355ca53e30a7b9f46a08afe8b6879d378af4b376d613"), looks := false }, kinds := [], alts := [], laidByText := true, laidKinds := [.data, .data, .data, .data, .pinned], laidTests := true, laidLooks := .later }
def DiffLinesCardSaid : Prop := Claim7.holds Tryd.pinned (.plain (OpenSpec.ofChange diffLinesSpec)) diffLinesCard

/-- THE TIED CARD OF 'codesearchlaw23.DiffMerges'. -/
def diffMergesCard : Claim7 := { stood := { row := diffMergesRow, standIns := [], harness := (true, "709e960270fb402a343a355ca53e30a7b9f46a08afe8b6879d378af4b376d613"), looks := false }, kinds := [], alts := [], laidByText := true, laidKinds := [.data, .data, .data, .data, .pinned], laidTests := true, laidLooks := .later }
def DiffMergesCardSaid : Prop := Claim7.holds Tryd.pinned (.plain (OpenSpec.ofChange diffMergesSpec)) diffMergesCard

/-- THE TIED CARD OF 'codesearchlaw23.DiffParses'. -/
def diffParsesCard : Claim7 := { stood := { row := diffParsesRow, standIns := [], harness := (true, "709e960270fb402a343a355ca53e30a7b9f46a08afe8b6879d378af4b376d613"), looks := false }, kinds := [], alts := [], laidByText := true, laidKinds := [.data, .data, .data, .data, .pinned], laidTests := true, laidLooks := .later }
def DiffParsesCardSaid : Prop := Claim7.holds Tryd.pinned (.plain (OpenSpec.ofChange diffParsesSpec)) diffParsesCard

/-- THE TIED CARD OF 'codesearchlaw23.DiffLeast'. -/
def diffLeastCard : Claim7 := { stood := { row := diffLeastRow, standIns := [], harness := (true, "709e960270fb402a343a355ca53e30a7b9f46a08afe8b6879d378af4b376d613"), looks := false }, kinds := [], alts := [], laidByText := true, laidKinds := [.data, .data, .data, .data, .pinned], laidTests := true, laidLooks := .later }
def DiffLeastCardSaid : Prop := Claim7.holds Tryd.pinned (.plain (OpenSpec.ofChange diffLeastSpec)) diffLeastCard

/-- THE TIED CARD OF 'codesearchlaw23.DiffMerging'. -/
def diffMergingCard : Claim7 := { stood := { row := diffMergingRow, standIns := [], harness := (true, "709e960270fb402a343a355ca53e30a7b9f46a08afe8b6879d378af4b376d613"), looks := false }, kinds := [], alts := [], laidByText := true, laidKinds := [.data, .data, .data, .data, .pinned], laidTests := true, laidLooks := .later }
def DiffMergingCardSaid : Prop := Claim7.holds Tryd.pinned (.plain (OpenSpec.ofChange diffMergingSpec)) diffMergingCard

/-- THE TIED CARD OF 'codesearchlaw23.DiffAgain'. -/
def diffAgainCard : Claim7 := { stood := { row := diffAgainRow, standIns := [], harness := (true, "709e960270fb402a343a355ca53e30a7b9f46a08afe8b6879d378af4b376d613"), looks := false }, kinds := [], alts := [], laidByText := true, laidKinds := [.data, .data, .data, .data, .pinned], laidTests := true, laidLooks := .later }
def DiffAgainCardSaid : Prop := Claim7.holds Tryd.pinned (.plain (OpenSpec.ofChange diffAgainSpec)) diffAgainCard

/-- THE TIED CARD OF 'codesearchlaw23.DiffApplies'. -/
def diffAppliesCard : Claim7 := { stood := { row := diffAppliesRow, standIns := [], harness := (true, "709e960270fb402a343a355ca53e30a7b9f46a08afe8b6879d378af4b376d613"), looks := false }, kinds := [], alts := [], laidByText := true, laidKinds := [.data, .data, .data, .data, .pinned], laidTests := true, laidLooks := .later }
def DiffAppliesCardSaid : Prop := Claim7.holds Tryd.pinned (.plain (OpenSpec.ofChange diffAppliesSpec)) diffAppliesCard

/-- THE TIED CARD OF 'codesearchlaw23.DiffBack'. -/
def diffBackCard : Claim7 := { stood := { row := diffBackRow, standIns := [], harness := (true, "709e960270fb402a343a355ca53e30a7b9f46a08afe8b6879d378af4b376d613"), looks := false }, kinds := [], alts := [], laidByText := true, laidKinds := [.data, .data, .data, .data, .pinned], laidTests := true, laidLooks := .later }
def DiffBackCardSaid : Prop := Claim7.holds Tryd.pinned (.plain (OpenSpec.ofChange diffBackSpec)) diffBackCard

/-- THE SECOND FORM's CARD OF 'codesearchlaw23.DiffLines'. -/
def diffLinesUptoCard : Claim7 := { stood := { row := diffLinesUptoRow, standIns := [], harness := (true, "709e960270fb402a343a355ca53e30a7b9f46a08afe8b6879d378af4b376d613"), looks := false }, kinds := [], alts := [], laidByText := true, laidKinds := [.data, .data, .data, .data, .pinned], laidTests := true, laidLooks := .later }
def DiffLinesUptoCardSaid : Prop := Claim7.holds Tryd.pinned (.plain (OpenSpec.upto diffLinesSpec)) diffLinesUptoCard

/-- THE SECOND FORM's CARD OF 'codesearchlaw23.DiffMerges'. -/
def diffMergesUptoCard : Claim7 := { stood := { row := diffMergesUptoRow, standIns := [], harness := (true, "709e960270fb402a343a355ca53e30a7b9f46a08afe8b6879d378af4b376d613"), looks := false }, kinds := [], alts := [], laidByText := true, laidKinds := [.data, .data, .data, .data, .pinned], laidTests := true, laidLooks := .later }
def DiffMergesUptoCardSaid : Prop := Claim7.holds Tryd.pinned (.plain (OpenSpec.upto diffMergesSpec)) diffMergesUptoCard

/-- THE SECOND FORM's CARD OF 'codesearchlaw23.DiffParses'. -/
def diffParsesUptoCard : Claim7 := { stood := { row := diffParsesUptoRow, standIns := [], harness := (true, "709e960270fb402a343a355ca53e30a7b9f46a08afe8b6879d378af4b376d613"), looks := false }, kinds := [], alts := [], laidByText := true, laidKinds := [.data, .data, .data, .data, .pinned], laidTests := true, laidLooks := .later }
def DiffParsesUptoCardSaid : Prop := Claim7.holds Tryd.pinned (.plain (OpenSpec.upto diffParsesSpec)) diffParsesUptoCard

/-- THE SECOND FORM's CARD OF 'codesearchlaw23.DiffLeast'. -/
def diffLeastUptoCard : Claim7 := { stood := { row := diffLeastUptoRow, standIns := [], harness := (true, "709e960270fb402a343a355ca53e30a7b9f46a08afe8b6879d378af4b376d613"), looks := false }, kinds := [], alts := [], laidByText := true, laidKinds := [.data, .data, .data, .data, .pinned], laidTests := true, laidLooks := .later }
def DiffLeastUptoCardSaid : Prop := Claim7.holds Tryd.pinned (.plain (OpenSpec.upto diffLeastSpec)) diffLeastUptoCard

/-- THE SECOND FORM's CARD OF 'codesearchlaw23.DiffMerging'. -/
def diffMergingUptoCard : Claim7 := { stood := { row := diffMergingUptoRow, standIns := [], harness := (true, "709e960270fb402a343a355ca53e30a7b9f46a08afe8b6879d378af4b376d613"), looks := false }, kinds := [], alts := [], laidByText := true, laidKinds := [.data, .data, .data, .data, .pinned], laidTests := true, laidLooks := .later }
def DiffMergingUptoCardSaid : Prop := Claim7.holds Tryd.pinned (.plain (OpenSpec.upto diffMergingSpec)) diffMergingUptoCard

/-- THE SECOND FORM's CARD OF 'codesearchlaw23.DiffAgain'. -/
def diffAgainUptoCard : Claim7 := { stood := { row := diffAgainUptoRow, standIns := [], harness := (true, "709e960270fb402a343a355ca53e30a7b9f46a08afe8b6879d378af4b376d613"), looks := false }, kinds := [], alts := [], laidByText := true, laidKinds := [.data, .data, .data, .data, .pinned], laidTests := true, laidLooks := .later }
def DiffAgainUptoCardSaid : Prop := Claim7.holds Tryd.pinned (.plain (OpenSpec.upto diffAgainSpec)) diffAgainUptoCard

/-- THE SECOND FORM's CARD OF 'codesearchlaw23.DiffApplies'. -/
def diffAppliesUptoCard : Claim7 := { stood := { row := diffAppliesUptoRow, standIns := [], harness := (true, "709e960270fb402a343a355ca53e30a7b9f46a08afe8b6879d378af4b376d613"), looks := false }, kinds := [], alts := [], laidByText := true, laidKinds := [.data, .data, .data, .data, .pinned], laidTests := true, laidLooks := .later }
def DiffAppliesUptoCardSaid : Prop := Claim7.holds Tryd.pinned (.plain (OpenSpec.upto diffAppliesSpec)) diffAppliesUptoCard

/-- THE SECOND FORM's CARD OF 'codesearchlaw23.DiffBack'. -/
def diffBackUptoCard : Claim7 := { stood := { row := diffBackUptoRow, standIns := [], harness := (true, "709e960270fb402a343a355ca53e30a7b9f46a08afe8b6879d378af4b376d613"), looks := false }, kinds := [], alts := [], laidByText := true, laidKinds := [.data, .data, .data, .data, .pinned], laidTests := true, laidLooks := .later }
def DiffBackUptoCardSaid : Prop := Claim7.holds Tryd.pinned (.plain (OpenSpec.upto diffBackSpec)) diffBackUptoCard
end Rows
end Go.Proofs.YteceaodahndphaaDoor
