/-
  DERIVED. GIVEN WITH THE SEED: THE CARDS: each row of YtdjkmojappakgaaDoorRows.lean that lists a variable, with what it lists TIED to the program's text (the seventh form; the later family's looks); each row that meets fmt, with fmt's text TOLD by the authors' own Lean function (tested against real Go, not proved from fmt's source: count such statements apart). THE CARD IS WHAT COUNTS. Prove the row's statement (the work); the ties are given (YtdjkmojappakgaaDoorTie.lean); close each card by the builder's one call (the guide's Derived/Test/ToyasCard.lean, 'card_holds'). Laid BY PROGRAM, IN A SANDBOX (cutbox-door.mjs). By AI agents, Wed Nov 11 2026. No macro, syntax, notation, axiom, sorry.
-/
import Derived.Test.YtdjkmojappakgaaDoorRows
import GoSem.ClaimSeven
namespace Go.Proofs.YtdjkmojappakgaaDoor
namespace Rows

/-- THE TIED CARD OF 'codesearchlaw02.GlobChecks'. -/
def globChecksCard : Claim7 := { stood := { row := globChecksRow, standIns := [], harness := (true, "5d3d0252e247bd11f1067e6fd252c7b87ff9e33c43169388662a0e69f7179664"), looks := false }, kinds := [], alts := [], laidByText := true, laidKinds := [.data, .pinned], laidTests := true, laidLooks := .later }
def GlobChecksCardSaid : Prop := Claim7.holds Tryd.pinned (.plain (OpenSpec.ofChange globChecksSpec)) globChecksCard

/-- THE TIED CARD OF 'codesearchlaw02.GlobMatches'. -/
def globMatchesCard : Claim7 := { stood := { row := globMatchesRow, standIns := [], harness := (true, "5d3d0252e247bd11f1067e6fd252c7b87ff9e33c43169388662a0e69f7179664"), looks := false }, kinds := [], alts := [], laidByText := true, laidKinds := [.data, .pinned], laidTests := true, laidLooks := .later }
def GlobMatchesCardSaid : Prop := Claim7.holds Tryd.pinned (.plain (OpenSpec.ofChange globMatchesSpec)) globMatchesCard

/-- THE TIED CARD OF 'codesearchlaw02.GlobPrefix'. -/
def globPrefixCard : Claim7 := { stood := { row := globPrefixRow, standIns := [], harness := (true, "5d3d0252e247bd11f1067e6fd252c7b87ff9e33c43169388662a0e69f7179664"), looks := false }, kinds := [], alts := [], laidByText := true, laidKinds := [.data, .pinned], laidTests := true, laidLooks := .later }
def GlobPrefixCardSaid : Prop := Claim7.holds Tryd.pinned (.plain (OpenSpec.ofChange globPrefixSpec)) globPrefixCard

/-- THE TIED CARD OF 'codesearchlaw02.GlobJoins'. -/
def globJoinsCard : Claim7 := { stood := { row := globJoinsRow, standIns := [], harness := (true, "5d3d0252e247bd11f1067e6fd252c7b87ff9e33c43169388662a0e69f7179664"), looks := false }, kinds := [], alts := [], laidByText := true, laidKinds := [.data, .pinned], laidTests := true, laidLooks := .later }
def GlobJoinsCardSaid : Prop := Claim7.holds Tryd.pinned (.plain (OpenSpec.ofChange globJoinsSpec)) globJoinsCard

/-- THE TIED CARD OF 'codesearchlaw02.GlobAll'. -/
def globAllCard : Claim7 := { stood := { row := globAllRow, standIns := [], harness := (true, "5d3d0252e247bd11f1067e6fd252c7b87ff9e33c43169388662a0e69f7179664"), looks := false }, kinds := [], alts := [], laidByText := true, laidKinds := [.data, .pinned], laidTests := true, laidLooks := .later }
def GlobAllCardSaid : Prop := Claim7.holds Tryd.pinned (.plain (OpenSpec.ofChange globAllSpec)) globAllCard

/-- THE TIED CARD OF 'codesearchlaw02.GlobPaths'. -/
def globPathsCard : Claim7 := { stood := { row := globPathsRow, standIns := [], harness := (true, "5d3d0252e247bd11f1067e6fd252c7b87ff9e33c43169388662a0e69f7179664"), looks := false }, kinds := [], alts := [], laidByText := true, laidKinds := [.data, .pinned], laidTests := true, laidLooks := .later }
def GlobPathsCardSaid : Prop := Claim7.holds Tryd.pinned (.plain (OpenSpec.ofChange globPathsSpec)) globPathsCard

/-- THE TIED CARD OF 'codesearchlaw02.GlobParts'. -/
def globPartsCard : Claim7 := { stood := { row := globPartsRow, standIns := [], harness := (true, "5d3d0252e247bd11f1067e6fd252c7b87ff9e33c43169388662a0e69f7179664"), looks := false }, kinds := [], alts := [], laidByText := true, laidKinds := [.data, .pinned], laidTests := true, laidLooks := .later }
def GlobPartsCardSaid : Prop := Claim7.holds Tryd.pinned (.plain (OpenSpec.ofChange globPartsSpec)) globPartsCard

/-- THE SECOND FORM's CARD OF 'codesearchlaw02.GlobChecks'. -/
def globChecksUptoCard : Claim7 := { stood := { row := globChecksUptoRow, standIns := [], harness := (true, "5d3d0252e247bd11f1067e6fd252c7b87ff9e33c43169388662a0e69f7179664"), looks := false }, kinds := [], alts := [], laidByText := true, laidKinds := [.data, .pinned], laidTests := true, laidLooks := .later }
def GlobChecksUptoCardSaid : Prop := Claim7.holds Tryd.pinned (.plain (OpenSpec.upto globChecksSpec)) globChecksUptoCard

/-- THE SECOND FORM's CARD OF 'codesearchlaw02.GlobMatches'. -/
def globMatchesUptoCard : Claim7 := { stood := { row := globMatchesUptoRow, standIns := [], harness := (true, "5d3d0252e247bd11f1067e6fd252c7b87ff9e33c43169388662a0e69f7179664"), looks := false }, kinds := [], alts := [], laidByText := true, laidKinds := [.data, .pinned], laidTests := true, laidLooks := .later }
def GlobMatchesUptoCardSaid : Prop := Claim7.holds Tryd.pinned (.plain (OpenSpec.upto globMatchesSpec)) globMatchesUptoCard

/-- THE SECOND FORM's CARD OF 'codesearchlaw02.GlobPrefix'. -/
def globPrefixUptoCard : Claim7 := { stood := { row := globPrefixUptoRow, standIns := [], harness := (true, "5d3d0252e247bd11f1067e6fd252c7b87ff9e33c43169388662a0e69f7179664"), looks := false }, kinds := [], alts := [], laidByText := true, laidKinds := [.data, .pinned], laidTests := true, laidLooks := .later }
def GlobPrefixUptoCardSaid : Prop := Claim7.holds Tryd.pinned (.plain (OpenSpec.upto globPrefixSpec)) globPrefixUptoCard

/-- THE SECOND FORM's CARD OF 'codesearchlaw02.GlobJoins'. -/
def globJoinsUptoCard : Claim7 := { stood := { row := globJoinsUptoRow, standIns := [], harness := (true, "5d3d0252e247bd11f1067e6fd252c7b87ff9e33c43169388662a0e69f7179664"), looks := false }, kinds := [], alts := [], laidByText := true, laidKinds := [.data, .pinned], laidTests := true, laidLooks := .later }
def GlobJoinsUptoCardSaid : Prop := Claim7.holds Tryd.pinned (.plain (OpenSpec.upto globJoinsSpec)) globJoinsUptoCard

/-- THE SECOND FORM's CARD OF 'codesearchlaw02.GlobAll'. -/
def globAllUptoCard : Claim7 := { stood := { row := globAllUptoRow, standIns := [], harness := (true, "5d3d0252e247bd11f1067e6fd252c7b87ff9e33c43169388662a0e69f7179664"), looks := false }, kinds := [], alts := [], laidByText := true, laidKinds := [.data, .pinned], laidTests := true, laidLooks := .later }
def GlobAllUptoCardSaid : Prop := Claim7.holds Tryd.pinned (.plain (OpenSpec.upto globAllSpec)) globAllUptoCard

/-- THE SECOND FORM's CARD OF 'codesearchlaw02.GlobPaths'. -/
def globPathsUptoCard : Claim7 := { stood := { row := globPathsUptoRow, standIns := [], harness := (true, "5d3d0252e247bd11f1067e6fd252c7b87ff9e33c43169388662a0e69f7179664"), looks := false }, kinds := [], alts := [], laidByText := true, laidKinds := [.data, .pinned], laidTests := true, laidLooks := .later }
def GlobPathsUptoCardSaid : Prop := Claim7.holds Tryd.pinned (.plain (OpenSpec.upto globPathsSpec)) globPathsUptoCard

/-- THE SECOND FORM's CARD OF 'codesearchlaw02.GlobParts'. -/
def globPartsUptoCard : Claim7 := { stood := { row := globPartsUptoRow, standIns := [], harness := (true, "5d3d0252e247bd11f1067e6fd252c7b87ff9e33c43169388662a0e69f7179664"), looks := false }, kinds := [], alts := [], laidByText := true, laidKinds := [.data, .pinned], laidTests := true, laidLooks := .later }
def GlobPartsUptoCardSaid : Prop := Claim7.holds Tryd.pinned (.plain (OpenSpec.upto globPartsSpec)) globPartsUptoCard
end Rows
end Go.Proofs.YtdjkmojappakgaaDoor
