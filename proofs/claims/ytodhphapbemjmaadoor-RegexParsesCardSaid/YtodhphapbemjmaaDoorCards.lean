/-
  DERIVED. GIVEN WITH THE SEED: THE CARDS: each row of YtodhphapbemjmaaDoorRows.lean that lists a variable, with what it lists TIED to the program's text (the seventh form; the later family's looks); each row that meets fmt, with fmt's text TOLD by the authors' own Lean function (tested against real Go, not proved from fmt's source: count such statements apart). THE CARD IS WHAT COUNTS. Prove the row's statement (the work); the ties are given (YtodhphapbemjmaaDoorTie.lean); close each card by the builder's one call (the guide's Derived/Test/ToyasCard.lean, 'card_holds'). Laid BY PROGRAM, IN A SANDBOX (cutbox-door.mjs). By AI agents, Wed Nov 11 2026. No macro, syntax, notation, axiom, sorry.
-/
import Derived.Test.YtodhphapbemjmaaDoorRows
import GoSem.ClaimSeven
namespace Go.Proofs.YtodhphapbemjmaaDoor
namespace Rows

/-- THE TIED CARD OF 'codesearchlaw08.RegexChecks'. -/
def regexChecksCard : Claim7 := { stood := { row := regexChecksRow, standIns := [], harness := (true, "34cf18aa6641c1e949fa58b548a1ba2c5f3971a8fbbc4454313d2787d83bf2bd"), looks := false }, kinds := [], alts := [], laidByText := true, laidKinds := [.data, .data, .data], laidTests := true, laidLooks := .later }
def RegexChecksCardSaid : Prop := Claim7.holds Tryd.pinned (.plain (OpenSpec.ofChange regexChecksSpec)) regexChecksCard

/-- THE TIED CARD OF 'codesearchlaw08.RegexParses'. -/
def regexParsesCard : Claim7 := { stood := { row := regexParsesRow, standIns := [], harness := (true, "34cf18aa6641c1e949fa58b548a1ba2c5f3971a8fbbc4454313d2787d83bf2bd"), looks := false }, kinds := [], alts := [], laidByText := true, laidKinds := [.data, .data, .data], laidTests := true, laidLooks := .later }
def RegexParsesCardSaid : Prop := Claim7.holds Tryd.pinned (.plain (OpenSpec.ofChange regexParsesSpec)) regexParsesCard

/-- THE TIED CARD OF 'codesearchlaw08.RegexPrints'. -/
def regexPrintsCard : Claim7 := { stood := { row := regexPrintsRow, standIns := [], harness := (true, "34cf18aa6641c1e949fa58b548a1ba2c5f3971a8fbbc4454313d2787d83bf2bd"), looks := false }, kinds := [], alts := [], laidByText := true, laidKinds := [.data, .data, .data], laidTests := true, laidLooks := .later }
def RegexPrintsCardSaid : Prop := Claim7.holds Tryd.pinned (.plain (OpenSpec.ofChange regexPrintsSpec)) regexPrintsCard

/-- THE TIED CARD OF 'codesearchlaw08.RegexFolds'. -/
def regexFoldsCard : Claim7 := { stood := { row := regexFoldsRow, standIns := [], harness := (true, "34cf18aa6641c1e949fa58b548a1ba2c5f3971a8fbbc4454313d2787d83bf2bd"), looks := false }, kinds := [], alts := [], laidByText := true, laidKinds := [.data, .data, .data], laidTests := true, laidLooks := .later }
def RegexFoldsCardSaid : Prop := Claim7.holds Tryd.pinned (.plain (OpenSpec.ofChange regexFoldsSpec)) regexFoldsCard

/-- THE TIED CARD OF 'codesearchlaw08.RegexBack'. -/
def regexBackCard : Claim7 := { stood := { row := regexBackRow, standIns := [], harness := (true, "34cf18aa6641c1e949fa58b548a1ba2c5f3971a8fbbc4454313d2787d83bf2bd"), looks := false }, kinds := [], alts := [], laidByText := true, laidKinds := [.data, .data, .data], laidTests := true, laidLooks := .later }
def RegexBackCardSaid : Prop := Claim7.holds Tryd.pinned (.plain (OpenSpec.ofChange regexBackSpec)) regexBackCard

/-- THE TIED CARD OF 'codesearchlaw08.RegexAgain'. -/
def regexAgainCard : Claim7 := { stood := { row := regexAgainRow, standIns := [], harness := (true, "34cf18aa6641c1e949fa58b548a1ba2c5f3971a8fbbc4454313d2787d83bf2bd"), looks := false }, kinds := [], alts := [], laidByText := true, laidKinds := [.data, .data, .data], laidTests := true, laidLooks := .later }
def RegexAgainCardSaid : Prop := Claim7.holds Tryd.pinned (.plain (OpenSpec.ofChange regexAgainSpec)) regexAgainCard

/-- THE TIED CARD OF 'codesearchlaw08.RegexFolding'. -/
def regexFoldingCard : Claim7 := { stood := { row := regexFoldingRow, standIns := [], harness := (true, "34cf18aa6641c1e949fa58b548a1ba2c5f3971a8fbbc4454313d2787d83bf2bd"), looks := false }, kinds := [], alts := [], laidByText := true, laidKinds := [.data, .data, .data], laidTests := true, laidLooks := .later }
def RegexFoldingCardSaid : Prop := Claim7.holds Tryd.pinned (.plain (OpenSpec.ofChange regexFoldingSpec)) regexFoldingCard

/-- THE SECOND FORM's CARD OF 'codesearchlaw08.RegexChecks'. -/
def regexChecksUptoCard : Claim7 := { stood := { row := regexChecksUptoRow, standIns := [], harness := (true, "34cf18aa6641c1e949fa58b548a1ba2c5f3971a8fbbc4454313d2787d83bf2bd"), looks := false }, kinds := [], alts := [], laidByText := true, laidKinds := [.data, .data, .data], laidTests := true, laidLooks := .later }
def RegexChecksUptoCardSaid : Prop := Claim7.holds Tryd.pinned (.plain (OpenSpec.upto regexChecksSpec)) regexChecksUptoCard

/-- THE SECOND FORM's CARD OF 'codesearchlaw08.RegexParses'. -/
def regexParsesUptoCard : Claim7 := { stood := { row := regexParsesUptoRow, standIns := [], harness := (true, "34cf18aa6641c1e949fa58b548a1ba2c5f3971a8fbbc4454313d2787d83bf2bd"), looks := false }, kinds := [], alts := [], laidByText := true, laidKinds := [.data, .data, .data], laidTests := true, laidLooks := .later }
def RegexParsesUptoCardSaid : Prop := Claim7.holds Tryd.pinned (.plain (OpenSpec.upto regexParsesSpec)) regexParsesUptoCard

/-- THE SECOND FORM's CARD OF 'codesearchlaw08.RegexPrints'. -/
def regexPrintsUptoCard : Claim7 := { stood := { row := regexPrintsUptoRow, standIns := [], harness := (true, "34cf18aa6641c1e949fa58b548a1ba2c5f3971a8fbbc4454313d2787d83bf2bd"), looks := false }, kinds := [], alts := [], laidByText := true, laidKinds := [.data, .data, .data], laidTests := true, laidLooks := .later }
def RegexPrintsUptoCardSaid : Prop := Claim7.holds Tryd.pinned (.plain (OpenSpec.upto regexPrintsSpec)) regexPrintsUptoCard

/-- THE SECOND FORM's CARD OF 'codesearchlaw08.RegexFolds'. -/
def regexFoldsUptoCard : Claim7 := { stood := { row := regexFoldsUptoRow, standIns := [], harness := (true, "34cf18aa6641c1e949fa58b548a1ba2c5f3971a8fbbc4454313d2787d83bf2bd"), looks := false }, kinds := [], alts := [], laidByText := true, laidKinds := [.data, .data, .data], laidTests := true, laidLooks := .later }
def RegexFoldsUptoCardSaid : Prop := Claim7.holds Tryd.pinned (.plain (OpenSpec.upto regexFoldsSpec)) regexFoldsUptoCard

/-- THE SECOND FORM's CARD OF 'codesearchlaw08.RegexBack'. -/
def regexBackUptoCard : Claim7 := { stood := { row := regexBackUptoRow, standIns := [], harness := (true, "34cf18aa6641c1e949fa58b548a1ba2c5f3971a8fbbc4454313d2787d83bf2bd"), looks := false }, kinds := [], alts := [], laidByText := true, laidKinds := [.data, .data, .data], laidTests := true, laidLooks := .later }
def RegexBackUptoCardSaid : Prop := Claim7.holds Tryd.pinned (.plain (OpenSpec.upto regexBackSpec)) regexBackUptoCard

/-- THE SECOND FORM's CARD OF 'codesearchlaw08.RegexAgain'. -/
def regexAgainUptoCard : Claim7 := { stood := { row := regexAgainUptoRow, standIns := [], harness := (true, "34cf18aa6641c1e949fa58b548a1ba2c5f3971a8fbbc4454313d2787d83bf2bd"), looks := false }, kinds := [], alts := [], laidByText := true, laidKinds := [.data, .data, .data], laidTests := true, laidLooks := .later }
def RegexAgainUptoCardSaid : Prop := Claim7.holds Tryd.pinned (.plain (OpenSpec.upto regexAgainSpec)) regexAgainUptoCard

/-- THE SECOND FORM's CARD OF 'codesearchlaw08.RegexFolding'. -/
def regexFoldingUptoCard : Claim7 := { stood := { row := regexFoldingUptoRow, standIns := [], harness := (true, "34cf18aa6641c1e949fa58b548a1ba2c5f3971a8fbbc4454313d2787d83bf2bd"), looks := false }, kinds := [], alts := [], laidByText := true, laidKinds := [.data, .data, .data], laidTests := true, laidLooks := .later }
def RegexFoldingUptoCardSaid : Prop := Claim7.holds Tryd.pinned (.plain (OpenSpec.upto regexFoldingSpec)) regexFoldingUptoCard
end Rows
end Go.Proofs.YtodhphapbemjmaaDoor
