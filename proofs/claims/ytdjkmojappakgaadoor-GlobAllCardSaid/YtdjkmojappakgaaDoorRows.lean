/-
  NARROWER THAN 'FOR EVERY INPUT', by the rows' own cells (each row's printed sentence says how): GlobChecks: laid · GlobMatches: laid · GlobPrefix: laid · GlobJoins: laid · GlobAll: laid · GlobPaths: laid · GlobParts: laid.
  DERIVED. THE GIVEN ROWS OF THIS SEAT. 7 by the template 'for every input the law returns true; each argument reads behind the call as it read before'; 0 by the template 'total and deterministic' (their statements: YtdjkmojappakgaaDoorTotals.lean).
  GIVEN WITH THE SEED: the statements are not yours to turn. If you find one false, say at which input.
  Laid BY PROGRAM, IN A SANDBOX (cutbox-rows.mjs): the forced cells as the released guide's own fill.sh prints them over the translation 2541356f249d6705… (all of the seat's roots in one cut). By AI agents, Wed Nov 11 2026. No macro, syntax, notation, axiom, sorry.
-/
import Derived.Test.YtdjkmojappakgaaDoorChecked
import GoSem.PinnedTables
import GoSem.Claim
import GoSem.ClaimJoined
import GoSem.ClaimMapViews
import Derived.JoinedTies
import Derived.KernelRfl
namespace Go.Proofs.YtdjkmojappakgaaDoor
/- THE CELL 'sum', in the pinned program and in every row, IS THE sha256 OF THE DUMP (.gsa) THAT YtdjkmojappakgaaDoorProg.lean LOADS. Nothing in Lean hashes anything: it is a label: what it is worth is what the hold of that sum in a sandbox is worth. -/
noncomputable def Tryd.pinned : Pinned := { name := "ytdjkmojappakgaadoor", sum := "2541356f249d670579ce46c4e61126a06dadfdefd712ecdc2d4b643dac3b0e9e", checked := Tryd.checked }
namespace Rows
def none {H : Type} : Left H := { results := [], args := [] }

/- WHAT THE LISTED PACKAGE-LEVEL VARIABLES READ AS WHEN THE CALL BEGINS. Each datum BY PROGRAM (the guide's laid-datum.mjs) off the statement by which the dump's own 'gosem.cut.vars' lays the variable. In a bare row this is a premise. The card (YtdjkmojappakgaaDoorCards.lean) ties it to the program's text. -/
def laid_unicode_utf8_acceptRanges {H : Type} : DataW H := .agg [.agg [.lit (.int .u8 128), .lit (.int .u8 191)], .agg [.lit (.int .u8 160), .lit (.int .u8 191)], .agg [.lit (.int .u8 128), .lit (.int .u8 159)], .agg [.lit (.int .u8 144), .lit (.int .u8 191)], .agg [.lit (.int .u8 128), .lit (.int .u8 143)], .agg [.lit (.int .u8 0), .lit (.int .u8 0)], .agg [.lit (.int .u8 0), .lit (.int .u8 0)], .agg [.lit (.int .u8 0), .lit (.int .u8 0)], .agg [.lit (.int .u8 0), .lit (.int .u8 0)], .agg [.lit (.int .u8 0), .lit (.int .u8 0)], .agg [.lit (.int .u8 0), .lit (.int .u8 0)], .agg [.lit (.int .u8 0), .lit (.int .u8 0)], .agg [.lit (.int .u8 0), .lit (.int .u8 0)], .agg [.lit (.int .u8 0), .lit (.int .u8 0)], .agg [.lit (.int .u8 0), .lit (.int .u8 0)], .agg [.lit (.int .u8 0), .lit (.int .u8 0)]]
/-- One of Go's own tables, pinned by name: the form's constant. -/
def laid_unicode_utf8_first : DataW Unit := Go.Pinned.utf8First

/-- 'codesearchlaw02.GlobChecks': WHATEVER THE INPUT: true; the input reads as it did. -/
def globChecksSpec : ChangeSpec := { name := "globChecks", fn := fun _ => fun
  | [d] => { results := [.lit (.bool true)], args := [d] }
  | _ => none }
def globChecksRow : OpenClaim := { program := "ytdjkmojappakgaadoor", sum := "2541356f249d670579ce46c4e61126a06dadfdefd712ecdc2d4b643dac3b0e9e", func := "codesearch/codesearchlaw02.GlobChecks", spec := "globChecks", inPlace := ["internal/bytealg.CountString", "internal/bytealg.IndexByteString", "internal/bytealg.IndexString"], named := ["unicode/utf8.first", "unicode/utf8.acceptRanges", "internal/bytealg.MaxLen"], apart := false, laid := [("unicode/utf8.acceptRanges", laid_unicode_utf8_acceptRanges), ("unicode/utf8.first", laid_unicode_utf8_first)] }
def GlobChecksSaid : Prop := globChecksRow.holds Tryd.pinned (OpenSpec.ofChange globChecksSpec)

/-- ITS FALSE NEIGHBOUR: 'it returns false'. Refute it at one input. -/
def globChecksWrong : ChangeSpec := { name := "globChecks", fn := fun _ => fun
  | [d] => { results := [.lit (.bool false)], args := [d] }
  | _ => none }
def GlobChecksWrongFalsely : Prop := globChecksRow.holds Tryd.pinned (OpenSpec.ofChange globChecksWrong)

/-- 'codesearchlaw02.GlobMatches': WHATEVER THE INPUT: true; the input reads as it did. -/
def globMatchesSpec : ChangeSpec := { name := "globMatches", fn := fun _ => fun
  | [d1, d2] => { results := [.lit (.bool true)], args := [d1, d2] }
  | _ => none }
def globMatchesRow : OpenClaim := { program := "ytdjkmojappakgaadoor", sum := "2541356f249d670579ce46c4e61126a06dadfdefd712ecdc2d4b643dac3b0e9e", func := "codesearch/codesearchlaw02.GlobMatches", spec := "globMatches", inPlace := ["internal/bytealg.CountString", "internal/bytealg.IndexByteString", "internal/bytealg.IndexString"], named := ["unicode/utf8.first", "unicode/utf8.acceptRanges", "internal/bytealg.MaxLen"], apart := false, laid := [("unicode/utf8.acceptRanges", laid_unicode_utf8_acceptRanges), ("unicode/utf8.first", laid_unicode_utf8_first)] }
def GlobMatchesSaid : Prop := globMatchesRow.holds Tryd.pinned (OpenSpec.ofChange globMatchesSpec)

/-- ITS FALSE NEIGHBOUR: 'it returns false'. Refute it at one input. -/
def globMatchesWrong : ChangeSpec := { name := "globMatches", fn := fun _ => fun
  | [d1, d2] => { results := [.lit (.bool false)], args := [d1, d2] }
  | _ => none }
def GlobMatchesWrongFalsely : Prop := globMatchesRow.holds Tryd.pinned (OpenSpec.ofChange globMatchesWrong)

/-- 'codesearchlaw02.GlobPrefix': WHATEVER THE INPUT: true; the input reads as it did. -/
def globPrefixSpec : ChangeSpec := { name := "globPrefix", fn := fun _ => fun
  | [d1, d2] => { results := [.lit (.bool true)], args := [d1, d2] }
  | _ => none }
def globPrefixRow : OpenClaim := { program := "ytdjkmojappakgaadoor", sum := "2541356f249d670579ce46c4e61126a06dadfdefd712ecdc2d4b643dac3b0e9e", func := "codesearch/codesearchlaw02.GlobPrefix", spec := "globPrefix", inPlace := ["internal/bytealg.CountString", "internal/bytealg.IndexByteString", "internal/bytealg.IndexString"], named := ["unicode/utf8.first", "unicode/utf8.acceptRanges", "internal/bytealg.MaxLen"], apart := false, laid := [("unicode/utf8.acceptRanges", laid_unicode_utf8_acceptRanges), ("unicode/utf8.first", laid_unicode_utf8_first)] }
def GlobPrefixSaid : Prop := globPrefixRow.holds Tryd.pinned (OpenSpec.ofChange globPrefixSpec)

/-- ITS FALSE NEIGHBOUR: 'it returns false'. Refute it at one input. -/
def globPrefixWrong : ChangeSpec := { name := "globPrefix", fn := fun _ => fun
  | [d1, d2] => { results := [.lit (.bool false)], args := [d1, d2] }
  | _ => none }
def GlobPrefixWrongFalsely : Prop := globPrefixRow.holds Tryd.pinned (OpenSpec.ofChange globPrefixWrong)

/-- 'codesearchlaw02.GlobJoins': WHATEVER THE INPUT: true; the input reads as it did. -/
def globJoinsSpec : ChangeSpec := { name := "globJoins", fn := fun _ => fun
  | [d1, d2] => { results := [.lit (.bool true)], args := [d1, d2] }
  | _ => none }
def globJoinsRow : OpenClaim := { program := "ytdjkmojappakgaadoor", sum := "2541356f249d670579ce46c4e61126a06dadfdefd712ecdc2d4b643dac3b0e9e", func := "codesearch/codesearchlaw02.GlobJoins", spec := "globJoins", inPlace := ["internal/bytealg.CountString", "internal/bytealg.IndexByteString", "internal/bytealg.IndexString"], named := ["unicode/utf8.first", "unicode/utf8.acceptRanges", "internal/bytealg.MaxLen"], apart := false, laid := [("unicode/utf8.acceptRanges", laid_unicode_utf8_acceptRanges), ("unicode/utf8.first", laid_unicode_utf8_first)] }
def GlobJoinsSaid : Prop := globJoinsRow.holds Tryd.pinned (OpenSpec.ofChange globJoinsSpec)

/-- ITS FALSE NEIGHBOUR: 'it returns false'. Refute it at one input. -/
def globJoinsWrong : ChangeSpec := { name := "globJoins", fn := fun _ => fun
  | [d1, d2] => { results := [.lit (.bool false)], args := [d1, d2] }
  | _ => none }
def GlobJoinsWrongFalsely : Prop := globJoinsRow.holds Tryd.pinned (OpenSpec.ofChange globJoinsWrong)

/-- 'codesearchlaw02.GlobAll': WHATEVER THE INPUT: true; the input reads as it did. -/
def globAllSpec : ChangeSpec := { name := "globAll", fn := fun _ => fun
  | [d] => { results := [.lit (.bool true)], args := [d] }
  | _ => none }
def globAllRow : OpenClaim := { program := "ytdjkmojappakgaadoor", sum := "2541356f249d670579ce46c4e61126a06dadfdefd712ecdc2d4b643dac3b0e9e", func := "codesearch/codesearchlaw02.GlobAll", spec := "globAll", inPlace := ["internal/bytealg.CountString", "internal/bytealg.IndexByteString", "internal/bytealg.IndexString"], named := ["unicode/utf8.first", "unicode/utf8.acceptRanges", "internal/bytealg.MaxLen"], apart := false, laid := [("unicode/utf8.acceptRanges", laid_unicode_utf8_acceptRanges), ("unicode/utf8.first", laid_unicode_utf8_first)] }
def GlobAllSaid : Prop := globAllRow.holds Tryd.pinned (OpenSpec.ofChange globAllSpec)

/-- ITS FALSE NEIGHBOUR: 'it returns false'. Refute it at one input. -/
def globAllWrong : ChangeSpec := { name := "globAll", fn := fun _ => fun
  | [d] => { results := [.lit (.bool false)], args := [d] }
  | _ => none }
def GlobAllWrongFalsely : Prop := globAllRow.holds Tryd.pinned (OpenSpec.ofChange globAllWrong)

/-- 'codesearchlaw02.GlobPaths': WHATEVER THE INPUT: true; the input reads as it did. -/
def globPathsSpec : ChangeSpec := { name := "globPaths", fn := fun _ => fun
  | [d1, d2] => { results := [.lit (.bool true)], args := [d1, d2] }
  | _ => none }
def globPathsRow : OpenClaim := { program := "ytdjkmojappakgaadoor", sum := "2541356f249d670579ce46c4e61126a06dadfdefd712ecdc2d4b643dac3b0e9e", func := "codesearch/codesearchlaw02.GlobPaths", spec := "globPaths", inPlace := ["internal/bytealg.CountString", "internal/bytealg.IndexByteString", "internal/bytealg.IndexString"], named := ["unicode/utf8.first", "unicode/utf8.acceptRanges", "internal/bytealg.MaxLen"], apart := false, laid := [("unicode/utf8.acceptRanges", laid_unicode_utf8_acceptRanges), ("unicode/utf8.first", laid_unicode_utf8_first)] }
def GlobPathsSaid : Prop := globPathsRow.holds Tryd.pinned (OpenSpec.ofChange globPathsSpec)

/-- ITS FALSE NEIGHBOUR: 'it returns false'. Refute it at one input. -/
def globPathsWrong : ChangeSpec := { name := "globPaths", fn := fun _ => fun
  | [d1, d2] => { results := [.lit (.bool false)], args := [d1, d2] }
  | _ => none }
def GlobPathsWrongFalsely : Prop := globPathsRow.holds Tryd.pinned (OpenSpec.ofChange globPathsWrong)

/-- 'codesearchlaw02.GlobParts': WHATEVER THE INPUT: true; the input reads as it did. -/
def globPartsSpec : ChangeSpec := { name := "globParts", fn := fun _ => fun
  | [d1, d2] => { results := [.lit (.bool true)], args := [d1, d2] }
  | _ => none }
def globPartsRow : OpenClaim := { program := "ytdjkmojappakgaadoor", sum := "2541356f249d670579ce46c4e61126a06dadfdefd712ecdc2d4b643dac3b0e9e", func := "codesearch/codesearchlaw02.GlobParts", spec := "globParts", inPlace := ["internal/bytealg.CountString", "internal/bytealg.IndexByteString", "internal/bytealg.IndexString"], named := ["unicode/utf8.first", "unicode/utf8.acceptRanges", "internal/bytealg.MaxLen"], apart := false, laid := [("unicode/utf8.acceptRanges", laid_unicode_utf8_acceptRanges), ("unicode/utf8.first", laid_unicode_utf8_first)] }
def GlobPartsSaid : Prop := globPartsRow.holds Tryd.pinned (OpenSpec.ofChange globPartsSpec)

/-- ITS FALSE NEIGHBOUR: 'it returns false'. Refute it at one input. -/
def globPartsWrong : ChangeSpec := { name := "globParts", fn := fun _ => fun
  | [d1, d2] => { results := [.lit (.bool false)], args := [d1, d2] }
  | _ => none }
def GlobPartsWrongFalsely : Prop := globPartsRow.holds Tryd.pinned (OpenSpec.ofChange globPartsWrong)

/- THE SECOND FORM. 'bulk': how many values and letters a reading holds, each counted each time it is reached (what is shared counts as often as it is met; a slice's spare places count too). A statement '..UptoSaid' is the law's where the arguments, and the package variables that the reading takes, are together of bulk at most 1048576: NARROWER than '..Said'. Prove '..Said' where nothing that the law and all that it calls make is longer than what came in: it says more and counts as full. Else prove '..UptoSaid'. A law counts once. -/
mutual
def uptoBulk {H : Type} : DataW H → Nat
  | .lit (.string bytes) => bytes.length + 1
  | .lit _ => 1
  | .nil => 1
  | .ptr d => uptoBulk d + 1
  | .slice elems spare => uptoBulkAll elems + uptoBulkAll spare + 1
  | .agg parts => uptoBulkAll parts + 1
  | .iface _ d => uptoBulk d + 1
  | .map entries => uptoBulkEntries entries + 1
  | .held _ => 1
def uptoBulkAll {H : Type} : List (DataW H) → Nat
  | [] => 0
  | d :: r => uptoBulk d + uptoBulkAll r
def uptoBulkEntries {H : Type} : List (Lit × DataW H) → Nat
  | [] => 0
  | x :: r => uptoBulkEntry x + uptoBulkEntries r
def uptoBulkEntry {H : Type} : Lit × DataW H → Nat
  | (.string bytes, d) => bytes.length + uptoBulk d + 1
  | (_, d) => uptoBulk d + 1
 end
def uptoSmall : (H : Type) → List (DataW H) → Bool := fun _ ds => decide (uptoBulkAll ds ≤ 1048576)
def OpenSpec.upto (s : _root_.Go.ChangeSpec) : _root_.Go.OpenSpec := { _root_.Go.OpenSpec.ofChange s with cond := some uptoSmall }

/-- 'codesearchlaw02.GlobChecks', WHERE WHAT IT READS IS OF BULK AT MOST 1048576: true; the input reads as it did. -/
def globChecksUptoRow : OpenClaim := { program := "ytdjkmojappakgaadoor", sum := "2541356f249d670579ce46c4e61126a06dadfdefd712ecdc2d4b643dac3b0e9e", func := "codesearch/codesearchlaw02.GlobChecks", spec := "globChecks", inPlace := ["internal/bytealg.CountString", "internal/bytealg.IndexByteString", "internal/bytealg.IndexString"], named := ["unicode/utf8.first", "unicode/utf8.acceptRanges", "internal/bytealg.MaxLen"], apart := false, laid := [("unicode/utf8.acceptRanges", laid_unicode_utf8_acceptRanges), ("unicode/utf8.first", laid_unicode_utf8_first)], narrowed := true }
def GlobChecksUptoSaid : Prop := globChecksUptoRow.holds Tryd.pinned (OpenSpec.upto globChecksSpec)

/-- 'codesearchlaw02.GlobMatches', WHERE WHAT IT READS IS OF BULK AT MOST 1048576: true; the input reads as it did. -/
def globMatchesUptoRow : OpenClaim := { program := "ytdjkmojappakgaadoor", sum := "2541356f249d670579ce46c4e61126a06dadfdefd712ecdc2d4b643dac3b0e9e", func := "codesearch/codesearchlaw02.GlobMatches", spec := "globMatches", inPlace := ["internal/bytealg.CountString", "internal/bytealg.IndexByteString", "internal/bytealg.IndexString"], named := ["unicode/utf8.first", "unicode/utf8.acceptRanges", "internal/bytealg.MaxLen"], apart := false, laid := [("unicode/utf8.acceptRanges", laid_unicode_utf8_acceptRanges), ("unicode/utf8.first", laid_unicode_utf8_first)], narrowed := true }
def GlobMatchesUptoSaid : Prop := globMatchesUptoRow.holds Tryd.pinned (OpenSpec.upto globMatchesSpec)

/-- 'codesearchlaw02.GlobPrefix', WHERE WHAT IT READS IS OF BULK AT MOST 1048576: true; the input reads as it did. -/
def globPrefixUptoRow : OpenClaim := { program := "ytdjkmojappakgaadoor", sum := "2541356f249d670579ce46c4e61126a06dadfdefd712ecdc2d4b643dac3b0e9e", func := "codesearch/codesearchlaw02.GlobPrefix", spec := "globPrefix", inPlace := ["internal/bytealg.CountString", "internal/bytealg.IndexByteString", "internal/bytealg.IndexString"], named := ["unicode/utf8.first", "unicode/utf8.acceptRanges", "internal/bytealg.MaxLen"], apart := false, laid := [("unicode/utf8.acceptRanges", laid_unicode_utf8_acceptRanges), ("unicode/utf8.first", laid_unicode_utf8_first)], narrowed := true }
def GlobPrefixUptoSaid : Prop := globPrefixUptoRow.holds Tryd.pinned (OpenSpec.upto globPrefixSpec)

/-- 'codesearchlaw02.GlobJoins', WHERE WHAT IT READS IS OF BULK AT MOST 1048576: true; the input reads as it did. -/
def globJoinsUptoRow : OpenClaim := { program := "ytdjkmojappakgaadoor", sum := "2541356f249d670579ce46c4e61126a06dadfdefd712ecdc2d4b643dac3b0e9e", func := "codesearch/codesearchlaw02.GlobJoins", spec := "globJoins", inPlace := ["internal/bytealg.CountString", "internal/bytealg.IndexByteString", "internal/bytealg.IndexString"], named := ["unicode/utf8.first", "unicode/utf8.acceptRanges", "internal/bytealg.MaxLen"], apart := false, laid := [("unicode/utf8.acceptRanges", laid_unicode_utf8_acceptRanges), ("unicode/utf8.first", laid_unicode_utf8_first)], narrowed := true }
def GlobJoinsUptoSaid : Prop := globJoinsUptoRow.holds Tryd.pinned (OpenSpec.upto globJoinsSpec)

/-- 'codesearchlaw02.GlobAll', WHERE WHAT IT READS IS OF BULK AT MOST 1048576: true; the input reads as it did. -/
def globAllUptoRow : OpenClaim := { program := "ytdjkmojappakgaadoor", sum := "2541356f249d670579ce46c4e61126a06dadfdefd712ecdc2d4b643dac3b0e9e", func := "codesearch/codesearchlaw02.GlobAll", spec := "globAll", inPlace := ["internal/bytealg.CountString", "internal/bytealg.IndexByteString", "internal/bytealg.IndexString"], named := ["unicode/utf8.first", "unicode/utf8.acceptRanges", "internal/bytealg.MaxLen"], apart := false, laid := [("unicode/utf8.acceptRanges", laid_unicode_utf8_acceptRanges), ("unicode/utf8.first", laid_unicode_utf8_first)], narrowed := true }
def GlobAllUptoSaid : Prop := globAllUptoRow.holds Tryd.pinned (OpenSpec.upto globAllSpec)

/-- 'codesearchlaw02.GlobPaths', WHERE WHAT IT READS IS OF BULK AT MOST 1048576: true; the input reads as it did. -/
def globPathsUptoRow : OpenClaim := { program := "ytdjkmojappakgaadoor", sum := "2541356f249d670579ce46c4e61126a06dadfdefd712ecdc2d4b643dac3b0e9e", func := "codesearch/codesearchlaw02.GlobPaths", spec := "globPaths", inPlace := ["internal/bytealg.CountString", "internal/bytealg.IndexByteString", "internal/bytealg.IndexString"], named := ["unicode/utf8.first", "unicode/utf8.acceptRanges", "internal/bytealg.MaxLen"], apart := false, laid := [("unicode/utf8.acceptRanges", laid_unicode_utf8_acceptRanges), ("unicode/utf8.first", laid_unicode_utf8_first)], narrowed := true }
def GlobPathsUptoSaid : Prop := globPathsUptoRow.holds Tryd.pinned (OpenSpec.upto globPathsSpec)

/-- 'codesearchlaw02.GlobParts', WHERE WHAT IT READS IS OF BULK AT MOST 1048576: true; the input reads as it did. -/
def globPartsUptoRow : OpenClaim := { program := "ytdjkmojappakgaadoor", sum := "2541356f249d670579ce46c4e61126a06dadfdefd712ecdc2d4b643dac3b0e9e", func := "codesearch/codesearchlaw02.GlobParts", spec := "globParts", inPlace := ["internal/bytealg.CountString", "internal/bytealg.IndexByteString", "internal/bytealg.IndexString"], named := ["unicode/utf8.first", "unicode/utf8.acceptRanges", "internal/bytealg.MaxLen"], apart := false, laid := [("unicode/utf8.acceptRanges", laid_unicode_utf8_acceptRanges), ("unicode/utf8.first", laid_unicode_utf8_first)], narrowed := true }
def GlobPartsUptoSaid : Prop := globPartsUptoRow.holds Tryd.pinned (OpenSpec.upto globPartsSpec)

end Rows
end Go.Proofs.YtdjkmojappakgaaDoor
