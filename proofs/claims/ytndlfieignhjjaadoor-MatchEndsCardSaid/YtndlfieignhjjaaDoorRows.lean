/-
  NARROWER THAN 'FOR EVERY INPUT', by the rows' own cells (each row's printed sentence says how): MatchPaths: laid · MatchHosts: laid · MatchBelow: laid · MatchNames: laid · MatchWilds: laid · MatchCalls: laid · MatchEnds: laid · MatchNot: laid · MatchFields: laid.
  DERIVED. THE GIVEN ROWS OF THIS SEAT. 9 by the template 'for every input the law returns true; each argument reads behind the call as it read before'; 0 by the template 'total and deterministic' (their statements: YtndlfieignhjjaaDoorTotals.lean).
  GIVEN WITH THE SEED: the statements are not yours to turn. If you find one false, say at which input.
  Laid BY PROGRAM, IN A SANDBOX (cutbox-rows.mjs): the forced cells as the released guide's own fill.sh prints them over the translation f682675fc13474ca… (all of the seat's roots in one cut). By AI agents, Wed Nov 11 2026. No macro, syntax, notation, axiom, sorry.
-/
import Derived.Test.YtndlfieignhjjaaDoorChecked
import GoSem.PinnedTables
import GoSem.Claim
import GoSem.ClaimJoined
import GoSem.ClaimMapViews
import Derived.JoinedTies
import Derived.KernelRfl
namespace Go.Proofs.YtndlfieignhjjaaDoor
/- THE CELL 'sum', in the pinned program and in every row, IS THE sha256 OF THE DUMP (.gsa) THAT YtndlfieignhjjaaDoorProg.lean LOADS. Nothing in Lean hashes anything: it is a label: what it is worth is what the hold of that sum in a sandbox is worth. -/
noncomputable def Tryd.pinned : Pinned := { name := "ytndlfieignhjjaadoor", sum := "f682675fc13474cac35a2a24a0284e4a6f215cd6f62f7d8867d6018c6496a980", checked := Tryd.checked }
namespace Rows
def none {H : Type} : Left H := { results := [], args := [] }

/- WHAT THE LISTED PACKAGE-LEVEL VARIABLES READ AS WHEN THE CALL BEGINS. Each datum BY PROGRAM (the guide's laid-datum.mjs) off the statement by which the dump's own 'gosem.cut.vars' lays the variable. In a bare row this is a premise. The card (YtndlfieignhjjaaDoorCards.lean) ties it to the program's text. -/
def laid_unicode_utf8_acceptRanges {H : Type} : DataW H := .agg [.agg [.lit (.int .u8 128), .lit (.int .u8 191)], .agg [.lit (.int .u8 160), .lit (.int .u8 191)], .agg [.lit (.int .u8 128), .lit (.int .u8 159)], .agg [.lit (.int .u8 144), .lit (.int .u8 191)], .agg [.lit (.int .u8 128), .lit (.int .u8 143)], .agg [.lit (.int .u8 0), .lit (.int .u8 0)], .agg [.lit (.int .u8 0), .lit (.int .u8 0)], .agg [.lit (.int .u8 0), .lit (.int .u8 0)], .agg [.lit (.int .u8 0), .lit (.int .u8 0)], .agg [.lit (.int .u8 0), .lit (.int .u8 0)], .agg [.lit (.int .u8 0), .lit (.int .u8 0)], .agg [.lit (.int .u8 0), .lit (.int .u8 0)], .agg [.lit (.int .u8 0), .lit (.int .u8 0)], .agg [.lit (.int .u8 0), .lit (.int .u8 0)], .agg [.lit (.int .u8 0), .lit (.int .u8 0)], .agg [.lit (.int .u8 0), .lit (.int .u8 0)]]
/-- One of Go's own tables, pinned by name: the form's constant. -/
def laid_unicode_utf8_first : DataW Unit := Go.Pinned.utf8First

/-- 'flumelaw15.MatchPaths': WHATEVER THE INPUT: true; the input reads as it did. -/
def matchPathsSpec : ChangeSpec := { name := "matchPaths", fn := fun _ => fun
  | [d1, d2, d3] => { results := [.lit (.bool true)], args := [d1, d2, d3] }
  | _ => none }
def matchPathsRow : OpenClaim := { program := "ytndlfieignhjjaadoor", sum := "f682675fc13474cac35a2a24a0284e4a6f215cd6f62f7d8867d6018c6496a980", func := "flume/flumelaw15.MatchPaths", spec := "matchPaths", inPlace := ["internal/bytealg.IndexByteString", "internal/bytealg.IndexString"], named := ["internal/bytealg.MaxLen", "unicode/utf8.first", "unicode/utf8.acceptRanges"], apart := false, laid := [("unicode/utf8.acceptRanges", laid_unicode_utf8_acceptRanges), ("unicode/utf8.first", laid_unicode_utf8_first)] }
def MatchPathsSaid : Prop := matchPathsRow.holds Tryd.pinned (OpenSpec.ofChange matchPathsSpec)

/-- ITS FALSE NEIGHBOUR: 'it returns false'. Refute it at one input. -/
def matchPathsWrong : ChangeSpec := { name := "matchPaths", fn := fun _ => fun
  | [d1, d2, d3] => { results := [.lit (.bool false)], args := [d1, d2, d3] }
  | _ => none }
def MatchPathsWrongFalsely : Prop := matchPathsRow.holds Tryd.pinned (OpenSpec.ofChange matchPathsWrong)

/-- 'flumelaw15.MatchHosts': WHATEVER THE INPUT: true; the input reads as it did. -/
def matchHostsSpec : ChangeSpec := { name := "matchHosts", fn := fun _ => fun
  | [d1, d2] => { results := [.lit (.bool true)], args := [d1, d2] }
  | _ => none }
def matchHostsRow : OpenClaim := { program := "ytndlfieignhjjaadoor", sum := "f682675fc13474cac35a2a24a0284e4a6f215cd6f62f7d8867d6018c6496a980", func := "flume/flumelaw15.MatchHosts", spec := "matchHosts", inPlace := ["internal/bytealg.IndexByteString", "internal/bytealg.IndexString"], named := ["internal/bytealg.MaxLen", "unicode/utf8.first", "unicode/utf8.acceptRanges"], apart := false, laid := [("unicode/utf8.acceptRanges", laid_unicode_utf8_acceptRanges), ("unicode/utf8.first", laid_unicode_utf8_first)] }
def MatchHostsSaid : Prop := matchHostsRow.holds Tryd.pinned (OpenSpec.ofChange matchHostsSpec)

/-- ITS FALSE NEIGHBOUR: 'it returns false'. Refute it at one input. -/
def matchHostsWrong : ChangeSpec := { name := "matchHosts", fn := fun _ => fun
  | [d1, d2] => { results := [.lit (.bool false)], args := [d1, d2] }
  | _ => none }
def MatchHostsWrongFalsely : Prop := matchHostsRow.holds Tryd.pinned (OpenSpec.ofChange matchHostsWrong)

/-- 'flumelaw15.MatchBelow': WHATEVER THE INPUT: true; the input reads as it did. -/
def matchBelowSpec : ChangeSpec := { name := "matchBelow", fn := fun _ => fun
  | [d1, d2, d3] => { results := [.lit (.bool true)], args := [d1, d2, d3] }
  | _ => none }
def matchBelowRow : OpenClaim := { program := "ytndlfieignhjjaadoor", sum := "f682675fc13474cac35a2a24a0284e4a6f215cd6f62f7d8867d6018c6496a980", func := "flume/flumelaw15.MatchBelow", spec := "matchBelow", inPlace := ["internal/bytealg.IndexByteString", "internal/bytealg.IndexString"], named := ["internal/bytealg.MaxLen", "unicode/utf8.first", "unicode/utf8.acceptRanges"], apart := false, laid := [("unicode/utf8.acceptRanges", laid_unicode_utf8_acceptRanges), ("unicode/utf8.first", laid_unicode_utf8_first)] }
def MatchBelowSaid : Prop := matchBelowRow.holds Tryd.pinned (OpenSpec.ofChange matchBelowSpec)

/-- ITS FALSE NEIGHBOUR: 'it returns false'. Refute it at one input. -/
def matchBelowWrong : ChangeSpec := { name := "matchBelow", fn := fun _ => fun
  | [d1, d2, d3] => { results := [.lit (.bool false)], args := [d1, d2, d3] }
  | _ => none }
def MatchBelowWrongFalsely : Prop := matchBelowRow.holds Tryd.pinned (OpenSpec.ofChange matchBelowWrong)

/-- 'flumelaw15.MatchNames': WHATEVER THE INPUT: true; the input reads as it did. -/
def matchNamesSpec : ChangeSpec := { name := "matchNames", fn := fun _ => fun
  | [d1, d2, d3] => { results := [.lit (.bool true)], args := [d1, d2, d3] }
  | _ => none }
def matchNamesRow : OpenClaim := { program := "ytndlfieignhjjaadoor", sum := "f682675fc13474cac35a2a24a0284e4a6f215cd6f62f7d8867d6018c6496a980", func := "flume/flumelaw15.MatchNames", spec := "matchNames", inPlace := ["internal/bytealg.IndexByteString", "internal/bytealg.IndexString"], named := ["internal/bytealg.MaxLen", "unicode/utf8.first", "unicode/utf8.acceptRanges"], apart := false, laid := [("unicode/utf8.acceptRanges", laid_unicode_utf8_acceptRanges), ("unicode/utf8.first", laid_unicode_utf8_first)] }
def MatchNamesSaid : Prop := matchNamesRow.holds Tryd.pinned (OpenSpec.ofChange matchNamesSpec)

/-- ITS FALSE NEIGHBOUR: 'it returns false'. Refute it at one input. -/
def matchNamesWrong : ChangeSpec := { name := "matchNames", fn := fun _ => fun
  | [d1, d2, d3] => { results := [.lit (.bool false)], args := [d1, d2, d3] }
  | _ => none }
def MatchNamesWrongFalsely : Prop := matchNamesRow.holds Tryd.pinned (OpenSpec.ofChange matchNamesWrong)

/-- 'flumelaw15.MatchWilds': WHATEVER THE INPUT: true; the input reads as it did. -/
def matchWildsSpec : ChangeSpec := { name := "matchWilds", fn := fun _ => fun
  | [d1, d2, d3] => { results := [.lit (.bool true)], args := [d1, d2, d3] }
  | _ => none }
def matchWildsRow : OpenClaim := { program := "ytndlfieignhjjaadoor", sum := "f682675fc13474cac35a2a24a0284e4a6f215cd6f62f7d8867d6018c6496a980", func := "flume/flumelaw15.MatchWilds", spec := "matchWilds", inPlace := ["internal/bytealg.IndexByteString", "internal/bytealg.IndexString"], named := ["internal/bytealg.MaxLen", "unicode/utf8.first", "unicode/utf8.acceptRanges"], apart := false, laid := [("unicode/utf8.acceptRanges", laid_unicode_utf8_acceptRanges), ("unicode/utf8.first", laid_unicode_utf8_first)] }
def MatchWildsSaid : Prop := matchWildsRow.holds Tryd.pinned (OpenSpec.ofChange matchWildsSpec)

/-- ITS FALSE NEIGHBOUR: 'it returns false'. Refute it at one input. -/
def matchWildsWrong : ChangeSpec := { name := "matchWilds", fn := fun _ => fun
  | [d1, d2, d3] => { results := [.lit (.bool false)], args := [d1, d2, d3] }
  | _ => none }
def MatchWildsWrongFalsely : Prop := matchWildsRow.holds Tryd.pinned (OpenSpec.ofChange matchWildsWrong)

/-- 'flumelaw15.MatchCalls': WHATEVER THE INPUT: true; the input reads as it did. -/
def matchCallsSpec : ChangeSpec := { name := "matchCalls", fn := fun _ => fun
  | [d1, d2, d3] => { results := [.lit (.bool true)], args := [d1, d2, d3] }
  | _ => none }
def matchCallsRow : OpenClaim := { program := "ytndlfieignhjjaadoor", sum := "f682675fc13474cac35a2a24a0284e4a6f215cd6f62f7d8867d6018c6496a980", func := "flume/flumelaw15.MatchCalls", spec := "matchCalls", inPlace := ["internal/bytealg.IndexByteString", "internal/bytealg.IndexString"], named := ["internal/bytealg.MaxLen", "unicode/utf8.first", "unicode/utf8.acceptRanges"], apart := false, laid := [("unicode/utf8.acceptRanges", laid_unicode_utf8_acceptRanges), ("unicode/utf8.first", laid_unicode_utf8_first)] }
def MatchCallsSaid : Prop := matchCallsRow.holds Tryd.pinned (OpenSpec.ofChange matchCallsSpec)

/-- ITS FALSE NEIGHBOUR: 'it returns false'. Refute it at one input. -/
def matchCallsWrong : ChangeSpec := { name := "matchCalls", fn := fun _ => fun
  | [d1, d2, d3] => { results := [.lit (.bool false)], args := [d1, d2, d3] }
  | _ => none }
def MatchCallsWrongFalsely : Prop := matchCallsRow.holds Tryd.pinned (OpenSpec.ofChange matchCallsWrong)

/-- 'flumelaw15.MatchEnds': WHATEVER THE INPUT: true; the input reads as it did. -/
def matchEndsSpec : ChangeSpec := { name := "matchEnds", fn := fun _ => fun
  | [d1, d2, d3, d4] => { results := [.lit (.bool true)], args := [d1, d2, d3, d4] }
  | _ => none }
def matchEndsRow : OpenClaim := { program := "ytndlfieignhjjaadoor", sum := "f682675fc13474cac35a2a24a0284e4a6f215cd6f62f7d8867d6018c6496a980", func := "flume/flumelaw15.MatchEnds", spec := "matchEnds", inPlace := ["internal/bytealg.IndexByteString", "internal/bytealg.IndexString"], unfollowed := true, recurses := true, named := ["internal/bytealg.MaxLen", "unicode/utf8.first", "unicode/utf8.acceptRanges"], apart := false, laid := [("unicode/utf8.acceptRanges", laid_unicode_utf8_acceptRanges), ("unicode/utf8.first", laid_unicode_utf8_first)] }
def MatchEndsSaid : Prop := matchEndsRow.holds Tryd.pinned (OpenSpec.ofChange matchEndsSpec)

/-- ITS FALSE NEIGHBOUR: 'it returns false'. Refute it at one input. -/
def matchEndsWrong : ChangeSpec := { name := "matchEnds", fn := fun _ => fun
  | [d1, d2, d3, d4] => { results := [.lit (.bool false)], args := [d1, d2, d3, d4] }
  | _ => none }
def MatchEndsWrongFalsely : Prop := matchEndsRow.holds Tryd.pinned (OpenSpec.ofChange matchEndsWrong)

/-- 'flumelaw15.MatchNot': WHATEVER THE INPUT: true; the input reads as it did. -/
def matchNotSpec : ChangeSpec := { name := "matchNot", fn := fun _ => fun
  | [d1, d2, d3] => { results := [.lit (.bool true)], args := [d1, d2, d3] }
  | _ => none }
def matchNotRow : OpenClaim := { program := "ytndlfieignhjjaadoor", sum := "f682675fc13474cac35a2a24a0284e4a6f215cd6f62f7d8867d6018c6496a980", func := "flume/flumelaw15.MatchNot", spec := "matchNot", inPlace := ["internal/bytealg.IndexByteString", "internal/bytealg.IndexString"], unfollowed := true, recurses := true, named := ["internal/bytealg.MaxLen", "unicode/utf8.first", "unicode/utf8.acceptRanges"], apart := false, laid := [("unicode/utf8.acceptRanges", laid_unicode_utf8_acceptRanges), ("unicode/utf8.first", laid_unicode_utf8_first)] }
def MatchNotSaid : Prop := matchNotRow.holds Tryd.pinned (OpenSpec.ofChange matchNotSpec)

/-- ITS FALSE NEIGHBOUR: 'it returns false'. Refute it at one input. -/
def matchNotWrong : ChangeSpec := { name := "matchNot", fn := fun _ => fun
  | [d1, d2, d3] => { results := [.lit (.bool false)], args := [d1, d2, d3] }
  | _ => none }
def MatchNotWrongFalsely : Prop := matchNotRow.holds Tryd.pinned (OpenSpec.ofChange matchNotWrong)

/-- 'flumelaw15.MatchFields': WHATEVER THE INPUT: true; the input reads as it did. -/
def matchFieldsSpec : ChangeSpec := { name := "matchFields", fn := fun _ => fun
  | [d1, d2] => { results := [.lit (.bool true)], args := [d1, d2] }
  | _ => none }
def matchFieldsRow : OpenClaim := { program := "ytndlfieignhjjaadoor", sum := "f682675fc13474cac35a2a24a0284e4a6f215cd6f62f7d8867d6018c6496a980", func := "flume/flumelaw15.MatchFields", spec := "matchFields", inPlace := ["internal/bytealg.IndexByteString", "internal/bytealg.IndexString"], unfollowed := true, recurses := true, named := ["internal/bytealg.MaxLen", "unicode/utf8.first", "unicode/utf8.acceptRanges"], apart := false, laid := [("unicode/utf8.acceptRanges", laid_unicode_utf8_acceptRanges), ("unicode/utf8.first", laid_unicode_utf8_first)] }
def MatchFieldsSaid : Prop := matchFieldsRow.holds Tryd.pinned (OpenSpec.ofChange matchFieldsSpec)

/-- ITS FALSE NEIGHBOUR: 'it returns false'. Refute it at one input. -/
def matchFieldsWrong : ChangeSpec := { name := "matchFields", fn := fun _ => fun
  | [d1, d2] => { results := [.lit (.bool false)], args := [d1, d2] }
  | _ => none }
def MatchFieldsWrongFalsely : Prop := matchFieldsRow.holds Tryd.pinned (OpenSpec.ofChange matchFieldsWrong)

/- THE SECOND FORM. 'bulk': how many values and letters a reading holds, each counted each time it is reached (what is shared counts as often as it is met; a slice's spare places count too). A statement '..UptoSaid' is the law's where the arguments, and the package variables that the reading takes, are together of bulk at most 1048576: NARROWER than '..Said'. Prove '..Said' where nothing that the law and all that it calls make is longer than what came in: it says more and counts as full. Else prove '..UptoSaid'. A law counts once. -/
mutual
def uptoBulk {H : Type} : DataW H → Nat
  | .lit (.string bytes) => bytes.length + 1
  | .lit _ => 1
  | .nil => 1
  | .ptr d => uptoBulk d + 1
  | .slice elems spare => uptoBulkAll elems + uptoBulkAll spare + 1
  | .agg parts => uptoBulkAll parts + 1
  | .iface _ d => uptoBulk d + 1
  | .map entries => uptoBulkEntries entries + 1
  | .held _ => 1
def uptoBulkAll {H : Type} : List (DataW H) → Nat
  | [] => 0
  | d :: r => uptoBulk d + uptoBulkAll r
def uptoBulkEntries {H : Type} : List (Lit × DataW H) → Nat
  | [] => 0
  | x :: r => uptoBulkEntry x + uptoBulkEntries r
def uptoBulkEntry {H : Type} : Lit × DataW H → Nat
  | (.string bytes, d) => bytes.length + uptoBulk d + 1
  | (_, d) => uptoBulk d + 1
 end
def uptoSmall : (H : Type) → List (DataW H) → Bool := fun _ ds => decide (uptoBulkAll ds ≤ 1048576)
def OpenSpec.upto (s : _root_.Go.ChangeSpec) : _root_.Go.OpenSpec := { _root_.Go.OpenSpec.ofChange s with cond := some uptoSmall }

/-- 'flumelaw15.MatchPaths', WHERE WHAT IT READS IS OF BULK AT MOST 1048576: true; the input reads as it did. -/
def matchPathsUptoRow : OpenClaim := { program := "ytndlfieignhjjaadoor", sum := "f682675fc13474cac35a2a24a0284e4a6f215cd6f62f7d8867d6018c6496a980", func := "flume/flumelaw15.MatchPaths", spec := "matchPaths", inPlace := ["internal/bytealg.IndexByteString", "internal/bytealg.IndexString"], named := ["internal/bytealg.MaxLen", "unicode/utf8.first", "unicode/utf8.acceptRanges"], apart := false, laid := [("unicode/utf8.acceptRanges", laid_unicode_utf8_acceptRanges), ("unicode/utf8.first", laid_unicode_utf8_first)], narrowed := true }
def MatchPathsUptoSaid : Prop := matchPathsUptoRow.holds Tryd.pinned (OpenSpec.upto matchPathsSpec)

/-- 'flumelaw15.MatchHosts', WHERE WHAT IT READS IS OF BULK AT MOST 1048576: true; the input reads as it did. -/
def matchHostsUptoRow : OpenClaim := { program := "ytndlfieignhjjaadoor", sum := "f682675fc13474cac35a2a24a0284e4a6f215cd6f62f7d8867d6018c6496a980", func := "flume/flumelaw15.MatchHosts", spec := "matchHosts", inPlace := ["internal/bytealg.IndexByteString", "internal/bytealg.IndexString"], named := ["internal/bytealg.MaxLen", "unicode/utf8.first", "unicode/utf8.acceptRanges"], apart := false, laid := [("unicode/utf8.acceptRanges", laid_unicode_utf8_acceptRanges), ("unicode/utf8.first", laid_unicode_utf8_first)], narrowed := true }
def MatchHostsUptoSaid : Prop := matchHostsUptoRow.holds Tryd.pinned (OpenSpec.upto matchHostsSpec)

/-- 'flumelaw15.MatchBelow', WHERE WHAT IT READS IS OF BULK AT MOST 1048576: true; the input reads as it did. -/
def matchBelowUptoRow : OpenClaim := { program := "ytndlfieignhjjaadoor", sum := "f682675fc13474cac35a2a24a0284e4a6f215cd6f62f7d8867d6018c6496a980", func := "flume/flumelaw15.MatchBelow", spec := "matchBelow", inPlace := ["internal/bytealg.IndexByteString", "internal/bytealg.IndexString"], named := ["internal/bytealg.MaxLen", "unicode/utf8.first", "unicode/utf8.acceptRanges"], apart := false, laid := [("unicode/utf8.acceptRanges", laid_unicode_utf8_acceptRanges), ("unicode/utf8.first", laid_unicode_utf8_first)], narrowed := true }
def MatchBelowUptoSaid : Prop := matchBelowUptoRow.holds Tryd.pinned (OpenSpec.upto matchBelowSpec)

/-- 'flumelaw15.MatchNames', WHERE WHAT IT READS IS OF BULK AT MOST 1048576: true; the input reads as it did. -/
def matchNamesUptoRow : OpenClaim := { program := "ytndlfieignhjjaadoor", sum := "f682675fc13474cac35a2a24a0284e4a6f215cd6f62f7d8867d6018c6496a980", func := "flume/flumelaw15.MatchNames", spec := "matchNames", inPlace := ["internal/bytealg.IndexByteString", "internal/bytealg.IndexString"], named := ["internal/bytealg.MaxLen", "unicode/utf8.first", "unicode/utf8.acceptRanges"], apart := false, laid := [("unicode/utf8.acceptRanges", laid_unicode_utf8_acceptRanges), ("unicode/utf8.first", laid_unicode_utf8_first)], narrowed := true }
def MatchNamesUptoSaid : Prop := matchNamesUptoRow.holds Tryd.pinned (OpenSpec.upto matchNamesSpec)

/-- 'flumelaw15.MatchWilds', WHERE WHAT IT READS IS OF BULK AT MOST 1048576: true; the input reads as it did. -/
def matchWildsUptoRow : OpenClaim := { program := "ytndlfieignhjjaadoor", sum := "f682675fc13474cac35a2a24a0284e4a6f215cd6f62f7d8867d6018c6496a980", func := "flume/flumelaw15.MatchWilds", spec := "matchWilds", inPlace := ["internal/bytealg.IndexByteString", "internal/bytealg.IndexString"], named := ["internal/bytealg.MaxLen", "unicode/utf8.first", "unicode/utf8.acceptRanges"], apart := false, laid := [("unicode/utf8.acceptRanges", laid_unicode_utf8_acceptRanges), ("unicode/utf8.first", laid_unicode_utf8_first)], narrowed := true }
def MatchWildsUptoSaid : Prop := matchWildsUptoRow.holds Tryd.pinned (OpenSpec.upto matchWildsSpec)

/-- 'flumelaw15.MatchCalls', WHERE WHAT IT READS IS OF BULK AT MOST 1048576: true; the input reads as it did. -/
def matchCallsUptoRow : OpenClaim := { program := "ytndlfieignhjjaadoor", sum := "f682675fc13474cac35a2a24a0284e4a6f215cd6f62f7d8867d6018c6496a980", func := "flume/flumelaw15.MatchCalls", spec := "matchCalls", inPlace := ["internal/bytealg.IndexByteString", "internal/bytealg.IndexString"], named := ["internal/bytealg.MaxLen", "unicode/utf8.first", "unicode/utf8.acceptRanges"], apart := false, laid := [("unicode/utf8.acceptRanges", laid_unicode_utf8_acceptRanges), ("unicode/utf8.first", laid_unicode_utf8_first)], narrowed := true }
def MatchCallsUptoSaid : Prop := matchCallsUptoRow.holds Tryd.pinned (OpenSpec.upto matchCallsSpec)

/-- 'flumelaw15.MatchEnds', WHERE WHAT IT READS IS OF BULK AT MOST 1048576: true; the input reads as it did. -/
def matchEndsUptoRow : OpenClaim := { program := "ytndlfieignhjjaadoor", sum := "f682675fc13474cac35a2a24a0284e4a6f215cd6f62f7d8867d6018c6496a980", func := "flume/flumelaw15.MatchEnds", spec := "matchEnds", inPlace := ["internal/bytealg.IndexByteString", "internal/bytealg.IndexString"], unfollowed := true, recurses := true, named := ["internal/bytealg.MaxLen", "unicode/utf8.first", "unicode/utf8.acceptRanges"], apart := false, laid := [("unicode/utf8.acceptRanges", laid_unicode_utf8_acceptRanges), ("unicode/utf8.first", laid_unicode_utf8_first)], narrowed := true }
def MatchEndsUptoSaid : Prop := matchEndsUptoRow.holds Tryd.pinned (OpenSpec.upto matchEndsSpec)

/-- 'flumelaw15.MatchNot', WHERE WHAT IT READS IS OF BULK AT MOST 1048576: true; the input reads as it did. -/
def matchNotUptoRow : OpenClaim := { program := "ytndlfieignhjjaadoor", sum := "f682675fc13474cac35a2a24a0284e4a6f215cd6f62f7d8867d6018c6496a980", func := "flume/flumelaw15.MatchNot", spec := "matchNot", inPlace := ["internal/bytealg.IndexByteString", "internal/bytealg.IndexString"], unfollowed := true, recurses := true, named := ["internal/bytealg.MaxLen", "unicode/utf8.first", "unicode/utf8.acceptRanges"], apart := false, laid := [("unicode/utf8.acceptRanges", laid_unicode_utf8_acceptRanges), ("unicode/utf8.first", laid_unicode_utf8_first)], narrowed := true }
def MatchNotUptoSaid : Prop := matchNotUptoRow.holds Tryd.pinned (OpenSpec.upto matchNotSpec)

/-- 'flumelaw15.MatchFields', WHERE WHAT IT READS IS OF BULK AT MOST 1048576: true; the input reads as it did. -/
def matchFieldsUptoRow : OpenClaim := { program := "ytndlfieignhjjaadoor", sum := "f682675fc13474cac35a2a24a0284e4a6f215cd6f62f7d8867d6018c6496a980", func := "flume/flumelaw15.MatchFields", spec := "matchFields", inPlace := ["internal/bytealg.IndexByteString", "internal/bytealg.IndexString"], unfollowed := true, recurses := true, named := ["internal/bytealg.MaxLen", "unicode/utf8.first", "unicode/utf8.acceptRanges"], apart := false, laid := [("unicode/utf8.acceptRanges", laid_unicode_utf8_acceptRanges), ("unicode/utf8.first", laid_unicode_utf8_first)], narrowed := true }
def MatchFieldsUptoSaid : Prop := matchFieldsUptoRow.holds Tryd.pinned (OpenSpec.upto matchFieldsSpec)

end Rows
end Go.Proofs.YtndlfieignhjjaaDoor
