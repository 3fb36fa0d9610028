/-
  NARROWER THAN 'FOR EVERY INPUT', by the rows' own cells (each row's printed sentence says how): RouteFirst: laid · RouteCluster: laid · RouteIgnores: laid · RouteSpoils: laid · RouteTables: laid · RouteNewer: laid.
  DERIVED. THE GIVEN ROWS OF THIS SEAT. 6 by the template 'for every input the law returns true; each argument reads behind the call as it read before'; 0 by the template 'total and deterministic' (their statements: YtjcpfldobiekbaaDoorTotals.lean).
  GIVEN WITH THE SEED: the statements are not yours to turn. If you find one false, say at which input.
  Laid BY PROGRAM, IN A SANDBOX (cutbox-rows.mjs): the forced cells as the released guide's own fill.sh prints them over the translation e88a724c301a67e5… (all of the seat's roots in one cut). By AI agents, Wed Nov 11 2026. No macro, syntax, notation, axiom, sorry.
-/
import Derived.Test.YtjcpfldobiekbaaDoorChecked
import GoSem.PinnedTables
import GoSem.Claim
import GoSem.ClaimJoined
import GoSem.ClaimMapViews
import Derived.JoinedTies
import Derived.KernelRfl
namespace Go.Proofs.YtjcpfldobiekbaaDoor
/- THE CELL 'sum', in the pinned program and in every row, IS THE sha256 OF THE DUMP (.gsa) THAT YtjcpfldobiekbaaDoorProg.lean LOADS. Nothing in Lean hashes anything: it is a label: what it is worth is what the hold of that sum in a sandbox is worth. -/
noncomputable def Tryd.pinned : Pinned := { name := "ytjcpfldobiekbaadoor", sum := "e88a724c301a67e5a7d22edc37d946a09c5f499568a5d28b480f2965c3349a7e", checked := Tryd.checked }
namespace Rows
def none {H : Type} : Left H := { results := [], args := [] }

/- WHAT THE LISTED PACKAGE-LEVEL VARIABLES READ AS WHEN THE CALL BEGINS. Each datum BY PROGRAM (the guide's laid-datum.mjs) off the statement by which the dump's own 'gosem.cut.vars' lays the variable. In a bare row this is a premise. The card (YtjcpfldobiekbaaDoorCards.lean) ties it to the program's text. -/
def laid_unicode_utf8_acceptRanges {H : Type} : DataW H := .agg [.agg [.lit (.int .u8 128), .lit (.int .u8 191)], .agg [.lit (.int .u8 160), .lit (.int .u8 191)], .agg [.lit (.int .u8 128), .lit (.int .u8 159)], .agg [.lit (.int .u8 144), .lit (.int .u8 191)], .agg [.lit (.int .u8 128), .lit (.int .u8 143)], .agg [.lit (.int .u8 0), .lit (.int .u8 0)], .agg [.lit (.int .u8 0), .lit (.int .u8 0)], .agg [.lit (.int .u8 0), .lit (.int .u8 0)], .agg [.lit (.int .u8 0), .lit (.int .u8 0)], .agg [.lit (.int .u8 0), .lit (.int .u8 0)], .agg [.lit (.int .u8 0), .lit (.int .u8 0)], .agg [.lit (.int .u8 0), .lit (.int .u8 0)], .agg [.lit (.int .u8 0), .lit (.int .u8 0)], .agg [.lit (.int .u8 0), .lit (.int .u8 0)], .agg [.lit (.int .u8 0), .lit (.int .u8 0)], .agg [.lit (.int .u8 0), .lit (.int .u8 0)]]
/-- One of Go's own tables, pinned by name: the form's constant. -/
def laid_unicode_utf8_first : DataW Unit := Go.Pinned.utf8First

/-- 'flumelaw16.RouteFirst': WHATEVER THE INPUT: true; the input reads as it did. -/
def routeFirstSpec : ChangeSpec := { name := "routeFirst", fn := fun _ => fun
  | [d1, d2, d3] => { results := [.lit (.bool true)], args := [d1, d2, d3] }
  | _ => none }
def routeFirstRow : OpenClaim := { program := "ytjcpfldobiekbaadoor", sum := "e88a724c301a67e5a7d22edc37d946a09c5f499568a5d28b480f2965c3349a7e", func := "flume/flumelaw16.RouteFirst", spec := "routeFirst", inPlace := ["internal/bytealg.IndexByteString", "internal/bytealg.IndexString"], unfollowed := true, recurses := true, named := ["unicode/utf8.first", "unicode/utf8.acceptRanges", "internal/bytealg.MaxLen"], apart := false, laid := [("unicode/utf8.acceptRanges", laid_unicode_utf8_acceptRanges), ("unicode/utf8.first", laid_unicode_utf8_first)] }
def RouteFirstSaid : Prop := routeFirstRow.holds Tryd.pinned (OpenSpec.ofChange routeFirstSpec)

/-- ITS FALSE NEIGHBOUR: 'it returns false'. Refute it at one input. -/
def routeFirstWrong : ChangeSpec := { name := "routeFirst", fn := fun _ => fun
  | [d1, d2, d3] => { results := [.lit (.bool false)], args := [d1, d2, d3] }
  | _ => none }
def RouteFirstWrongFalsely : Prop := routeFirstRow.holds Tryd.pinned (OpenSpec.ofChange routeFirstWrong)

/-- 'flumelaw16.RouteCluster': WHATEVER THE INPUT: true; the input reads as it did. -/
def routeClusterSpec : ChangeSpec := { name := "routeCluster", fn := fun _ => fun
  | [d1, d2, d3] => { results := [.lit (.bool true)], args := [d1, d2, d3] }
  | _ => none }
def routeClusterRow : OpenClaim := { program := "ytjcpfldobiekbaadoor", sum := "e88a724c301a67e5a7d22edc37d946a09c5f499568a5d28b480f2965c3349a7e", func := "flume/flumelaw16.RouteCluster", spec := "routeCluster", inPlace := ["internal/bytealg.IndexByteString", "internal/bytealg.IndexString"], unfollowed := true, recurses := true, named := ["unicode/utf8.first", "unicode/utf8.acceptRanges", "internal/bytealg.MaxLen"], apart := false, laid := [("unicode/utf8.acceptRanges", laid_unicode_utf8_acceptRanges), ("unicode/utf8.first", laid_unicode_utf8_first)] }
def RouteClusterSaid : Prop := routeClusterRow.holds Tryd.pinned (OpenSpec.ofChange routeClusterSpec)

/-- ITS FALSE NEIGHBOUR: 'it returns false'. Refute it at one input. -/
def routeClusterWrong : ChangeSpec := { name := "routeCluster", fn := fun _ => fun
  | [d1, d2, d3] => { results := [.lit (.bool false)], args := [d1, d2, d3] }
  | _ => none }
def RouteClusterWrongFalsely : Prop := routeClusterRow.holds Tryd.pinned (OpenSpec.ofChange routeClusterWrong)

/-- 'flumelaw16.RouteIgnores': WHATEVER THE INPUT: true; the input reads as it did. -/
def routeIgnoresSpec : ChangeSpec := { name := "routeIgnores", fn := fun _ => fun
  | [d1, d2, d3, d4] => { results := [.lit (.bool true)], args := [d1, d2, d3, d4] }
  | _ => none }
def routeIgnoresRow : OpenClaim := { program := "ytjcpfldobiekbaadoor", sum := "e88a724c301a67e5a7d22edc37d946a09c5f499568a5d28b480f2965c3349a7e", func := "flume/flumelaw16.RouteIgnores", spec := "routeIgnores", inPlace := ["internal/bytealg.IndexByteString", "internal/bytealg.IndexString"], unfollowed := true, recurses := true, named := ["unicode/utf8.first", "unicode/utf8.acceptRanges", "internal/bytealg.MaxLen"], apart := false, laid := [("unicode/utf8.acceptRanges", laid_unicode_utf8_acceptRanges), ("unicode/utf8.first", laid_unicode_utf8_first)] }
def RouteIgnoresSaid : Prop := routeIgnoresRow.holds Tryd.pinned (OpenSpec.ofChange routeIgnoresSpec)

/-- ITS FALSE NEIGHBOUR: 'it returns false'. Refute it at one input. -/
def routeIgnoresWrong : ChangeSpec := { name := "routeIgnores", fn := fun _ => fun
  | [d1, d2, d3, d4] => { results := [.lit (.bool false)], args := [d1, d2, d3, d4] }
  | _ => none }
def RouteIgnoresWrongFalsely : Prop := routeIgnoresRow.holds Tryd.pinned (OpenSpec.ofChange routeIgnoresWrong)

/-- 'flumelaw16.RouteSpoils': WHATEVER THE INPUT: true; the input reads as it did. -/
def routeSpoilsSpec : ChangeSpec := { name := "routeSpoils", fn := fun _ => fun
  | [d1, d2] => { results := [.lit (.bool true)], args := [d1, d2] }
  | _ => none }
def routeSpoilsRow : OpenClaim := { program := "ytjcpfldobiekbaadoor", sum := "e88a724c301a67e5a7d22edc37d946a09c5f499568a5d28b480f2965c3349a7e", func := "flume/flumelaw16.RouteSpoils", spec := "routeSpoils", inPlace := ["internal/bytealg.IndexByteString", "internal/bytealg.IndexString"], unfollowed := true, recurses := true, named := ["unicode/utf8.first", "unicode/utf8.acceptRanges", "internal/bytealg.MaxLen"], apart := false, laid := [("unicode/utf8.acceptRanges", laid_unicode_utf8_acceptRanges), ("unicode/utf8.first", laid_unicode_utf8_first)] }
def RouteSpoilsSaid : Prop := routeSpoilsRow.holds Tryd.pinned (OpenSpec.ofChange routeSpoilsSpec)

/-- ITS FALSE NEIGHBOUR: 'it returns false'. Refute it at one input. -/
def routeSpoilsWrong : ChangeSpec := { name := "routeSpoils", fn := fun _ => fun
  | [d1, d2] => { results := [.lit (.bool false)], args := [d1, d2] }
  | _ => none }
def RouteSpoilsWrongFalsely : Prop := routeSpoilsRow.holds Tryd.pinned (OpenSpec.ofChange routeSpoilsWrong)

/-- 'flumelaw16.RouteTables': WHATEVER THE INPUT: true; the input reads as it did. -/
def routeTablesSpec : ChangeSpec := { name := "routeTables", fn := fun _ => fun
  | [d] => { results := [.lit (.bool true)], args := [d] }
  | _ => none }
def routeTablesRow : OpenClaim := { program := "ytjcpfldobiekbaadoor", sum := "e88a724c301a67e5a7d22edc37d946a09c5f499568a5d28b480f2965c3349a7e", func := "flume/flumelaw16.RouteTables", spec := "routeTables", inPlace := ["internal/bytealg.IndexByteString", "internal/bytealg.IndexString"], unfollowed := true, recurses := true, named := ["unicode/utf8.first", "unicode/utf8.acceptRanges", "internal/bytealg.MaxLen"], apart := false, laid := [("unicode/utf8.acceptRanges", laid_unicode_utf8_acceptRanges), ("unicode/utf8.first", laid_unicode_utf8_first)] }
def RouteTablesSaid : Prop := routeTablesRow.holds Tryd.pinned (OpenSpec.ofChange routeTablesSpec)

/-- ITS FALSE NEIGHBOUR: 'it returns false'. Refute it at one input. -/
def routeTablesWrong : ChangeSpec := { name := "routeTables", fn := fun _ => fun
  | [d] => { results := [.lit (.bool false)], args := [d] }
  | _ => none }
def RouteTablesWrongFalsely : Prop := routeTablesRow.holds Tryd.pinned (OpenSpec.ofChange routeTablesWrong)

/-- 'flumelaw16.RouteNewer': WHATEVER THE INPUT: true; the input reads as it did. -/
def routeNewerSpec : ChangeSpec := { name := "routeNewer", fn := fun _ => fun
  | [d1, d2] => { results := [.lit (.bool true)], args := [d1, d2] }
  | _ => none }
def routeNewerRow : OpenClaim := { program := "ytjcpfldobiekbaadoor", sum := "e88a724c301a67e5a7d22edc37d946a09c5f499568a5d28b480f2965c3349a7e", func := "flume/flumelaw16.RouteNewer", spec := "routeNewer", inPlace := ["internal/bytealg.IndexByteString", "internal/bytealg.IndexString"], unfollowed := true, recurses := true, named := ["unicode/utf8.first", "unicode/utf8.acceptRanges", "internal/bytealg.MaxLen"], apart := false, laid := [("unicode/utf8.acceptRanges", laid_unicode_utf8_acceptRanges), ("unicode/utf8.first", laid_unicode_utf8_first)] }
def RouteNewerSaid : Prop := routeNewerRow.holds Tryd.pinned (OpenSpec.ofChange routeNewerSpec)

/-- ITS FALSE NEIGHBOUR: 'it returns false'. Refute it at one input. -/
def routeNewerWrong : ChangeSpec := { name := "routeNewer", fn := fun _ => fun
  | [d1, d2] => { results := [.lit (.bool false)], args := [d1, d2] }
  | _ => none }
def RouteNewerWrongFalsely : Prop := routeNewerRow.holds Tryd.pinned (OpenSpec.ofChange routeNewerWrong)

/- THE SECOND FORM. 'bulk': how many values and letters a reading holds, each counted each time it is reached (what is shared counts as often as it is met; a slice's spare places count too). A statement '..UptoSaid' is the law's where the arguments, and the package variables that the reading takes, are together of bulk at most 1048576: NARROWER than '..Said'. Prove '..Said' where nothing that the law and all that it calls make is longer than what came in: it says more and counts as full. Else prove '..UptoSaid'. A law counts once. -/
mutual
def uptoBulk {H : Type} : DataW H → Nat
  | .lit (.string bytes) => bytes.length + 1
  | .lit _ => 1
  | .nil => 1
  | .ptr d => uptoBulk d + 1
  | .slice elems spare => uptoBulkAll elems + uptoBulkAll spare + 1
  | .agg parts => uptoBulkAll parts + 1
  | .iface _ d => uptoBulk d + 1
  | .map entries => uptoBulkEntries entries + 1
  | .held _ => 1
def uptoBulkAll {H : Type} : List (DataW H) → Nat
  | [] => 0
  | d :: r => uptoBulk d + uptoBulkAll r
def uptoBulkEntries {H : Type} : List (Lit × DataW H) → Nat
  | [] => 0
  | x :: r => uptoBulkEntry x + uptoBulkEntries r
def uptoBulkEntry {H : Type} : Lit × DataW H → Nat
  | (.string bytes, d) => bytes.length + uptoBulk d + 1
  | (_, d) => uptoBulk d + 1
 end
def uptoSmall : (H : Type) → List (DataW H) → Bool := fun _ ds => decide (uptoBulkAll ds ≤ 1048576)
def OpenSpec.upto (s : _root_.Go.ChangeSpec) : _root_.Go.OpenSpec := { _root_.Go.OpenSpec.ofChange s with cond := some uptoSmall }

/-- 'flumelaw16.RouteFirst', WHERE WHAT IT READS IS OF BULK AT MOST 1048576: true; the input reads as it did. -/
def routeFirstUptoRow : OpenClaim := { program := "ytjcpfldobiekbaadoor", sum := "e88a724c301a67e5a7d22edc37d946a09c5f499568a5d28b480f2965c3349a7e", func := "flume/flumelaw16.RouteFirst", spec := "routeFirst", inPlace := ["internal/bytealg.IndexByteString", "internal/bytealg.IndexString"], unfollowed := true, recurses := true, named := ["unicode/utf8.first", "unicode/utf8.acceptRanges", "internal/bytealg.MaxLen"], apart := false, laid := [("unicode/utf8.acceptRanges", laid_unicode_utf8_acceptRanges), ("unicode/utf8.first", laid_unicode_utf8_first)], narrowed := true }
def RouteFirstUptoSaid : Prop := routeFirstUptoRow.holds Tryd.pinned (OpenSpec.upto routeFirstSpec)

/-- 'flumelaw16.RouteCluster', WHERE WHAT IT READS IS OF BULK AT MOST 1048576: true; the input reads as it did. -/
def routeClusterUptoRow : OpenClaim := { program := "ytjcpfldobiekbaadoor", sum := "e88a724c301a67e5a7d22edc37d946a09c5f499568a5d28b480f2965c3349a7e", func := "flume/flumelaw16.RouteCluster", spec := "routeCluster", inPlace := ["internal/bytealg.IndexByteString", "internal/bytealg.IndexString"], unfollowed := true, recurses := true, named := ["unicode/utf8.first", "unicode/utf8.acceptRanges", "internal/bytealg.MaxLen"], apart := false, laid := [("unicode/utf8.acceptRanges", laid_unicode_utf8_acceptRanges), ("unicode/utf8.first", laid_unicode_utf8_first)], narrowed := true }
def RouteClusterUptoSaid : Prop := routeClusterUptoRow.holds Tryd.pinned (OpenSpec.upto routeClusterSpec)

/-- 'flumelaw16.RouteIgnores', WHERE WHAT IT READS IS OF BULK AT MOST 1048576: true; the input reads as it did. -/
def routeIgnoresUptoRow : OpenClaim := { program := "ytjcpfldobiekbaadoor", sum := "e88a724c301a67e5a7d22edc37d946a09c5f499568a5d28b480f2965c3349a7e", func := "flume/flumelaw16.RouteIgnores", spec := "routeIgnores", inPlace := ["internal/bytealg.IndexByteString", "internal/bytealg.IndexString"], unfollowed := true, recurses := true, named := ["unicode/utf8.first", "unicode/utf8.acceptRanges", "internal/bytealg.MaxLen"], apart := false, laid := [("unicode/utf8.acceptRanges", laid_unicode_utf8_acceptRanges), ("unicode/utf8.first", laid_unicode_utf8_first)], narrowed := true }
def RouteIgnoresUptoSaid : Prop := routeIgnoresUptoRow.holds Tryd.pinned (OpenSpec.upto routeIgnoresSpec)

/-- 'flumelaw16.RouteSpoils', WHERE WHAT IT READS IS OF BULK AT MOST 1048576: true; the input reads as it did. -/
def routeSpoilsUptoRow : OpenClaim := { program := "ytjcpfldobiekbaadoor", sum := "e88a724c301a67e5a7d22edc37d946a09c5f499568a5d28b480f2965c3349a7e", func := "flume/flumelaw16.RouteSpoils", spec := "routeSpoils", inPlace := ["internal/bytealg.IndexByteString", "internal/bytealg.IndexString"], unfollowed := true, recurses := true, named := ["unicode/utf8.first", "unicode/utf8.acceptRanges", "internal/bytealg.MaxLen"], apart := false, laid := [("unicode/utf8.acceptRanges", laid_unicode_utf8_acceptRanges), ("unicode/utf8.first", laid_unicode_utf8_first)], narrowed := true }
def RouteSpoilsUptoSaid : Prop := routeSpoilsUptoRow.holds Tryd.pinned (OpenSpec.upto routeSpoilsSpec)

/-- 'flumelaw16.RouteTables', WHERE WHAT IT READS IS OF BULK AT MOST 1048576: true; the input reads as it did. -/
def routeTablesUptoRow : OpenClaim := { program := "ytjcpfldobiekbaadoor", sum := "e88a724c301a67e5a7d22edc37d946a09c5f499568a5d28b480f2965c3349a7e", func := "flume/flumelaw16.RouteTables", spec := "routeTables", inPlace := ["internal/bytealg.IndexByteString", "internal/bytealg.IndexString"], unfollowed := true, recurses := true, named := ["unicode/utf8.first", "unicode/utf8.acceptRanges", "internal/bytealg.MaxLen"], apart := false, laid := [("unicode/utf8.acceptRanges", laid_unicode_utf8_acceptRanges), ("unicode/utf8.first", laid_unicode_utf8_first)], narrowed := true }
def RouteTablesUptoSaid : Prop := routeTablesUptoRow.holds Tryd.pinned (OpenSpec.upto routeTablesSpec)

/-- 'flumelaw16.RouteNewer', WHERE WHAT IT READS IS OF BULK AT MOST 1048576: true; the input reads as it did. -/
def routeNewerUptoRow : OpenClaim := { program := "ytjcpfldobiekbaadoor", sum := "e88a724c301a67e5a7d22edc37d946a09c5f499568a5d28b480f2965c3349a7e", func := "flume/flumelaw16.RouteNewer", spec := "routeNewer", inPlace := ["internal/bytealg.IndexByteString", "internal/bytealg.IndexString"], unfollowed := true, recurses := true, named := ["unicode/utf8.first", "unicode/utf8.acceptRanges", "internal/bytealg.MaxLen"], apart := false, laid := [("unicode/utf8.acceptRanges", laid_unicode_utf8_acceptRanges), ("unicode/utf8.first", laid_unicode_utf8_first)], narrowed := true }
def RouteNewerUptoSaid : Prop := routeNewerUptoRow.holds Tryd.pinned (OpenSpec.upto routeNewerSpec)

end Rows
end Go.Proofs.YtjcpfldobiekbaaDoor
