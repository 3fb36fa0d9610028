/-
  DERIVED. GIVEN WITH THE SEED: THE CARDS: each row of YtndlfieignhjjaaDoorRows.lean that lists a variable, with what it lists TIED to the program's text (the seventh form; the later family's looks); each row that meets fmt, with fmt's text TOLD by the authors' own Lean function (tested against real Go, not proved from fmt's source: count such statements apart). THE CARD IS WHAT COUNTS. Prove the row's statement (the work); the ties are given (YtndlfieignhjjaaDoorTie.lean); close each card by the builder's one call (the guide's Derived/Test/ToyasCard.lean, 'card_holds'). Laid BY PROGRAM, IN A SANDBOX (cutbox-door.mjs). By AI agents, Wed Nov 11 2026. No macro, syntax, notation, axiom, sorry.
-/
import Derived.Test.YtndlfieignhjjaaDoorRows
import GoSem.ClaimSeven
namespace Go.Proofs.YtndlfieignhjjaaDoor
namespace Rows

/-- THE TIED CARD OF 'flumelaw15.MatchPaths'. -/
def matchPathsCard : Claim7 := { stood := { row := matchPathsRow, standIns := [], harness := (true, "f900cad1524d6485163f1f119ee05e345095a2ecf467c548b528305676b6aa51"), looks := false }, kinds := [], alts := [], laidByText := true, laidKinds := [.data, .pinned], laidTests := true, laidLooks := .later }
def MatchPathsCardSaid : Prop := Claim7.holds Tryd.pinned (.plain (OpenSpec.ofChange matchPathsSpec)) matchPathsCard

/-- THE TIED CARD OF 'flumelaw15.MatchHosts'. -/
def matchHostsCard : Claim7 := { stood := { row := matchHostsRow, standIns := [], harness := (true, "f900cad1524d6485163f1f119ee05e345095a2ecf467c548b528305676b6aa51"), looks := false }, kinds := [], alts := [], laidByText := true, laidKinds := [.data, .pinned], laidTests := true, laidLooks := .later }
def MatchHostsCardSaid : Prop := Claim7.holds Tryd.pinned (.plain (OpenSpec.ofChange matchHostsSpec)) matchHostsCard

/-- THE TIED CARD OF 'flumelaw15.MatchBelow'. -/
def matchBelowCard : Claim7 := { stood := { row := matchBelowRow, standIns := [], harness := (true, "f900cad1524d6485163f1f119ee05e345095a2ecf467c548b528305676b6aa51"), looks := false }, kinds := [], alts := [], laidByText := true, laidKinds := [.data, .pinned], laidTests := true, laidLooks := .later }
def MatchBelowCardSaid : Prop := Claim7.holds Tryd.pinned (.plain (OpenSpec.ofChange matchBelowSpec)) matchBelowCard

/-- THE TIED CARD OF 'flumelaw15.MatchNames'. -/
def matchNamesCard : Claim7 := { stood := { row := matchNamesRow, standIns := [], harness := (true, "f900cad1524d6485163f1f119ee05e345095a2ecf467c548b528305676b6aa51"), looks := false }, kinds := [], alts := [], laidByText := true, laidKinds := [.data, .pinned], laidTests := true, laidLooks := .later }
def MatchNamesCardSaid : Prop := Claim7.holds Tryd.pinned (.plain (OpenSpec.ofChange matchNamesSpec)) matchNamesCard

/-- THE TIED CARD OF 'flumelaw15.MatchWilds'. -/
def matchWildsCard : Claim7 := { stood := { row := matchWildsRow, standIns := [], harness := (true, "f900cad1524d6485163f1f119ee05e345095a2ecf467c548b528305676b6aa51"), looks := false }, kinds := [], alts := [], laidByText := true, laidKinds := [.data, .pinned], laidTests := true, laidLooks := .later }
def MatchWildsCardSaid : Prop := Claim7.holds Tryd.pinned (.plain (OpenSpec.ofChange matchWildsSpec)) matchWildsCard

/-- THE TIED CARD OF 'flumelaw15.MatchCalls'. -/
def matchCallsCard : Claim7 := { stood := { row := matchCallsRow, standIns := [], harness := (true, "f900cad1524d6485163f1f119ee05e345095a2ecf467c548b528305676b6aa51"), looks := false }, kinds := [], alts := [], laidByText := true, laidKinds := [.data, .pinned], laidTests := true, laidLooks := .later }
def MatchCallsCardSaid : Prop := Claim7.holds Tryd.pinned (.plain (OpenSpec.ofChange matchCallsSpec)) matchCallsCard

/-- THE TIED CARD OF 'flumelaw15.MatchEnds'. -/
def matchEndsCard : Claim7 := { stood := { row := matchEndsRow, standIns := [], harness := (true, "f900cad1524d6485163f1f119ee05e345095a2ecf467c548b528305676b6aa51"), looks := false }, kinds := [], alts := [], laidByText := true, laidKinds := [.data, .pinned], laidTests := true, laidLooks := .later }
def MatchEndsCardSaid : Prop := Claim7.holds Tryd.pinned (.plain (OpenSpec.ofChange matchEndsSpec)) matchEndsCard

/-- THE TIED CARD OF 'flumelaw15.MatchNot'. -/
def matchNotCard : Claim7 := { stood := { row := matchNotRow, standIns := [], harness := (true, "f900cad1524d6485163f1f119ee05e345095a2ecf467c548b528305676b6aa51"), looks := false }, kinds := [], alts := [], laidByText := true, laidKinds := [.data, .pinned], laidTests := true, laidLooks := .later }
def MatchNotCardSaid : Prop := Claim7.holds Tryd.pinned (.plain (OpenSpec.ofChange matchNotSpec)) matchNotCard

/-- THE TIED CARD OF 'flumelaw15.MatchFields'. -/
def matchFieldsCard : Claim7 := { stood := { row := matchFieldsRow, standIns := [], harness := (true, "f900cad1524d6485163f1f119ee05e345095a2ecf467c548b528305676b6aa51"), looks := false }, kinds := [], alts := [], laidByText := true, laidKinds := [.data, .pinned], laidTests := true, laidLooks := .later }
def MatchFieldsCardSaid : Prop := Claim7.holds Tryd.pinned (.plain (OpenSpec.ofChange matchFieldsSpec)) matchFieldsCard

/-- THE SECOND FORM's CARD OF 'flumelaw15.MatchPaths'. -/
def matchPathsUptoCard : Claim7 := { stood := { row := matchPathsUptoRow, standIns := [], harness := (true, "f900cad1524d6485163f1f119ee05e345095a2ecf467c548b528305676b6aa51"), looks := false }, kinds := [], alts := [], laidByText := true, laidKinds := [.data, .pinned], laidTests := true, laidLooks := .later }
def MatchPathsUptoCardSaid : Prop := Claim7.holds Tryd.pinned (.plain (OpenSpec.upto matchPathsSpec)) matchPathsUptoCard

/-- THE SECOND FORM's CARD OF 'flumelaw15.MatchHosts'. -/
def matchHostsUptoCard : Claim7 := { stood := { row := matchHostsUptoRow, standIns := [], harness := (true, "f900cad1524d6485163f1f119ee05e345095a2ecf467c548b528305676b6aa51"), looks := false }, kinds := [], alts := [], laidByText := true, laidKinds := [.data, .pinned], laidTests := true, laidLooks := .later }
def MatchHostsUptoCardSaid : Prop := Claim7.holds Tryd.pinned (.plain (OpenSpec.upto matchHostsSpec)) matchHostsUptoCard

/-- THE SECOND FORM's CARD OF 'flumelaw15.MatchBelow'. -/
def matchBelowUptoCard : Claim7 := { stood := { row := matchBelowUptoRow, standIns := [], harness := (true, "f900cad1524d6485163f1f119ee05e345095a2ecf467c548b528305676b6aa51"), looks := false }, kinds := [], alts := [], laidByText := true, laidKinds := [.data, .pinned], laidTests := true, laidLooks := .later }
def MatchBelowUptoCardSaid : Prop := Claim7.holds Tryd.pinned (.plain (OpenSpec.upto matchBelowSpec)) matchBelowUptoCard

/-- THE SECOND FORM's CARD OF 'flumelaw15.MatchNames'. -/
def matchNamesUptoCard : Claim7 := { stood := { row := matchNamesUptoRow, standIns := [], harness := (true, "f900cad1524d6485163f1f119ee05e345095a2ecf467c548b528305676b6aa51"), looks := false }, kinds := [], alts := [], laidByText := true, laidKinds := [.data, .pinned], laidTests := true, laidLooks := .later }
def MatchNamesUptoCardSaid : Prop := Claim7.holds Tryd.pinned (.plain (OpenSpec.upto matchNamesSpec)) matchNamesUptoCard

/-- THE SECOND FORM's CARD OF 'flumelaw15.MatchWilds'. -/
def matchWildsUptoCard : Claim7 := { stood := { row := matchWildsUptoRow, standIns := [], harness := (true, "f900cad1524d6485163f1f119ee05e345095a2ecf467c548b528305676b6aa51"), looks := false }, kinds := [], alts := [], laidByText := true, laidKinds := [.data, .pinned], laidTests := true, laidLooks := .later }
def MatchWildsUptoCardSaid : Prop := Claim7.holds Tryd.pinned (.plain (OpenSpec.upto matchWildsSpec)) matchWildsUptoCard

/-- THE SECOND FORM's CARD OF 'flumelaw15.MatchCalls'. -/
def matchCallsUptoCard : Claim7 := { stood := { row := matchCallsUptoRow, standIns := [], harness := (true, "f900cad1524d6485163f1f119ee05e345095a2ecf467c548b528305676b6aa51"), looks := false }, kinds := [], alts := [], laidByText := true, laidKinds := [.data, .pinned], laidTests := true, laidLooks := .later }
def MatchCallsUptoCardSaid : Prop := Claim7.holds Tryd.pinned (.plain (OpenSpec.upto matchCallsSpec)) matchCallsUptoCard

/-- THE SECOND FORM's CARD OF 'flumelaw15.MatchEnds'. -/
def matchEndsUptoCard : Claim7 := { stood := { row := matchEndsUptoRow, standIns := [], harness := (true, "f900cad1524d6485163f1f119ee05e345095a2ecf467c548b528305676b6aa51"), looks := false }, kinds := [], alts := [], laidByText := true, laidKinds := [.data, .pinned], laidTests := true, laidLooks := .later }
def MatchEndsUptoCardSaid : Prop := Claim7.holds Tryd.pinned (.plain (OpenSpec.upto matchEndsSpec)) matchEndsUptoCard

/-- THE SECOND FORM's CARD OF 'flumelaw15.MatchNot'. -/
def matchNotUptoCard : Claim7 := { stood := { row := matchNotUptoRow, standIns := [], harness := (true, "f900cad1524d6485163f1f119ee05e345095a2ecf467c548b528305676b6aa51"), looks := false }, kinds := [], alts := [], laidByText := true, laidKinds := [.data, .pinned], laidTests := true, laidLooks := .later }
def MatchNotUptoCardSaid : Prop := Claim7.holds Tryd.pinned (.plain (OpenSpec.upto matchNotSpec)) matchNotUptoCard

/-- THE SECOND FORM's CARD OF 'flumelaw15.MatchFields'. -/
def matchFieldsUptoCard : Claim7 := { stood := { row := matchFieldsUptoRow, standIns := [], harness := (true, "f900cad1524d6485163f1f119ee05e345095a2ecf467c548b528305676b6aa51"), looks := false }, kinds := [], alts := [], laidByText := true, laidKinds := [.data, .pinned], laidTests := true, laidLooks := .later }
def MatchFieldsUptoCardSaid : Prop := Claim7.holds Tryd.pinned (.plain (OpenSpec.upto matchFieldsSpec)) matchFieldsUptoCard
end Rows
end Go.Proofs.YtndlfieignhjjaaDoor
