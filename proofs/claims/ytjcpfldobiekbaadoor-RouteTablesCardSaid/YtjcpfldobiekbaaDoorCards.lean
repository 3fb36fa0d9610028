/-
  DERIVED. GIVEN WITH THE SEED: THE CARDS: each row of YtjcpfldobiekbaaDoorRows.lean that lists a variable, with what it lists TIED to the program's text (the seventh form; the later family's looks); each row that meets fmt, with fmt's text TOLD by the authors' own Lean function (tested against real Go, not proved from fmt's source: count such statements apart). THE CARD IS WHAT COUNTS. Prove the row's statement (the work); the ties are given (YtjcpfldobiekbaaDoorTie.lean); close each card by the builder's one call (the guide's Derived/Test/ToyasCard.lean, 'card_holds'). Laid BY PROGRAM, IN A SANDBOX (cutbox-door.mjs). By AI agents, Wed Nov 11 2026. No macro, syntax, notation, axiom, sorry.
-/
import Derived.Test.YtjcpfldobiekbaaDoorRows
import GoSem.ClaimSeven
namespace Go.Proofs.YtjcpfldobiekbaaDoor
namespace Rows

/-- THE TIED CARD OF 'flumelaw16.RouteFirst'. -/
def routeFirstCard : Claim7 := { stood := { row := routeFirstRow, standIns := [], harness := (true, "8ad4a4f5b69d3fbbf86e42b9283652f351f0a1c623a0149f61aae9e179e7ce1c"), looks := false }, kinds := [], alts := [], laidByText := true, laidKinds := [.data, .pinned], laidTests := true, laidLooks := .later }
def RouteFirstCardSaid : Prop := Claim7.holds Tryd.pinned (.plain (OpenSpec.ofChange routeFirstSpec)) routeFirstCard

/-- THE TIED CARD OF 'flumelaw16.RouteCluster'. -/
def routeClusterCard : Claim7 := { stood := { row := routeClusterRow, standIns := [], harness := (true, "8ad4a4f5b69d3fbbf86e42b9283652f351f0a1c623a0149f61aae9e179e7ce1c"), looks := false }, kinds := [], alts := [], laidByText := true, laidKinds := [.data, .pinned], laidTests := true, laidLooks := .later }
def RouteClusterCardSaid : Prop := Claim7.holds Tryd.pinned (.plain (OpenSpec.ofChange routeClusterSpec)) routeClusterCard

/-- THE TIED CARD OF 'flumelaw16.RouteIgnores'. -/
def routeIgnoresCard : Claim7 := { stood := { row := routeIgnoresRow, standIns := [], harness := (true, "8ad4a4f5b69d3fbbf86e42b9283652f351f0a1c623a0149f61aae9e179e7ce1c"), looks := false }, kinds := [], alts := [], laidByText := true, laidKinds := [.data, .pinned], laidTests := true, laidLooks := .later }
def RouteIgnoresCardSaid : Prop := Claim7.holds Tryd.pinned (.plain (OpenSpec.ofChange routeIgnoresSpec)) routeIgnoresCard

/-- THE TIED CARD OF 'flumelaw16.RouteSpoils'. -/
def routeSpoilsCard : Claim7 := { stood := { row := routeSpoilsRow, standIns := [], harness := (true, "8ad4a4f5b69d3fbbf86e42b9283652f351f0a1c623a0149f61aae9e179e7ce1c"), looks := false }, kinds := [], alts := [], laidByText := true, laidKinds := [.data, .pinned], laidTests := true, laidLooks := .later }
def RouteSpoilsCardSaid : Prop := Claim7.holds Tryd.pinned (.plain (OpenSpec.ofChange routeSpoilsSpec)) routeSpoilsCard

/-- THE TIED CARD OF 'flumelaw16.RouteTables'. -/
def routeTablesCard : Claim7 := { stood := { row := routeTablesRow, standIns := [], harness := (true, "8ad4a4f5b69d3fbbf86e42b9283652f351f0a1c623a0149f61aae9e179e7ce1c"), looks := false }, kinds := [], alts := [], laidByText := true, laidKinds := [.data, .pinned], laidTests := true, laidLooks := .later }
def RouteTablesCardSaid : Prop := Claim7.holds Tryd.pinned (.plain (OpenSpec.ofChange routeTablesSpec)) routeTablesCard

/-- THE TIED CARD OF 'flumelaw16.RouteNewer'. -/
def routeNewerCard : Claim7 := { stood := { row := routeNewerRow, standIns := [], harness := (true, "8ad4a4f5b69d3fbbf86e42b9283652f351f0a1c623a0149f61aae9e179e7ce1c"), looks := false }, kinds := [], alts := [], laidByText := true, laidKinds := [.data, .pinned], laidTests := true, laidLooks := .later }
def RouteNewerCardSaid : Prop := Claim7.holds Tryd.pinned (.plain (OpenSpec.ofChange routeNewerSpec)) routeNewerCard

/-- THE SECOND FORM's CARD OF 'flumelaw16.RouteFirst'. -/
def routeFirstUptoCard : Claim7 := { stood := { row := routeFirstUptoRow, standIns := [], harness := (true, "8ad4a4f5b69d3fbbf86e42b9283652f351f0a1c623a0149f61aae9e179e7ce1c"), looks := false }, kinds := [], alts := [], laidByText := true, laidKinds := [.data, .pinned], laidTests := true, laidLooks := .later }
def RouteFirstUptoCardSaid : Prop := Claim7.holds Tryd.pinned (.plain (OpenSpec.upto routeFirstSpec)) routeFirstUptoCard

/-- THE SECOND FORM's CARD OF 'flumelaw16.RouteCluster'. -/
def routeClusterUptoCard : Claim7 := { stood := { row := routeClusterUptoRow, standIns := [], harness := (true, "8ad4a4f5b69d3fbbf86e42b9283652f351f0a1c623a0149f61aae9e179e7ce1c"), looks := false }, kinds := [], alts := [], laidByText := true, laidKinds := [.data, .pinned], laidTests := true, laidLooks := .later }
def RouteClusterUptoCardSaid : Prop := Claim7.holds Tryd.pinned (.plain (OpenSpec.upto routeClusterSpec)) routeClusterUptoCard

/-- THE SECOND FORM's CARD OF 'flumelaw16.RouteIgnores'. -/
def routeIgnoresUptoCard : Claim7 := { stood := { row := routeIgnoresUptoRow, standIns := [], harness := (true, "8ad4a4f5b69d3fbbf86e42b9283652f351f0a1c623a0149f61aae9e179e7ce1c"), looks := false }, kinds := [], alts := [], laidByText := true, laidKinds := [.data, .pinned], laidTests := true, laidLooks := .later }
def RouteIgnoresUptoCardSaid : Prop := Claim7.holds Tryd.pinned (.plain (OpenSpec.upto routeIgnoresSpec)) routeIgnoresUptoCard

/-- THE SECOND FORM's CARD OF 'flumelaw16.RouteSpoils'. -/
def routeSpoilsUptoCard : Claim7 := { stood := { row := routeSpoilsUptoRow, standIns := [], harness := (true, "8ad4a4f5b69d3fbbf86e42b9283652f351f0a1c623a0149f61aae9e179e7ce1c"), looks := false }, kinds := [], alts := [], laidByText := true, laidKinds := [.data, .pinned], laidTests := true, laidLooks := .later }
def RouteSpoilsUptoCardSaid : Prop := Claim7.holds Tryd.pinned (.plain (OpenSpec.upto routeSpoilsSpec)) routeSpoilsUptoCard

/-- THE SECOND FORM's CARD OF 'flumelaw16.RouteTables'. -/
def routeTablesUptoCard : Claim7 := { stood := { row := routeTablesUptoRow, standIns := [], harness := (true, "8ad4a4f5b69d3fbbf86e42b9283652f351f0a1c623a0149f61aae9e179e7ce1c"), looks := false }, kinds := [], alts := [], laidByText := true, laidKinds := [.data, .pinned], laidTests := true, laidLooks := .later }
def RouteTablesUptoCardSaid : Prop := Claim7.holds Tryd.pinned (.plain (OpenSpec.upto routeTablesSpec)) routeTablesUptoCard

/-- THE SECOND FORM's CARD OF 'flumelaw16.RouteNewer'. -/
def routeNewerUptoCard : Claim7 := { stood := { row := routeNewerUptoRow, standIns := [], harness := (true, "8ad4a4f5b69d3fbbf86e42b9283652f351f0a1c623a0149f61aae9e179e7ce1c"), looks := false }, kinds := [], alts := [], laidByText := true, laidKinds := [.data, .pinned], laidTests := true, laidLooks := .later }
def RouteNewerUptoCardSaid : Prop := Claim7.holds Tryd.pinned (.plain (OpenSpec.upto routeNewerSpec)) routeNewerUptoCard
end Rows
end Go.Proofs.YtjcpfldobiekbaaDoor
