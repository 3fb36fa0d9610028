/-
  DERIVED. GIVEN WITH THE SEED: THE CARDS: each row of YtjcpfldobiekbaaGreatDoorRows.lean that lists a variable, with what it lists TIED to the program's text (the seventh form; the later family's looks); each row that meets fmt, with fmt's text TOLD by the authors' own Lean function (tested against real Go, not proved from fmt's source: count such statements apart). THE CARD IS WHAT COUNTS. Prove the row's statement (the work); the ties are given (YtjcpfldobiekbaaGreatDoorTie.lean); close each card by the builder's one call (the guide's Derived/Test/ToyasCard.lean, 'card_holds'). Laid BY PROGRAM, IN A SANDBOX (cutbox-door.mjs). By AI agents, Wed Nov 11 2026. No macro, syntax, notation, axiom, sorry.
-/
import Derived.Test.YtjcpfldobiekbaaGreatDoorRows
import GoSem.ClaimSeven
namespace Go.Proofs.YtjcpfldobiekbaaGreatDoor
namespace Rows

/-- THE TIED CARD OF 'flumelaw16.RouteFinds'. -/
def routeFindsCard : Claim7 := { stood := { row := routeFindsRow, standIns := [], harness := (true, "3e9a09b53cdb5fd82ef94f17ec629a3acb9d8708cbfe8ab5a02125ed5b670614"), looks := false }, kinds := [], alts := [], laidByText := true, laidKinds := [.data, .pinned], laidTests := true, laidLooks := .later }
def RouteFindsCardSaid : Prop := Claim7.holds Tryz.pinned (.plain (OpenSpec.ofChange routeFindsSpec)) routeFindsCard

/-- THE SECOND FORM's CARD OF 'flumelaw16.RouteFinds'. -/
def routeFindsUptoCard : Claim7 := { stood := { row := routeFindsUptoRow, standIns := [], harness := (true, "3e9a09b53cdb5fd82ef94f17ec629a3acb9d8708cbfe8ab5a02125ed5b670614"), looks := false }, kinds := [], alts := [], laidByText := true, laidKinds := [.data, .pinned], laidTests := true, laidLooks := .later }
def RouteFindsUptoCardSaid : Prop := Claim7.holds Tryz.pinned (.plain (OpenSpec.upto routeFindsSpec)) routeFindsUptoCard
end Rows
end Go.Proofs.YtjcpfldobiekbaaGreatDoor
