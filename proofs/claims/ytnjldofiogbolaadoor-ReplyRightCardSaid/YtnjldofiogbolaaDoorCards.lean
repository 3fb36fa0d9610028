/-
  DERIVED. GIVEN WITH THE SEED: THE CARDS: each row of YtnjldofiogbolaaDoorRows.lean that lists a variable, with what it lists TIED to the program's text (the seventh form; the later family's looks); each row that meets fmt, with fmt's text TOLD by the authors' own Lean function (tested against real Go, not proved from fmt's source: count such statements apart). THE CARD IS WHAT COUNTS. Prove the row's statement (the work); the ties are given (YtnjldofiogbolaaDoorTie.lean); close each card by the builder's one call (the guide's Derived/Test/ToyasCard.lean, 'card_holds'). Laid BY PROGRAM, IN A SANDBOX (cutbox-door.mjs). By AI agents, Wed Nov 11 2026. No macro, syntax, notation, axiom, sorry.
-/
import Derived.Test.YtnjldofiogbolaaDoorRows
import GoSem.ClaimSeven
namespace Go.Proofs.YtnjldofiogbolaaDoor
namespace Rows

/-- THE TIED CARD OF 'flumelaw17.ReplyTells'. -/
def replyTellsCard : Claim7 := { stood := { row := replyTellsRow, standIns := [], harness := (true, "91958e7d5246677641cc4049b7f4c48f57ef06c8a56922628399f975944d2110"), looks := true }, kinds := [], alts := [], laidByText := true, laidKinds := [.data, .data, .data], laidTests := true, laidLooks := .later }
def ReplyTellsCardSaid : Prop := Claim7.holds Tryd.pinned (.plain (OpenSpec.ofChange replyTellsSpec)) replyTellsCard

/-- THE TIED CARD OF 'flumelaw17.ReplyCodes'. -/
def replyCodesCard : Claim7 := { stood := { row := replyCodesRow, standIns := [], harness := (true, "91958e7d5246677641cc4049b7f4c48f57ef06c8a56922628399f975944d2110"), looks := true }, kinds := [], alts := [], laidByText := true, laidKinds := [.data, .data, .data], laidTests := true, laidLooks := .later }
def ReplyCodesCardSaid : Prop := Claim7.holds Tryd.pinned (.plain (OpenSpec.ofChange replyCodesSpec)) replyCodesCard

/-- THE TIED CARD OF 'flumelaw17.ReplyStatus'. -/
def replyStatusCard : Claim7 := { stood := { row := replyStatusRow, standIns := [], harness := (true, "91958e7d5246677641cc4049b7f4c48f57ef06c8a56922628399f975944d2110"), looks := true }, kinds := [], alts := [], laidByText := true, laidKinds := [.data, .data, .data], laidTests := true, laidLooks := .later }
def ReplyStatusCardSaid : Prop := Claim7.holds Tryd.pinned (.plain (OpenSpec.ofChange replyStatusSpec)) replyStatusCard

/-- THE TIED CARD OF 'flumelaw17.ReplyRight'. -/
def replyRightCard : Claim7 := { stood := { row := replyRightRow, standIns := [], harness := (true, "91958e7d5246677641cc4049b7f4c48f57ef06c8a56922628399f975944d2110"), looks := true }, kinds := [], alts := [], laidByText := true, laidKinds := [.data, .data, .data, .data, .sentinel, .sentinel, .pinned], laidTests := true, laidLooks := .later }
def ReplyRightCardSaid : Prop := Claim7.holds Tryd.pinned (.plain (OpenSpec.ofChange replyRightSpec)) replyRightCard

/-- THE SECOND FORM's CARD OF 'flumelaw17.ReplyTells'. -/
def replyTellsUptoCard : Claim7 := { stood := { row := replyTellsUptoRow, standIns := [], harness := (true, "91958e7d5246677641cc4049b7f4c48f57ef06c8a56922628399f975944d2110"), looks := true }, kinds := [], alts := [], laidByText := true, laidKinds := [.data, .data, .data], laidTests := true, laidLooks := .later }
def ReplyTellsUptoCardSaid : Prop := Claim7.holds Tryd.pinned (.plain (OpenSpec.upto replyTellsSpec)) replyTellsUptoCard

/-- THE SECOND FORM's CARD OF 'flumelaw17.ReplyCodes'. -/
def replyCodesUptoCard : Claim7 := { stood := { row := replyCodesUptoRow, standIns := [], harness := (true, "91958e7d5246677641cc4049b7f4c48f57ef06c8a56922628399f975944d2110"), looks := true }, kinds := [], alts := [], laidByText := true, laidKinds := [.data, .data, .data], laidTests := true, laidLooks := .later }
def ReplyCodesUptoCardSaid : Prop := Claim7.holds Tryd.pinned (.plain (OpenSpec.upto replyCodesSpec)) replyCodesUptoCard

/-- THE SECOND FORM's CARD OF 'flumelaw17.ReplyStatus'. -/
def replyStatusUptoCard : Claim7 := { stood := { row := replyStatusUptoRow, standIns := [], harness := (true, "91958e7d5246677641cc4049b7f4c48f57ef06c8a56922628399f975944d2110"), looks := true }, kinds := [], alts := [], laidByText := true, laidKinds := [.data, .data, .data], laidTests := true, laidLooks := .later }
def ReplyStatusUptoCardSaid : Prop := Claim7.holds Tryd.pinned (.plain (OpenSpec.upto replyStatusSpec)) replyStatusUptoCard

/-- THE SECOND FORM's CARD OF 'flumelaw17.ReplyRight'. -/
def replyRightUptoCard : Claim7 := { stood := { row := replyRightUptoRow, standIns := [], harness := (true, "91958e7d5246677641cc4049b7f4c48f57ef06c8a56922628399f975944d2110"), looks := true }, kinds := [], alts := [], laidByText := true, laidKinds := [.data, .data, .data, .data, .sentinel, .sentinel, .pinned], laidTests := true, laidLooks := .later }
def ReplyRightUptoCardSaid : Prop := Claim7.holds Tryd.pinned (.plain (OpenSpec.upto replyRightSpec)) replyRightUptoCard
end Rows
end Go.Proofs.YtnjldofiogbolaaDoor
