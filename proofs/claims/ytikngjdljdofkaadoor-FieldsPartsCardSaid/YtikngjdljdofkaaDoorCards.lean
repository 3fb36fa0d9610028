/-
  DERIVED. GIVEN WITH THE SEED: THE CARDS: each row of YtikngjdljdofkaaDoorRows.lean that lists a variable, with what it lists TIED to the program's text (the seventh form; the later family's looks); each row that meets fmt, with fmt's text TOLD by the authors' own Lean function (tested against real Go, not proved from fmt's source: count such statements apart). THE CARD IS WHAT COUNTS. Prove the row's statement (the work); the ties are given (YtikngjdljdofkaaDoorTie.lean); close each card by the builder's one call (the guide's Derived/Test/ToyasCard.lean, 'card_holds'). Laid BY PROGRAM, IN A SANDBOX (cutbox-door.mjs). By AI agents, Wed Nov 11 2026. No macro, syntax, notation, axiom, sorry.
-/
import Derived.Test.YtikngjdljdofkaaDoorRows
import GoSem.ClaimSeven
namespace Go.Proofs.YtikngjdljdofkaaDoor
namespace Rows

/-- THE TIED CARD OF 'flumelaw10.FieldsParts'. -/
def fieldsPartsCard : Claim7 := { stood := { row := fieldsPartsRow, standIns := [], harness := (true, "b7b04a5e23c144aaf3ed07f71e534f1c77dbf3b9fe34ff9557e3f13d899a9de9"), looks := true }, kinds := [], alts := [], laidByText := true, laidKinds := [.data, .data, .data, .data, .sentinel, .sentinel, .pinned], laidTests := true, laidLooks := .later }
def FieldsPartsCardSaid : Prop := Claim7.holds Tryd.pinned (.plain (OpenSpec.ofChange fieldsPartsSpec)) fieldsPartsCard

/-- THE TIED CARD OF 'flumelaw10.FieldsKinds'. -/
def fieldsKindsCard : Claim7 := { stood := { row := fieldsKindsRow, standIns := [], harness := (true, "b7b04a5e23c144aaf3ed07f71e534f1c77dbf3b9fe34ff9557e3f13d899a9de9"), looks := true }, kinds := [], alts := [], laidByText := true, laidKinds := [.data, .data, .data, .data, .sentinel, .sentinel, .pinned], laidTests := true, laidLooks := .later }
def FieldsKindsCardSaid : Prop := Claim7.holds Tryd.pinned (.plain (OpenSpec.ofChange fieldsKindsSpec)) fieldsKindsCard

/-- THE TIED CARD OF 'flumelaw10.FieldsBytes'. -/
def fieldsBytesCard : Claim7 := { stood := { row := fieldsBytesRow, standIns := [], harness := (true, "b7b04a5e23c144aaf3ed07f71e534f1c77dbf3b9fe34ff9557e3f13d899a9de9"), looks := true }, kinds := [], alts := [], laidByText := true, laidKinds := [.data, .data, .data, .data, .sentinel, .sentinel, .pinned], laidTests := true, laidLooks := .later }
def FieldsBytesCardSaid : Prop := Claim7.holds Tryd.pinned (.plain (OpenSpec.ofChange fieldsBytesSpec)) fieldsBytesCard

/-- THE TIED CARD OF 'flumelaw10.FieldsLengths'. -/
def fieldsLengthsCard : Claim7 := { stood := { row := fieldsLengthsRow, standIns := [], harness := (true, "b7b04a5e23c144aaf3ed07f71e534f1c77dbf3b9fe34ff9557e3f13d899a9de9"), looks := true }, kinds := [], alts := [], laidByText := true, laidKinds := [.data, .data, .data, .data, .sentinel, .sentinel, .pinned], laidTests := true, laidLooks := .later }
def FieldsLengthsCardSaid : Prop := Claim7.holds Tryd.pinned (.plain (OpenSpec.ofChange fieldsLengthsSpec)) fieldsLengthsCard

/-- THE TIED CARD OF 'flumelaw10.FieldsTurns'. -/
def fieldsTurnsCard : Claim7 := { stood := { row := fieldsTurnsRow, standIns := [], harness := (true, "b7b04a5e23c144aaf3ed07f71e534f1c77dbf3b9fe34ff9557e3f13d899a9de9"), looks := true }, kinds := [], alts := [], laidByText := true, laidKinds := [.data, .data, .data, .data, .sentinel, .sentinel, .pinned], laidTests := true, laidLooks := .later }
def FieldsTurnsCardSaid : Prop := Claim7.holds Tryd.pinned (.plain (OpenSpec.ofChange fieldsTurnsSpec)) fieldsTurnsCard

/-- THE TIED CARD OF 'flumelaw10.FieldsConnect'. -/
def fieldsConnectCard : Claim7 := { stood := { row := fieldsConnectRow, standIns := [], harness := (true, "b7b04a5e23c144aaf3ed07f71e534f1c77dbf3b9fe34ff9557e3f13d899a9de9"), looks := true }, kinds := [], alts := [], laidByText := true, laidKinds := [.data, .data, .data, .data, .sentinel, .sentinel, .pinned], laidTests := true, laidLooks := .later }
def FieldsConnectCardSaid : Prop := Claim7.holds Tryd.pinned (.plain (OpenSpec.ofChange fieldsConnectSpec)) fieldsConnectCard

/-- THE TIED CARD OF 'flumelaw10.FieldsForward'. -/
def fieldsForwardCard : Claim7 := { stood := { row := fieldsForwardRow, standIns := [], harness := (true, "b7b04a5e23c144aaf3ed07f71e534f1c77dbf3b9fe34ff9557e3f13d899a9de9"), looks := true }, kinds := [], alts := [], laidByText := true, laidKinds := [.data, .data, .data, .data, .sentinel, .sentinel, .pinned], laidTests := true, laidLooks := .later }
def FieldsForwardCardSaid : Prop := Claim7.holds Tryd.pinned (.plain (OpenSpec.ofChange fieldsForwardSpec)) fieldsForwardCard

/-- THE SECOND FORM's CARD OF 'flumelaw10.FieldsParts'. -/
def fieldsPartsUptoCard : Claim7 := { stood := { row := fieldsPartsUptoRow, standIns := [], harness := (true, "b7b04a5e23c144aaf3ed07f71e534f1c77dbf3b9fe34ff9557e3f13d899a9de9"), looks := true }, kinds := [], alts := [], laidByText := true, laidKinds := [.data, .data, .data, .data, .sentinel, .sentinel, .pinned], laidTests := true, laidLooks := .later }
def FieldsPartsUptoCardSaid : Prop := Claim7.holds Tryd.pinned (.plain (OpenSpec.upto fieldsPartsSpec)) fieldsPartsUptoCard

/-- THE SECOND FORM's CARD OF 'flumelaw10.FieldsKinds'. -/
def fieldsKindsUptoCard : Claim7 := { stood := { row := fieldsKindsUptoRow, standIns := [], harness := (true, "b7b04a5e23c144aaf3ed07f71e534f1c77dbf3b9fe34ff9557e3f13d899a9de9"), looks := true }, kinds := [], alts := [], laidByText := true, laidKinds := [.data, .data, .data, .data, .sentinel, .sentinel, .pinned], laidTests := true, laidLooks := .later }
def FieldsKindsUptoCardSaid : Prop := Claim7.holds Tryd.pinned (.plain (OpenSpec.upto fieldsKindsSpec)) fieldsKindsUptoCard

/-- THE SECOND FORM's CARD OF 'flumelaw10.FieldsBytes'. -/
def fieldsBytesUptoCard : Claim7 := { stood := { row := fieldsBytesUptoRow, standIns := [], harness := (true, "b7b04a5e23c144aaf3ed07f71e534f1c77dbf3b9fe34ff9557e3f13d899a9de9"), looks := true }, kinds := [], alts := [], laidByText := true, laidKinds := [.data, .data, .data, .data, .sentinel, .sentinel, .pinned], laidTests := true, laidLooks := .later }
def FieldsBytesUptoCardSaid : Prop := Claim7.holds Tryd.pinned (.plain (OpenSpec.upto fieldsBytesSpec)) fieldsBytesUptoCard

/-- THE SECOND FORM's CARD OF 'flumelaw10.FieldsLengths'. -/
def fieldsLengthsUptoCard : Claim7 := { stood := { row := fieldsLengthsUptoRow, standIns := [], harness := (true, "b7b04a5e23c144aaf3ed07f71e534f1c77dbf3b9fe34ff9557e3f13d899a9de9"), looks := true }, kinds := [], alts := [], laidByText := true, laidKinds := [.data, .data, .data, .data, .sentinel, .sentinel, .pinned], laidTests := true, laidLooks := .later }
def FieldsLengthsUptoCardSaid : Prop := Claim7.holds Tryd.pinned (.plain (OpenSpec.upto fieldsLengthsSpec)) fieldsLengthsUptoCard

/-- THE SECOND FORM's CARD OF 'flumelaw10.FieldsTurns'. -/
def fieldsTurnsUptoCard : Claim7 := { stood := { row := fieldsTurnsUptoRow, standIns := [], harness := (true, "b7b04a5e23c144aaf3ed07f71e534f1c77dbf3b9fe34ff9557e3f13d899a9de9"), looks := true }, kinds := [], alts := [], laidByText := true, laidKinds := [.data, .data, .data, .data, .sentinel, .sentinel, .pinned], laidTests := true, laidLooks := .later }
def FieldsTurnsUptoCardSaid : Prop := Claim7.holds Tryd.pinned (.plain (OpenSpec.upto fieldsTurnsSpec)) fieldsTurnsUptoCard

/-- THE SECOND FORM's CARD OF 'flumelaw10.FieldsConnect'. -/
def fieldsConnectUptoCard : Claim7 := { stood := { row := fieldsConnectUptoRow, standIns := [], harness := (true, "b7b04a5e23c144aaf3ed07f71e534f1c77dbf3b9fe34ff9557e3f13d899a9de9"), looks := true }, kinds := [], alts := [], laidByText := true, laidKinds := [.data, .data, .data, .data, .sentinel, .sentinel, .pinned], laidTests := true, laidLooks := .later }
def FieldsConnectUptoCardSaid : Prop := Claim7.holds Tryd.pinned (.plain (OpenSpec.upto fieldsConnectSpec)) fieldsConnectUptoCard

/-- THE SECOND FORM's CARD OF 'flumelaw10.FieldsForward'. -/
def fieldsForwardUptoCard : Claim7 := { stood := { row := fieldsForwardUptoRow, standIns := [], harness := (true, "b7b04a5e23c144aaf3ed07f71e534f1c77dbf3b9fe34ff9557e3f13d899a9de9"), looks := true }, kinds := [], alts := [], laidByText := true, laidKinds := [.data, .data, .data, .data, .sentinel, .sentinel, .pinned], laidTests := true, laidLooks := .later }
def FieldsForwardUptoCardSaid : Prop := Claim7.holds Tryd.pinned (.plain (OpenSpec.upto fieldsForwardSpec)) fieldsForwardUptoCard
end Rows
end Go.Proofs.YtikngjdljdofkaaDoor
