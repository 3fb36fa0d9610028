/-
  No cell of these rows narrows 'for every input' (looked for: loops, veiled, ifaces, maps, wideKeys, modest, calm, conditions, laid).
  DERIVED. THE GIVEN ROWS OF THIS SEAT. 6 by the template 'for every input the law returns true; each argument reads behind the call as it read before'; 0 by the template 'total and deterministic' (their statements: YtadbpekkmlblmaaTotals.lean).
  GIVEN WITH THE SEED: the statements are not yours to turn. If you find one false, say at which input.
  Laid BY PROGRAM, IN A SANDBOX (cutbox-rows.mjs): the forced cells as the released guide's own fill.sh prints them over the translation 59aa02e48bcbb279… (all of the seat's roots in one cut). By AI agents, Wed Nov 11 2026. No macro, syntax, notation, axiom, sorry.
-/
import Derived.Test.YtadbpekkmlblmaaChecked
import GoSem.Claim
import GoSem.ClaimJoined
import GoSem.ClaimMapViews
import Derived.JoinedTies
import Derived.KernelRfl
namespace Go.Proofs.Ytadbpekkmlblmaa
/- THE CELL 'sum', in the pinned program and in every row, IS THE sha256 OF THE DUMP (.gsa) THAT YtadbpekkmlblmaaProg.lean LOADS. Nothing in Lean hashes anything: it is a label: what it is worth is what the hold of that sum in a sandbox is worth. -/
noncomputable def Try.pinned : Pinned := { name := "ytadbpekkmlblmaa", sum := "59aa02e48bcbb279f17d86d1c7cb131fdc2ceaaf06e04f98959fe9d21da9ced5", checked := Try.checked }
namespace Rows
def none {H : Type} : Left H := { results := [], args := [] }

/-- 'flumelaw09.StreamSteps': WHATEVER THE INPUT: true; the input reads as it did. -/
def streamStepsSpec : ChangeSpec := { name := "streamSteps", fn := fun _ => fun
  | [d1, d2, d3, d4] => { results := [.lit (.bool true)], args := [d1, d2, d3, d4] }
  | _ => none }
def streamStepsRow : OpenClaim := { program := "ytadbpekkmlblmaa", sum := "59aa02e48bcbb279f17d86d1c7cb131fdc2ceaaf06e04f98959fe9d21da9ced5", func := "flume/flumelaw09.StreamSteps", spec := "streamSteps", apart := false }
def StreamStepsSaid : Prop := streamStepsRow.holds Try.pinned (OpenSpec.ofChange streamStepsSpec)

/-- ITS FALSE NEIGHBOUR: 'it returns false'. Refute it at one input. -/
def streamStepsWrong : ChangeSpec := { name := "streamSteps", fn := fun _ => fun
  | [d1, d2, d3, d4] => { results := [.lit (.bool false)], args := [d1, d2, d3, d4] }
  | _ => none }
def StreamStepsWrongFalsely : Prop := streamStepsRow.holds Try.pinned (OpenSpec.ofChange streamStepsWrong)

/-- 'flumelaw09.StreamAgrees': WHATEVER THE INPUT: true; the input reads as it did. -/
def streamAgreesSpec : ChangeSpec := { name := "streamAgrees", fn := fun _ => fun
  | [d] => { results := [.lit (.bool true)], args := [d] }
  | _ => none }
def streamAgreesRow : OpenClaim := { program := "ytadbpekkmlblmaa", sum := "59aa02e48bcbb279f17d86d1c7cb131fdc2ceaaf06e04f98959fe9d21da9ced5", func := "flume/flumelaw09.StreamAgrees", spec := "streamAgrees", apart := false }
def StreamAgreesSaid : Prop := streamAgreesRow.holds Try.pinned (OpenSpec.ofChange streamAgreesSpec)

/-- ITS FALSE NEIGHBOUR: 'it returns false'. Refute it at one input. -/
def streamAgreesWrong : ChangeSpec := { name := "streamAgrees", fn := fun _ => fun
  | [d] => { results := [.lit (.bool false)], args := [d] }
  | _ => none }
def StreamAgreesWrongFalsely : Prop := streamAgreesRow.holds Try.pinned (OpenSpec.ofChange streamAgreesWrong)

/-- 'flumelaw09.StreamStays': WHATEVER THE INPUT: true; the input reads as it did. -/
def streamStaysSpec : ChangeSpec := { name := "streamStays", fn := fun _ => fun
  | [d1, d2, d3, d4] => { results := [.lit (.bool true)], args := [d1, d2, d3, d4] }
  | _ => none }
def streamStaysRow : OpenClaim := { program := "ytadbpekkmlblmaa", sum := "59aa02e48bcbb279f17d86d1c7cb131fdc2ceaaf06e04f98959fe9d21da9ced5", func := "flume/flumelaw09.StreamStays", spec := "streamStays", apart := false }
def StreamStaysSaid : Prop := streamStaysRow.holds Try.pinned (OpenSpec.ofChange streamStaysSpec)

/-- ITS FALSE NEIGHBOUR: 'it returns false'. Refute it at one input. -/
def streamStaysWrong : ChangeSpec := { name := "streamStays", fn := fun _ => fun
  | [d1, d2, d3, d4] => { results := [.lit (.bool false)], args := [d1, d2, d3, d4] }
  | _ => none }
def StreamStaysWrongFalsely : Prop := streamStaysRow.holds Try.pinned (OpenSpec.ofChange streamStaysWrong)

/-- 'flumelaw09.StreamRises': WHATEVER THE INPUT: true; the input reads as it did. -/
def streamRisesSpec : ChangeSpec := { name := "streamRises", fn := fun _ => fun
  | [d1, d2] => { results := [.lit (.bool true)], args := [d1, d2] }
  | _ => none }
def streamRisesRow : OpenClaim := { program := "ytadbpekkmlblmaa", sum := "59aa02e48bcbb279f17d86d1c7cb131fdc2ceaaf06e04f98959fe9d21da9ced5", func := "flume/flumelaw09.StreamRises", spec := "streamRises", apart := false }
def StreamRisesSaid : Prop := streamRisesRow.holds Try.pinned (OpenSpec.ofChange streamRisesSpec)

/-- ITS FALSE NEIGHBOUR: 'it returns false'. Refute it at one input. -/
def streamRisesWrong : ChangeSpec := { name := "streamRises", fn := fun _ => fun
  | [d1, d2] => { results := [.lit (.bool false)], args := [d1, d2] }
  | _ => none }
def StreamRisesWrongFalsely : Prop := streamRisesRow.holds Try.pinned (OpenSpec.ofChange streamRisesWrong)

/-- 'flumelaw09.StreamIds': WHATEVER THE INPUT: true; the input reads as it did. -/
def streamIdsSpec : ChangeSpec := { name := "streamIds", fn := fun _ => fun
  | [d1, d2, d3] => { results := [.lit (.bool true)], args := [d1, d2, d3] }
  | _ => none }
def streamIdsRow : OpenClaim := { program := "ytadbpekkmlblmaa", sum := "59aa02e48bcbb279f17d86d1c7cb131fdc2ceaaf06e04f98959fe9d21da9ced5", func := "flume/flumelaw09.StreamIds", spec := "streamIds", apart := false }
def StreamIdsSaid : Prop := streamIdsRow.holds Try.pinned (OpenSpec.ofChange streamIdsSpec)

/-- ITS FALSE NEIGHBOUR: 'it returns false'. Refute it at one input. -/
def streamIdsWrong : ChangeSpec := { name := "streamIds", fn := fun _ => fun
  | [d1, d2, d3] => { results := [.lit (.bool false)], args := [d1, d2, d3] }
  | _ => none }
def StreamIdsWrongFalsely : Prop := streamIdsRow.holds Try.pinned (OpenSpec.ofChange streamIdsWrong)

/-- 'flumelaw09.StreamCounts': WHATEVER THE INPUT: true; the input reads as it did. -/
def streamCountsSpec : ChangeSpec := { name := "streamCounts", fn := fun _ => fun
  | [d1, d2, d3] => { results := [.lit (.bool true)], args := [d1, d2, d3] }
  | _ => none }
def streamCountsRow : OpenClaim := { program := "ytadbpekkmlblmaa", sum := "59aa02e48bcbb279f17d86d1c7cb131fdc2ceaaf06e04f98959fe9d21da9ced5", func := "flume/flumelaw09.StreamCounts", spec := "streamCounts", apart := false }
def StreamCountsSaid : Prop := streamCountsRow.holds Try.pinned (OpenSpec.ofChange streamCountsSpec)

/-- ITS FALSE NEIGHBOUR: 'it returns false'. Refute it at one input. -/
def streamCountsWrong : ChangeSpec := { name := "streamCounts", fn := fun _ => fun
  | [d1, d2, d3] => { results := [.lit (.bool false)], args := [d1, d2, d3] }
  | _ => none }
def StreamCountsWrongFalsely : Prop := streamCountsRow.holds Try.pinned (OpenSpec.ofChange streamCountsWrong)

/- THE SECOND FORM. 'bulk': how many values and letters a reading holds, each counted each time it is reached (what is shared counts as often as it is met; a slice's spare places count too). A statement '..UptoSaid' is the law's where the arguments, and the package variables that the reading takes, are together of bulk at most 1048576: NARROWER than '..Said'. Prove '..Said' where nothing that the law and all that it calls make is longer than what came in: it says more and counts as full. Else prove '..UptoSaid'. A law counts once. -/
mutual
def uptoBulk {H : Type} : DataW H → Nat
  | .lit (.string bytes) => bytes.length + 1
  | .lit _ => 1
  | .nil => 1
  | .ptr d => uptoBulk d + 1
  | .slice elems spare => uptoBulkAll elems + uptoBulkAll spare + 1
  | .agg parts => uptoBulkAll parts + 1
  | .iface _ d => uptoBulk d + 1
  | .map entries => uptoBulkEntries entries + 1
  | .held _ => 1
def uptoBulkAll {H : Type} : List (DataW H) → Nat
  | [] => 0
  | d :: r => uptoBulk d + uptoBulkAll r
def uptoBulkEntries {H : Type} : List (Lit × DataW H) → Nat
  | [] => 0
  | x :: r => uptoBulkEntry x + uptoBulkEntries r
def uptoBulkEntry {H : Type} : Lit × DataW H → Nat
  | (.string bytes, d) => bytes.length + uptoBulk d + 1
  | (_, d) => uptoBulk d + 1
 end
def uptoSmall : (H : Type) → List (DataW H) → Bool := fun _ ds => decide (uptoBulkAll ds ≤ 1048576)
def OpenSpec.upto (s : _root_.Go.ChangeSpec) : _root_.Go.OpenSpec := { _root_.Go.OpenSpec.ofChange s with cond := some uptoSmall }

/-- 'flumelaw09.StreamSteps', WHERE WHAT IT READS IS OF BULK AT MOST 1048576: true; the input reads as it did. -/
def streamStepsUptoRow : OpenClaim := { program := "ytadbpekkmlblmaa", sum := "59aa02e48bcbb279f17d86d1c7cb131fdc2ceaaf06e04f98959fe9d21da9ced5", func := "flume/flumelaw09.StreamSteps", spec := "streamSteps", apart := false, narrowed := true }
def StreamStepsUptoSaid : Prop := streamStepsUptoRow.holds Try.pinned (OpenSpec.upto streamStepsSpec)

/-- 'flumelaw09.StreamAgrees', WHERE WHAT IT READS IS OF BULK AT MOST 1048576: true; the input reads as it did. -/
def streamAgreesUptoRow : OpenClaim := { program := "ytadbpekkmlblmaa", sum := "59aa02e48bcbb279f17d86d1c7cb131fdc2ceaaf06e04f98959fe9d21da9ced5", func := "flume/flumelaw09.StreamAgrees", spec := "streamAgrees", apart := false, narrowed := true }
def StreamAgreesUptoSaid : Prop := streamAgreesUptoRow.holds Try.pinned (OpenSpec.upto streamAgreesSpec)

/-- 'flumelaw09.StreamStays', WHERE WHAT IT READS IS OF BULK AT MOST 1048576: true; the input reads as it did. -/
def streamStaysUptoRow : OpenClaim := { program := "ytadbpekkmlblmaa", sum := "59aa02e48bcbb279f17d86d1c7cb131fdc2ceaaf06e04f98959fe9d21da9ced5", func := "flume/flumelaw09.StreamStays", spec := "streamStays", apart := false, narrowed := true }
def StreamStaysUptoSaid : Prop := streamStaysUptoRow.holds Try.pinned (OpenSpec.upto streamStaysSpec)

/-- 'flumelaw09.StreamRises', WHERE WHAT IT READS IS OF BULK AT MOST 1048576: true; the input reads as it did. -/
def streamRisesUptoRow : OpenClaim := { program := "ytadbpekkmlblmaa", sum := "59aa02e48bcbb279f17d86d1c7cb131fdc2ceaaf06e04f98959fe9d21da9ced5", func := "flume/flumelaw09.StreamRises", spec := "streamRises", apart := false, narrowed := true }
def StreamRisesUptoSaid : Prop := streamRisesUptoRow.holds Try.pinned (OpenSpec.upto streamRisesSpec)

/-- 'flumelaw09.StreamIds', WHERE WHAT IT READS IS OF BULK AT MOST 1048576: true; the input reads as it did. -/
def streamIdsUptoRow : OpenClaim := { program := "ytadbpekkmlblmaa", sum := "59aa02e48bcbb279f17d86d1c7cb131fdc2ceaaf06e04f98959fe9d21da9ced5", func := "flume/flumelaw09.StreamIds", spec := "streamIds", apart := false, narrowed := true }
def StreamIdsUptoSaid : Prop := streamIdsUptoRow.holds Try.pinned (OpenSpec.upto streamIdsSpec)

/-- 'flumelaw09.StreamCounts', WHERE WHAT IT READS IS OF BULK AT MOST 1048576: true; the input reads as it did. -/
def streamCountsUptoRow : OpenClaim := { program := "ytadbpekkmlblmaa", sum := "59aa02e48bcbb279f17d86d1c7cb131fdc2ceaaf06e04f98959fe9d21da9ced5", func := "flume/flumelaw09.StreamCounts", spec := "streamCounts", apart := false, narrowed := true }
def StreamCountsUptoSaid : Prop := streamCountsUptoRow.holds Try.pinned (OpenSpec.upto streamCountsSpec)

end Rows
end Go.Proofs.Ytadbpekkmlblmaa
