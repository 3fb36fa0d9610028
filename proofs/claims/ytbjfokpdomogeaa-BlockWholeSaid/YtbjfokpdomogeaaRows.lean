/-
  No cell of these rows narrows 'for every input' (looked for: loops, veiled, ifaces, maps, wideKeys, modest, calm, conditions, laid).
  DERIVED. THE GIVEN ROWS OF THIS SEAT. 5 by the template 'for every input the law returns true; each argument reads behind the call as it read before'; 0 by the template 'total and deterministic' (their statements: YtbjfokpdomogeaaTotals.lean).
  GIVEN WITH THE SEED: the statements are not yours to turn. If you find one false, say at which input.
  Laid BY PROGRAM, IN A SANDBOX (cutbox-rows.mjs): the forced cells as the released guide's own fill.sh prints them over the translation 57aa06cd1ff74b47… (all of the seat's roots in one cut). By AI agents, Wed Nov 11 2026. No macro, syntax, notation, axiom, sorry.
-/
import Derived.Test.YtbjfokpdomogeaaChecked
import GoSem.Claim
import GoSem.ClaimJoined
import GoSem.ClaimMapViews
import Derived.JoinedTies
import Derived.KernelRfl
namespace Go.Proofs.Ytbjfokpdomogeaa
/- THE CELL 'sum', in the pinned program and in every row, IS THE sha256 OF THE DUMP (.gsa) THAT YtbjfokpdomogeaaProg.lean LOADS. Nothing in Lean hashes anything: it is a label: what it is worth is what the hold of that sum in a sandbox is worth. -/
noncomputable def Try.pinned : Pinned := { name := "ytbjfokpdomogeaa", sum := "57aa06cd1ff74b47b8f8272b84537a86d46aa44c92f072f0d95c0497f7ffb919", checked := Try.checked }
namespace Rows
def none {H : Type} : Left H := { results := [], args := [] }

/-- 'flumelaw12.BlockWhole': WHATEVER THE INPUT: true; the input reads as it did. -/
def blockWholeSpec : ChangeSpec := { name := "blockWhole", fn := fun _ => fun
  | [d1, d2, d3, d4, d5] => { results := [.lit (.bool true)], args := [d1, d2, d3, d4, d5] }
  | _ => none }
def blockWholeRow : OpenClaim := { program := "ytbjfokpdomogeaa", sum := "57aa06cd1ff74b47b8f8272b84537a86d46aa44c92f072f0d95c0497f7ffb919", func := "flume/flumelaw12.BlockWhole", spec := "blockWhole", apart := false }
def BlockWholeSaid : Prop := blockWholeRow.holds Try.pinned (OpenSpec.ofChange blockWholeSpec)

/-- ITS FALSE NEIGHBOUR: 'it returns false'. Refute it at one input. -/
def blockWholeWrong : ChangeSpec := { name := "blockWhole", fn := fun _ => fun
  | [d1, d2, d3, d4, d5] => { results := [.lit (.bool false)], args := [d1, d2, d3, d4, d5] }
  | _ => none }
def BlockWholeWrongFalsely : Prop := blockWholeRow.holds Try.pinned (OpenSpec.ofChange blockWholeWrong)

/-- 'flumelaw12.BlockBounds': WHATEVER THE INPUT: true; the input reads as it did. -/
def blockBoundsSpec : ChangeSpec := { name := "blockBounds", fn := fun _ => fun
  | [d1, d2] => { results := [.lit (.bool true)], args := [d1, d2] }
  | _ => none }
def blockBoundsRow : OpenClaim := { program := "ytbjfokpdomogeaa", sum := "57aa06cd1ff74b47b8f8272b84537a86d46aa44c92f072f0d95c0497f7ffb919", func := "flume/flumelaw12.BlockBounds", spec := "blockBounds", apart := false }
def BlockBoundsSaid : Prop := blockBoundsRow.holds Try.pinned (OpenSpec.ofChange blockBoundsSpec)

/-- ITS FALSE NEIGHBOUR: 'it returns false'. Refute it at one input. -/
def blockBoundsWrong : ChangeSpec := { name := "blockBounds", fn := fun _ => fun
  | [d1, d2] => { results := [.lit (.bool false)], args := [d1, d2] }
  | _ => none }
def BlockBoundsWrongFalsely : Prop := blockBoundsRow.holds Try.pinned (OpenSpec.ofChange blockBoundsWrong)

/-- 'flumelaw12.BlockMany': WHATEVER THE INPUT: true; the input reads as it did. -/
def blockManySpec : ChangeSpec := { name := "blockMany", fn := fun _ => fun
  | [d1, d2] => { results := [.lit (.bool true)], args := [d1, d2] }
  | _ => none }
def blockManyRow : OpenClaim := { program := "ytbjfokpdomogeaa", sum := "57aa06cd1ff74b47b8f8272b84537a86d46aa44c92f072f0d95c0497f7ffb919", func := "flume/flumelaw12.BlockMany", spec := "blockMany", apart := false }
def BlockManySaid : Prop := blockManyRow.holds Try.pinned (OpenSpec.ofChange blockManySpec)

/-- ITS FALSE NEIGHBOUR: 'it returns false'. Refute it at one input. -/
def blockManyWrong : ChangeSpec := { name := "blockMany", fn := fun _ => fun
  | [d1, d2] => { results := [.lit (.bool false)], args := [d1, d2] }
  | _ => none }
def BlockManyWrongFalsely : Prop := blockManyRow.holds Try.pinned (OpenSpec.ofChange blockManyWrong)

/-- 'flumelaw12.BlockAgain': WHATEVER THE INPUT: true; the input reads as it did. -/
def blockAgainSpec : ChangeSpec := { name := "blockAgain", fn := fun _ => fun
  | [d1, d2, d3, d4, d5, d6] => { results := [.lit (.bool true)], args := [d1, d2, d3, d4, d5, d6] }
  | _ => none }
def blockAgainRow : OpenClaim := { program := "ytbjfokpdomogeaa", sum := "57aa06cd1ff74b47b8f8272b84537a86d46aa44c92f072f0d95c0497f7ffb919", func := "flume/flumelaw12.BlockAgain", spec := "blockAgain", apart := false }
def BlockAgainSaid : Prop := blockAgainRow.holds Try.pinned (OpenSpec.ofChange blockAgainSpec)

/-- ITS FALSE NEIGHBOUR: 'it returns false'. Refute it at one input. -/
def blockAgainWrong : ChangeSpec := { name := "blockAgain", fn := fun _ => fun
  | [d1, d2, d3, d4, d5, d6] => { results := [.lit (.bool false)], args := [d1, d2, d3, d4, d5, d6] }
  | _ => none }
def BlockAgainWrongFalsely : Prop := blockAgainRow.holds Try.pinned (OpenSpec.ofChange blockAgainWrong)

/-- 'flumelaw12.BlockPasses': WHATEVER THE INPUT: true; the input reads as it did. -/
def blockPassesSpec : ChangeSpec := { name := "blockPasses", fn := fun _ => fun
  | [d] => { results := [.lit (.bool true)], args := [d] }
  | _ => none }
def blockPassesRow : OpenClaim := { program := "ytbjfokpdomogeaa", sum := "57aa06cd1ff74b47b8f8272b84537a86d46aa44c92f072f0d95c0497f7ffb919", func := "flume/flumelaw12.BlockPasses", spec := "blockPasses", apart := false }
def BlockPassesSaid : Prop := blockPassesRow.holds Try.pinned (OpenSpec.ofChange blockPassesSpec)

/-- ITS FALSE NEIGHBOUR: 'it returns false'. Refute it at one input. -/
def blockPassesWrong : ChangeSpec := { name := "blockPasses", fn := fun _ => fun
  | [d] => { results := [.lit (.bool false)], args := [d] }
  | _ => none }
def BlockPassesWrongFalsely : Prop := blockPassesRow.holds Try.pinned (OpenSpec.ofChange blockPassesWrong)

/- THE SECOND FORM. 'bulk': how many values and letters a reading holds, each counted each time it is reached (what is shared counts as often as it is met; a slice's spare places count too). A statement '..UptoSaid' is the law's where the arguments, and the package variables that the reading takes, are together of bulk at most 1048576: NARROWER than '..Said'. Prove '..Said' where nothing that the law and all that it calls make is longer than what came in: it says more and counts as full. Else prove '..UptoSaid'. A law counts once. -/
mutual
def uptoBulk {H : Type} : DataW H → Nat
  | .lit (.string bytes) => bytes.length + 1
  | .lit _ => 1
  | .nil => 1
  | .ptr d => uptoBulk d + 1
  | .slice elems spare => uptoBulkAll elems + uptoBulkAll spare + 1
  | .agg parts => uptoBulkAll parts + 1
  | .iface _ d => uptoBulk d + 1
  | .map entries => uptoBulkEntries entries + 1
  | .held _ => 1
def uptoBulkAll {H : Type} : List (DataW H) → Nat
  | [] => 0
  | d :: r => uptoBulk d + uptoBulkAll r
def uptoBulkEntries {H : Type} : List (Lit × DataW H) → Nat
  | [] => 0
  | x :: r => uptoBulkEntry x + uptoBulkEntries r
def uptoBulkEntry {H : Type} : Lit × DataW H → Nat
  | (.string bytes, d) => bytes.length + uptoBulk d + 1
  | (_, d) => uptoBulk d + 1
 end
def uptoSmall : (H : Type) → List (DataW H) → Bool := fun _ ds => decide (uptoBulkAll ds ≤ 1048576)
def OpenSpec.upto (s : _root_.Go.ChangeSpec) : _root_.Go.OpenSpec := { _root_.Go.OpenSpec.ofChange s with cond := some uptoSmall }

/-- 'flumelaw12.BlockWhole', WHERE WHAT IT READS IS OF BULK AT MOST 1048576: true; the input reads as it did. -/
def blockWholeUptoRow : OpenClaim := { program := "ytbjfokpdomogeaa", sum := "57aa06cd1ff74b47b8f8272b84537a86d46aa44c92f072f0d95c0497f7ffb919", func := "flume/flumelaw12.BlockWhole", spec := "blockWhole", apart := false, narrowed := true }
def BlockWholeUptoSaid : Prop := blockWholeUptoRow.holds Try.pinned (OpenSpec.upto blockWholeSpec)

/-- 'flumelaw12.BlockBounds', WHERE WHAT IT READS IS OF BULK AT MOST 1048576: true; the input reads as it did. -/
def blockBoundsUptoRow : OpenClaim := { program := "ytbjfokpdomogeaa", sum := "57aa06cd1ff74b47b8f8272b84537a86d46aa44c92f072f0d95c0497f7ffb919", func := "flume/flumelaw12.BlockBounds", spec := "blockBounds", apart := false, narrowed := true }
def BlockBoundsUptoSaid : Prop := blockBoundsUptoRow.holds Try.pinned (OpenSpec.upto blockBoundsSpec)

/-- 'flumelaw12.BlockMany', WHERE WHAT IT READS IS OF BULK AT MOST 1048576: true; the input reads as it did. -/
def blockManyUptoRow : OpenClaim := { program := "ytbjfokpdomogeaa", sum := "57aa06cd1ff74b47b8f8272b84537a86d46aa44c92f072f0d95c0497f7ffb919", func := "flume/flumelaw12.BlockMany", spec := "blockMany", apart := false, narrowed := true }
def BlockManyUptoSaid : Prop := blockManyUptoRow.holds Try.pinned (OpenSpec.upto blockManySpec)

/-- 'flumelaw12.BlockAgain', WHERE WHAT IT READS IS OF BULK AT MOST 1048576: true; the input reads as it did. -/
def blockAgainUptoRow : OpenClaim := { program := "ytbjfokpdomogeaa", sum := "57aa06cd1ff74b47b8f8272b84537a86d46aa44c92f072f0d95c0497f7ffb919", func := "flume/flumelaw12.BlockAgain", spec := "blockAgain", apart := false, narrowed := true }
def BlockAgainUptoSaid : Prop := blockAgainUptoRow.holds Try.pinned (OpenSpec.upto blockAgainSpec)

/-- 'flumelaw12.BlockPasses', WHERE WHAT IT READS IS OF BULK AT MOST 1048576: true; the input reads as it did. -/
def blockPassesUptoRow : OpenClaim := { program := "ytbjfokpdomogeaa", sum := "57aa06cd1ff74b47b8f8272b84537a86d46aa44c92f072f0d95c0497f7ffb919", func := "flume/flumelaw12.BlockPasses", spec := "blockPasses", apart := false, narrowed := true }
def BlockPassesUptoSaid : Prop := blockPassesUptoRow.holds Try.pinned (OpenSpec.upto blockPassesSpec)

end Rows
end Go.Proofs.Ytbjfokpdomogeaa
