/-
  No cell of these rows narrows 'for every input' (looked for: loops, veiled, ifaces, maps, wideKeys, modest, calm, conditions, laid).
  DERIVED. THE GIVEN ROWS OF THIS SEAT. 6 by the template 'for every input the law returns true; each argument reads behind the call as it read before'; 0 by the template 'total and deterministic' (their statements: YtalgkehaeiokoaaTotals.lean).
  GIVEN WITH THE SEED: the statements are not yours to turn. If you find one false, say at which input.
  Laid BY PROGRAM, IN A SANDBOX (cutbox-rows.mjs): the forced cells as the released guide's own fill.sh prints them over the translation 7c6e4551087aa2ee… (all of the seat's roots in one cut). By AI agents, Wed Nov 11 2026. No macro, syntax, notation, axiom, sorry.
-/
import Derived.Test.YtalgkehaeiokoaaChecked
import GoSem.Claim
import GoSem.ClaimJoined
import GoSem.ClaimMapViews
import Derived.JoinedTies
import Derived.KernelRfl
namespace Go.Proofs.Ytalgkehaeiokoaa
/- THE CELL 'sum', in the pinned program and in every row, IS THE sha256 OF THE DUMP (.gsa) THAT YtalgkehaeiokoaaProg.lean LOADS. Nothing in Lean hashes anything: it is a label: what it is worth is what the hold of that sum in a sandbox is worth. -/
noncomputable def Try.pinned : Pinned := { name := "ytalgkehaeiokoaa", sum := "7c6e4551087aa2ee3b4e51235d51965dd42a2b78a9989a72dc328b329e451f2a", checked := Try.checked }
namespace Rows
def none {H : Type} : Left H := { results := [], args := [] }

/-- 'flumelaw01.OctetsBack': WHATEVER THE INPUT: true; the input reads as it did. -/
def octetsBackSpec : ChangeSpec := { name := "octetsBack", fn := fun _ => fun
  | [d1, d2, d3] => { results := [.lit (.bool true)], args := [d1, d2, d3] }
  | _ => none }
def octetsBackRow : OpenClaim := { program := "ytalgkehaeiokoaa", sum := "7c6e4551087aa2ee3b4e51235d51965dd42a2b78a9989a72dc328b329e451f2a", func := "flume/flumelaw01.OctetsBack", spec := "octetsBack", apart := false }
def OctetsBackSaid : Prop := octetsBackRow.holds Try.pinned (OpenSpec.ofChange octetsBackSpec)

/-- ITS FALSE NEIGHBOUR: 'it returns false'. Refute it at one input. -/
def octetsBackWrong : ChangeSpec := { name := "octetsBack", fn := fun _ => fun
  | [d1, d2, d3] => { results := [.lit (.bool false)], args := [d1, d2, d3] }
  | _ => none }
def OctetsBackWrongFalsely : Prop := octetsBackRow.holds Try.pinned (OpenSpec.ofChange octetsBackWrong)

/-- 'flumelaw01.OctetsPeeks': WHATEVER THE INPUT: true; the input reads as it did. -/
def octetsPeeksSpec : ChangeSpec := { name := "octetsPeeks", fn := fun _ => fun
  | [d1, d2] => { results := [.lit (.bool true)], args := [d1, d2] }
  | _ => none }
def octetsPeeksRow : OpenClaim := { program := "ytalgkehaeiokoaa", sum := "7c6e4551087aa2ee3b4e51235d51965dd42a2b78a9989a72dc328b329e451f2a", func := "flume/flumelaw01.OctetsPeeks", spec := "octetsPeeks", apart := false }
def OctetsPeeksSaid : Prop := octetsPeeksRow.holds Try.pinned (OpenSpec.ofChange octetsPeeksSpec)

/-- ITS FALSE NEIGHBOUR: 'it returns false'. Refute it at one input. -/
def octetsPeeksWrong : ChangeSpec := { name := "octetsPeeks", fn := fun _ => fun
  | [d1, d2] => { results := [.lit (.bool false)], args := [d1, d2] }
  | _ => none }
def OctetsPeeksWrongFalsely : Prop := octetsPeeksRow.holds Try.pinned (OpenSpec.ofChange octetsPeeksWrong)

/-- 'flumelaw01.OctetsNext': WHATEVER THE INPUT: true; the input reads as it did. -/
def octetsNextSpec : ChangeSpec := { name := "octetsNext", fn := fun _ => fun
  | [d1, d2, d3, d4] => { results := [.lit (.bool true)], args := [d1, d2, d3, d4] }
  | _ => none }
def octetsNextRow : OpenClaim := { program := "ytalgkehaeiokoaa", sum := "7c6e4551087aa2ee3b4e51235d51965dd42a2b78a9989a72dc328b329e451f2a", func := "flume/flumelaw01.OctetsNext", spec := "octetsNext", apart := false }
def OctetsNextSaid : Prop := octetsNextRow.holds Try.pinned (OpenSpec.ofChange octetsNextSpec)

/-- ITS FALSE NEIGHBOUR: 'it returns false'. Refute it at one input. -/
def octetsNextWrong : ChangeSpec := { name := "octetsNext", fn := fun _ => fun
  | [d1, d2, d3, d4] => { results := [.lit (.bool false)], args := [d1, d2, d3, d4] }
  | _ => none }
def OctetsNextWrongFalsely : Prop := octetsNextRow.holds Try.pinned (OpenSpec.ofChange octetsNextWrong)

/-- 'flumelaw01.OctetsQueues': WHATEVER THE INPUT: true; the input reads as it did. -/
def octetsQueuesSpec : ChangeSpec := { name := "octetsQueues", fn := fun _ => fun
  | [d1, d2] => { results := [.lit (.bool true)], args := [d1, d2] }
  | _ => none }
def octetsQueuesRow : OpenClaim := { program := "ytalgkehaeiokoaa", sum := "7c6e4551087aa2ee3b4e51235d51965dd42a2b78a9989a72dc328b329e451f2a", func := "flume/flumelaw01.OctetsQueues", spec := "octetsQueues", apart := false }
def OctetsQueuesSaid : Prop := octetsQueuesRow.holds Try.pinned (OpenSpec.ofChange octetsQueuesSpec)

/-- ITS FALSE NEIGHBOUR: 'it returns false'. Refute it at one input. -/
def octetsQueuesWrong : ChangeSpec := { name := "octetsQueues", fn := fun _ => fun
  | [d1, d2] => { results := [.lit (.bool false)], args := [d1, d2] }
  | _ => none }
def OctetsQueuesWrongFalsely : Prop := octetsQueuesRow.holds Try.pinned (OpenSpec.ofChange octetsQueuesWrong)

/-- 'flumelaw01.OctetsOrder': WHATEVER THE INPUT: true; the input reads as it did. -/
def octetsOrderSpec : ChangeSpec := { name := "octetsOrder", fn := fun _ => fun
  | [d1, d2, d3] => { results := [.lit (.bool true)], args := [d1, d2, d3] }
  | _ => none }
def octetsOrderRow : OpenClaim := { program := "ytalgkehaeiokoaa", sum := "7c6e4551087aa2ee3b4e51235d51965dd42a2b78a9989a72dc328b329e451f2a", func := "flume/flumelaw01.OctetsOrder", spec := "octetsOrder", apart := false }
def OctetsOrderSaid : Prop := octetsOrderRow.holds Try.pinned (OpenSpec.ofChange octetsOrderSpec)

/-- ITS FALSE NEIGHBOUR: 'it returns false'. Refute it at one input. -/
def octetsOrderWrong : ChangeSpec := { name := "octetsOrder", fn := fun _ => fun
  | [d1, d2, d3] => { results := [.lit (.bool false)], args := [d1, d2, d3] }
  | _ => none }
def OctetsOrderWrongFalsely : Prop := octetsOrderRow.holds Try.pinned (OpenSpec.ofChange octetsOrderWrong)

/-- 'flumelaw01.OctetsRoom': WHATEVER THE INPUT: true; the input reads as it did. -/
def octetsRoomSpec : ChangeSpec := { name := "octetsRoom", fn := fun _ => fun
  | [d1, d2, d3] => { results := [.lit (.bool true)], args := [d1, d2, d3] }
  | _ => none }
def octetsRoomRow : OpenClaim := { program := "ytalgkehaeiokoaa", sum := "7c6e4551087aa2ee3b4e51235d51965dd42a2b78a9989a72dc328b329e451f2a", func := "flume/flumelaw01.OctetsRoom", spec := "octetsRoom", apart := false }
def OctetsRoomSaid : Prop := octetsRoomRow.holds Try.pinned (OpenSpec.ofChange octetsRoomSpec)

/-- ITS FALSE NEIGHBOUR: 'it returns false'. Refute it at one input. -/
def octetsRoomWrong : ChangeSpec := { name := "octetsRoom", fn := fun _ => fun
  | [d1, d2, d3] => { results := [.lit (.bool false)], args := [d1, d2, d3] }
  | _ => none }
def OctetsRoomWrongFalsely : Prop := octetsRoomRow.holds Try.pinned (OpenSpec.ofChange octetsRoomWrong)

/- THE SECOND FORM. 'bulk': how many values and letters a reading holds, each counted each time it is reached (what is shared counts as often as it is met; a slice's spare places count too). A statement '..UptoSaid' is the law's where the arguments, and the package variables that the reading takes, are together of bulk at most 1048576: NARROWER than '..Said'. Prove '..Said' where nothing that the law and all that it calls make is longer than what came in: it says more and counts as full. Else prove '..UptoSaid'. A law counts once. -/
mutual
def uptoBulk {H : Type} : DataW H → Nat
  | .lit (.string bytes) => bytes.length + 1
  | .lit _ => 1
  | .nil => 1
  | .ptr d => uptoBulk d + 1
  | .slice elems spare => uptoBulkAll elems + uptoBulkAll spare + 1
  | .agg parts => uptoBulkAll parts + 1
  | .iface _ d => uptoBulk d + 1
  | .map entries => uptoBulkEntries entries + 1
  | .held _ => 1
def uptoBulkAll {H : Type} : List (DataW H) → Nat
  | [] => 0
  | d :: r => uptoBulk d + uptoBulkAll r
def uptoBulkEntries {H : Type} : List (Lit × DataW H) → Nat
  | [] => 0
  | x :: r => uptoBulkEntry x + uptoBulkEntries r
def uptoBulkEntry {H : Type} : Lit × DataW H → Nat
  | (.string bytes, d) => bytes.length + uptoBulk d + 1
  | (_, d) => uptoBulk d + 1
 end
def uptoSmall : (H : Type) → List (DataW H) → Bool := fun _ ds => decide (uptoBulkAll ds ≤ 1048576)
def OpenSpec.upto (s : _root_.Go.ChangeSpec) : _root_.Go.OpenSpec := { _root_.Go.OpenSpec.ofChange s with cond := some uptoSmall }

/-- 'flumelaw01.OctetsBack', WHERE WHAT IT READS IS OF BULK AT MOST 1048576: true; the input reads as it did. -/
def octetsBackUptoRow : OpenClaim := { program := "ytalgkehaeiokoaa", sum := "7c6e4551087aa2ee3b4e51235d51965dd42a2b78a9989a72dc328b329e451f2a", func := "flume/flumelaw01.OctetsBack", spec := "octetsBack", apart := false, narrowed := true }
def OctetsBackUptoSaid : Prop := octetsBackUptoRow.holds Try.pinned (OpenSpec.upto octetsBackSpec)

/-- 'flumelaw01.OctetsPeeks', WHERE WHAT IT READS IS OF BULK AT MOST 1048576: true; the input reads as it did. -/
def octetsPeeksUptoRow : OpenClaim := { program := "ytalgkehaeiokoaa", sum := "7c6e4551087aa2ee3b4e51235d51965dd42a2b78a9989a72dc328b329e451f2a", func := "flume/flumelaw01.OctetsPeeks", spec := "octetsPeeks", apart := false, narrowed := true }
def OctetsPeeksUptoSaid : Prop := octetsPeeksUptoRow.holds Try.pinned (OpenSpec.upto octetsPeeksSpec)

/-- 'flumelaw01.OctetsNext', WHERE WHAT IT READS IS OF BULK AT MOST 1048576: true; the input reads as it did. -/
def octetsNextUptoRow : OpenClaim := { program := "ytalgkehaeiokoaa", sum := "7c6e4551087aa2ee3b4e51235d51965dd42a2b78a9989a72dc328b329e451f2a", func := "flume/flumelaw01.OctetsNext", spec := "octetsNext", apart := false, narrowed := true }
def OctetsNextUptoSaid : Prop := octetsNextUptoRow.holds Try.pinned (OpenSpec.upto octetsNextSpec)

/-- 'flumelaw01.OctetsQueues', WHERE WHAT IT READS IS OF BULK AT MOST 1048576: true; the input reads as it did. -/
def octetsQueuesUptoRow : OpenClaim := { program := "ytalgkehaeiokoaa", sum := "7c6e4551087aa2ee3b4e51235d51965dd42a2b78a9989a72dc328b329e451f2a", func := "flume/flumelaw01.OctetsQueues", spec := "octetsQueues", apart := false, narrowed := true }
def OctetsQueuesUptoSaid : Prop := octetsQueuesUptoRow.holds Try.pinned (OpenSpec.upto octetsQueuesSpec)

/-- 'flumelaw01.OctetsOrder', WHERE WHAT IT READS IS OF BULK AT MOST 1048576: true; the input reads as it did. -/
def octetsOrderUptoRow : OpenClaim := { program := "ytalgkehaeiokoaa", sum := "7c6e4551087aa2ee3b4e51235d51965dd42a2b78a9989a72dc328b329e451f2a", func := "flume/flumelaw01.OctetsOrder", spec := "octetsOrder", apart := false, narrowed := true }
def OctetsOrderUptoSaid : Prop := octetsOrderUptoRow.holds Try.pinned (OpenSpec.upto octetsOrderSpec)

/-- 'flumelaw01.OctetsRoom', WHERE WHAT IT READS IS OF BULK AT MOST 1048576: true; the input reads as it did. -/
def octetsRoomUptoRow : OpenClaim := { program := "ytalgkehaeiokoaa", sum := "7c6e4551087aa2ee3b4e51235d51965dd42a2b78a9989a72dc328b329e451f2a", func := "flume/flumelaw01.OctetsRoom", spec := "octetsRoom", apart := false, narrowed := true }
def OctetsRoomUptoSaid : Prop := octetsRoomUptoRow.holds Try.pinned (OpenSpec.upto octetsRoomSpec)

end Rows
end Go.Proofs.Ytalgkehaeiokoaa
