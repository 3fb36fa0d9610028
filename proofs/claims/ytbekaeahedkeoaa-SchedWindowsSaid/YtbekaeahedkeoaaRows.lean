/-
  No cell of these rows narrows 'for every input' (looked for: loops, veiled, ifaces, maps, wideKeys, modest, calm, conditions, laid).
  DERIVED. THE GIVEN ROWS OF THIS SEAT. 5 by the template 'for every input the law returns true; each argument reads behind the call as it read before'; 0 by the template 'total and deterministic' (their statements: YtbekaeahedkeoaaTotals.lean).
  GIVEN WITH THE SEED: the statements are not yours to turn. If you find one false, say at which input.
  Laid BY PROGRAM, IN A SANDBOX (cutbox-rows.mjs): the forced cells as the released guide's own fill.sh prints them over the translation c7452d99cd4e5256… (all of the seat's roots in one cut). By AI agents, Wed Nov 11 2026. No macro, syntax, notation, axiom, sorry.
-/
import Derived.Test.YtbekaeahedkeoaaChecked
import GoSem.Claim
import GoSem.ClaimJoined
import GoSem.ClaimMapViews
import Derived.JoinedTies
import Derived.KernelRfl
namespace Go.Proofs.Ytbekaeahedkeoaa
/- THE CELL 'sum', in the pinned program and in every row, IS THE sha256 OF THE DUMP (.gsa) THAT YtbekaeahedkeoaaProg.lean LOADS. Nothing in Lean hashes anything: it is a label: what it is worth is what the hold of that sum in a sandbox is worth. -/
noncomputable def Try.pinned : Pinned := { name := "ytbekaeahedkeoaa", sum := "c7452d99cd4e525653e07a85ca5ca7f57fff0d9e24cec3688a86a312d7f4dc7f", checked := Try.checked }
namespace Rows
def none {H : Type} : Left H := { results := [], args := [] }

/-- 'flumelaw11.SchedControls': WHATEVER THE INPUT: true; the input reads as it did. -/
def schedControlsSpec : ChangeSpec := { name := "schedControls", fn := fun _ => fun
  | [d1, d2, d3] => { results := [.lit (.bool true)], args := [d1, d2, d3] }
  | _ => none }
def schedControlsRow : OpenClaim := { program := "ytbekaeahedkeoaa", sum := "c7452d99cd4e525653e07a85ca5ca7f57fff0d9e24cec3688a86a312d7f4dc7f", func := "flume/flumelaw11.SchedControls", spec := "schedControls", unfollowed := true, recurses := true, apart := false }
def SchedControlsSaid : Prop := schedControlsRow.holds Try.pinned (OpenSpec.ofChange schedControlsSpec)

/-- ITS FALSE NEIGHBOUR: 'it returns false'. Refute it at one input. -/
def schedControlsWrong : ChangeSpec := { name := "schedControls", fn := fun _ => fun
  | [d1, d2, d3] => { results := [.lit (.bool false)], args := [d1, d2, d3] }
  | _ => none }
def SchedControlsWrongFalsely : Prop := schedControlsRow.holds Try.pinned (OpenSpec.ofChange schedControlsWrong)

/-- 'flumelaw11.SchedIdle': WHATEVER THE INPUT: true; the input reads as it did. -/
def schedIdleSpec : ChangeSpec := { name := "schedIdle", fn := fun _ => fun
  | [d1, d2, d3] => { results := [.lit (.bool true)], args := [d1, d2, d3] }
  | _ => none }
def schedIdleRow : OpenClaim := { program := "ytbekaeahedkeoaa", sum := "c7452d99cd4e525653e07a85ca5ca7f57fff0d9e24cec3688a86a312d7f4dc7f", func := "flume/flumelaw11.SchedIdle", spec := "schedIdle", unfollowed := true, recurses := true, apart := false }
def SchedIdleSaid : Prop := schedIdleRow.holds Try.pinned (OpenSpec.ofChange schedIdleSpec)

/-- ITS FALSE NEIGHBOUR: 'it returns false'. Refute it at one input. -/
def schedIdleWrong : ChangeSpec := { name := "schedIdle", fn := fun _ => fun
  | [d1, d2, d3] => { results := [.lit (.bool false)], args := [d1, d2, d3] }
  | _ => none }
def SchedIdleWrongFalsely : Prop := schedIdleRow.holds Try.pinned (OpenSpec.ofChange schedIdleWrong)

/-- 'flumelaw11.SchedQueue': WHATEVER THE INPUT: true; the input reads as it did. -/
def schedQueueSpec : ChangeSpec := { name := "schedQueue", fn := fun _ => fun
  | [d1, d2] => { results := [.lit (.bool true)], args := [d1, d2] }
  | _ => none }
def schedQueueRow : OpenClaim := { program := "ytbekaeahedkeoaa", sum := "c7452d99cd4e525653e07a85ca5ca7f57fff0d9e24cec3688a86a312d7f4dc7f", func := "flume/flumelaw11.SchedQueue", spec := "schedQueue", unfollowed := true, recurses := true, apart := false }
def SchedQueueSaid : Prop := schedQueueRow.holds Try.pinned (OpenSpec.ofChange schedQueueSpec)

/-- ITS FALSE NEIGHBOUR: 'it returns false'. Refute it at one input. -/
def schedQueueWrong : ChangeSpec := { name := "schedQueue", fn := fun _ => fun
  | [d1, d2] => { results := [.lit (.bool false)], args := [d1, d2] }
  | _ => none }
def SchedQueueWrongFalsely : Prop := schedQueueRow.holds Try.pinned (OpenSpec.ofChange schedQueueWrong)

/-- 'flumelaw11.SchedWindows': WHATEVER THE INPUT: true; the input reads as it did. -/
def schedWindowsSpec : ChangeSpec := { name := "schedWindows", fn := fun _ => fun
  | [d1, d2, d3, d4] => { results := [.lit (.bool true)], args := [d1, d2, d3, d4] }
  | _ => none }
def schedWindowsRow : OpenClaim := { program := "ytbekaeahedkeoaa", sum := "c7452d99cd4e525653e07a85ca5ca7f57fff0d9e24cec3688a86a312d7f4dc7f", func := "flume/flumelaw11.SchedWindows", spec := "schedWindows", unfollowed := true, recurses := true, apart := false }
def SchedWindowsSaid : Prop := schedWindowsRow.holds Try.pinned (OpenSpec.ofChange schedWindowsSpec)

/-- ITS FALSE NEIGHBOUR: 'it returns false'. Refute it at one input. -/
def schedWindowsWrong : ChangeSpec := { name := "schedWindows", fn := fun _ => fun
  | [d1, d2, d3, d4] => { results := [.lit (.bool false)], args := [d1, d2, d3, d4] }
  | _ => none }
def SchedWindowsWrongFalsely : Prop := schedWindowsRow.holds Try.pinned (OpenSpec.ofChange schedWindowsWrong)

/-- 'flumelaw11.SchedFair': WHATEVER THE INPUT: true; the input reads as it did. -/
def schedFairSpec : ChangeSpec := { name := "schedFair", fn := fun _ => fun
  | [d1, d2] => { results := [.lit (.bool true)], args := [d1, d2] }
  | _ => none }
def schedFairRow : OpenClaim := { program := "ytbekaeahedkeoaa", sum := "c7452d99cd4e525653e07a85ca5ca7f57fff0d9e24cec3688a86a312d7f4dc7f", func := "flume/flumelaw11.SchedFair", spec := "schedFair", unfollowed := true, recurses := true, apart := false }
def SchedFairSaid : Prop := schedFairRow.holds Try.pinned (OpenSpec.ofChange schedFairSpec)

/-- ITS FALSE NEIGHBOUR: 'it returns false'. Refute it at one input. -/
def schedFairWrong : ChangeSpec := { name := "schedFair", fn := fun _ => fun
  | [d1, d2] => { results := [.lit (.bool false)], args := [d1, d2] }
  | _ => none }
def SchedFairWrongFalsely : Prop := schedFairRow.holds Try.pinned (OpenSpec.ofChange schedFairWrong)

/- THE SECOND FORM. 'bulk': how many values and letters a reading holds, each counted each time it is reached (what is shared counts as often as it is met; a slice's spare places count too). A statement '..UptoSaid' is the law's where the arguments, and the package variables that the reading takes, are together of bulk at most 1048576: NARROWER than '..Said'. Prove '..Said' where nothing that the law and all that it calls make is longer than what came in: it says more and counts as full. Else prove '..UptoSaid'. A law counts once. -/
mutual
def uptoBulk {H : Type} : DataW H → Nat
  | .lit (.string bytes) => bytes.length + 1
  | .lit _ => 1
  | .nil => 1
  | .ptr d => uptoBulk d + 1
  | .slice elems spare => uptoBulkAll elems + uptoBulkAll spare + 1
  | .agg parts => uptoBulkAll parts + 1
  | .iface _ d => uptoBulk d + 1
  | .map entries => uptoBulkEntries entries + 1
  | .held _ => 1
def uptoBulkAll {H : Type} : List (DataW H) → Nat
  | [] => 0
  | d :: r => uptoBulk d + uptoBulkAll r
def uptoBulkEntries {H : Type} : List (Lit × DataW H) → Nat
  | [] => 0
  | x :: r => uptoBulkEntry x + uptoBulkEntries r
def uptoBulkEntry {H : Type} : Lit × DataW H → Nat
  | (.string bytes, d) => bytes.length + uptoBulk d + 1
  | (_, d) => uptoBulk d + 1
 end
def uptoSmall : (H : Type) → List (DataW H) → Bool := fun _ ds => decide (uptoBulkAll ds ≤ 1048576)
def OpenSpec.upto (s : _root_.Go.ChangeSpec) : _root_.Go.OpenSpec := { _root_.Go.OpenSpec.ofChange s with cond := some uptoSmall }

/-- 'flumelaw11.SchedControls', WHERE WHAT IT READS IS OF BULK AT MOST 1048576: true; the input reads as it did. -/
def schedControlsUptoRow : OpenClaim := { program := "ytbekaeahedkeoaa", sum := "c7452d99cd4e525653e07a85ca5ca7f57fff0d9e24cec3688a86a312d7f4dc7f", func := "flume/flumelaw11.SchedControls", spec := "schedControls", unfollowed := true, recurses := true, apart := false, narrowed := true }
def SchedControlsUptoSaid : Prop := schedControlsUptoRow.holds Try.pinned (OpenSpec.upto schedControlsSpec)

/-- 'flumelaw11.SchedIdle', WHERE WHAT IT READS IS OF BULK AT MOST 1048576: true; the input reads as it did. -/
def schedIdleUptoRow : OpenClaim := { program := "ytbekaeahedkeoaa", sum := "c7452d99cd4e525653e07a85ca5ca7f57fff0d9e24cec3688a86a312d7f4dc7f", func := "flume/flumelaw11.SchedIdle", spec := "schedIdle", unfollowed := true, recurses := true, apart := false, narrowed := true }
def SchedIdleUptoSaid : Prop := schedIdleUptoRow.holds Try.pinned (OpenSpec.upto schedIdleSpec)

/-- 'flumelaw11.SchedQueue', WHERE WHAT IT READS IS OF BULK AT MOST 1048576: true; the input reads as it did. -/
def schedQueueUptoRow : OpenClaim := { program := "ytbekaeahedkeoaa", sum := "c7452d99cd4e525653e07a85ca5ca7f57fff0d9e24cec3688a86a312d7f4dc7f", func := "flume/flumelaw11.SchedQueue", spec := "schedQueue", unfollowed := true, recurses := true, apart := false, narrowed := true }
def SchedQueueUptoSaid : Prop := schedQueueUptoRow.holds Try.pinned (OpenSpec.upto schedQueueSpec)

/-- 'flumelaw11.SchedWindows', WHERE WHAT IT READS IS OF BULK AT MOST 1048576: true; the input reads as it did. -/
def schedWindowsUptoRow : OpenClaim := { program := "ytbekaeahedkeoaa", sum := "c7452d99cd4e525653e07a85ca5ca7f57fff0d9e24cec3688a86a312d7f4dc7f", func := "flume/flumelaw11.SchedWindows", spec := "schedWindows", unfollowed := true, recurses := true, apart := false, narrowed := true }
def SchedWindowsUptoSaid : Prop := schedWindowsUptoRow.holds Try.pinned (OpenSpec.upto schedWindowsSpec)

/-- 'flumelaw11.SchedFair', WHERE WHAT IT READS IS OF BULK AT MOST 1048576: true; the input reads as it did. -/
def schedFairUptoRow : OpenClaim := { program := "ytbekaeahedkeoaa", sum := "c7452d99cd4e525653e07a85ca5ca7f57fff0d9e24cec3688a86a312d7f4dc7f", func := "flume/flumelaw11.SchedFair", spec := "schedFair", unfollowed := true, recurses := true, apart := false, narrowed := true }
def SchedFairUptoSaid : Prop := schedFairUptoRow.holds Try.pinned (OpenSpec.upto schedFairSpec)

end Rows
end Go.Proofs.Ytbekaeahedkeoaa
