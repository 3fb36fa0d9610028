

/-
  FieldsBytes: a name, and a value, stand or fall with each byte.
-/
import Derived.Test.YtikngjdljdofkaaDoorFmBy2
import Derived.Test.YtikngjdljdofkaaDoorLawD
import Derived.Test.YtikngjdljdofkaaDoorTie
import Derived.Test.YtikngjdljdofkaaDoorCards
import Derived.SevenTiedAt
namespace Go.Proofs.YtikngjdljdofkaaDoor.fieldsBytes
open Go.RowKit Go.Sl Go.ChangeShapes

theorem contract {H : Type} {enc : TypeId × Value → H} {W : World} {vs : List Value} {ds : List (DataW H)}
    (hA : Args enc Tryd.prog W [5, 4] vs ds) (hsz : (DataW.weightsEach Tryd.prog [5, 4] ds).all (· ≤ reachBytes) = true) (hL : laidMetH Tryd.prog Rows.fieldsBytesRow.laid W) :
    Calls Tryd.prog 5 vs.toArray W fun e W' => e = .returned (.bool true) ∧ Below W.heap.size W W' := by
  obtain ⟨v0, _, d0, _, rfl, rfl, h0, hA⟩ := args_cons hA
  obtain ⟨v1, _, d1, _, rfl, rfl, h1, hA⟩ := args_cons hA
  obtain ⟨rfl, rfl⟩ := args_nil hA
  obtain ⟨c, rfl⟩ := arg_u8 Tryd.underlying5 h0
  obtain ⟨b, rfl⟩ := arg_bool Tryd.underlying4 h1
  cases b
  · exact bytes_false c
  · exact bytes_true c



theorem spec {H : Type} : ∀ ds : List (DataW H), ds.length = 2 → Rows.fieldsBytesSpec.fn H ds = { results := [.lit (.bool true)], args := ds }
  | [_, _], _ => rfl
  | [], h => by cases h
  | [_], h => by cases h
  | _ :: _ :: _ :: _, h => by simp at h
theorem door_met (os : Os) (args : Array Value) : laidMetH Tryd.prog Rows.fieldsBytesRow.laid ((World.setRow (World.doorLaid Tryd.prog 72 os) (Tryd.prog.globalNamed "unicode/utf8.first").get! (Go.Pinned.utf8FirstZ.map fun z : Nat => Value.int .u8 (z : Int)).toArray).forCall (fun _ _ => 0) ⟨#[], args, []⟩).memory :=
  laidMetH_of_parts3 (fuel := 8) (laidMet_of_run' 8 (by kernel_rfl) (by kernel_rfl)) (by kernel_rfl) (by kernel_rfl)
set_option maxRecDepth 100000 in
theorem lifted (os : Os) (started : os.Started) (H : Type) (enc : TypeId × Value → H) :
    ReturnsInHanded {} Tryd.checked os 5 .any (fun w args => (Rows.fieldsBytesSpec.pre enc Tryd.prog Tryd.f5 Rows.fieldsBytesRow.domain false w args ∧ laidMetH Tryd.prog Rows.fieldsBytesRow.laid w) ∧ sizedMet enc Tryd.prog Tryd.f5 (OpenSpec.ofChange Rows.fieldsBytesSpec) false w args)
      (Rows.fieldsBytesSpec.post enc Tryd.prog Tryd.f5 false true false false) :=
  lifted_of_law_laid (C := Tryd.checked) (fn := Tryd.f5) (s := Rows.fieldsBytesSpec) (tb := 4) (by kernel_rfl) started (by kernel_rfl) Tryd.func5
    (ChangeSpec.witness_shaped (enc := enc) (C := Tryd.checked) (os := os) (X := fun w _ => laidMetH Tryd.prog Rows.fieldsBytesRow.laid w) false (World.setRow (World.doorLaid Tryd.prog 72 os) (Tryd.prog.globalNamed "unicode/utf8.first").get! (Go.Pinned.utf8FirstZ.map fun z : Nat => Value.int .u8 (z : Int)).toArray) #[.int .u8 0, .bool false] 8 rfl (World.shaped_of_RefB (by kernel_rfl) (by kernel_rfl)) (by kernel_rfl) (by kernel_rfl) (by kernel_rfl) (door_met os _))
    rfl spec (by kernel_rfl) Tryd.underlying4 (by kernel_rfl) (by kernel_rfl) (fun _ _ _ h1 h2 h3 => contract h1 h2 h3)

theorem holds : Rows.FieldsBytesSaid :=
  OpenClaim.holds_of_wide 5 Tryd.f5 rfl rfl rfl rfl rfl rfl rfl ⟨rfl, rfl, rfl, rfl, rfl⟩ rfl rfl rfl rfl rfl (by kernel_rfl) Tryd.func5 (by kernel_rfl)
    (of_decide_eq_true (by kernel_rfl)) (by unfold Func.isWrapper; first | (rw [if_pos (by decide +kernel)]; kernel_rfl) | (rw [if_neg (by decide +kernel)]; exact ⟨rfl, rfl⟩))
    (fun os started H enc _ => lifted os started H enc)

theorem proved : Rows.FieldsBytesCardSaid :=
  Claim7.holds_tied_plain_at .later [] [.data, .data, .data, .data, .sentinel, .sentinel, .pinned] true (true, "b7b04a5e23c144aaf3ed07f71e534f1c77dbf3b9fe34ff9557e3f13d899a9de9") true
    holds (fun _ h => by cases h) (by kernel_rfl) (fun _ h => by cases h) fieldsBytes_row_tie rfl ⟨rfl, rfl⟩ (by kernel_rfl) rfl
    (fun f fn hf hfn => by
      obtain rfl : f = 5 := Option.some.inj ((show Tryd.prog.funcNamed "flume/flumelaw10.FieldsBytes" = some 5 by kernel_rfl).symm.trans hf) |>.symm
      obtain rfl : fn = Tryd.f5 := (Option.some.inj (Tryd.func5.symm.trans hfn)).symm
      exact ⟨by kernel_rfl, fun j t ht => by
        rw [Tryd.params5] at ht
        have hm : t ∈ [5, 4] := by simpa using Array.mem_of_getElem? ht
        have hall : ([5, 4].all fun u => !Tryd.prog.wantsStandIn u) = true := by kernel_rfl
        exact (show Tryd.prog.wantsStandIn t = false by simpa using List.all_eq_true.1 hall t hm)⟩)
    (by kernel_rfl)
end Go.Proofs.YtikngjdljdofkaaDoor.fieldsBytes
