
/-
  StreamSteps: each frame leads to one state.
-/
import Derived.Test.YtadbpekkmlblmaaStRef2
import Derived.Test.YtadbpekkmlblmaaLaw
namespace Go.Proofs.Ytadbpekkmlblmaa.streamSteps
open Go.RowKit Go.Sl Go.ChangeShapes

theorem stepsW {w0 : World} {s k : Int} {e sends : Bool} (s1 : -9223372036854775808 ≤ s) (s2 : s ≤ 9223372036854775807) (k1 : -9223372036854775808 ≤ k) (k2 : k ≤ 9223372036854775807) :
    Calls Try.prog 3 #[.int .i64 s, .bool sends, .int .i64 k, .bool e] w0 fun e w' => e = .returned (.bool true) ∧ Below w0.heap.size w0 w' := by
  have G := own_begin w0
  obtain ⟨x, y, z, hr⟩ : ∃ x y z, stepS s sends k e = (x, y, z) := ⟨_, _, _, rfl⟩
  have HR := Lib.hid hr
  clear hr
  go_enter Try.func3, Try.ntmps3
  go_wp2_with fail
  refine Calls.mono (shownSt G) ?_
  clear G; rintro e w ⟨rfl, G⟩
  go_wp2_with fail
  refine Calls.mono (stepE G s1 s2 k1 k2 HR.out) ?_
  clear G; rintro e w ⟨rfl, G⟩
  go_wp2_with fail
  refine Calls.mono (refW G s1 s2 k1 k2) ?_
  clear G; rintro e w ⟨rfl, G⟩
  rw [HR.out]
  simp only [StR]
  go_wp2_with fail
  go_ret
  exact ⟨rfl, G.below⟩

theorem contract {H : Type} {enc : TypeId × Value → H} {W : World} {vs : List Value} {ds : List (DataW H)}
    (hA : Args enc Try.prog W [3, 4, 3, 4] vs ds) (hsz : (DataW.weightsEach Try.prog [3, 4, 3, 4] ds).all (· ≤ reachBytes) = true) :
    Calls Try.prog 3 vs.toArray W fun e W' => e = .returned (.bool true) ∧ Below W.heap.size W W' := by
  obtain ⟨v0, _, d0, _, rfl, rfl, h0, hA⟩ := args_cons hA
  obtain ⟨v1, _, d1, _, rfl, rfl, h1, hA⟩ := args_cons hA
  obtain ⟨v2, _, d2, _, rfl, rfl, h2, hA⟩ := args_cons hA
  obtain ⟨v3, _, d3, _, rfl, rfl, h3, hA⟩ := args_cons hA
  obtain ⟨rfl, rfl⟩ := args_nil hA
  obtain ⟨s, rfl, s1, s2⟩ := arg_i64 Try.underlying3 h0
  obtain ⟨b, rfl⟩ := arg_bool Try.underlying4 h1
  obtain ⟨k, rfl, k1, k2⟩ := arg_i64 Try.underlying3 h2
  obtain ⟨c, rfl⟩ := arg_bool Try.underlying4 h3
  exact stepsW s1 s2 k1 k2


theorem spec {H : Type} : ∀ ds : List (DataW H), ds.length = 4 → Rows.streamStepsSpec.fn H ds = { results := [.lit (.bool true)], args := ds }
  | [_, _, _, _], _ => rfl
  | [], h => by cases h
  | [_], h => by cases h
  | [_, _], h => by cases h
  | [_, _, _], h => by cases h
  | _ :: _ :: _ :: _ :: _ :: _, h => by simp at h
set_option maxRecDepth 100000 in
theorem lifted (os : Os) (started : os.Started) (H : Type) (enc : TypeId × Value → H) :
    ReturnsInHanded {} Try.checked os 3 .any (Rows.streamStepsSpec.pre6 enc Try.prog Try.f3 Rows.streamStepsRow.domain false) (Rows.streamStepsSpec.post enc Try.prog Try.f3 false true false false) :=
  lifted_of_law (C := Try.checked) (fn := Try.f3) (s := Rows.streamStepsSpec) (tb := 4) (by kernel_rfl) started (by kernel_rfl) Try.func3
    (ChangeSpec.witness6 (enc := enc) (C := Try.checked) false ⟨#[], #[.int .i64 0, .bool false, .int .i64 0, .bool false], []⟩ 8 (by kernel_rfl) (by kernel_rfl) (by kernel_rfl) (by kernel_rfl))
    rfl spec (by kernel_rfl) Try.underlying4 (by kernel_rfl) (by kernel_rfl) (fun _ _ _ h1 h2 => contract h1 h2)

theorem proved : Rows.StreamStepsSaid :=
  OpenClaim.holds_of_wide 3 Try.f3 rfl rfl rfl rfl rfl rfl rfl ⟨rfl, rfl, rfl, rfl, rfl⟩ rfl rfl rfl rfl rfl (by kernel_rfl) Try.func3 (by kernel_rfl)
    (of_decide_eq_true (by kernel_rfl)) (by unfold Func.isWrapper; first | (rw [if_pos (by decide +kernel)]; kernel_rfl) | (rw [if_neg (by decide +kernel)]; exact ⟨rfl, rfl⟩))
    (fun os started H enc _ => lifted os started H enc)
end Go.Proofs.Ytadbpekkmlblmaa.streamSteps
