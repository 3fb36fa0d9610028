/-
  OctetsBack, proved: for every input the law answers true.
-/
import Derived.Test.YtalgkehaeiokoaaOctBack
import Derived.Test.YtalgkehaeiokoaaLaw
namespace Go.Proofs.Ytalgkehaeiokoaa.octetsBack
open Go.RowKit Go.Sl Go.ChangeShapes

theorem contract {H : Type} {enc : TypeId × Value → H} {W : World} {vs : List Value} {ds : List (DataW H)}
    (hA : Args enc Try.prog W [22, 23, 3] vs ds) (hsz : (DataW.weightsEach Try.prog [22, 23, 3] ds).all (· ≤ reachBytes) = true) :
    Calls Try.prog 3 vs.toArray W fun e W' => e = .returned (.bool true) ∧ Below W.heap.size W W' := by
  obtain ⟨v0, _, d0, _, rfl, rfl, h0, hA⟩ := args_cons hA
  obtain ⟨v1, _, d1, _, rfl, rfl, h1, hA⟩ := args_cons hA
  obtain ⟨v2, _, d2, _, rfl, rfl, h2, hA⟩ := args_cons hA
  obtain ⟨rfl, rfl⟩ := args_nil hA
  obtain ⟨l, hr, hd⟩ := arg_bytes Try.underlying22 Try.underlying5 (by kernel_rfl) h0
  obtain ⟨x, rfl, hx⟩ := arg_u64 Try.underlying23 h1
  obtain ⟨n, rfl, n1, n2⟩ := arg_i64 Try.underlying3 h2
  have hn := reach_slice hsz 0 (b := 1) rfl rfl Try.underlying22 (by kernel_rfl) (Or.elim hd (fun h => .inl ⟨by rw [h.1]; rfl, h.2⟩) .inr)
  exact backW hr (by omega) hx n1 n2

theorem spec {H : Type} : ∀ ds : List (DataW H), ds.length = 3 → Rows.octetsBackSpec.fn H ds = { results := [.lit (.bool true)], args := ds }
  | [_, _, _], _ => rfl
  | [], h => by cases h
  | [_], h => by cases h
  | [_, _], h => by cases h
  | _ :: _ :: _ :: _ :: _, h => by simp at h
set_option maxRecDepth 100000 in
theorem lifted (os : Os) (started : os.Started) (H : Type) (enc : TypeId × Value → H) :
    ReturnsInHanded {} Try.checked os 3 .any (Rows.octetsBackSpec.pre6 enc Try.prog Try.f3 Rows.octetsBackRow.domain false) (Rows.octetsBackSpec.post enc Try.prog Try.f3 false true false false) :=
  lifted_of_law (C := Try.checked) (fn := Try.f3) (s := Rows.octetsBackSpec) (tb := 4) (by kernel_rfl) started (by kernel_rfl) Try.func3
    (ChangeSpec.witness6 (enc := enc) (C := Try.checked) false ⟨#[], #[.slice none 0 0, .int .u64 0, .int .i64 0], []⟩ 8 (by kernel_rfl) (by kernel_rfl) (by kernel_rfl) (by kernel_rfl))
    rfl spec (by kernel_rfl) Try.underlying4 (by kernel_rfl) (by kernel_rfl) (fun _ _ _ h1 h2 => contract h1 h2)

theorem proved : Rows.OctetsBackSaid :=
  OpenClaim.holds_of_wide 3 Try.f3 rfl rfl rfl rfl rfl rfl rfl ⟨rfl, rfl, rfl, rfl, rfl⟩ rfl rfl rfl rfl rfl (by kernel_rfl) Try.func3 (by kernel_rfl)
    (of_decide_eq_true (by kernel_rfl)) (by unfold Func.isWrapper; first | (rw [if_pos (by decide +kernel)]; kernel_rfl) | (rw [if_neg (by decide +kernel)]; exact ⟨rfl, rfl⟩))
    (fun os started H enc _ => lifted os started H enc)
end Go.Proofs.Ytalgkehaeiokoaa.octetsBack
