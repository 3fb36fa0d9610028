
/-
  BlockAgain: block behind block, each is whole by itself.
-/
import Derived.Test.YtbjfokpdomogeaaBlkTwo
import Derived.Test.YtbjfokpdomogeaaLaw
namespace Go.Proofs.Ytbjfokpdomogeaa.blockAgain
open Go.RowKit Go.Sl Go.ChangeShapes

theorem cutN (n : Nat) (i : Int) : ∃ N : Nat, N ≤ n ∧ if 0 < i then i % ((n : Int) + 1) = N else N = 0 := by
  by_cases h : 0 < i
  · refine ⟨(i % ((n : Int) + 1)).toNat, ?_, ?_⟩
    · have := Int.emod_lt_of_pos i (show (0 : Int) < (n : Int) + 1 by omega); omega
    · rw [if_pos h]; have := Int.emod_nonneg i (show (n : Int) + 1 ≠ 0 by omega); omega
  · exact ⟨0, Nat.zero_le _, by rw [if_neg h]⟩

set_option maxHeartbeats 1000000 in
theorem againW {w : World} {v1 v2 : Value} {l1 l2 : List UInt8} {s t i k : Int} (hr1 : rd w 1 v1 l1.length (bs l1)) (hr2 : rd w 1 v2 l2.length (bs l2)) (hl1 : l1.length ≤ 140737488351232) (hl2 : l2.length ≤ 140737488351232)
    (i1 : -9223372036854775808 ≤ i) (i2 : i ≤ 9223372036854775807) (k1 : -9223372036854775808 ≤ k) (k2 : k ≤ 9223372036854775807) :
    Calls Try.prog 6 #[v1, v2, .int .i64 s, .int .i64 t, .int .i64 i, .int .i64 k] w fun e w' => e = .returned (.bool true) ∧ Below w.heap.size w w' := by
  have G := own_begin w
  obtain ⟨ao1, cap1, rfl, j1, j2, -⟩ := id hr1
  obtain ⟨ao2, cap2, rfl, j3, j4, -⟩ := id hr2
  unfold maxLen at j2 j4
  obtain ⟨y1, ey1, e1, e1', e2, hy1⟩ := rd_first hr1 300 (K := 300) rfl
  obtain ⟨y2, ey2, e3, e3', e4, hy2⟩ := rd_first hr2 300 (K := 300) rfl
  obtain ⟨N1, hN1, hc1⟩ := cutN y1.length i
  obtain ⟨N2, hN2, hc2⟩ := cutN y2.length k
  have H1 := Lib.hid hy1
  have H2 := Lib.hid hy2
  have C1 := Lib.hid hc1
  have C2 := Lib.hid hc2
  have Y1 := Lib.hid ey1
  have Y2 := Lib.hid ey2
  clear hr1 hr2 hy1 hy2 hc1 hc2 ey1 ey2
  have B := w
  go_enter Try.func6, Try.ntmps6
  go_wp2_with fail
  refine Calls.mono (shownBlk G) ?_
  clear G; rintro e w ⟨rfl, G⟩
  go_wp2_with fail
  refine Calls.mono (newBlk 300 G) ?_
  clear G; rintro e w ⟨x, rfl, G⟩
  replace G : Own _ (asmA x ⟨300, none, 0, none⟩ * emp) w := G
  go_wp2_with fail
  refine Calls.mono (twoAt (Nat.zero_le _) G H1.out e1 i1 i2 hN1 C1.out) ?_
  clear G; rintro e w ⟨rfl, G⟩
  go_wp2_with fail
  refine Calls.mono (twoAt (by decide) G H2.out e3 k1 k2 hN2 C2.out) ?_
  clear G; rintro e w ⟨rfl, G⟩
  go_wp2_with fail
  refine Calls.mono (lenBlk G) ?_
  clear G; rintro e w ⟨rfl, G⟩
  go_wp2_with fail
  go_ret
  exact ⟨rfl, G.below⟩

theorem contract {H : Type} {enc : TypeId × Value → H} {W : World} {vs : List Value} {ds : List (DataW H)}
    (hA : Args enc Try.prog W [22, 22, 3, 3, 3, 3] vs ds) (hsz : (DataW.weightsEach Try.prog [22, 22, 3, 3, 3, 3] ds).all (· ≤ reachBytes) = true) :
    Calls Try.prog 6 vs.toArray W fun e W' => e = .returned (.bool true) ∧ Below W.heap.size W W' := by
  obtain ⟨v0, _, d0, _, rfl, rfl, h0, hA⟩ := args_cons hA
  obtain ⟨v1, _, d1, _, rfl, rfl, h1, hA⟩ := args_cons hA
  obtain ⟨v2, _, d2, _, rfl, rfl, h2, hA⟩ := args_cons hA
  obtain ⟨v3, _, d3, _, rfl, rfl, h3, hA⟩ := args_cons hA
  obtain ⟨v4, _, d4, _, rfl, rfl, h4, hA⟩ := args_cons hA
  obtain ⟨v5, _, d5, _, rfl, rfl, h5, hA⟩ := args_cons hA
  obtain ⟨rfl, rfl⟩ := args_nil hA
  obtain ⟨l1, hr1, k1⟩ := arg_bytes Try.underlying22 Try.underlying5 (by kernel_rfl) h0
  obtain ⟨l2, hr2, k2⟩ := arg_bytes Try.underlying22 Try.underlying5 (by kernel_rfl) h1
  obtain ⟨s, rfl, _, _⟩ := arg_i64 Try.underlying3 h2
  obtain ⟨t, rfl, _, _⟩ := arg_i64 Try.underlying3 h3
  obtain ⟨i, rfl, i1, i2⟩ := arg_i64 Try.underlying3 h4
  obtain ⟨k, rfl, k3, k4⟩ := arg_i64 Try.underlying3 h5
  have z1 := reach_slice (b := 1) hsz 0 rfl rfl Try.underlying22 (by kernel_rfl) (Or.elim k1 (fun h => .inl ⟨by rw [h.1]; rfl, h.2⟩) .inr)
  have z2 := reach_slice (b := 1) hsz 1 rfl rfl Try.underlying22 (by kernel_rfl) (Or.elim k2 (fun h => .inl ⟨by rw [h.1]; rfl, h.2⟩) .inr)
  exact againW hr1 hr2 (by omega) (by omega) i1 i2 k3 k4


theorem spec {H : Type} : ∀ ds : List (DataW H), ds.length = 6 → Rows.blockAgainSpec.fn H ds = { results := [.lit (.bool true)], args := ds }
  | [_, _, _, _, _, _], _ => rfl
  | [], h => by cases h
  | [_], h => by cases h
  | [_, _], h => by cases h
  | [_, _, _], h => by cases h
  | [_, _, _, _], h => by cases h
  | [_, _, _, _, _], h => by cases h
  | _ :: _ :: _ :: _ :: _ :: _ :: _ :: _, h => by simp at h
set_option maxRecDepth 100000 in
theorem lifted (os : Os) (started : os.Started) (H : Type) (enc : TypeId × Value → H) :
    ReturnsInHanded {} Try.checked os 6 .any (Rows.blockAgainSpec.pre6 enc Try.prog Try.f6 Rows.blockAgainRow.domain false) (Rows.blockAgainSpec.post enc Try.prog Try.f6 false true false false) :=
  lifted_of_law (C := Try.checked) (fn := Try.f6) (s := Rows.blockAgainSpec) (tb := 4) (by kernel_rfl) started (by kernel_rfl) Try.func6
    (ChangeSpec.witness6 (enc := enc) (C := Try.checked) false ⟨#[], #[.slice none 0 0, .slice none 0 0, .int .i64 0, .int .i64 0, .int .i64 0, .int .i64 0], []⟩ 8 (by kernel_rfl) (by kernel_rfl) (by kernel_rfl) (by kernel_rfl))
    rfl spec (by kernel_rfl) Try.underlying4 (by kernel_rfl) (by kernel_rfl) (fun _ _ _ h1 h2 => contract h1 h2)

theorem proved : Rows.BlockAgainSaid :=
  OpenClaim.holds_of_wide 6 Try.f6 rfl rfl rfl rfl rfl rfl rfl ⟨rfl, rfl, rfl, rfl, rfl⟩ rfl rfl rfl rfl rfl (by kernel_rfl) Try.func6 (by kernel_rfl)
    (of_decide_eq_true (by kernel_rfl)) (by unfold Func.isWrapper; first | (rw [if_pos (by decide +kernel)]; kernel_rfl) | (rw [if_neg (by decide +kernel)]; exact ⟨rfl, rfl⟩))
    (fun os started H enc _ => lifted os started H enc)
end Go.Proofs.Ytbjfokpdomogeaa.blockAgain
