/-
  OctetsNext, proved: for every input the law answers true.
-/
import Derived.Test.YtalgkehaeiokoaaOctBack
import Derived.Test.YtalgkehaeiokoaaLaw
namespace Go.Proofs.Ytalgkehaeiokoaa.octetsNext
open Go.RowKit Go.Sl Go.ChangeShapes

section
variable {B w : World} {A R : Assn}

theorem lowL {x N : Nat} (h : Own B A w) (h8 : N ≤ 8) (hx : x < 18446744073709551616) : Calls Try.prog 16 #[.int .u64 x, .int .i64 N] w fun e w' => e = .returned (.int .u64 (x % 2 ^ (8 * N) : Nat)) ∧ Own B A w' := by
  go_enter Try.func16, Try.ntmps16
  by_cases h7 : N < 8
  · have em := mask x N h7 hx
    go_wp2
    go_ret
    exact ⟨rfl, h⟩
  · have e8 : x % 2 ^ (8 * N) = x := by
      refine Nat.mod_eq_of_lt (Nat.lt_of_lt_of_le hx ?_)
      obtain rfl : N = 8 := by omega
      decide
    rw [e8]
    clear e8
    go_wp2
    go_ret
    exact ⟨rfl, h⟩

theorem eight (n : Int) : ∃ N : Nat, 1 + bits .and .i64 n 7 = N ∧ 1 ≤ N ∧ N ≤ 8 := by
  obtain ⟨m, h1, h2⟩ := and_i64 n 7 (by omega)
  exact ⟨1 + m, by rw [show (7 : Int) = ((7 : Nat) : Int) from rfl, h1]; omega, by omega, by omega⟩

theorem nextW {a b : Nat} {n m : Int} (ha : a < 18446744073709551616) (hb : b < 18446744073709551616) (n1 : -9223372036854775808 ≤ n) (n2 : n ≤ 9223372036854775807) (m1 : -9223372036854775808 ≤ m) (m2 : m ≤ 9223372036854775807) :
    Calls Try.prog 5 #[.int .u64 a, .int .u64 b, .int .i64 n, .int .i64 m] w fun e w' => e = .returned (.bool true) ∧ Below w.heap.size w w' := by
  obtain ⟨N, hN, hN1, hN2⟩ := eight n
  obtain ⟨M, hM, hM1, hM2⟩ := eight m
  have hc : 0 ≤ bits .and .i64 n 7 ∧ bits .and .i64 n 7 ≤ 7 := by omega
  have hd : 0 ≤ bits .and .i64 m 7 ∧ bits .and .i64 m 7 ≤ 7 := by omega
  have h0 := own_begin w
  go_enter Try.func5, Try.ntmps5
  go_wp2_with (first | (go_at_call 9; refine (shownL h0).mono ?_; rintro e w1 ⟨rfl, h1⟩))
  refine (putB (l := []) h1 (fun w h => rd_nil w 1) (by simp) hN1 hN2 ha).mono ?_
  rintro e w2 ⟨v2, rfl, h2⟩
  go_wp2_with fail
  refine (putB (l := octs a N) h2 (fun w h => by simpa using h.rd v2 w h) (by simp; omega) hM1 hM2 hb).mono ?_
  rintro e w3 ⟨v3, rfl, h3⟩
  rw [octs_length] at h3
  obtain ⟨po, cap, rfl, i1, i2⟩ := h3.hdr v3
  unfold maxLen at i2
  have hN' := Lib.hid hN
  have hM' := Lib.hid hM
  clear hN hM hc hd
  go_wp2_with fail
  refine (uintYes (l := octs a N ++ octs b M) (N := N) h3 (fun w h => by simpa using h.rd (.slice po (N + M) cap) w h) hN1 hN2 (by simp)).mono ?_
  rintro e w4 ⟨rfl, h4⟩
  rw [List.take_left' (by simp), uintOf_octs]
  obtain ⟨xa, hxa⟩ : ∃ x, x = a % 2 ^ (8 * N) := ⟨_, rfl⟩
  obtain ⟨xb, hxb⟩ : ∃ x, x = b % 2 ^ (8 * M) := ⟨_, rfl⟩
  rw [← hxa]
  have Ha := Lib.hid hxa
  have Hb := Lib.hid hxb
  clear hxa hxb
  go_wp2_with fail
  refine (uintYes (l := octs b M) (N := M) h4 (fun w h => by
    have := rd_cut1 (h.rd (.slice po (N + M) cap) w h) N (N + M) (by omega) (Nat.le_refl _)
    rw [bs_drop, List.drop_left' (by simp), Nat.add_sub_cancel_left, List.take_of_length_le (by simp), if_neg (by omega)] at this
    simpa using this) hM1 hM2 (by simp)).mono ?_
  rintro e w5 ⟨rfl, h5⟩
  rw [List.take_of_length_le (by simp), uintOf_octs, ← Hb.out]
  generalize po.map _ = zo
  go_wp2_with fail
  refine (lowL h5 hN2 ha).mono ?_
  rintro e w6 ⟨rfl, h6⟩
  rw [← Ha.out]
  go_wp2_with fail
  refine (lowL h6 hM2 hb).mono ?_
  rintro e w7 ⟨rfl, h7⟩
  rw [← Hb.out]
  go_wp2
  go_ret
  exact ⟨rfl, h7.below⟩
end

theorem contract {H : Type} {enc : TypeId × Value → H} {W : World} {vs : List Value} {ds : List (DataW H)}
    (hA : Args enc Try.prog W [23, 23, 3, 3] vs ds) (_hsz : (DataW.weightsEach Try.prog [23, 23, 3, 3] ds).all (· ≤ reachBytes) = true) :
    Calls Try.prog 5 vs.toArray W fun e W' => e = .returned (.bool true) ∧ Below W.heap.size W W' := by
  obtain ⟨v0, _, d0, _, rfl, rfl, h0, hA⟩ := args_cons hA
  obtain ⟨v1, _, d1, _, rfl, rfl, h1, hA⟩ := args_cons hA
  obtain ⟨v2, _, d2, _, rfl, rfl, h2, hA⟩ := args_cons hA
  obtain ⟨v3, _, d3, _, rfl, rfl, h3, hA⟩ := args_cons hA
  obtain ⟨rfl, rfl⟩ := args_nil hA
  obtain ⟨a, rfl, ha⟩ := arg_u64 Try.underlying23 h0
  obtain ⟨b, rfl, hb⟩ := arg_u64 Try.underlying23 h1
  obtain ⟨n, rfl, n1, n2⟩ := arg_i64 Try.underlying3 h2
  obtain ⟨m, rfl, m1, m2⟩ := arg_i64 Try.underlying3 h3
  exact nextW ha hb n1 n2 m1 m2

theorem spec {H : Type} : ∀ ds : List (DataW H), ds.length = 4 → Rows.octetsNextSpec.fn H ds = { results := [.lit (.bool true)], args := ds }
  | [_, _, _, _], _ => rfl
  | [], h => by cases h
  | [_], h => by cases h
  | [_, _], h => by cases h
  | [_, _, _], h => by cases h
  | _ :: _ :: _ :: _ :: _ :: _, h => by simp at h
set_option maxRecDepth 100000 in
theorem lifted (os : Os) (started : os.Started) (H : Type) (enc : TypeId × Value → H) :
    ReturnsInHanded {} Try.checked os 5 .any (Rows.octetsNextSpec.pre6 enc Try.prog Try.f5 Rows.octetsNextRow.domain false) (Rows.octetsNextSpec.post enc Try.prog Try.f5 false true false false) :=
  lifted_of_law (C := Try.checked) (fn := Try.f5) (s := Rows.octetsNextSpec) (tb := 4) (by kernel_rfl) started (by kernel_rfl) Try.func5
    (ChangeSpec.witness6 (enc := enc) (C := Try.checked) false ⟨#[], #[.int .u64 0, .int .u64 0, .int .i64 0, .int .i64 0], []⟩ 8 (by kernel_rfl) (by kernel_rfl) (by kernel_rfl) (by kernel_rfl))
    rfl spec (by kernel_rfl) Try.underlying4 (by kernel_rfl) (by kernel_rfl) (fun _ _ _ h1 h2 => contract h1 h2)

theorem proved : Rows.OctetsNextSaid :=
  OpenClaim.holds_of_wide 5 Try.f5 rfl rfl rfl rfl rfl rfl rfl ⟨rfl, rfl, rfl, rfl, rfl⟩ rfl rfl rfl rfl rfl (by kernel_rfl) Try.func5 (by kernel_rfl)
    (of_decide_eq_true (by kernel_rfl)) (by unfold Func.isWrapper; first | (rw [if_pos (by decide +kernel)]; kernel_rfl) | (rw [if_neg (by decide +kernel)]; exact ⟨rfl, rfl⟩))
    (fun os started H enc _ => lifted os started H enc)
end Go.Proofs.Ytalgkehaeiokoaa.octetsNext
