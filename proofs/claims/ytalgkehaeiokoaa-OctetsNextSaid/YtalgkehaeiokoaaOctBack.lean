/-
  OctetsBack: a number's octets are it.
-/
import Derived.Test.YtalgkehaeiokoaaOctL
namespace Go.Proofs.Ytalgkehaeiokoaa
open Go.RowKit Go.Sl

section
variable {B w : World} {A R : Assn}

theorem octs_succ (x N : Nat) : octs x (N + 1) = UInt8.ofNat (x / 2 ^ (8 * N)) :: octs x N := by
  unfold octs
  rw [List.range_succ_eq_map, List.map_cons, List.map_map]
  congr 1
  refine List.map_congr_left fun k hk => ?_
  simp only [Function.comp]
  congr 4
  omega
theorem uintOf_cons (c : UInt8) (l : List UInt8) : uintOf (c :: l) = c.toNat * 256 ^ l.length + uintOf l := by
  have : ∀ (l : List UInt8) (a : Nat), l.foldl (fun a c => a * 256 + c.toNat) a = a * 256 ^ l.length + l.foldl (fun a c => a * 256 + c.toNat) 0 := by
    intro l
    induction l with
    | nil => intro a; simp
    | cons c l ih =>
      intro a
      simp only [List.foldl_cons, List.length_cons]
      rw [ih (a * 256 + c.toNat), ih (0 * 256 + c.toNat), Nat.pow_succ, Nat.zero_mul, Nat.zero_add, Nat.add_mul, Nat.add_assoc, Nat.mul_assoc, Nat.mul_comm 256]
  unfold uintOf
  rw [List.foldl_cons, this l]
  simp
theorem uintOf_octs (x : Nat) : ∀ N, uintOf (octs x N) = x % 2 ^ (8 * N)
  | 0 => by simp [octs, uintOf, Nat.mod_one]
  | N + 1 => by
    rw [octs_succ, uintOf_cons, uintOf_octs x N, octs_length, UInt8.toNat_ofNat', Nat.mul_add, Nat.pow_add, Nat.mod_mul, Nat.add_comm]
    congr 1
    rw [Nat.pow_mul, Nat.mul_comm]
theorem mask (x N : Nat) (hN : N < 8) (hx : x < 18446744073709551616) : bits .and .u64 (x : Int) (IntKind.u64.wrap (IntKind.u64.wrap (2 ^ (8 * N)) - 1)) = ((x % 2 ^ (8 * N) : Nat) : Int) := by
  have h1 : 2 ^ (8 * N) ≤ 2 ^ 56 := Nat.pow_le_pow_right (by omega) (by omega)
  have h0 : 0 < 2 ^ (8 * N) := Nat.pow_pos (by omega)
  have e0 : (2 : Int) ^ (8 * N) = ((2 ^ (8 * N) : Nat) : Int) := by simp
  have e1 : IntKind.u64.wrap (2 ^ (8 * N)) = ((2 ^ (8 * N) : Nat) : Int) := by rw [e0, IntKind.wrap_u64]; omega
  have e2 : IntKind.u64.wrap (((2 ^ (8 * N) : Nat) : Int) - 1) = ((2 ^ (8 * N) - 1 : Nat) : Int) := by rw [IntKind.wrap_u64]; omega
  rw [e1, e2, u64_and_nat _ _ hx (by omega), Nat.and_two_pow_sub_one_eq_mod]

theorem backW {v : Value} {l : List UInt8} {x : Nat} {n : Int} (hr : rd w 1 v l.length (bs l)) (hl : l.length ≤ 140737488351232) (hx : x < 18446744073709551616) (n1 : -9223372036854775808 ≤ n) (n2 : n ≤ 9223372036854775807) :
    Calls Try.prog 3 #[v, .int .u64 x, .int .i64 n] w fun e w' => e = .returned (.bool true) ∧ Below w.heap.size w w' := by
  obtain ⟨N, hN, hN1, hN2⟩ : ∃ N : Nat, 1 + bits .and .i64 n 7 = N ∧ 1 ≤ N ∧ N ≤ 8 := by
    obtain ⟨m, h1, h2⟩ := and_i64 n 7 (by omega)
    exact ⟨1 + m, by rw [show (7 : Int) = ((7 : Nat) : Int) from rfl, h1]; omega, by omega, by omega⟩
  have hb : 0 ≤ bits .and .i64 n 7 ∧ bits .and .i64 n 7 ≤ 7 := by omega
  have h0 := own_begin w
  go_enter Try.func3, Try.ntmps3
  go_wp2_with (first | (go_at_call 9; refine (shownL h0).mono ?_; rintro e w1 ⟨rfl, h1⟩) | (go_at_call 10; refine (putB h1 (fun w h => hr.old h) (by omega) hN1 hN2 hx).mono ?_; rintro e w2 ⟨v1, rfl, h2⟩))
  obtain ⟨po, cap, rfl, i1, i2⟩ := h2.hdr v1
  have hr' := hr
  obtain ⟨bo, bcap, rfl, j1, j2, -⟩ := hr
  unfold maxLen at i2 j2
  clear hN hb
  have e1 := strB (B := w) (A := sl 1 (.slice po (l.length + N) cap) (l.length + N) (bs (l ++ octs x N)) * emp) (fun w h => by
    have := rd_take1 (h.rd (.slice po (l.length + N) cap) w h) (k := l.length) (by omega)
    rw [bs_take, List.take_left] at this
    exact this)
  have e2 := strB (B := w) (A := sl 1 (.slice po (l.length + N) cap) (l.length + N) (bs (l ++ octs x N)) * emp) (fun w h => hr'.old h)
  refine wp_region_calm (C := Own _ _) (by kernel_rfl) (by kernel_rfl) (own_drew h2) ?_
  intro ι W hne hW hs
  have e1 := fun i => e1 _ (hW i)
  have e2 := fun i => e2 _ (hW i)
  repeat (go_big_quiet_step (fail))
  refine wpQuiet_nil ?_
  intro i
  have h3 := hW i
  generalize W i = wh3 at h3 ⊢
  clear e1 e2 hs hW hne
  clear e1 e2
  have hu : ∀ w', Own w (sl 1 (.slice po (l.length + N) cap) (l.length + N) (bs (l ++ octs x N)) * emp) w' → rd w' 1 (.slice (po.map (·.add l.length)) N (cap - l.length)) (octs x N).length (bs (octs x N)) := fun w' h => by
    have := rd_cut1 (h.rd (.slice po (l.length + N) cap) w' h) l.length (l.length + N) (by omega) (Nat.le_refl _)
    have e3 : l.length + N - l.length = N := by omega
    rw [bs_drop, List.drop_left, e3, List.take_of_length_le (by simp), if_neg (by omega)] at this
    simpa using this
  go_wp2_with fail
  refine (uintYes (l := octs x N) (N := N) h3 hu hN1 hN2 (by simp)).mono ?_
  rintro e w4 ⟨rfl, h4⟩
  go_wp2_with fail
  refine (uintNo (N := N + 1) h4 hu (by simp; omega)).mono ?_
  rintro e w5 ⟨rfl, h5⟩
  clear hu
  generalize po.map _ = zo
  have eu : uintOf (List.take N (octs x N)) = x % 2 ^ (8 * N) := by rw [List.take_of_length_le (by simp), uintOf_octs]
  rw [eu]
  clear eu
  by_cases h8 : N < 8
  · have em := mask x N h8 hx
    go_wp2_with fail
    go_ret
    exact ⟨rfl, h5.below⟩
  · have e8 : x % 2 ^ (8 * N) = x := by
      refine Nat.mod_eq_of_lt (Nat.lt_of_lt_of_le hx ?_)
      obtain rfl : N = 8 := by omega
      decide
    rw [e8]
    clear e8
    go_wp2_with fail
    go_ret
    exact ⟨rfl, h5.below⟩
end
end Go.Proofs.Ytalgkehaeiokoaa
