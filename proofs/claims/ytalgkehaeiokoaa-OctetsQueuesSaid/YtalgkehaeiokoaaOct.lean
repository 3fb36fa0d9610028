/-
  The queue of octets, the numbers in octets: what each call of package octets does.
-/
import Derived.Test.YtalgkehaeiokoaaRows
import Derived.Test.YtalgkehaeiokoaaOps
import Derived.BigQuiet
import Derived.Lib.Hide
import Derived.Maps.RangeWalk
namespace Go.Proofs.Ytalgkehaeiokoaa
open Go.RowKit Go.Sl

theorem isBytes : IsSl Try.prog 22 5 1 1 (.int .u8 0) := isSl_mk Try.underlying22 (by kernel_rfl) rfl (by decide)

@[go_sem] theorem eqNilB (w : World) (a : Option Addr) (n c : Nat) : (binOp .eql 22 (.slice a n c) (.slice none 0 0)).run Try.prog w = .ok (.bool a.isNone) w :=
  Lib.run_eql_slice_nil w 22 5 a n c 0 0 Try.underlying22

section
variable {B w : World} {A R : Assn}

/-- string(b) -/
theorem strB {v : Value} {n : Nat} {l : List UInt8} (hr : ∀ w, Own B A w → rd w 1 v n (bs l)) : ∀ w, Own B A w → (convert 22 9 v).run Try.prog w = .ok (str l) w :=
  fun w h => run_string_rd Try.underlying22 Try.underlying5 Try.underlying9 (hr w h)

/-- slices.Clone of bytes -/
theorem cloneB {v : Value} {l : List UInt8} (h : Own B A w) (hr : ∀ w, Own B A w → rd w 1 v l.length (bs l)) (hl : l.length ≤ 140737488355328) :
    Calls Try.prog 24 #[v] w fun e w' => ∃ v', e = .returned v' ∧ Own B (sl 1 v' l.length (bs l) * A) w' := by
  obtain ⟨uo, ucap, rfl, u1, u2, u3, u4, -⟩ := hr w h
  unfold maxLen at u2
  cases uo with
  | none =>
    have : ucap = 0 := u4 rfl
    subst this
    have hl0 : l = [] := List.eq_nil_of_length_eq_zero (by omega)
    subst hl0
    go_enter Try.func24, Try.ntmps24
    go_wp2
    go_ret
    exact ⟨_, rfl, own_nil h 1⟩
  | some a =>
    go_enter Try.func24, Try.ntmps24
    have g := own_new_sl h [] 5 1 0 rfl (Nat.zero_le _)
    go_wp2_with (at_builtin; go_loud (refine wpl_append rfl (v := .slice (some ⟨w.heap.size, 0, none⟩) 0 0) (A := _) rfl g isBytes rfl rfl rfl (hr _ g.right) (bs_one _) (by unfold maxLen; omega) (by omega) ?_); intro v' w1 g1)
    go_ret
    exact ⟨_, rfl, g1.eq (by simp)⟩

theorem clipB {v : Value} {n : Nat} {xs : List Value} (h : Own B (sl 1 v n xs * A) w) :
    Calls Try.prog 23 #[v] w fun e w' => ∃ v', e = .returned v' ∧ Own B (sl 1 v' n xs * A) w' := by
  obtain ⟨ao, cap, rfl, g1, g2⟩ := h.hdr v
  unfold maxLen at g2
  go_enter Try.func23, Try.ntmps23
  go_wp2
  go_ret
  exact ⟨_, rfl, own_clip h⟩

/-- the octets of a number -/
def octs (x N : Nat) : List UInt8 := (List.range N).map fun k => UInt8.ofNat (x / 2 ^ (8 * (N - 1 - k)))
@[simp] theorem octs_length (x N : Nat) : (octs x N).length = N := by simp [octs]
theorem octs_take (x N k : Nat) (h : k < N) : (octs x N).take (k + 1) = (octs x N).take k ++ [UInt8.ofNat (x / 2 ^ (8 * (N - 1 - k)))] := by
  rw [List.take_succ_eq_append_getElem (by simpa using h)]
  simp [octs]
theorem byte_cell (x m : Nat) : Value.int .u8 ((x : Int) / 2 ^ m % 256) = byteV (UInt8.ofNat (x / 2 ^ m)) := by
  simp only [byteV, UInt8.toNat_ofNat']
  congr 1

theorem putB {v : Value} {l : List UInt8} {x N : Nat} (h : Own B A w) (hr : ∀ w, Own B A w → rd w 1 v l.length (bs l)) (hl : l.length + 8 ≤ 140737488355328) (h1 : 1 ≤ N) (h8 : N ≤ 8) (hx : x < 18446744073709551616) :
    Calls Try.prog 10 #[v, .int .u64 x, .int .i64 N] w fun e w' => ∃ v', e = .returned v' ∧ Own B (sl 1 v' (l.length + N) (bs (l ++ octs x N)) * A) w' := by
  go_enter Try.func10, Try.ntmps10
  go_wp2_with (first | (go_at_call 24; refine (cloneB h hr (by omega)).mono ?_; rintro e w1 ⟨v1, rfl, g1⟩) | (go_at_call 23; refine (clipB g1).mono ?_; rintro e w2 ⟨v2, rfl, g2⟩))
  go_loopw [7, 8] (fun out i wr => ∃ k : Nat, k ≤ N ∧ i = .int .i64 ((N : Int) - 1 - k) ∧ Own B (sl 1 out (l.length + k) (bs (l ++ (octs x N).take k)) * A) wr) (fun _ i _ => (intOf i + 1).toNat)
  case atStart => exact ⟨0, by omega, by simp, g2.eq (by simp)⟩
  case round =>
    obtain ⟨k, hk, rfl, g⟩ := hrel
    by_cases hlt : k < N
    · go_wp2_with (at_builtin; go_loud (refine wpl_append rfl (v := u7) (A := _) rfl (own_alloc g _) isBytes rfl rfl rfl (own_rd (own_new_sl g [_] _ 1 1 rfl (by decide))) (by intro y hy; rcases List.mem_singleton.1 hy with rfl; rfl) (by unfold maxLen; omega) (by omega) ?_); intro v' w3 g3)
      go_roundw
      case rel =>
        refine ⟨k + 1, by omega, by congr 1; omega, g3.eq ?_⟩
        rw [octs_take x N k hlt, byte_cell x (8 * (N - 1 - k)), ← List.append_assoc, bs_append (l ++ _) [_], Nat.add_assoc]
        rfl
      case measure => simp [intOf]; omega
    · go_wp2
      go_ret
      obtain rfl : k = N := by omega
      exact ⟨u7, rfl, g.eq (by rw [List.take_of_length_le (by simp)])⟩

def uintOf (l : List UInt8) : Nat := l.foldl (fun a c => a * 256 + c.toNat) 0
theorem uintOf_snoc (l : List UInt8) (c : UInt8) : uintOf (l ++ [c]) = uintOf l * 256 + c.toNat := by simp [uintOf]
theorem uintOf_lt (l : List UInt8) : uintOf l < 256 ^ l.length := by
  have : ∀ (n : Nat) (l : List UInt8), l.length = n → uintOf l < 256 ^ n := by
    intro n
    induction n with
    | zero => intro l h; rw [List.eq_nil_of_length_eq_zero h]; decide
    | succ n ih =>
      intro l h
      obtain ⟨l', c, rfl⟩ : ∃ l' c, l = l' ++ [c] := ⟨l.dropLast, l.getLast (by intro e; subst e; simp at h), (List.dropLast_concat_getLast _).symm⟩
      rw [uintOf_snoc, Nat.pow_succ]
      have := ih l' (by simpa using h)
      have := c.toNat_lt
      omega
  exact this l.length l rfl

theorem shl_or (a c : Nat) (ha : a < 72057594037927936) (hc : c < 256) : bits .or .u64 (IntKind.u64.wrap ((a : Int) * 256)) (IntKind.u64.wrap (c : Int)) = ((a * 256 + c : Nat) : Int) := by
  have e1 : IntKind.u64.wrap ((a : Int) * 256) = ((a * 256 : Nat) : Int) := by rw [IntKind.wrap_u64]; omega
  have e2 : IntKind.u64.wrap (c : Int) = (c : Int) := by rw [IntKind.wrap_u64]; omega
  rw [e1, e2, u64_or_nat _ _ (by omega) (by omega)]
  congr 1
  have := Nat.shiftLeft_add_eq_or_of_lt (i := 8) (b := c) (by omega) a
  rw [Nat.shiftLeft_eq] at this
  exact this.symm

/-- the number that the first n octets are, where there are so many -/
theorem uintYes {v : Value} {l : List UInt8} {N : Nat} (h : Own B A w) (hr : ∀ w, Own B A w → rd w 1 v l.length (bs l)) (h1 : 1 ≤ N) (h8 : N ≤ 8) (hN : N ≤ l.length) :
    Calls Try.prog 11 #[v, .int .i64 N] w fun e w' => e = .returned (.tuple #[.int .u64 (uintOf (l.take N)), .bool true]) ∧ Own B A w' := by
  obtain ⟨uo, ucap, rfl, u1, u2, u3, u4, u5⟩ := hr w h
  unfold maxLen at u2
  obtain ⟨ad, rfl⟩ : ∃ ad, uo = some ad := by
    cases uo with
    | none => have := u4 rfl; omega
    | some ad => exact ⟨ad, rfl⟩
  go_enter Try.func11, Try.ntmps11
  go_wp2
  go_loop [6, 25] (fun x i => ∃ k : Nat, k ≤ N ∧ i = .int .i64 k ∧ x = .int .u64 (uintOf (l.take k))) (fun _ i => N - (intOf i).toNat)
  case atStart => exact ⟨0, by omega, rfl, rfl⟩
  case round =>
    obtain ⟨k, hk, rfl, rfl⟩ := hrel
    by_cases hlt : k < N
    · have c0 : w.cell? (ad.add k) = some (byteV l[k]) := u5 ad rfl k _ (by simp [bs, show k < l.length by omega])
      unfold byteV at c0
      go_wp2
      go_roundw
      case rel =>
        have hb := uintOf_lt (l.take k)
        have hp : 256 ^ (l.take k).length ≤ 256 ^ 7 := Nat.pow_le_pow_right (by omega) (by simp; omega)
        have hc := l[k].toNat_lt
        refine ⟨k + 1, by omega, by go_num, ?_⟩
        rw [shl_or _ _ (by omega) (by omega), List.take_succ_eq_append_getElem (by omega), uintOf_snoc]
      case measure => simp [intOf]; omega
    · go_wp2
      go_ret2
      obtain rfl : k = N := by omega
      exact ⟨rfl, h⟩

/-- there is none, where there are fewer -/
theorem uintNo {v : Value} {n : Nat} {xs : List Value} {N : Int} (h : Own B A w) (hr : ∀ w, Own B A w → rd w 1 v n xs) (h1 : N < 1 ∨ 8 < N ∨ n < N) :
    Calls Try.prog 11 #[v, .int .i64 N] w fun e w' => e = .returned (.tuple #[.int .u64 0, .bool false]) ∧ Own B A w' := by
  obtain ⟨uo, ucap, rfl, u1, u2, u3, u4, u5⟩ := hr w h
  unfold maxLen at u2
  have hd : (decide (N < 1) || decide (8 < N) || decide ((n : Int) < N)) = true := by simp; omega
  go_enter Try.func11, Try.ntmps11
  go_wp2
  all_goals first
    | (go_ret2; exact ⟨rfl, h⟩)
    | (exfalso; omega)
end
end Go.Proofs.Ytalgkehaeiokoaa
