
/-
  The arguments of the laws of package match: fields and matchers, as lists.
-/
import Derived.Test.YtndlfieignhjjaaDoorMtAsk2
import Derived.Test.YtndlfieignhjjaaDoorLaw
namespace Go.Proofs.YtndlfieignhjjaaDoor
open Go.RowKit Go.Sl Go.ChangeShapes

theorem cells_list {α : Type} {sz : Nat} {cs : α → List Value} {Pr : α → Prop} : ∀ (n : Nat) (xs : List Value), xs.length = n * sz → (∀ i, i < n → ∃ a, Pr a ∧ (xs.drop (i * sz)).take sz = cs a) → ∃ L : List α, L.length = n ∧ xs = L.flatMap cs ∧ ∀ a ∈ L, Pr a := by
  intro n
  induction n with
  | zero => intro xs h _; exact ⟨[], rfl, List.eq_nil_of_length_eq_zero (by rw [h]; exact Nat.zero_mul _), fun _ h => by cases h⟩
  | succ n ih =>
    intro xs h hel
    have e1 : (n + 1) * sz = n * sz + sz := Nat.succ_mul n sz
    obtain ⟨a, p, ha⟩ := hel 0 (Nat.succ_pos _)
    rw [Nat.zero_mul, List.drop_zero] at ha
    obtain ⟨L, hL, hx, hp⟩ := ih (xs.drop sz) (by rw [List.length_drop, h, e1]; omega) (fun i hi => by
      obtain ⟨b, q, hb⟩ := hel (i + 1) (by omega)
      refine ⟨b, q, ?_⟩
      rw [List.drop_drop, show sz + i * sz = (i + 1) * sz by rw [Nat.succ_mul]; omega]
      exact hb)
    refine ⟨a :: L, by simp [hL], ?_, ?_⟩
    · rw [List.flatMap_cons, ← hx, ← ha, List.take_append_drop]
    · intro b hb
      rcases List.mem_cons.1 hb with rfl | hb
      · exact p
      · exact hp b hb

section
theorem fieldCells {H : Type} {enc : TypeId × Value → H} {W : World} {cs : List Value} {d : DataW H} (h : RdC enc Tryd.prog W 35 cs d) :
    ∃ (x0 : List UInt8) (x1 : List UInt8) (x2 : Bool), cs = [str x0, str x1, .bool x2] ∧ x0.length ≤ maxLen ∧ x1.length ≤ maxLen ∧ True := by
  have hl := (rdc_struct Tryd.underlying35 h).1
  obtain ⟨e0, g0⟩ := rdc_field Tryd.underlying35 h 0 rfl (ft := 9) rfl (o := 0) rfl (c := 1) (by kernel_rfl)
  obtain ⟨x0, q0, b0, _⟩ := rdc_string Tryd.underlying9 g0
  obtain ⟨e1, g1⟩ := rdc_field Tryd.underlying35 h 1 rfl (ft := 9) rfl (o := 1) rfl (c := 1) (by kernel_rfl)
  obtain ⟨x1, q1, b1, _⟩ := rdc_string Tryd.underlying9 g1
  obtain ⟨e2, g2⟩ := rdc_field Tryd.underlying35 h 2 rfl (ft := 4) rfl (o := 2) rfl (c := 1) (by kernel_rfl)
  obtain ⟨x2, q2⟩ := rdc_bool Tryd.underlying4 g2
  refine ⟨x0, x1, x2, ?_, b0, b1, trivial⟩
  have hl' : cs.length = 3 := hl.trans (by kernel_rfl)
  refine list_of_cells hl' [str x0, str x1, .bool x2] rfl ?_
  intro i hi
  match i, hi with
  | 0, _ => exact take_one q0
  | 1, _ => exact take_one q1
  | 2, _ => exact take_one q2
  | i + 3, hi => exact absurd hi (by omega)
theorem matcherCells {H : Type} {enc : TypeId × Value → H} {W : World} {cs : List Value} {d : DataW H} (h : RdC enc Tryd.prog W 37 cs d) :
    ∃ (x0 : List UInt8) (x1 : List UInt8) (x2 : Int) (x3 : Bool), cs = [str x0, str x1, .int .i64 x2, .bool x3] ∧ x0.length ≤ maxLen ∧ x1.length ≤ maxLen ∧ (-9223372036854775808 ≤ x2 ∧ x2 ≤ 9223372036854775807) ∧ True := by
  have hl := (rdc_struct Tryd.underlying37 h).1
  obtain ⟨e0, g0⟩ := rdc_field Tryd.underlying37 h 0 rfl (ft := 9) rfl (o := 0) rfl (c := 1) (by kernel_rfl)
  obtain ⟨x0, q0, b0, _⟩ := rdc_string Tryd.underlying9 g0
  obtain ⟨e1, g1⟩ := rdc_field Tryd.underlying37 h 1 rfl (ft := 9) rfl (o := 1) rfl (c := 1) (by kernel_rfl)
  obtain ⟨x1, q1, b1, _⟩ := rdc_string Tryd.underlying9 g1
  obtain ⟨e2, g2⟩ := rdc_field Tryd.underlying37 h 2 rfl (ft := 3) rfl (o := 2) rfl (c := 1) (by kernel_rfl)
  obtain ⟨x2, q2, b2⟩ := rdc_i64 Tryd.underlying3 g2
  obtain ⟨e3, g3⟩ := rdc_field Tryd.underlying37 h 3 rfl (ft := 4) rfl (o := 3) rfl (c := 1) (by kernel_rfl)
  obtain ⟨x3, q3⟩ := rdc_bool Tryd.underlying4 g3
  refine ⟨x0, x1, x2, x3, ?_, b0, b1, b2, trivial⟩
  have hl' : cs.length = 4 := hl.trans (by kernel_rfl)
  refine list_of_cells hl' [str x0, str x1, .int .i64 x2, .bool x3] rfl ?_
  intro i hi
  match i, hi with
  | 0, _ => exact take_one q0
  | 1, _ => exact take_one q1
  | 2, _ => exact take_one q2
  | 3, _ => exact take_one q3
  | i + 4, hi => exact absurd hi (by omega)
theorem fds_in {H : Type} {enc : TypeId × Value → H} {W : World} {v : Value} {d : DataW H} (h : Arg enc Tryd.prog W 33 v d) :
    ∃ L : List Fd, rd W 3 v L.length (fds L) ∧ ∀ f ∈ L, f.1.length ≤ maxLen ∧ f.2.1.length ≤ maxLen := by
  obtain ⟨n, xs, hr, -, hel⟩ := arg_slice (sz := 3) Tryd.underlying33 (by kernel_rfl) h
  obtain ⟨L, rfl, rfl, hp⟩ := cells_list (α := Fd) (cs := Fd.cs) (Pr := fun f => f.1.length ≤ maxLen ∧ f.2.1.length ≤ maxLen) n xs hr.len (fun i hi => by
    obtain ⟨_, hd⟩ := hel i hi
    obtain ⟨x0, x1, x2, e, b0, b1, _⟩ := fieldCells hd
    exact ⟨(x0, x1, x2), ⟨b0, b1⟩, e⟩)
  exact ⟨L, hr, hp⟩
theorem mrs_in {H : Type} {enc : TypeId × Value → H} {W : World} {v : Value} {d : DataW H} (h : Arg enc Tryd.prog W 40 v d) :
    ∃ L : List Mr, rd W 4 v L.length (mrs L) ∧ ∀ m ∈ L, m.name.length ≤ maxLen ∧ m.value.length ≤ maxLen ∧ -9223372036854775808 ≤ m.how ∧ m.how ≤ 9223372036854775807 := by
  obtain ⟨n, xs, hr, -, hel⟩ := arg_slice (sz := 4) Tryd.underlying40 (by kernel_rfl) h
  obtain ⟨L, rfl, rfl, hp⟩ := cells_list (α := Mr) (cs := Mr.cs) (Pr := fun m => m.name.length ≤ maxLen ∧ m.value.length ≤ maxLen ∧ -9223372036854775808 ≤ m.how ∧ m.how ≤ 9223372036854775807) n xs hr.len (fun i hi => by
    obtain ⟨_, hd⟩ := hel i hi
    obtain ⟨x0, x1, x2, x3, e, b0, b1, b2, _⟩ := matcherCells hd
    exact ⟨⟨x0, x1, x2, x3⟩, ⟨b0, b1, b2⟩, e⟩)
  exact ⟨L, hr, hp⟩
end
theorem fds_take {w : World} {ao : Option Addr} {cap n : Nat} {L : List Fd} (h : rd w 3 (.slice ao n cap) n (fds L)) (hn : n = L.length) {k : Nat} (hk : k ≤ n) : rd w 3 (.slice ao k cap) (L.take k).length (fds (L.take k)) := by
  subst hn
  have e : (L.take k).length = k := by simp; omega
  have := rd_take h hk
  have e2 : (fds L).take (k * 3) = fds (L.take k) := by
    conv => lhs; rw [← List.take_append_drop k L, ← fds_app]
    rw [List.take_append_of_le_length (by rw [fds_len, e]; omega), List.take_of_length_le (by rw [fds_len, e]; omega)]
  rw [e, ← e2]; exact this
theorem mrs_take {w : World} {ao : Option Addr} {cap n : Nat} {L : List Mr} (h : rd w 4 (.slice ao n cap) n (mrs L)) (hn : n = L.length) {k : Nat} (hk : k ≤ n) : rd w 4 (.slice ao k cap) (L.take k).length (mrs (L.take k)) := by
  subst hn
  have e : (L.take k).length = k := by simp; omega
  have := rd_take h hk
  have e2 : (mrs L).take (k * 4) = mrs (L.take k) := by
    conv => lhs; rw [← List.take_append_drop k L, ← mrs_app]
    rw [List.take_append_of_le_length (by rw [mrs_len, e]; omega), List.take_of_length_le (by rw [mrs_len, e]; omega)]
  rw [e, ← e2]; exact this
end Go.Proofs.YtndlfieignhjjaaDoor
