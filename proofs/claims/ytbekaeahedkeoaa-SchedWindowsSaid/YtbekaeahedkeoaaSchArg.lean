
/-
  The arguments of the laws of package sched, and what stays so of a scheduler.
-/
import Derived.Test.YtbekaeahedkeoaaSchPl
import Derived.Test.YtbekaeahedkeoaaLaw
namespace Go.Proofs.Ytbekaeahedkeoaa
open Go.RowKit Go.Sl Go.ChangeShapes

section
theorem flowCells {H : Type} {enc : TypeId × Value → H} {W : World} {cs : List Value} {d : DataW H} (h : RdC enc Try.prog W 44 cs d) :
    ∃ (x0 : Int) (x1 : Int) (x2 : Bool), cs = [.int .i64 x0, .int .i64 x1, .bool x2] ∧ (-9223372036854775808 ≤ x0 ∧ x0 ≤ 9223372036854775807) ∧ (-9223372036854775808 ≤ x1 ∧ x1 ≤ 9223372036854775807) ∧ True := by
  have hl := (rdc_struct Try.underlying44 h).1
  obtain ⟨e0, g0⟩ := rdc_field Try.underlying44 h 0 rfl (ft := 3) rfl (o := 0) rfl (c := 1) (by kernel_rfl)
  obtain ⟨x0, q0, b0⟩ := rdc_i64 Try.underlying3 g0
  obtain ⟨e1, g1⟩ := rdc_field Try.underlying44 h 1 rfl (ft := 3) rfl (o := 1) rfl (c := 1) (by kernel_rfl)
  obtain ⟨x1, q1, b1⟩ := rdc_i64 Try.underlying3 g1
  obtain ⟨e2, g2⟩ := rdc_field Try.underlying44 h 2 rfl (ft := 4) rfl (o := 2) rfl (c := 1) (by kernel_rfl)
  obtain ⟨x2, q2⟩ := rdc_bool Try.underlying4 g2
  refine ⟨x0, x1, x2, ?_, b0, b1, trivial⟩
  have hl' : cs.length = 3 := hl.trans (by kernel_rfl)
  refine list_of_cells hl' [.int .i64 x0, .int .i64 x1, .bool x2] rfl ?_
  intro i hi
  match i, hi with
  | 0, _ => exact take_one q0
  | 1, _ => exact take_one q1
  | 2, _ => exact take_one q2
  | i + 3, hi => exact absurd hi (by omega)
theorem flows_in {H : Type} {enc : TypeId × Value → H} {W : World} {v : Value} {d : DataW H} (h : Arg enc Try.prog W 22 v d) :
    ∃ n xs, rd W 3 v n xs ∧ ∀ i, i < n → ∃ (a b : Int) (e : Bool), (xs.drop (i * 3)).take 3 = [.int .i64 a, .int .i64 b, .bool e] ∧ (-9223372036854775808 ≤ a ∧ a ≤ 9223372036854775807) ∧ (-9223372036854775808 ≤ b ∧ b ≤ 9223372036854775807) := by
  obtain ⟨n, xs, hr, -, hel⟩ := arg_slice (sz := 3) Try.underlying22 (by kernel_rfl) h
  refine ⟨n, xs, hr, fun i hi => ?_⟩
  obtain ⟨_, hd⟩ := hel i hi
  obtain ⟨x0, x1, x2, e, b0, b1, _⟩ := flowCells hd
  exact ⟨x0, x1, x2, e, b0, b1⟩
end

theorem mkQ_ok {F : List F3} (hl : F.length ≤ 30) (h : ∀ f ∈ F, FOk f) : ∀ f ∈ mkQ 0 F, f.Ok := by
  intro f hf
  obtain ⟨j, g, h1, rfl⟩ := mkQ_mem hf
  obtain ⟨a1, a2, a3, a4⟩ := h g (List.mem_of_getElem? h1)
  have := (List.getElem?_eq_some_iff.1 h1).1
  exact ⟨by show -2147483647 ≤ g.1; omega, by show g.1 ≤ 2147483647; omega, a3, by show g.2.1 ≤ 2147483647; omega, by show 1 ≤ 2 * ((0 + j : Nat) : Int) + 1; omega, by show 2 * ((0 + j : Nat) : Int) + 1 ≤ 2147483647; omega⟩

theorem Sc.next_len {s s' : Sc} {c : Int} {p : Option (Int × Int × Bool)} (h : s.next c = (p, s')) : s'.q.length ≤ s.q.length ∧ s'.ctl = s.ctl := by
  cases p with
  | none => rw [Sc.next_none h]; exact ⟨Nat.le_refl _, rfl⟩
  | some p =>
    obtain ⟨id, n, e⟩ := p
    obtain ⟨-, l1, f, l2, hq, -, -, -, -, -, -, rfl⟩ := Sc.next_some h
    refine ⟨?_, rfl⟩
    rw [hq]
    split <;> simp <;> omega
end Go.Proofs.Ytbekaeahedkeoaa
