
/-
  The steps of a law of stream, as they lie among the arguments.
-/
import Derived.Test.YtadbpekkmlblmaaStL
import Derived.Test.YtadbpekkmlblmaaIdsIn
import Derived.Test.YtadbpekkmlblmaaAuto2
namespace Go.Proofs.Ytadbpekkmlblmaa
open Go.RowKit Go.Sl Go.ChangeShapes

section
theorem opCells {H : Type} {enc : TypeId × Value → H} {W : World} {cs : List Value} {d : DataW H} (h : RdC enc Try.prog W 46 cs d) :
    ∃ (x0 : Int) (x1 : Int), cs = [.int .i64 x0, .int .i64 x1] ∧ (-9223372036854775808 ≤ x0 ∧ x0 ≤ 9223372036854775807) ∧ (-9223372036854775808 ≤ x1 ∧ x1 ≤ 9223372036854775807) := by
  have hl := (rdc_struct Try.underlying46 h).1
  obtain ⟨e0, g0⟩ := rdc_field Try.underlying46 h 0 rfl (ft := 3) rfl (o := 0) rfl (c := 1) (by kernel_rfl)
  obtain ⟨x0, q0, b0⟩ := rdc_i64 Try.underlying3 g0
  obtain ⟨e1, g1⟩ := rdc_field Try.underlying46 h 1 rfl (ft := 3) rfl (o := 1) rfl (c := 1) (by kernel_rfl)
  obtain ⟨x1, q1, b1⟩ := rdc_i64 Try.underlying3 g1
  refine ⟨x0, x1, ?_, b0, b1⟩
  have hl' : cs.length = 2 := hl.trans (by kernel_rfl)
  refine list_of_cells hl' [.int .i64 x0, .int .i64 x1] rfl ?_
  intro i hi
  match i, hi with
  | 0, _ => exact take_one q0
  | 1, _ => exact take_one q1
  | i + 2, hi => exact absurd hi (by omega)
theorem ops_in {H : Type} {enc : TypeId × Value → H} {W : World} {v : Value} {d : DataW H} (h : Arg enc Try.prog W 42 v d) :
    ∃ n xs, rd W 2 v n xs ∧ ∀ i, i < n → ∃ a b : Int, (xs.drop (i * 2)).take 2 = [.int .i64 a, .int .i64 b] ∧ (-9223372036854775808 ≤ a ∧ a ≤ 9223372036854775807) ∧ (-9223372036854775808 ≤ b ∧ b ≤ 9223372036854775807) := by
  obtain ⟨n, xs, hr, -, hel⟩ := arg_slice (sz := 2) Try.underlying42 (by kernel_rfl) h
  exact ⟨n, xs, hr, fun i hi => let ⟨_, hd⟩ := hel i hi; opCells hd⟩
end
end Go.Proofs.Ytadbpekkmlblmaa
