
/-
  Octets: what string(b), slices.Clone and slices.Clip do.
-/
import Derived.Test.YtbekaeahedkeoaaRows
import Derived.Test.YtbekaeahedkeoaaOps
import Derived.BigQuiet
import Derived.Lib.Hide
import Derived.Maps.RangeWalk
namespace Go.Proofs.Ytbekaeahedkeoaa
open Go.RowKit Go.Sl

theorem isBytes : IsSl Try.prog 30 5 1 1 (.int .u8 0) := isSl_mk Try.underlying30 (by kernel_rfl) rfl (by decide)

@[go_sem] theorem eqNilB (w : World) (a : Option Addr) (n c : Nat) : (binOp .eql 30 (.slice a n c) (.slice none 0 0)).run Try.prog w = .ok (.bool a.isNone) w :=
  Lib.run_eql_slice_nil w 30 5 a n c 0 0 Try.underlying30

section
variable {B w : World} {A R : Assn}

/-- string(b) -/
theorem strB {v : Value} {n : Nat} {l : List UInt8} (hr : ∀ w, Own B A w → rd w 1 v n (bs l)) : ∀ w, Own B A w → (convert 30 9 v).run Try.prog w = .ok (str l) w :=
  fun w h => run_string_rd Try.underlying30 Try.underlying5 Try.underlying9 (hr w h)

/-- slices.Clone of bytes -/
theorem cloneB {v : Value} {l : List UInt8} (h : Own B A w) (hr : ∀ w, Own B A w → rd w 1 v l.length (bs l)) (hl : l.length ≤ 140737488355328) :
    Calls Try.prog 19 #[v] w fun e w' => ∃ v', e = .returned v' ∧ Own B (sl 1 v' l.length (bs l) * A) w' := by
  obtain ⟨uo, ucap, rfl, u1, u2, u3, u4, -⟩ := hr w h
  unfold maxLen at u2
  cases uo with
  | none =>
    have : ucap = 0 := u4 rfl
    subst this
    have hl0 : l = [] := List.eq_nil_of_length_eq_zero (by omega)
    subst hl0
    go_enter Try.func19, Try.ntmps19
    go_wp2
    go_ret
    exact ⟨_, rfl, own_nil h 1⟩
  | some a =>
    go_enter Try.func19, Try.ntmps19
    have g := own_new_sl h [] 5 1 0 rfl (Nat.zero_le _)
    go_wp2_with (at_builtin; go_loud (refine wpl_append rfl (v := .slice (some ⟨w.heap.size, 0, none⟩) 0 0) (A := _) rfl g isBytes rfl rfl rfl (hr _ g.right) (bs_one _) (by unfold maxLen; omega) (by omega) ?_); intro v' w1 g1)
    go_ret
    exact ⟨_, rfl, g1.eq (by simp)⟩


end
end Go.Proofs.Ytbekaeahedkeoaa
