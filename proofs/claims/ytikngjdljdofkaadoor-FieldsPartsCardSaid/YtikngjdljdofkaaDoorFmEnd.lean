

/-
  The laws of package fields: messages compared; the arguments.
-/
import Derived.Test.YtikngjdljdofkaaDoorFmOf
import Derived.Test.YtikngjdljdofkaaDoorSameF
namespace Go.Proofs.YtikngjdljdofkaaDoor
open Go.RowKit Go.Sl Go.ChangeShapes

def Msg.arr (m : Msg) : Array Value := #[str m.method, str m.scheme, str m.authority, str m.path, .int .i64 m.status, .int .i64 m.len]
theorem msgV_eq (o : Option Msg) : ∃ m b, msgV o = .tuple #[.agg #[str m.method, str m.scheme, str m.authority, str m.path, .int .i64 m.status, .int .i64 m.len], .bool b] ∧ o.isSome = b ∧ (b = true → o = some m) := by
  cases o with
  | none => exact ⟨Msg.zero, false, rfl, rfl, fun h => by cases h⟩
  | some m => exact ⟨m, true, rfl, rfl, fun _ => rfl⟩

theorem mstruct : Tryd.prog.underlying 29 = some (.struct (Tryd.prog.fieldsOf 29)) := by kernel_rfl
theorem mstood : Tryd.prog.stoodInHeld 29 = false := by kernel_rfl
theorem mguard : Tryd.prog.eqGuardType Tryd.prog.depth 29 = false := by kernel_rfl
theorem equalM (a b c d : Txt) (m n : Int) (w : World) : (Op.equalIn 10000 29 (.agg #[str a, str b, str c, str d, .int .i64 m, .int .i64 n]) (.agg #[str a, str b, str c, str d, .int .i64 m, .int .i64 n])).run Tryd.prog w = .ok true w := by
  show (Op.equalIn (9999 + 1) _ _ _).run Tryd.prog w = _
  rw [run_equalIn_struct w _ _ _ _ mstruct mstood]
  unfold Program.fieldsOf
  rw [Tryd.underlying29]
  simp [Op.eqFields, part, str]
  have e9 : ∀ (x : Txt) (w : World), (Op.equalIn 9999 9 (.string ⟨x.toArray⟩) (.string ⟨x.toArray⟩)).run Tryd.prog w = .ok true w := by
    intro x w
    have := run_equalIn_string (P := Tryd.prog) w 9998 9 ⟨x.toArray⟩ ⟨x.toArray⟩ Tryd.underlying9
    simpa using this
  have e3 : ∀ (x : Int) (w : World), (Op.equalIn 9999 3 (.int .i64 x) (.int .i64 x)).run Tryd.prog w = .ok true w := by
    intro x w
    have := run_equalIn_int (P := Tryd.prog) (w := w) 9998 3 .i64 .i64 x x Tryd.underlying3
    simpa using this
  simp [e9, e3]
theorem exec_eqM {w : World} {o : Oper} {x y : Operand} {act : Act} {a b c d : Txt} {m n : Int} (ho : o.op = .binOp .eql 29 x y 29) (hx : evalO act x = some (.agg #[str a, str b, str c, str d, .int .i64 m, .int .i64 n])) (hy : evalO act y = some (.agg #[str a, str b, str c, str d, .int .i64 m, .int .i64 n])) :
    (execOp act.eval o).run Tryd.prog w = .ok (.value (.bool true)) w := by
  unfold execOp
  rw [ho]
  simp only [evalO_eq hx, evalO_eq hy]
  simp [run_eqGuard_agg, run_eql_struct, mguard, equalM]
section
variable {P : Program} {ops : Array Oper} {Q : Exit → Act → World → Prop} {l : List Oper} {a : Act} {w : World} {d : Option Tmp} {x y : Operand} {T' ty : TypeId} {pos : String} {after : Array Edge} {g : Option (Nat × Bool)}
theorem at_eqM (h : wpList P ops Q (⟨d, .binOp .eql 29 x y T', ty, pos, after, g⟩ :: l) a w) : wpList P ops Q (⟨d, .binOp .eql 29 x y T', ty, pos, after, g⟩ :: l) a w := h
end

theorem small_few {L : List Fd} {n : Nat} (hn : n ≤ 1000) : (∀ f ∈ fewR L n, f.1.length ≤ 1000000 ∧ f.2.1.length ≤ 1000000) ∧ (fewR L n).length ≤ 1000 :=
  ⟨fun f hf => by have := fewR_small L n f hf; omega, by rw [fewR_len]; omega⟩

theorem fieldCells {H : Type} {enc : TypeId × Value → H} {W : World} {cs : List Value} {d : DataW H} (h : RdC enc Tryd.prog W 24 cs d) :
    ∃ (x0 : List UInt8) (x1 : List UInt8) (x2 : Bool), cs = [str x0, str x1, .bool x2] ∧ x0.length ≤ maxLen ∧ x1.length ≤ maxLen ∧ True := by
  have hl := (rdc_struct Tryd.underlying24 h).1
  obtain ⟨e0, g0⟩ := rdc_field Tryd.underlying24 h 0 rfl (ft := 9) rfl (o := 0) rfl (c := 1) (by kernel_rfl)
  obtain ⟨x0, q0, b0, _⟩ := rdc_string Tryd.underlying9 g0
  obtain ⟨e1, g1⟩ := rdc_field Tryd.underlying24 h 1 rfl (ft := 9) rfl (o := 1) rfl (c := 1) (by kernel_rfl)
  obtain ⟨x1, q1, b1, _⟩ := rdc_string Tryd.underlying9 g1
  obtain ⟨e2, g2⟩ := rdc_field Tryd.underlying24 h 2 rfl (ft := 4) rfl (o := 2) rfl (c := 1) (by kernel_rfl)
  obtain ⟨x2, q2⟩ := rdc_bool Tryd.underlying4 g2
  refine ⟨x0, x1, x2, ?_, b0, b1, trivial⟩
  have hl' : cs.length = 3 := hl.trans (by kernel_rfl)
  refine list_of_cells hl' [str x0, str x1, .bool x2] rfl ?_
  intro i hi
  match i, hi with
  | 0, _ => exact take_one q0
  | 1, _ => exact take_one q1
  | 2, _ => exact take_one q2
  | i + 3, hi => exact absurd hi (by omega)
theorem cells_list {α : Type} {sz : Nat} {cs : α → List Value} {Pr : α → Prop} : ∀ (n : Nat) (xs : List Value), xs.length = n * sz → (∀ i, i < n → ∃ a, Pr a ∧ (xs.drop (i * sz)).take sz = cs a) → ∃ L : List α, L.length = n ∧ xs = L.flatMap cs ∧ ∀ a ∈ L, Pr a := by
  intro n
  induction n with
  | zero => intro xs h _; exact ⟨[], rfl, List.eq_nil_of_length_eq_zero (by rw [h]; exact Nat.zero_mul _), fun _ h => by cases h⟩
  | succ n ih =>
    intro xs h hel
    have e1 : (n + 1) * sz = n * sz + sz := Nat.succ_mul n sz
    obtain ⟨a, p, ha⟩ := hel 0 (Nat.succ_pos _)
    rw [Nat.zero_mul, List.drop_zero] at ha
    obtain ⟨L, hL, hx, hp⟩ := ih (xs.drop sz) (by rw [List.length_drop, h, e1]; omega) (fun i hi => by
      obtain ⟨b, q, hb⟩ := hel (i + 1) (by omega)
      refine ⟨b, q, ?_⟩
      rw [List.drop_drop, show sz + i * sz = (i + 1) * sz by rw [Nat.succ_mul]; omega]
      exact hb)
    refine ⟨a :: L, by simp [hL], ?_, ?_⟩
    · rw [List.flatMap_cons, ← hx, ← ha, List.take_append_drop]
    · intro b hb
      rcases List.mem_cons.1 hb with rfl | hb
      · exact p
      · exact hp b hb
theorem fds_in {H : Type} {enc : TypeId × Value → H} {W : World} {v : Value} {d : DataW H} (h : Arg enc Tryd.prog W 22 v d) :
    ∃ L : List Fd, rd W 3 v L.length (fds L) ∧ ∀ f ∈ L, f.1.length ≤ 9223372036854775807 ∧ f.2.1.length ≤ 9223372036854775807 := by
  obtain ⟨n, xs, hr, -, hel⟩ := arg_slice (sz := 3) Tryd.underlying22 (by kernel_rfl) h
  obtain ⟨L, rfl, rfl, hp⟩ := cells_list (α := Fd) (cs := Fd.cs) (Pr := fun f => f.1.length ≤ 9223372036854775807 ∧ f.2.1.length ≤ 9223372036854775807) n xs hr.len (fun i hi => by
    obtain ⟨_, hd⟩ := hel i hi
    obtain ⟨x0, x1, x2, e, b0, b1, _⟩ := fieldCells hd
    unfold maxLen at b0 b1
    exact ⟨(x0, x1, x2), ⟨b0, b1⟩, e⟩)
  exact ⟨L, hr, hp⟩
end Go.Proofs.YtikngjdljdofkaaDoor
