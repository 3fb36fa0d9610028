




/-
  Fields of a message (api.Field): their cells, and two of them compared.
-/
import Derived.Test.YtjcpfldobiekbaaDoorTy
import Derived.Test.YtjcpfldobiekbaaDoorAuto2
namespace Go.Proofs.YtjcpfldobiekbaaDoor
open Go.RowKit Go.Sl Go.ChangeShapes

abbrev Fd := List UInt8 × List UInt8 × Bool
def Fd.cs (f : Fd) : List Value := [str f.1, str f.2.1, .bool f.2.2]
def fds (l : List Fd) : List Value := l.flatMap Fd.cs
theorem fds_len (l : List Fd) : (fds l).length = l.length * 3 := by induction l with | nil => rfl | cons f l ih => simp [fds, Fd.cs] at ih ⊢; omega
theorem fds_app (l m : List Fd) : fds l ++ fds m = fds (l ++ m) := by simp [fds]
theorem fds_at {l : List Fd} {i : Nat} {f : Fd} (h : l[i]? = some f) : ((fds l).drop (i * 3)).take 3 = [str f.1, str f.2.1, .bool f.2.2] := by
  induction l generalizing i with
  | nil => simp at h
  | cons g l ih =>
    cases i with
    | zero => simp at h; subst h; simp [fds, Fd.cs]
    | succ i =>
      rw [List.getElem?_cons_succ] at h
      have e : (fds (g :: l)).drop ((i + 1) * 3) = (fds l).drop (i * 3) := by
        show (g.cs ++ fds l).drop _ = _
        rw [List.drop_append, List.drop_eq_nil_of_le (by show 3 ≤ (i + 1) * 3; omega)]
        simp [Fd.cs, show (i + 1) * 3 - 3 = i * 3 by omega]
      rw [e]
      exact ih h

section
variable {P : Program} {ops : Array Oper} {C : World → Prop} {q : Act → Prop} {l : List Oper} {a : Act} {d : Option Tmp} {x y : Operand} {T' ty : TypeId} {pos : String} {after : Array Edge} {g : Option (Nat × Bool)}
theorem atq_eqF (h : wpQuiet P ops C q (⟨d, .binOp .eql 47 x y T', ty, pos, after, g⟩ :: l) a) : wpQuiet P ops C q (⟨d, .binOp .eql 47 x y T', ty, pos, after, g⟩ :: l) a := h
theorem atq_neF (h : wpQuiet P ops C q (⟨d, .binOp .neq 47 x y T', ty, pos, after, g⟩ :: l) a) : wpQuiet P ops C q (⟨d, .binOp .neq 47 x y T', ty, pos, after, g⟩ :: l) a := h
end

theorem hstruct : Tryd.prog.underlying 47 = some (.struct (Tryd.prog.fieldsOf 47)) := by kernel_rfl
theorem hstood : Tryd.prog.stoodInHeld 47 = false := by kernel_rfl
theorem hguard : Tryd.prog.eqGuardType Tryd.prog.depth 47 = false := by kernel_rfl

theorem str_toList (l : List UInt8) : (ByteArray.mk l.toArray).toList = l := by rw [ByteArray.toList_eq]
theorem equalF (a b a' b' : List UInt8) (c c' : Bool) (w : World) : (Op.equalIn 10000 47 (.agg #[str a, str b, .bool c]) (.agg #[str a', str b', .bool c'])).run Tryd.prog w = .ok (a == a' && b == b' && c == c') w := by
  show (Op.equalIn (9999 + 1) _ _ _).run Tryd.prog w = _
  rw [run_equalIn_struct w _ _ _ _ hstruct hstood]
  unfold Program.fieldsOf
  rw [Tryd.underlying47]
  simp [Op.eqFields, part, str]
  have e9 : ∀ (x y : List UInt8) (w : World), (Op.equalIn 9999 9 (.string ⟨x.toArray⟩) (.string ⟨y.toArray⟩)).run Tryd.prog w = .ok (x == y) w := by
    intro x y w
    have := run_equalIn_string (P := Tryd.prog) w 9998 9 ⟨x.toArray⟩ ⟨y.toArray⟩ Tryd.underlying9
    rw [str_toList, str_toList] at this
    exact this
  have e4 : ∀ (x y : Bool) (w : World), (Op.equalIn 9999 4 (.bool x) (.bool y)).run Tryd.prog w = .ok (x == y) w := fun x y w => run_equalIn_bool' (P := Tryd.prog) w 9998 4 x y Tryd.underlying4
  rw [e9]
  simp only [Result.andThen_ok]
  cases h1 : (a == a')
  · simp
  · simp only [Bool.true_eq_false, if_false]
    rw [e9]
    simp only [Result.andThen_ok]
    cases h2 : (b == b')
    · simp
    · simp only [Bool.true_eq_false, if_false]
      rw [e4]
      cases h3 : (c == c') <;> simp

theorem exec_eqF {w : World} {o : Oper} {a : Act} {x y : Operand} {p q p' q' : List UInt8} {c c' : Bool} (ho : o.op = .binOp .eql 47 x y 47) (hx : evalO a x = some (.agg #[str p, str q, .bool c])) (hy : evalO a y = some (.agg #[str p', str q', .bool c'])) : (execOp a.eval o).run Tryd.prog w = .ok (.value (.bool (p == p' && q == q' && c == c'))) w := by
  unfold execOp
  rw [ho]
  simp only [evalO_eq hx, evalO_eq hy]
  simp [run_eqGuard_agg, run_eql_struct, hguard, equalF]
theorem exec_neF {w : World} {o : Oper} {a : Act} {x y : Operand} {p q p' q' : List UInt8} {c c' : Bool} (ho : o.op = .binOp .neq 47 x y 47) (hx : evalO a x = some (.agg #[str p, str q, .bool c])) (hy : evalO a y = some (.agg #[str p', str q', .bool c'])) : (execOp a.eval o).run Tryd.prog w = .ok (.value (.bool (!(p == p' && q == q' && c == c')))) w := by
  unfold execOp
  rw [ho]
  simp only [evalO_eq hx, evalO_eq hy]
  simp [run_eqGuard_agg, run_neq_struct, hguard, equalF]
end Go.Proofs.YtjcpfldobiekbaaDoor
