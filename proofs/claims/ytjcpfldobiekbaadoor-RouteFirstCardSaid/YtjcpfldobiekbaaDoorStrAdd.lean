




/-
  Strings put behind one another.
-/
import Derived.Test.YtjcpfldobiekbaaDoorStr
namespace Go.Sl
open Go Go.RowKit Go.ChangeShapes Go.BigFrame

section
variable {P : Program} {w : World} {ops : Array Oper} {Q : Exit → Act → World → Prop} {rest : List Oper} {o : Oper} {a : Act} {T T' : TypeId} {x y : Operand} {l m : List UInt8} {d : Option Tmp} {ty : TypeId} {pos : String} {after : Array Edge} {g : Option (Nat × Bool)}
theorem str_append (l m : List UInt8) : (ByteArray.mk l.toArray) ++ (ByteArray.mk m.toArray) = ByteArray.mk (l ++ m).toArray := by
  apply ByteArray.ext
  simp
theorem exec_strAdd (ho : o.op = .binOp .add T x y T') (hx : evalO a x = some (str l)) (hy : evalO a y = some (str m)) (hl : l.length + m.length ≤ 100000000) : (execOp a.eval o).run P w = .ok (.value (str (l ++ m))) w := by
  have h1 : (ByteArray.mk l.toArray).size = l.length := str_size l
  have h2 : (ByteArray.mk m.toArray).size = m.length := str_size m
  unfold execOp
  rw [ho]
  simp only [evalO_eq hx, evalO_eq hy]
  simp [eqGuard, binOp_string_add, Op.stringOp, str_append]
  rw [h1, h2]
  omega
theorem at_addS (h : wpList P ops Q (⟨d, .binOp .add 9 x y T', ty, pos, after, g⟩ :: rest) a w) : wpList P ops Q (⟨d, .binOp .add 9 x y T', ty, pos, after, g⟩ :: rest) a w := h
theorem wpu_addS (ho : o.op = .binOp .add 9 x y T') (hw : Region.wanted o (yielded ops a.tmps) = true) (hx : evalO a x = some (str l)) (hy : evalO a y = some (str m)) {r : List UInt8} (hr : l ++ m = r) (hl : l.length + m.length ≤ 100000000) (kk : wpList P ops Q rest (a.put o.dst (str r)) w) : wpList P ops Q (o :: rest) a w := by
  subst hr
  exact wpu_val hw (exec_strAdd ho hx hy hl) kk
end
end Go.Sl
