




/-
  Two integers compared, where the walk is to take the answer from a hypothesis.
-/
import Derived.Test.YtjcpfldobiekbaaDoorAuto2
namespace Go.Sl
open Go Go.RowKit Go.ChangeShapes Go.BigFrame

section
variable {P : Program} {w : World} {ops : Array Oper} {Q : Exit → Act → World → Prop} {rest : List Oper} {o : Oper} {a : Act} {T T' ty : TypeId} {x y : Operand} {k : IntKind} {p q : Int} {b : Bool} {d : Option Tmp} {pos : String} {after : Array Edge} {g : Option (Nat × Bool)}
theorem exec_lssI (ho : o.op = .binOp .lss T x y T') (hx : evalO a x = some (.int k p)) (hy : evalO a y = some (.int k q)) : (execOp a.eval o).run P w = .ok (.value (.bool (decide (p < q)))) w := by
  unfold execOp
  rw [ho]
  simp only [evalO_eq hx, evalO_eq hy]
  simp [eqGuard, go_sem]
theorem at_lss (h : wpList P ops Q (⟨d, .binOp .lss T x y T', ty, pos, after, g⟩ :: rest) a w) : wpList P ops Q (⟨d, .binOp .lss T x y T', ty, pos, after, g⟩ :: rest) a w := h
theorem wpu_lss (ho : o.op = .binOp .lss T x y T') (hw : Region.wanted o (yielded ops a.tmps) = true) (hx : evalO a x = some (.int k p)) (hy : evalO a y = some (.int k q)) (hb : decide (p < q) = b) (kk : wpList P ops Q rest (a.put o.dst (.bool b)) w) : wpList P ops Q (o :: rest) a w := by
  subst hb
  exact wpu_val hw (exec_lssI ho hx hy) kk
theorem exec_gtrI (ho : o.op = .binOp .gtr T x y T') (hx : evalO a x = some (.int k p)) (hy : evalO a y = some (.int k q)) : (execOp a.eval o).run P w = .ok (.value (.bool (decide (p > q)))) w := by
  unfold execOp
  rw [ho]
  simp only [evalO_eq hx, evalO_eq hy]
  simp [eqGuard, go_sem]
theorem at_gtr (h : wpList P ops Q (⟨d, .binOp .gtr T x y T', ty, pos, after, g⟩ :: rest) a w) : wpList P ops Q (⟨d, .binOp .gtr T x y T', ty, pos, after, g⟩ :: rest) a w := h
theorem wpu_gtr (ho : o.op = .binOp .gtr T x y T') (hw : Region.wanted o (yielded ops a.tmps) = true) (hx : evalO a x = some (.int k p)) (hy : evalO a y = some (.int k q)) (hb : decide (p > q) = b) (kk : wpList P ops Q rest (a.put o.dst (.bool b)) w) : wpList P ops Q (o :: rest) a w := by
  subst hb
  exact wpu_val hw (exec_gtrI ho hx hy) kk
theorem exec_leqI (ho : o.op = .binOp .leq T x y T') (hx : evalO a x = some (.int k p)) (hy : evalO a y = some (.int k q)) : (execOp a.eval o).run P w = .ok (.value (.bool (decide (p ≤ q)))) w := by
  unfold execOp
  rw [ho]
  simp only [evalO_eq hx, evalO_eq hy]
  simp [eqGuard, go_sem]
theorem at_leq (h : wpList P ops Q (⟨d, .binOp .leq T x y T', ty, pos, after, g⟩ :: rest) a w) : wpList P ops Q (⟨d, .binOp .leq T x y T', ty, pos, after, g⟩ :: rest) a w := h
theorem wpu_leq (ho : o.op = .binOp .leq T x y T') (hw : Region.wanted o (yielded ops a.tmps) = true) (hx : evalO a x = some (.int k p)) (hy : evalO a y = some (.int k q)) (hb : decide (p ≤ q) = b) (kk : wpList P ops Q rest (a.put o.dst (.bool b)) w) : wpList P ops Q (o :: rest) a w := by
  subst hb
  exact wpu_val hw (exec_leqI ho hx hy) kk
theorem exec_geqI (ho : o.op = .binOp .geq T x y T') (hx : evalO a x = some (.int k p)) (hy : evalO a y = some (.int k q)) : (execOp a.eval o).run P w = .ok (.value (.bool (decide (p ≥ q)))) w := by
  unfold execOp
  rw [ho]
  simp only [evalO_eq hx, evalO_eq hy]
  simp [eqGuard, go_sem]
theorem at_geq (h : wpList P ops Q (⟨d, .binOp .geq T x y T', ty, pos, after, g⟩ :: rest) a w) : wpList P ops Q (⟨d, .binOp .geq T x y T', ty, pos, after, g⟩ :: rest) a w := h
theorem wpu_geq (ho : o.op = .binOp .geq T x y T') (hw : Region.wanted o (yielded ops a.tmps) = true) (hx : evalO a x = some (.int k p)) (hy : evalO a y = some (.int k q)) (hb : decide (p ≥ q) = b) (kk : wpList P ops Q rest (a.put o.dst (.bool b)) w) : wpList P ops Q (o :: rest) a w := by
  subst hb
  exact wpu_val hw (exec_geqI ho hx hy) kk
theorem exec_eqlI (ho : o.op = .binOp .eql T x y T') (hx : evalO a x = some (.int k p)) (hy : evalO a y = some (.int k q)) : (execOp a.eval o).run P w = .ok (.value (.bool ((p == q)))) w := by
  unfold execOp
  rw [ho]
  simp only [evalO_eq hx, evalO_eq hy]
  simp [eqGuard, go_sem]
theorem at_eql (h : wpList P ops Q (⟨d, .binOp .eql T x y T', ty, pos, after, g⟩ :: rest) a w) : wpList P ops Q (⟨d, .binOp .eql T x y T', ty, pos, after, g⟩ :: rest) a w := h
theorem wpu_eql (ho : o.op = .binOp .eql T x y T') (hw : Region.wanted o (yielded ops a.tmps) = true) (hx : evalO a x = some (.int k p)) (hy : evalO a y = some (.int k q)) (hb : (p == q) = b) (kk : wpList P ops Q rest (a.put o.dst (.bool b)) w) : wpList P ops Q (o :: rest) a w := by
  subst hb
  exact wpu_val hw (exec_eqlI ho hx hy) kk
theorem exec_neqI (ho : o.op = .binOp .neq T x y T') (hx : evalO a x = some (.int k p)) (hy : evalO a y = some (.int k q)) : (execOp a.eval o).run P w = .ok (.value (.bool ((p != q)))) w := by
  unfold execOp
  rw [ho]
  simp only [evalO_eq hx, evalO_eq hy]
  simp [eqGuard, go_sem]
theorem at_neq (h : wpList P ops Q (⟨d, .binOp .neq T x y T', ty, pos, after, g⟩ :: rest) a w) : wpList P ops Q (⟨d, .binOp .neq T x y T', ty, pos, after, g⟩ :: rest) a w := h
theorem wpu_neq (ho : o.op = .binOp .neq T x y T') (hw : Region.wanted o (yielded ops a.tmps) = true) (hx : evalO a x = some (.int k p)) (hy : evalO a y = some (.int k q)) (hb : (p != q) = b) (kk : wpList P ops Q rest (a.put o.dst (.bool b)) w) : wpList P ops Q (o :: rest) a w := by
  subst hb
  exact wpu_val hw (exec_neqI ho hx hy) kk
theorem wpu_neqE (ho : o.op = .binOp .neq T x y T') (hw : Region.wanted o (yielded ops a.tmps) = true) (hx : evalO a x = some (.int k p)) (hy : evalO a y = some (.int k q)) (hb : (p == q) = b) (kk : wpList P ops Q rest (a.put o.dst (.bool (!b))) w) : wpList P ops Q (o :: rest) a w := by
  subst hb
  exact wpu_val hw (exec_neqI ho hx hy) kk
end
end Go.Sl
