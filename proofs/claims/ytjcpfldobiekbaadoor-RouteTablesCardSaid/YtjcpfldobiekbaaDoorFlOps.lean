




/-
  Floats compared and reckoned with, where the walk is to take the answer from a hypothesis; make of so many elements; a slice cut at its end.
-/
import Derived.Test.YtjcpfldobiekbaaDoorAuto2
import Derived.Test.YtjcpfldobiekbaaDoorCmp
import Derived.Test.YtjcpfldobiekbaaDoorFl
import Derived.Laws.FloatArith
namespace Go.Sl
open Go Go.RowKit Go.ChangeShapes Go.BigFrame

section
variable {P : Program} {B w : World} {A A' R : Assn} {ops : Array Oper} {Q : Exit → Act → World → Prop} {rest : List Oper} {o : Oper} {a : Act} {T T' ty : TypeId} {x y : Operand} {p q r : Nat} {b : Bool} {d : Option Tmp} {pos : String} {after : Array Edge} {g : Option (Nat × Bool)}
theorem exec_fcmp {op : BinOp} (ho : o.op = .binOp op T x y T') (hx : evalO a x = some (.float .f64 p)) (hy : evalO a y = some (.float .f64 q)) (hc : binOp op T (.float .f64 p) (.float .f64 q) = pure (.bool b)) : (execOp a.eval o).run P w = .ok (.value (.bool b)) w := by
  unfold execOp
  rw [ho]
  simp only [evalO_eq hx, evalO_eq hy]
  simp [eqGuard, hc]
theorem wpu_flss (ho : o.op = .binOp .lss T x y T') (hw : Region.wanted o (yielded ops a.tmps) = true) (hx : evalO a x = some (.float .f64 p)) (hy : evalO a y = some (.float .f64 q)) (hb : (Fl.ord p q == some .lt) = b) (kk : wpList P ops Q rest (a.put o.dst (.bool b)) w) : wpList P ops Q (o :: rest) a w := by
  subst hb
  exact wpu_val hw (exec_fcmp ho hx hy (binOp_float_cmp_lss _ _ _ _)) kk
theorem wpu_fgtr (ho : o.op = .binOp .gtr T x y T') (hw : Region.wanted o (yielded ops a.tmps) = true) (hx : evalO a x = some (.float .f64 p)) (hy : evalO a y = some (.float .f64 q)) (hb : (Fl.ord p q == some .gt) = b) (kk : wpList P ops Q rest (a.put o.dst (.bool b)) w) : wpList P ops Q (o :: rest) a w := by
  subst hb
  exact wpu_val hw (exec_fcmp ho hx hy (binOp_float_cmp_gtr _ _ _ _)) kk
theorem wpu_fneq (ho : o.op = .binOp .neq T x y T') (hw : Region.wanted o (yielded ops a.tmps) = true) (hx : evalO a x = some (.float .f64 p)) (hy : evalO a y = some (.float .f64 q)) (hb : (Fl.ord p q != some .eq) = b) (kk : wpList P ops Q rest (a.put o.dst (.bool b)) w) : wpList P ops Q (o :: rest) a w := by
  subst hb
  exact wpu_val hw (exec_fcmp ho hx hy (binOp_float_cmp_neq _ _ _ _)) kk
theorem wpu_fleq (ho : o.op = .binOp .leq T x y T') (hw : Region.wanted o (yielded ops a.tmps) = true) (hx : evalO a x = some (.float .f64 p)) (hy : evalO a y = some (.float .f64 q)) (hb : (Fl.ord p q == some .lt || Fl.ord p q == some .eq) = b) (kk : wpList P ops Q rest (a.put o.dst (.bool b)) w) : wpList P ops Q (o :: rest) a w := by
  subst hb
  exact wpu_val hw (exec_fcmp ho hx hy (binOp_float_cmp_leq _ _ _ _)) kk
theorem wpu_fgeq (ho : o.op = .binOp .geq T x y T') (hw : Region.wanted o (yielded ops a.tmps) = true) (hx : evalO a x = some (.float .f64 p)) (hy : evalO a y = some (.float .f64 q)) (hb : (Fl.ord p q == some .gt || Fl.ord p q == some .eq) = b) (kk : wpList P ops Q rest (a.put o.dst (.bool b)) w) : wpList P ops Q (o :: rest) a w := by
  subst hb
  exact wpu_val hw (exec_fcmp ho hx hy (binOp_float_cmp_geq _ _ _ _)) kk

theorem at_add (h : wpList P ops Q (⟨d, .binOp .add T x y T', ty, pos, after, g⟩ :: rest) a w) : wpList P ops Q (⟨d, .binOp .add T x y T', ty, pos, after, g⟩ :: rest) a w := h
theorem at_mul (h : wpList P ops Q (⟨d, .binOp .mul T x y T', ty, pos, after, g⟩ :: rest) a w) : wpList P ops Q (⟨d, .binOp .mul T x y T', ty, pos, after, g⟩ :: rest) a w := h
theorem at_quo (h : wpList P ops Q (⟨d, .binOp .quo T x y T', ty, pos, after, g⟩ :: rest) a w) : wpList P ops Q (⟨d, .binOp .quo T x y T', ty, pos, after, g⟩ :: rest) a w := h
theorem exec_farith {op : BinOp} (ho : o.op = .binOp op T x y T') (hx : evalO a x = some (.float .f64 p)) (hy : evalO a y = some (.float .f64 q)) (hr : floatBits op .f64 p q = some r) (hne : op ≠ .eql ∧ op ≠ .neq) : (execOp a.eval o).run P w = .ok (.value (.float .f64 r)) w := by
  have := run_float_arith (P := P) w op T .f64 p q r hr
  unfold execOp
  rw [ho]
  simp only [evalO_eq hx, evalO_eq hy]
  simp [eqGuard, hne.1, hne.2, this]
theorem wpu_fadd (ho : o.op = .binOp .add T x y T') (hw : Region.wanted o (yielded ops a.tmps) = true) (hx : evalO a x = some (.float .f64 p)) (hy : evalO a y = some (.float .f64 q)) (hr : Ieee.double.add p q = some r) (kk : wpList P ops Q rest (a.put o.dst (.float .f64 r)) w) : wpList P ops Q (o :: rest) a w :=
  wpu_val hw (exec_farith ho hx hy hr (by decide)) kk
theorem wpu_fmul (ho : o.op = .binOp .mul T x y T') (hw : Region.wanted o (yielded ops a.tmps) = true) (hx : evalO a x = some (.float .f64 p)) (hy : evalO a y = some (.float .f64 q)) (hr : Ieee.double.mul p q = some r) (kk : wpList P ops Q rest (a.put o.dst (.float .f64 r)) w) : wpList P ops Q (o :: rest) a w :=
  wpu_val hw (exec_farith ho hx hy hr (by decide)) kk
theorem wpu_fquo (ho : o.op = .binOp .quo T x y T') (hw : Region.wanted o (yielded ops a.tmps) = true) (hx : evalO a x = some (.float .f64 p)) (hy : evalO a y = some (.float .f64 q)) (hr : Ieee.double.div p q = some r) (kk : wpList P ops Q rest (a.put o.dst (.float .f64 r)) w) : wpList P ops Q (o :: rest) a w :=
  wpu_val hw (exec_farith ho hx hy hr (by decide)) kk
/-- float64(n) -/
theorem wpu_float {S D : TypeId} {k : IntKind} (ho : o.op = .convert S D x) (hw : Region.wanted o (yielded ops a.tmps) = true) (hx : evalO a x = some (.int k p)) (hS : (P.underlying S).isSome = true) (hD : P.underlying D = some (.float .f64)) (kk : wpList P ops Q rest (a.put o.dst (.float .f64 (Ieee.double.nearest false p 0))) w) : wpList P ops Q (o :: rest) a w := by
  have e : floatOfInt .f64 (p : Int) = Ieee.double.nearest false p 0 := by
    have : decide ((p : Int) < 0) = false := by simp
    unfold floatOfInt FloatKind.nearest FloatKind.encode
    rw [this, Int.natAbs_natCast]
    rfl
  have := run_convert_int_float (P := P) w S D k .f64 (p : Int) hS hD
  rw [e] at this
  refine wpu_val hw ?_ kk
  unfold execOp
  rw [ho]
  simp [evalO_eq hx, this]

/-- make of n elements -/
theorem wpu_makeN (h : Own B A w) {t sz bytes n : Nat} {z : Value} (ho : o.op = .makeSlice t x y) (hw : Region.wanted o (yielded ops a.tmps) = true) {kl kc : IntKind} (hx : evalO a x = some (.int kl n)) (hy : evalO a y = some (.int kc n)) [I : TyApp P t T sz bytes z]
    (hb : bytes * n ≤ 140737488355328) (h63 : n ≤ 9223372036854775807) (k : ∀ v' w' xs, xs.length = n * sz → Own B (sl sz v' n xs * A) w' → wpList P ops Q rest (a.put o.dst v') w') : wpList P ops Q (o :: rest) a w := by
  obtain ⟨v', w', hr, h'⟩ := run_make_own h I.out (kl := kl) (kc := kc) (l := (n : Int)) (c := (n : Int)) (by omega) (Int.le_refl _) (by omega) (by omega)
  refine wpu_val hw (v := v') (w' := w') ?_ (k v' w' _ ?_ (h'.eq (by rw [Int.toNat_natCast])))
  · unfold execOp
    rw [ho]
    simp [evalO_eq hx, evalO_eq hy, hr]
  · simp [madeCells]

theorem exec_buildT {w' : World} {n : Nat} {parts : Array (Nat × Operand)} {v : Value} (ps : Array (Nat × Value)) (ho : o.op = .buildSlice T n parts) (hp : (parts.map fun (i, x) => (i, a.eval x)) = ps) (hr : (Instr.buildSlice T n ps).run P w = .ok v w') : (execOp a.eval o).run P w = .ok (.value v) w' := by
  unfold execOp
  rw [ho]
  subst hp
  simp [hr]
end
end Go.Sl
