




/-
  Strings in a walk: their octets, their parts, two of them compared.
-/
import Derived.Test.YtjcpfldobiekbaaDoorAuto2
import Derived.Test.YtjcpfldobiekbaaDoorTy
import Derived.Lib.Strings
import Derived.Laws.Strings2
namespace Go.Sl
open Go Go.RowKit Go.ChangeShapes Go.BigFrame

section
variable {P : Program} {ι : Type} {W : ι → World} {w : World} {ops : Array Oper} {Q : Exit → Act → World → Prop} {q : Act → Prop} {C : World → Prop} {rest : List Oper} {o : Oper} {a : Act} {T T' : TypeId} {x y : Operand} {l m : List UInt8} {d : Option Tmp} {ty : TypeId} {pos : String} {after : Array Edge} {g : Option (Nat × Bool)}

theorem str_toList (l : List UInt8) : (ByteArray.mk l.toArray).toList = l := by rw [ByteArray.toList_eq]
theorem str_size (l : List UInt8) : (ByteArray.mk l.toArray).size = l.length := by simp [ByteArray.size]
theorem str_extract (l : List UInt8) (i j : Nat) : (ByteArray.mk l.toArray).extract i j = ⟨((l.drop i).take (j - i)).toArray⟩ := by rw [Lib.extract_eq]

theorem exec_strAt [hT : TyStr P T] (ho : o.op = .index T x y) (hx : evalO a x = some (str l)) {k : IntKind} {I : Int} (hy : evalO a y = some (.int k I)) {i : Nat} (hI : I = i) {c : UInt8} (hc : l[i]? = some c) : (execOp a.eval o).run P w = .ok (.value (.int .u8 (c.toNat : Int))) w := by
  subst hI
  have hi := (List.getElem?_eq_some_iff.1 hc).1
  unfold execOp
  rw [ho]
  have h := run_index_string (P := P) (w := w) T ⟨l.toArray⟩ k (i : Int) hT.out
  rw [dif_pos ⟨by omega, by rw [str_size]; omega⟩] at h
  have e : (ByteArray.mk l.toArray)[(i : Int).toNat]'(by rw [str_size]; omega) = c := by
    rw [List.getElem?_eq_getElem hi] at hc
    have := Option.some.inj hc
    rw [← this]
    show l.toArray[(i : Int).toNat]'(by simpa using hi) = l[i]
    simp
  rw [e] at h
  simp [evalO_eq hx, evalO_eq hy, h]

theorem exec_strEq (ho : o.op = .binOp .eql T x y T') (hx : evalO a x = some (str l)) (hy : evalO a y = some (str m)) [hT : TyStr P T] : (execOp a.eval o).run P w = .ok (.value (.bool (decide (l = m)))) w := by
  unfold execOp
  rw [ho]
  simp only [evalO_eq hx, evalO_eq hy]
  simp [eqGuard, binOp_string_eql, str_toList]
  rw [Bool.eq_iff_iff]
  simp

theorem exec_strCut [hT : TyStr P T] {lo hi : Option Operand} (ho : o.op = .slice T x lo hi none) (hx : evalO a x = some (str l)) {i j : Nat} (hlo : (lo = none ∧ i = 0) ∨ ∃ z k, lo = some z ∧ evalO a z = some (.int k i)) (hhi : (hi = none ∧ j = l.length) ∨ ∃ z k, hi = some z ∧ evalO a z = some (.int k j)) (h1 : i ≤ j) (h2 : j ≤ l.length) : (execOp a.eval o).run P w = .ok (.value (str ((l.drop i).take (j - i)))) w := by
  unfold execOp
  rw [ho]
  have hs : (ByteArray.mk l.toArray).size = l.length := str_size l
  rcases hlo with ⟨rfl, rfl⟩ | ⟨z, k, rfl, hz⟩ <;> rcases hhi with ⟨rfl, rfl⟩ | ⟨z', k', rfl, hz'⟩
  · have h := run_slice_string_all (P := P) w T ⟨l.toArray⟩ hT.out
    rw [str_extract] at h
    simp [evalO_eq hx, Instr.sliceAt, run_underlying hT.out, h, hs]
  · have h := run_slice_string_h (P := P) w T ⟨l.toArray⟩ hT.out k' (j : Int) (by omega) (by rw [hs]; omega)
    rw [str_extract] at h
    simp [evalO_eq hx, evalO_eq hz', Instr.sliceAt, run_underlying hT.out, h]
  · have h := run_slice_string_l (P := P) w T ⟨l.toArray⟩ hT.out k (i : Int) (by omega) (by rw [hs]; omega)
    rw [str_extract] at h
    simp [evalO_eq hx, evalO_eq hz, Instr.sliceAt, run_underlying hT.out, h, hs]
  · have h := run_slice_string (P := P) w T ⟨l.toArray⟩ k k' (i : Int) (j : Int) hT.out (by omega) (by omega) (by rw [hs]; omega)
    rw [str_extract] at h
    simp [evalO_eq hx, evalO_eq hz, evalO_eq hz', Instr.sliceAt, run_underlying hT.out, h]

theorem at_strAt (h : wpList P ops Q (⟨d, .index T x y, ty, pos, after, g⟩ :: rest) a w) : wpList P ops Q (⟨d, .index T x y, ty, pos, after, g⟩ :: rest) a w := h
theorem at_sliceAny {lo hi : Option Operand} (h : wpList P ops Q (⟨d, .slice T x lo hi none, ty, pos, after, g⟩ :: rest) a w) : wpList P ops Q (⟨d, .slice T x lo hi none, ty, pos, after, g⟩ :: rest) a w := h
theorem atq_strAt (h : wpQuiet P ops C q (⟨d, .index T x y, ty, pos, after, g⟩ :: rest) a) : wpQuiet P ops C q (⟨d, .index T x y, ty, pos, after, g⟩ :: rest) a := h
theorem atq_sliceAny {lo hi : Option Operand} (h : wpQuiet P ops C q (⟨d, .slice T x lo hi none, ty, pos, after, g⟩ :: rest) a) : wpQuiet P ops C q (⟨d, .slice T x lo hi none, ty, pos, after, g⟩ :: rest) a := h

/-- s[i] -/
theorem wpu_strAt [hT : TyStr P T] (ho : o.op = .index T x y) (hw : Region.wanted o (yielded ops a.tmps) = true) (hx : evalO a x = some (str l)) {k : IntKind} {I : Int} (hy : evalO a y = some (.int k I)) {i : Nat} (hI : I = i) {c : UInt8} (hc : l[i]? = some c) (kk : wpList P ops Q rest (a.put o.dst (.int .u8 (c.toNat : Int))) w) : wpList P ops Q (o :: rest) a w :=
  wpu_val hw (exec_strAt ho hx hy hI hc) kk
/-- s[i:j] -/
theorem wpu_strLH [hT : TyStr P T] {lo hi : Operand} (ho : o.op = .slice T x (some lo) (some hi) none) (hw : Region.wanted o (yielded ops a.tmps) = true) (hx : evalO a x = some (str l)) {k k' : IntKind} {i j : Nat} {I J : Int} (hlo : evalO a lo = some (.int k I)) (hhi : evalO a hi = some (.int k' J)) (hI : I = i) (hJ : J = j) (h1 : i ≤ j) (h2 : j ≤ l.length) (kk : wpList P ops Q rest (a.put o.dst (str ((l.drop i).take (j - i)))) w) : wpList P ops Q (o :: rest) a w := by
  subst hI hJ
  exact wpu_val hw (exec_strCut ho hx (.inr ⟨_, _, rfl, hlo⟩) (.inr ⟨_, _, rfl, hhi⟩) h1 h2) kk
theorem wpu_strL [hT : TyStr P T] {lo : Operand} (ho : o.op = .slice T x (some lo) none none) (hw : Region.wanted o (yielded ops a.tmps) = true) (hx : evalO a x = some (str l)) {k : IntKind} {i : Nat} {I : Int} (hlo : evalO a lo = some (.int k I)) (hI : I = i) (h1 : i ≤ l.length) (kk : wpList P ops Q rest (a.put o.dst (str (l.drop i))) w) : wpList P ops Q (o :: rest) a w := by
  subst hI
  have := exec_strCut (P := P) (w := w) ho hx (.inr ⟨_, _, rfl, hlo⟩) (.inl ⟨rfl, rfl⟩) h1 (Nat.le_refl _)
  rw [List.take_of_length_le (by simp)] at this
  exact wpu_val hw this kk
theorem wpu_strH [hT : TyStr P T] {hi : Operand} (ho : o.op = .slice T x none (some hi) none) (hw : Region.wanted o (yielded ops a.tmps) = true) (hx : evalO a x = some (str l)) {k : IntKind} {j : Nat} {J : Int} (hhi : evalO a hi = some (.int k J)) (hJ : J = j) (h2 : j ≤ l.length) (kk : wpList P ops Q rest (a.put o.dst (str (l.take j))) w) : wpList P ops Q (o :: rest) a w := by
  subst hJ
  have := exec_strCut (P := P) (w := w) ho hx (.inl ⟨rfl, rfl⟩) (.inr ⟨_, _, rfl, hhi⟩) (Nat.zero_le _) h2
  exact wpu_val hw (by simpa using this) kk
theorem wpq_strLH [hT : TyStr P T] {lo hi : Operand} (ho : o.op = .slice T x (some lo) (some hi) none) (hw : Region.wanted o (yielded ops a.tmps) = true) (hx : evalO a x = some (str l)) {k k' : IntKind} {i j : Nat} {I J : Int} (hlo : evalO a lo = some (.int k I)) (hhi : evalO a hi = some (.int k' J)) (hI : I = i) (hJ : J = j) (h1 : i ≤ j) (h2 : j ≤ l.length) (kk : wpQuiet P ops (fun w' => ∃ i, w' = W i) q rest (a.put o.dst (str ((l.drop i).take (j - i))))) : wpQuiet P ops (fun w' => ∃ i, w' = W i) q (o :: rest) a := by
  subst hI hJ
  exact wpq_val hw (fun _ => exec_strCut ho hx (.inr ⟨_, _, rfl, hlo⟩) (.inr ⟨_, _, rfl, hhi⟩) h1 h2) kk
theorem wpq_strL [hT : TyStr P T] {lo : Operand} (ho : o.op = .slice T x (some lo) none none) (hw : Region.wanted o (yielded ops a.tmps) = true) (hx : evalO a x = some (str l)) {k : IntKind} {i : Nat} {I : Int} (hlo : evalO a lo = some (.int k I)) (hI : I = i) (h1 : i ≤ l.length) (kk : wpQuiet P ops (fun w' => ∃ i, w' = W i) q rest (a.put o.dst (str (l.drop i)))) : wpQuiet P ops (fun w' => ∃ i, w' = W i) q (o :: rest) a := by
  subst hI
  refine wpq_val hw (fun j => ?_) kk
  have := exec_strCut (P := P) (w := W j) ho hx (.inr ⟨_, _, rfl, hlo⟩) (.inl ⟨rfl, rfl⟩) h1 (Nat.le_refl _)
  rw [List.take_of_length_le (by simp)] at this
  exact this
theorem wpq_strH [hT : TyStr P T] {hi : Operand} (ho : o.op = .slice T x none (some hi) none) (hw : Region.wanted o (yielded ops a.tmps) = true) (hx : evalO a x = some (str l)) {k : IntKind} {j : Nat} {J : Int} (hhi : evalO a hi = some (.int k J)) (hJ : J = j) (h2 : j ≤ l.length) (kk : wpQuiet P ops (fun w' => ∃ i, w' = W i) q rest (a.put o.dst (str (l.take j)))) : wpQuiet P ops (fun w' => ∃ i, w' = W i) q (o :: rest) a := by
  subst hJ
  refine wpq_val hw (fun i => ?_) kk
  have := exec_strCut (P := P) (w := W i) ho hx (.inl ⟨rfl, rfl⟩) (.inr ⟨_, _, rfl, hhi⟩) (Nat.zero_le _) h2
  simpa using this
end
end Go.Sl
