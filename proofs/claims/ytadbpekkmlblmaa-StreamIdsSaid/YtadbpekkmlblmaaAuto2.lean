
/-
  More laws of loads: a field of an element of a slice of structs.
  Condition: none (lemmas on worlds).
-/
import Derived.Test.YtadbpekkmlblmaaAuto
namespace Go.Sl
open Go Go.RowKit Go.ChangeShapes Go.BigFrame

section
variable {P : Program} {B w : World} {A A' R : Assn} {ops : Array Oper} {Q : Exit → Act → World → Prop} {rest : List Oper} {o : Oper} {a : Act} {K : Act → World → Prop} {T : TypeId} {ad x : Operand} {b i n : Nat} {cs vs : List Value} {v : Value}

theorem rd_field {ad : Addr} {cap m k sz j : Nat} {xs : List Value} (hr : Sl.rd w sz (.slice (some ad) m cap) m xs) (hx : (xs.drop (k * sz)).take sz = cs) (hj : cs[j]? = some v) : w.cell? (ad.add (k * sz + j)) = some v := by
  refine rd_cell hr ?_
  rw [← hx, List.getElem?_take] at hj
  split at hj
  · rw [List.getElem?_drop] at hj; exact hj
  · cases hj

/-- the address of field j + 1 of element k -/
theorem add_off {ad : Addr} {p q : Nat} : (⟨(ad.add p).block, (ad.add p).off + (q + 1), none⟩ : Addr) = ad.add (p + (q + 1)) := by
  rw [← addr_add_add]
  generalize ad.add p = c
  simp [Addr.add]

theorem wpu_loadF {ad : Addr} {cap m k sz j : Nat} {xs : List Value} [hT : TyOne P T] (hr : Sl.rd w sz (.slice (some ad) m cap) m xs) (hx : (xs.drop (k * sz)).take sz = cs) (ho : o.op = .load T x) (hw : Region.wanted o (yielded ops a.tmps) = true)
    (ha' : evalO a x = some (.pointer (some ⟨(ad.add (k * sz)).block, (ad.add (k * sz)).off + (j + 1), none⟩))) (hj : cs[j + 1]? = some v)
    (kk : wpList P ops Q rest (a.put o.dst v) w) : wpList P ops Q (o :: rest) a w := by
  rw [add_off] at ha'
  exact wpu_val hw (exec_load ho (evalO_eq ha') (run_loadVar_one (rd_field hr hx hj))) kk
theorem wpq_loadF {ι : Type} {W : ι → World} {q : Act → Prop} {ad : Addr} {cap m k sz j : Nat} {xs : List Value} [hT : TyOne P T] (hr : ∀ i, Sl.rd (W i) sz (.slice (some ad) m cap) m xs) (hx : (xs.drop (k * sz)).take sz = cs) (ho : o.op = .load T x) (hw : Region.wanted o (yielded ops a.tmps) = true)
    (ha' : evalO a x = some (.pointer (some ⟨(ad.add (k * sz)).block, (ad.add (k * sz)).off + (j + 1), none⟩))) (hj : cs[j + 1]? = some v)
    (kk : wpQuiet P ops (fun w' => ∃ i, w' = W i) q rest (a.put o.dst v)) : wpQuiet P ops (fun w' => ∃ i, w' = W i) q (o :: rest) a := by
  rw [add_off] at ha'
  exact wpq_val hw (fun i => exec_load ho (evalO_eq ha') (run_loadVar_one (rd_field (hr i) hx hj))) kk
/-- the first field of element k -/
theorem wpu_loadF0 {ad : Addr} {cap m k sz : Nat} {xs : List Value} [hT : TyOne P T] (hr : Sl.rd w sz (.slice (some ad) m cap) m xs) (hx : (xs.drop (k * sz)).take sz = cs) (ho : o.op = .load T x) (hw : Region.wanted o (yielded ops a.tmps) = true)
    (ha' : evalO a x = some (.pointer (some (ad.add (k * sz))))) (hj : cs[0]? = some v)
    (kk : wpList P ops Q rest (a.put o.dst v) w) : wpList P ops Q (o :: rest) a w :=
  wpu_val hw (exec_load ho (evalO_eq ha') (run_loadVar_one (rd_field (j := 0) hr hx hj))) kk
theorem wpq_loadF0 {ι : Type} {W : ι → World} {q : Act → Prop} {ad : Addr} {cap m k sz : Nat} {xs : List Value} [hT : TyOne P T] (hr : ∀ i, Sl.rd (W i) sz (.slice (some ad) m cap) m xs) (hx : (xs.drop (k * sz)).take sz = cs) (ho : o.op = .load T x) (hw : Region.wanted o (yielded ops a.tmps) = true)
    (ha' : evalO a x = some (.pointer (some (ad.add (k * sz))))) (hj : cs[0]? = some v)
    (kk : wpQuiet P ops (fun w' => ∃ i, w' = W i) q rest (a.put o.dst v)) : wpQuiet P ops (fun w' => ∃ i, w' = W i) q (o :: rest) a :=
  wpq_val hw (fun i => exec_load ho (evalO_eq ha') (run_loadVar_one (rd_field (j := 0) (hr i) hx hj))) kk

/-- a block and a slice come to the front -/
theorem Own.bs (h : Own B A w) (b : Nat) (v : Value) {A1 A2 : Assn} {sz : Nat} {xs : List Value} [t1 : TakeBlk b cs A A1] [t2 : TakeSl v sz n xs A1 A2] : Own B (blk b cs * (sl sz v n xs * A2)) w :=
  h.eq (by rw [t1.out, t2.out])
/-- a block and two slices come to the front -/
theorem Own.bss (h : Own B A w) (b : Nat) (v u : Value) {A1 A2 A3 : Assn} {sz m sz' : Nat} {xs ys : List Value} [t1 : TakeBlk b cs A A1] [t2 : TakeSl v sz n xs A1 A2] [t3 : TakeSl u sz' m ys A2 A3] : Own B (blk b cs * (sl sz v n xs * (sl sz' u m ys * A3))) w :=
  h.eq (by rw [t1.out, t2.out, t3.out])
end
end Go.Sl
