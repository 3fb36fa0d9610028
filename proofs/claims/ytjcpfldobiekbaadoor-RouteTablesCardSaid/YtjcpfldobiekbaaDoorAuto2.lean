




/-
  More laws of loads: a field of an element of a slice of structs.
  Condition: none (lemmas on worlds).
-/
import Derived.Test.YtjcpfldobiekbaaDoorAuto
namespace Go.Sl
open Go Go.RowKit Go.ChangeShapes Go.BigFrame

section
variable {P : Program} {B w : World} {A A' R : Assn} {ops : Array Oper} {Q : Exit → Act → World → Prop} {rest : List Oper} {o : Oper} {a : Act} {K : Act → World → Prop} {T : TypeId} {ad x : Operand} {b i n : Nat} {cs vs : List Value} {v : Value}

theorem rd_field {ad : Addr} {cap m k sz j : Nat} {xs : List Value} (hr : Sl.rd w sz (.slice (some ad) m cap) m xs) (hx : (xs.drop (k * sz)).take sz = cs) (hj : cs[j]? = some v) : w.cell? (ad.add (k * sz + j)) = some v := by
  refine rd_cell hr ?_
  rw [← hx, List.getElem?_take] at hj
  split at hj
  · rw [List.getElem?_drop] at hj; exact hj
  · cases hj

/-- the address of field j + 1 of element k -/
theorem add_off {ad : Addr} {p q : Nat} : (⟨(ad.add p).block, (ad.add p).off + (q + 1), none⟩ : Addr) = ad.add (p + (q + 1)) := by
  rw [← addr_add_add]
  generalize ad.add p = c
  simp [Addr.add]

theorem wpu_loadF {ad : Addr} {cap m k sz j : Nat} {xs : List Value} [hT : TyOne P T] (hr : Sl.rd w sz (.slice (some ad) m cap) m xs) (hx : (xs.drop (k * sz)).take sz = cs) (ho : o.op = .load T x) (hw : Region.wanted o (yielded ops a.tmps) = true)
    (ha' : evalO a x = some (.pointer (some ⟨(ad.add (k * sz)).block, (ad.add (k * sz)).off + (j + 1), none⟩))) (hj : cs[j + 1]? = some v)
    (kk : wpList P ops Q rest (a.put o.dst v) w) : wpList P ops Q (o :: rest) a w := by
  rw [add_off] at ha'
  exact wpu_val hw (exec_load ho (evalO_eq ha') (run_loadVar_one (rd_field hr hx hj))) kk
theorem wpq_loadF {ι : Type} {W : ι → World} {q : Act → Prop} {ad : Addr} {cap m k sz j : Nat} {xs : List Value} [hT : TyOne P T] (hr : ∀ i, Sl.rd (W i) sz (.slice (some ad) m cap) m xs) (hx : (xs.drop (k * sz)).take sz = cs) (ho : o.op = .load T x) (hw : Region.wanted o (yielded ops a.tmps) = true)
    (ha' : evalO a x = some (.pointer (some ⟨(ad.add (k * sz)).block, (ad.add (k * sz)).off + (j + 1), none⟩))) (hj : cs[j + 1]? = some v)
    (kk : wpQuiet P ops (fun w' => ∃ i, w' = W i) q rest (a.put o.dst v)) : wpQuiet P ops (fun w' => ∃ i, w' = W i) q (o :: rest) a := by
  rw [add_off] at ha'
  exact wpq_val hw (fun i => exec_load ho (evalO_eq ha') (run_loadVar_one (rd_field (hr i) hx hj))) kk
/-- the first field of element k -/
theorem wpu_loadF0 {ad : Addr} {cap m k sz : Nat} {xs : List Value} [hT : TyOne P T] (hr : Sl.rd w sz (.slice (some ad) m cap) m xs) (hx : (xs.drop (k * sz)).take sz = cs) (ho : o.op = .load T x) (hw : Region.wanted o (yielded ops a.tmps) = true)
    (ha' : evalO a x = some (.pointer (some (ad.add (k * sz))))) (hj : cs[0]? = some v)
    (kk : wpList P ops Q rest (a.put o.dst v) w) : wpList P ops Q (o :: rest) a w :=
  wpu_val hw (exec_load ho (evalO_eq ha') (run_loadVar_one (rd_field (j := 0) hr hx hj))) kk
theorem wpq_loadF0 {ι : Type} {W : ι → World} {q : Act → Prop} {ad : Addr} {cap m k sz : Nat} {xs : List Value} [hT : TyOne P T] (hr : ∀ i, Sl.rd (W i) sz (.slice (some ad) m cap) m xs) (hx : (xs.drop (k * sz)).take sz = cs) (ho : o.op = .load T x) (hw : Region.wanted o (yielded ops a.tmps) = true)
    (ha' : evalO a x = some (.pointer (some (ad.add (k * sz))))) (hj : cs[0]? = some v)
    (kk : wpQuiet P ops (fun w' => ∃ i, w' = W i) q rest (a.put o.dst v)) : wpQuiet P ops (fun w' => ∃ i, w' = W i) q (o :: rest) a :=
  wpq_val hw (fun i => exec_load ho (evalO_eq ha') (run_loadVar_one (rd_field (j := 0) (hr i) hx hj))) kk

theorem at_build {d ty pos after g n} {l : List Oper} {parts : Array (Nat × Operand)} (h : wpList P ops Q (⟨d, .buildSlice T n parts, ty, pos, after, g⟩ :: l) a w) : wpList P ops Q (⟨d, .buildSlice T n parts, ty, pos, after, g⟩ :: l) a w := h
/-- a literal of a slice, of constants -/
theorem exec_build {w' : World} {n : Nat} (ps : List (Nat × Value)) (ho : o.op = .buildSlice T n (ps.map fun p => (p.1, Operand.const p.2)).toArray) (hr : (Instr.buildSlice T n ps.toArray).run P w = .ok v w') : (execOp a.eval o).run P w = .ok (.value v) w' := by
  unfold execOp
  rw [ho]
  have e : ((ps.map fun p => (p.1, Operand.const p.2)).toArray.map fun (i, x) => (i, a.eval x)) = ps.toArray := by
    simp [Function.comp_def, Act.eval]
  simp only [e]
  simp [hr]

theorem atq_convert {C : World → Prop} {q : Act → Prop} {d : Option Tmp} {S : TypeId} {ty : TypeId} {pos : String} {after : Array Edge} {g : Option (Nat × Bool)} {l : List Oper} (h : wpQuiet P ops C q (⟨d, .convert S T x, ty, pos, after, g⟩ :: l) a) : wpQuiet P ops C q (⟨d, .convert S T x, ty, pos, after, g⟩ :: l) a := h
/-- string(b), in a walk that serves every world of a class -/
theorem wpq_strR {ι : Type} {W : ι → World} {q : Act → Prop} {l : List UInt8} (hr : ∀ i, Sl.rd (W i) 1 v n (bs l)) {S D : TypeId} (ho : o.op = .convert S D x) (hw : Region.wanted o (yielded ops a.tmps) = true) (hx' : evalO a x = some v) [hS : TyBytes P S] [hD : TyStr P D]
    (kk : wpQuiet P ops (fun w' => ∃ i, w' = W i) q rest (a.put o.dst (str l))) : wpQuiet P ops (fun w' => ∃ i, w' = W i) q (o :: rest) a := by
  obtain ⟨e, h1, h2⟩ := hS.out
  exact wpq_val hw (fun i => by
    unfold execOp
    rw [ho]
    simp [evalO_eq hx', run_string_rd h1 h2 hD.out (hr i)]) kk

/-- the walk halts here (an arm ends with 'refine hold ?_'; 'unfold Held' goes on) -/
def Held (p : Prop) : Prop := p
theorem hold {p : Prop} (h : Held p) : p := h

theorem wpq_sliceLo {ι : Type} {W : ι → World} {q : Act → Prop} {lo : Operand} [hT : TySl P T n] (ho : o.op = .slice T x (some lo) none none) (hw : Region.wanted o (yielded ops a.tmps) = true) {ao : Option Addr} {len cap N : Nat} {k : IntKind} {L : Int} (hx : evalO a x = some (.slice ao len cap)) (hl : evalO a lo = some (.int k L)) (hL : L = N) (hN : N ≤ len) (hc : len ≤ cap)
    (kk : wpQuiet P ops (fun w' => ∃ i, w' = W i) q rest (a.put o.dst (.slice (cutA ao cap N n) (len - N) (cap - N)))) : wpQuiet P ops (fun w' => ∃ i, w' = W i) q (o :: rest) a :=
  wpq_val hw (fun _ => by unfold execOp; rw [ho]; simp [evalO_eq hx, evalO_eq hl, run_sliceAt hL hN hc (.inl ⟨rfl, rfl⟩)]) kk

/-- append to an own slice, beside a continuation -/
theorem wpk_append (h : Own B A w) {t T' sz bytes m : Nat} {z u : Value} {s y : Operand} {xs ys : List Value} (ho : o.op = .call { callee := .builtin .append, args := #[s, y], argTypes := #[t, t] })
    (hs : evalO a s = some v) (hy : evalO a y = some u) [I : TyApp P t T' sz bytes z] [tk : TakeSl v sz n xs A A'] (hr : Sl.rd w sz u m ys) (h1 : ∀ y ∈ ys, y.oneCell' = true) (hm : n + m ≤ maxLen) (hb : (n + m) * bytes ≤ 140737488355328)
    (k : ∀ v' w', Own B (sl sz v' (n + m) (xs ++ ys) * A') w' → K (a.put o.dst v') w') : o.wp P a w K Q :=
  wp_append tk.out h I.out ho (evalO_eq hs) (evalO_eq hy) hr h1 hm hb k
theorem at_make {d ty pos after g} {l : List Oper} {y : Operand} (h : wpList P ops Q (⟨d, .makeSlice T x y, ty, pos, after, g⟩ :: l) a w) : wpList P ops Q (⟨d, .makeSlice T x y, ty, pos, after, g⟩ :: l) a w := h
/-- make of no elements -/
theorem wpu_make0 (h : Own B A w) {t T' sz bytes : Nat} {z : Value} {y : Operand} {kl kc : IntKind} {c : Int} (ho : o.op = .makeSlice t x y) (hw : Region.wanted o (yielded ops a.tmps) = true) (hx : evalO a x = some (.int kl 0)) (hy : evalO a y = some (.int kc c)) [I : TyApp P t T' sz bytes z]
    (hc : 0 ≤ c) (hb : (bytes : Int) * c ≤ 140737488355328) (h63 : c ≤ 9223372036854775807) (k : ∀ v' w', Own B (sl sz v' 0 [] * A) w' → wpList P ops Q rest (a.put o.dst v') w') : wpList P ops Q (o :: rest) a w := by
  obtain ⟨v', w', hr, h'⟩ := run_make_own h I.out (kl := kl) (kc := kc) (l := 0) (Int.le_refl 0) hc hb h63
  refine wpu_val hw (v := v') (w' := w') ?_ (k v' w' (h'.eq (by simp [madeCells])))
  unfold execOp
  rw [ho]
  simp [evalO_eq hx, evalO_eq hy, hr]

/-- append of a new block of one element, beside a continuation -/
theorem wpk_append1 (h : Own B A w) {t T' sz bytes : Nat} {z : Value} {s y : Operand} {xs ys : List Value} (ho : o.op = .call { callee := .builtin .append, args := #[s, y], argTypes := #[t, t] })
    (hs : evalO a s = some v) (hy : evalO a y = some (.slice (some ⟨b, 0, none⟩) 1 1)) [I : TyApp P t T' sz bytes z] [tb : TakeBlk b ys A A'] [tk : TakeSl v sz n xs A' R] (hl : ys.length = sz) (h1 : ys.all (·.oneCell') = true) (hm : n + 1 ≤ maxLen) (hb : (n + 1) * bytes ≤ 140737488355328)
    (k : ∀ v' w', Own B (sl sz v' (n + 1) (xs ++ ys) * R) w' → K (a.put o.dst v') w') : o.wp P a w K Q := by
  have g : Own B (sl sz v n xs * (blk b ys * R)) w := h.eq (by rw [tb.out, tk.out]; ac_rfl)
  have hr : rd w sz (.slice (some ⟨b, 0, none⟩) 1 1) 1 ys := by
    have := own_sl_mk (n := 1) (cap := 1) (off := 0) (xs := ys) (sz := sz) (Nat.le_refl _) (by decide) (by simpa using hl) (by simp [hl]) (by simp [← hl]) (g.eq (A' := blk b ys * (sl sz v n xs * R)) (by ac_rfl))
    exact own_rd this
  exact wp_append rfl g I.out ho (evalO_eq hs) (evalO_eq hy) hr (fun y hy => List.all_eq_true.1 h1 y hy) hm hb fun v' w' h' => k v' w' (h'.eq (A' := blk b ys * (sl sz v' (n + 1) (xs ++ ys) * R)) (by ac_rfl)).right

/-- a block and a slice come to the front -/
theorem Own.bs (h : Own B A w) (b : Nat) (v : Value) {A1 A2 : Assn} {sz : Nat} {xs : List Value} [t1 : TakeBlk b cs A A1] [t2 : TakeSl v sz n xs A1 A2] : Own B (blk b cs * (sl sz v n xs * A2)) w :=
  h.eq (by rw [t1.out, t2.out])
/-- a block and two slices come to the front -/
theorem Own.bss (h : Own B A w) (b : Nat) (v u : Value) {A1 A2 A3 : Assn} {sz m sz' : Nat} {xs ys : List Value} [t1 : TakeBlk b cs A A1] [t2 : TakeSl v sz n xs A1 A2] [t3 : TakeSl u sz' m ys A2 A3] : Own B (blk b cs * (sl sz v n xs * (sl sz' u m ys * A3))) w :=
  h.eq (by rw [t1.out, t2.out, t3.out])
end
end Go.Sl
