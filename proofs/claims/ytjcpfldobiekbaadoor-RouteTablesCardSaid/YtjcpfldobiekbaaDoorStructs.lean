




/-
  A whole struct out of and into a block of the call's own, as laws of one operation.
  Condition: none (lemmas on worlds).
-/
import Derived.Test.YtjcpfldobiekbaaDoorLists
namespace Go.Sl
open Go Go.RowKit Go.ChangeShapes

section
variable {P : Program} {B w : World} {A R : Assn}

theorem run_storeCells_blk {b : Nat} {cs : List Value} (h : Own B (blk b cs * R) w) (i : Nat) (vs : List Value) (hl : i + vs.length ≤ cs.length) (h1 : ∀ v ∈ vs, v.oneCell' = true) :
    (storeCells ⟨b, i, none⟩ vs).run P w = .ok () (w.setRow b (cs.take i ++ vs ++ cs.drop (i + vs.length)).toArray) := by
  obtain ⟨T, fr, hf, hg, hb⟩ := own_blk_at h
  have := run_storeCells_fr (P := P) b i T fr vs 0 cs.toArray w (by simpa using hf) hg (by simpa using hl) h1
  simpa using this

theorem run_loadCells_blk {b : Nat} {cs : List Value} (h : Own B (blk b cs * R) w) (i : Nat) (vs : List Value) (hv : (cs.drop i).take vs.length = vs) :
    (loadCells ⟨b, i, none⟩ vs.length).run P w = .ok vs.toArray w := by
  refine run_loadCells_list _ _ _ fun j v hj => ?_
  rw [Addr.add_lit, own_cell h]
  rw [← hv, List.getElem?_take] at hj
  split at hj
  · rw [List.getElem?_drop] at hj; exact hj
  · cases hj

/-- A' is A with vs in the cells of block b from i on; cs: the block's cells -/
class PutBlk (b i : Nat) (vs : List Value) (A : Assn) (cs : outParam (List Value)) (A' : outParam Assn) : Prop where
  out : ∃ R, A = blk b cs * R ∧ A' = blk b (cs.take i ++ vs ++ cs.drop (i + vs.length)) * R
instance (b i : Nat) (vs cs : List Value) : PutBlk b i vs (blk b cs) cs (blk b (cs.take i ++ vs ++ cs.drop (i + vs.length))) := ⟨⟨emp, (star_emp _).symm, (star_emp _).symm⟩⟩
instance (b i : Nat) (vs cs : List Value) (A A' C : Assn) [h : PutBlk b i vs A cs A'] : PutBlk b i vs (A * C) cs (A' * C) := ⟨let ⟨R, e, e'⟩ := h.out; ⟨R * C, by rw [e, star_assoc], by rw [e', star_assoc]⟩⟩
instance (b i : Nat) (vs cs : List Value) (A C C' : Assn) [h : PutBlk b i vs C cs C'] : PutBlk b i vs (A * C) cs (A * C') := ⟨let ⟨R, e, e'⟩ := h.out; ⟨A * R, by rw [e]; ac_rfl, by rw [e']; ac_rfl⟩⟩

theorem Own.put {A' : Assn} {cs : List Value} (h : Own B A w) (b i : Nat) (vs : List Value) [hb : PutBlk b i vs A cs A'] (hl : i + vs.length ≤ cs.length) : Own B A' (w.setRow b (cs.take i ++ vs ++ cs.drop (i + vs.length)).toArray) := by
  obtain ⟨R, e, e'⟩ := hb.out
  rw [e']
  exact own_setRow (h.eq e) _ (by simp only [List.length_append, List.length_take, List.length_drop]; omega)

section
variable {o : Oper} {a : Act} {K : Act → World → Prop} {Q : Exit → Act → World → Prop}

/-- a store of a struct -/
theorem wp_storeS (b i : Nat) (vs : List Value) {A' : Assn} {cs : List Value} (h : Own B A w) [hb : PutBlk b i vs A cs A'] {T' : TypeId} {ad x : Operand} (ho : o.op = .store T' ad x) (hT : (P.info? T').map (·.size) = some vs.length)
    (ha : a.eval ad = .pointer (some ⟨b, i, none⟩)) (hx : a.eval x = .agg vs.toArray) (hi : decide (i + vs.length ≤ cs.length) = true) (h1 : vs.all (·.oneCell') = true) (k : ∀ w', Own B A' w' → K (a.put o.dst undef) w') : o.wp P a w K Q := by
  cases hq : P.info? T' with
  | none => rw [hq] at hT; cases hT
  | some inf =>
    rw [hq] at hT
    have hsz : inf.size = vs.length := by simpa using hT
    have hi' : i + vs.length ≤ cs.length := by simpa using hi
    obtain ⟨R, e, _⟩ := hb.out
    have hst := run_storeCells_blk (P := P) (h.eq e) i vs hi' (fun v hv => List.all_eq_true.1 h1 v hv)
    have hrun : (execOp a.eval o).run P w = .ok .skip (w.setRow b (cs.take i ++ vs ++ cs.drop (i + vs.length)).toArray) := by
      unfold execOp
      rw [ho]
      simp [Instr.storeAt, Instr.sureAddr, ha, hx, storeVar, sizeOf, typeInfo, hq, hsz, Value.cells, hst]
    unfold Oper.wp
    rw [hrun]
    exact k _ (h.put b i vs hi')

theorem wpl_storeS (b i : Nat) (vs : List Value) {ops : Array Oper} {rest : List Oper} (hg : o.guard = none) {A' : Assn} {cs : List Value} (h : Own B A w) [hb : PutBlk b i vs A cs A'] {T' : TypeId} {ad x : Operand} (ho : o.op = .store T' ad x) (hT : (P.info? T').map (·.size) = some vs.length)
    (ha : a.eval ad = .pointer (some ⟨b, i, none⟩)) (hx : a.eval x = .agg vs.toArray) (hi : decide (i + vs.length ≤ cs.length) = true) (h1 : vs.all (·.oneCell') = true) (k : ∀ w', Own B A' w' → wpList P ops Q rest (a.put o.dst undef) w') : wpList P ops Q (o :: rest) a w :=
  wpList_plain hg fun _ hK => wp_storeS b i vs h ho hT ha hx hi h1 fun w' h' => hK _ _ (k w' h')

/-- a load of a struct -/
theorem wp_loadS (b i : Nat) (vs : List Value) {cs : List Value} (h : Own B A w) [hb : HasBlk b cs A] {T' : TypeId} {fs : Array Field} {ad : Operand} (ho : o.op = .load T' ad) (hT : (P.info? T').map (·.size) = some vs.length) (hu : P.underlying T' = some (.struct fs))
    (ha : a.eval ad = .pointer (some ⟨b, i, none⟩)) (hv : (cs.drop i).take vs.length = vs) (k : K (a.put o.dst (.agg vs.toArray)) w) : o.wp P a w K Q := by
  cases hq : P.info? T' with
  | none => rw [hq] at hT; cases hT
  | some inf =>
    rw [hq] at hT
    have hsz : inf.size = vs.length := by simpa using hT
    obtain ⟨R, e⟩ := hb.out
    have hst := run_loadCells_blk (P := P) (h.eq e) i vs hv
    have hrun : (execOp a.eval o).run P w = .ok (.value (.agg vs.toArray)) w := by
      unfold execOp
      rw [ho]
      simp [Instr.loadAt, Instr.sureAddr, ha, loadVar, isAgg, run_underlying hu, sizeOf, typeInfo, hq, hsz, hst]
    unfold Oper.wp
    rw [hrun]
    exact k

theorem wpl_loadS (b i : Nat) (vs : List Value) {ops : Array Oper} {rest : List Oper} (hg : o.guard = none) {cs : List Value} (h : Own B A w) [hb : HasBlk b cs A] {T' : TypeId} {fs : Array Field} {ad : Operand} (ho : o.op = .load T' ad) (hT : (P.info? T').map (·.size) = some vs.length) (hu : P.underlying T' = some (.struct fs))
    (ha : a.eval ad = .pointer (some ⟨b, i, none⟩)) (hv : (cs.drop i).take vs.length = vs) (k : wpList P ops Q rest (a.put o.dst (.agg vs.toArray)) w) : wpList P ops Q (o :: rest) a w :=
  wpList_plain hg fun _ hK => wp_loadS b i vs h ho hT hu ha hv (hK _ _ k)
end

theorem run_loadVar_blk (b i : Nat) (vs : List Value) {cs : List Value} (h : Own B A w) [hb : HasBlk b cs A] {T' : TypeId} {fs : Array Field} (hT : (P.info? T').map (·.size) = some vs.length) (hu : P.underlying T' = some (.struct fs))
    (hv : (cs.drop i).take vs.length = vs) : (loadVar T' ⟨b, i, none⟩).run P w = .ok (.agg vs.toArray) w := by
  cases hq : P.info? T' with
  | none => rw [hq] at hT; cases hT
  | some inf =>
    rw [hq] at hT
    have hsz : inf.size = vs.length := by simpa using hT
    obtain ⟨R, e⟩ := hb.out
    have hst := run_loadCells_blk (P := P) (h.eq e) i vs hv
    simp [loadVar, isAgg, run_underlying hu, sizeOf, typeInfo, hq, hsz, hst]

/-- results that lie in memory -/
theorem results_ctc {fn : Func} {x u y : Tmp} {t t' : TypeId} (h : fn.results = #[.cell x t, .tmp u, .cell y t']) {tmps : Array Value} {p1 p2 : Addr} {v1 v2 : Value} (hx : tmps.getD x undef = .pointer (some p1)) (hy : tmps.getD y undef = .pointer (some p2))
    (l1 : (loadVar t p1).run P w = .ok v1 w) (l2 : (loadVar t' p2).run P w = .ok v2 w) : (results fn tmps).run P w = .ok (.tuple #[v1, tmps.getD u undef, v2]) w := by
  rw [Array.getD_eq_getD_getElem?] at hx hy
  simp [results, h, hx, hy, asAddr, l1, l2]
end
end Go.Sl
