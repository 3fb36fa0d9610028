




/-
  Loads and stores of blocks of the call's own, each by one law that finds its block in the assertion by itself; parts of an assertion by their names.
  Condition: none (lemmas on worlds).
-/
import Derived.Test.YtjcpfldobiekbaaDoorStructs
import Derived.BigQuiet
import Derived.Lib.Hide
import Derived.Maps.RangeWalk
import Derived.Deep.DeepMust
namespace Go.Sl
open Go Go.RowKit Go.ChangeShapes Go.BigFrame

def aggD : TypeDesc → Bool
  | .struct _ => true
  | .array _ _ => true
  | _ => false
/-- an integer, a bool, a string, a pointer, a slice: one cell -/
class TyOne (P : Program) (T : TypeId) : Prop where
  size : (P.info? T).map (·.size) = some 1
  agg : ∃ d, P.underlying T = some d ∧ aggD d = false
/-- a struct of n cells -/
class TyS (P : Program) (T : TypeId) (n : outParam Nat) : Prop where
  size : (P.info? T).map (·.size) = some n
  str : ∃ fs, P.underlying T = some (.struct fs)

/-- a slice of elements of n cells -/
class TySl (P : Program) (T : TypeId) (n : outParam Nat) : Prop where
  out : ∃ e i, P.underlying T = some (.slice e) ∧ P.info? e = some i ∧ i.size = n
theorem tySl_mk {P : Program} {T e : TypeId} {n : Nat} (h1 : P.underlying T = some (.slice e)) (h2 : (P.info? e).map (·.size) = some n) : TySl P T n := by
  cases h : P.info? e with
  | none => rw [h] at h2; cases h2
  | some i => rw [h] at h2; exact ⟨e, i, h1, h, by simpa using h2⟩
/-- a slice of octets; a string -/
class TyBytes (P : Program) (T : TypeId) : Prop where
  out : ∃ e, P.underlying T = some (.slice e) ∧ P.underlying e = some (.int .u8)
class TyStr (P : Program) (T : TypeId) : Prop where
  out : P.underlying T = some .string

theorem tyOne_mk {P : Program} {T : TypeId} {d : TypeDesc} (h1 : P.underlying T = some d) (h2 : (P.info? T).map (·.size) = some 1) (h3 : aggD d = false) : TyOne P T := ⟨h2, d, h1, h3⟩

section
variable {P : Program} {B w : World} {A A' R : Assn} {ops : Array Oper} {Q : Exit → Act → World → Prop} {rest : List Oper} {o : Oper} {a : Act} {K : Act → World → Prop} {T : TypeId} {ad x : Operand} {b i n : Nat} {cs vs : List Value} {v : Value}

theorem run_loadVar_one [hT : TyOne P T] {p : Addr} (hc : w.cell? p = some v) : (loadVar T p).run P w = .ok v w := by
  obtain ⟨d, hd, hn⟩ := hT.agg
  have : (isAgg T).run P w = .ok false w := by
    unfold isAgg
    rw [Sem.run_bind, run_underlying hd]
    cases d <;> first | rfl | cases hn
  simp [loadVar, this, hc]

theorem run_loadVar_S [hT : TyS P T n] (h : Own B A w) [hb : HasBlk b cs A] (hv : (cs.drop i).take n = vs) (hl : decide (i + n ≤ cs.length) = true) : (loadVar T ⟨b, i, none⟩).run P w = .ok (.agg vs.toArray) w := by
  obtain ⟨fs, hf⟩ := hT.str
  have hl' : vs.length = n := by rw [← hv]; simp only [decide_eq_true_eq] at hl; simp only [List.length_take, List.length_drop]; omega
  exact run_loadVar_blk b i vs h (by rw [hT.size, hl']) hf (by rw [hl', hv])

/-- what an operand is in a frame that is written out -/
def evalO (a : Act) : Operand → Option Value
  | .tmp t => a.tmps.toList[t]?
  | .const v => some v
  | .global g => some (.pointer (some ⟨g, 0, none⟩))
  | .func f => some (.func (.func f) #[] #[])
theorem evalO_eq (h : evalO a x = some v) : a.eval x = v := by
  cases x <;> simp [evalO] at h <;> simp [Act.eval, h]

theorem wpu_val {w' : World} (hw : Region.wanted o (yielded ops a.tmps) = true) (hr : (execOp a.eval o).run P w = .ok (.value v) w') (k : wpList P ops Q rest (a.put o.dst v) w') : wpList P ops Q (o :: rest) a w :=
  wpList_want hw fun _ hK => by unfold Oper.wp; rw [hr]; exact hK _ _ k
theorem wpu_skip {w' : World} (hw : Region.wanted o (yielded ops a.tmps) = true) (hr : (execOp a.eval o).run P w = .ok .skip w') (k : wpList P ops Q rest (a.put o.dst undef) w') : wpList P ops Q (o :: rest) a w :=
  wpList_want hw fun _ hK => by unfold Oper.wp; rw [hr]; exact hK _ _ k

theorem exec_load (ho : o.op = .load T ad) {p : Addr} (ha : a.eval ad = .pointer (some p)) (hr : (loadVar T p).run P w = .ok v w) : (execOp a.eval o).run P w = .ok (.value v) w := by
  unfold execOp
  rw [ho]
  simp [Instr.loadAt, Instr.sureAddr, ha, hr]

/-- a load of one cell -/
theorem wpu_load (h : Own B A w) (ho : o.op = .load T ad) (hw : Region.wanted o (yielded ops a.tmps) = true) (ha' : evalO a ad = some (.pointer (some ⟨b, i, none⟩))) [hb : HasBlk b cs A] [hT : TyOne P T] (hv : cs[i]? = some v)
    (k : wpList P ops Q rest (a.put o.dst v) w) : wpList P ops Q (o :: rest) a w :=
  wpu_val hw (exec_load ho (evalO_eq ha') (run_loadVar_one (h.cell b i hv w h))) k

/-- a load of a whole block -/
theorem wpu_loadB (h : Own B A w) (ho : o.op = .load T ad) (hw : Region.wanted o (yielded ops a.tmps) = true) (ha' : evalO a ad = some (.pointer (some ⟨b, 0, none⟩))) [hb : HasBlk b cs A] [hT : TyS P T n] (hl : cs.length = n)
    (k : wpList P ops Q rest (a.put o.dst (.agg cs.toArray)) w) : wpList P ops Q (o :: rest) a w :=
  wpu_val hw (exec_load ho (evalO_eq ha') (run_loadVar_S h (by rw [← hl]; simp) (by simp [hl]))) k

/-- a load of a struct in a block -/
theorem wpu_loadS (h : Own B A w) (ho : o.op = .load T ad) (hw : Region.wanted o (yielded ops a.tmps) = true) (ha' : evalO a ad = some (.pointer (some ⟨b, i, none⟩))) [hb : HasBlk b cs A] [hT : TyS P T n] (hl : decide (i + n ≤ cs.length) = true)
    (k : wpList P ops Q rest (a.put o.dst (.agg ((cs.drop i).take n).toArray)) w) : wpList P ops Q (o :: rest) a w :=
  wpu_val hw (exec_load ho (evalO_eq ha') (run_loadVar_S h rfl hl)) k

theorem exec_store1 {A' : Assn} (h : Own B A w) (ho : o.op = .store T ad x) (ha' : evalO a ad = some (.pointer (some ⟨b, i, none⟩))) (hx' : evalO a x = some v) [hb : HasBlk b cs A] [hT : TyOne P T] (h1 : v.oneCell' = true) (hi : decide (i < cs.length) = true) [hs : SetBlk b i v A A'] :
    ∃ w', (execOp a.eval o).run P w = .ok .skip w' ∧ Own B A' w' := by
  have hx := evalO_eq hx'
  have ha := evalO_eq ha'
  cases hq : P.info? T with
  | none => have := hT.size; rw [hq] at this; cases this
  | some inf =>
    have hT' := hT.size
    rw [hq] at hT'
    have hsz : inf.size = 1 := by simpa using hT'
    have hc : v.cells = #[v] := by cases v <;> first | rfl | cases h1
    have hi' : i < cs.length := by simpa using hi
    have c0 := h.cell b i (List.getElem?_eq_getElem hi') w h
    have f0 := h.free b i hi w h
    refine ⟨_, ?_, h.set b i v⟩
    unfold execOp
    rw [ho]
    simp [Instr.storeAt, Instr.sureAddr, ha, hx, storeVar, sizeOf, typeInfo, hq, hsz, hc, storeCells, run_store P w _ v _ h1, Addr.add_zero', c0, f0]

/-- a store of one cell -/
theorem wpu_store {A' : Assn} (h : Own B A w) (ho : o.op = .store T ad x) (hw : Region.wanted o (yielded ops a.tmps) = true) (ha' : evalO a ad = some (.pointer (some ⟨b, i, none⟩))) (hx' : evalO a x = some v) [hb : HasBlk b cs A] [hT : TyOne P T] (h1 : v.oneCell' = true)
    (hi : decide (i < cs.length) = true) [hs : SetBlk b i v A A'] (k : ∀ w', Own B A' w' → wpList P ops Q rest (a.put o.dst undef) w') : wpList P ops Q (o :: rest) a w := by
  obtain ⟨w', hr, g⟩ := exec_store1 (P := P) h ho ha' hx' h1 hi (hs := hs)
  exact wpu_skip hw hr (k w' g)

/-- A' is A with vs as block b -/
class NewBlk (b : Nat) (vs : List Value) (A : Assn) (cs : outParam (List Value)) (A' : outParam Assn) : Prop where
  out : ∃ R, A = blk b cs * R ∧ A' = blk b vs * R
instance (b : Nat) (vs cs : List Value) : NewBlk b vs (blk b cs) cs (blk b vs) := ⟨⟨emp, (star_emp _).symm, (star_emp _).symm⟩⟩
instance (b : Nat) (vs cs : List Value) (A A' C : Assn) [h : NewBlk b vs A cs A'] : NewBlk b vs (A * C) cs (A' * C) := ⟨let ⟨R, e, e'⟩ := h.out; ⟨R * C, by rw [e, star_assoc], by rw [e', star_assoc]⟩⟩
instance (b : Nat) (vs cs : List Value) (A C C' : Assn) [h : NewBlk b vs C cs C'] : NewBlk b vs (A * C) cs (A * C') := ⟨let ⟨R, e, e'⟩ := h.out; ⟨A * R, by rw [e]; ac_rfl, by rw [e']; ac_rfl⟩⟩

theorem exec_storeB {A' : Assn} (h : Own B A w) (ho : o.op = .store T ad x) (ha' : evalO a ad = some (.pointer (some ⟨b, 0, none⟩))) (hx' : evalO a x = some (.agg vs.toArray)) [hT : TyS P T n] [hs : NewBlk b vs A cs A'] (hl : vs.length = n) (hl2 : cs.length = n) (h1 : vs.all (·.oneCell') = true) :
    ∃ w', (execOp a.eval o).run P w = .ok .skip w' ∧ Own B A' w' := by
  have hx := evalO_eq hx'
  have ha := evalO_eq ha'
  cases hq : P.info? T with
  | none => have := hT.size; rw [hq] at this; cases this
  | some inf =>
    have hT' := hT.size
    rw [hq] at hT'
    have hsz : inf.size = vs.length := by simpa [hl] using hT'
    obtain ⟨R, e, e'⟩ := hs.out
    have hst := run_storeCells_blk (P := P) (h.eq e) 0 vs (by omega) (fun v hv => List.all_eq_true.1 h1 v hv)
    have h3 : cs.take 0 ++ vs ++ cs.drop (0 + vs.length) = vs := by simp [List.drop_eq_nil_of_le (show cs.length ≤ vs.length by omega)]
    rw [h3] at hst
    refine ⟨_, ?_, e' ▸ own_setRow (h.eq e) vs (by omega)⟩
    unfold execOp
    rw [ho]
    simp [Instr.storeAt, Instr.sureAddr, ha, hx, storeVar, sizeOf, typeInfo, hq, hsz, Value.cells, hst]

/-- a store of a whole block -/
theorem wpu_storeB {A' : Assn} (h : Own B A w) (ho : o.op = .store T ad x) (hw : Region.wanted o (yielded ops a.tmps) = true) (ha' : evalO a ad = some (.pointer (some ⟨b, 0, none⟩))) (hx' : evalO a x = some (.agg vs.toArray)) [hT : TyS P T n] [hs : NewBlk b vs A cs A'] (hl : vs.length = n) (hl2 : cs.length = n)
    (h1 : vs.all (·.oneCell') = true) (k : ∀ w', Own B A' w' → wpList P ops Q rest (a.put o.dst undef) w') : wpList P ops Q (o :: rest) a w := by
  obtain ⟨w', hr, g⟩ := exec_storeB (P := P) h ho ha' hx' hl hl2 h1 (hs := hs)
  exact wpu_skip hw hr (k w' g)

theorem exec_storeS {A' : Assn} (h : Own B A w) (ho : o.op = .store T ad x) (ha' : evalO a ad = some (.pointer (some ⟨b, i, none⟩))) (hx' : evalO a x = some (.agg vs.toArray)) [hT : TyS P T n] [hs : PutBlk b i vs A cs A'] (hl : vs.length = n) (hi : decide (i + vs.length ≤ cs.length) = true) (h1 : vs.all (·.oneCell') = true) :
    ∃ w', (execOp a.eval o).run P w = .ok .skip w' ∧ Own B A' w' := by
  have hx := evalO_eq hx'
  have ha := evalO_eq ha'
  cases hq : P.info? T with
  | none => have := hT.size; rw [hq] at this; cases this
  | some inf =>
    have hT' := hT.size
    rw [hq] at hT'
    have hsz : inf.size = vs.length := by simpa [hl] using hT'
    have hi' : i + vs.length ≤ cs.length := by simpa using hi
    obtain ⟨R, e, e'⟩ := hs.out
    have hst := run_storeCells_blk (P := P) (h.eq e) i vs hi' (fun v hv => List.all_eq_true.1 h1 v hv)
    refine ⟨_, ?_, h.put b i vs hi'⟩
    unfold execOp
    rw [ho]
    simp [Instr.storeAt, Instr.sureAddr, ha, hx, storeVar, sizeOf, typeInfo, hq, hsz, Value.cells, hst]

/-- a store of a struct in a block -/
theorem wpu_storeS {A' : Assn} (h : Own B A w) (ho : o.op = .store T ad x) (hw : Region.wanted o (yielded ops a.tmps) = true) (ha' : evalO a ad = some (.pointer (some ⟨b, i, none⟩))) (hx' : evalO a x = some (.agg vs.toArray)) [hT : TyS P T n] [hs : PutBlk b i vs A cs A'] (hl : vs.length = n) (hi : decide (i + vs.length ≤ cs.length) = true)
    (h1 : vs.all (·.oneCell') = true) (k : ∀ w', Own B A' w' → wpList P ops Q rest (a.put o.dst undef) w') : wpList P ops Q (o :: rest) a w := by
  obtain ⟨w', hr, g⟩ := exec_storeS (P := P) h ho ha' hx' hl hi h1 (hs := hs)
  exact wpu_skip hw hr (k w' g)

/-- string(b) -/
theorem exec_str (h : Own B A w) {S D : TypeId} (ho : o.op = .convert S D x) (hx' : evalO a x = some v) [hs : HasSl v 1 n vs A] [hS : TyBytes P S] [hD : TyStr P D] {l : List UInt8} (hv : vs = bs l) : (execOp a.eval o).run P w = .ok (.value (str l)) w := by
  have hx := evalO_eq hx'
  obtain ⟨e, h1, h2⟩ := hS.out
  subst hv
  unfold execOp
  rw [ho]
  simp [hx, run_string_rd h1 h2 hD.out (by have := h.rd v w h; exact this)]
theorem wpu_str (h : Own B A w) {S D : TypeId} (ho : o.op = .convert S D x) (hw : Region.wanted o (yielded ops a.tmps) = true) (hx' : evalO a x = some v) [hs : HasSl v 1 n vs A] [hS : TyBytes P S] [hD : TyStr P D] {l : List UInt8} (hv : vs = bs l)
    (k : wpList P ops Q rest (a.put o.dst (str l)) w) : wpList P ops Q (o :: rest) a w := wpu_val hw (exec_str h ho hx' hv) k

theorem wpu_strR {l : List UInt8} (hr : rd w 1 v n (bs l)) {S D : TypeId} (ho : o.op = .convert S D x) (hw : Region.wanted o (yielded ops a.tmps) = true) (hx' : evalO a x = some v) [hS : TyBytes P S] [hD : TyStr P D]
    (k : wpList P ops Q rest (a.put o.dst (str l)) w) : wpList P ops Q (o :: rest) a w := by
  obtain ⟨e, h1, h2⟩ := hS.out
  have hx := evalO_eq hx'
  exact wpu_val hw (by unfold execOp; rw [ho]; simp [hx, run_string_rd h1 h2 hD.out hr]) k

/-- the address of what is cut off at its beginning -/
def cutA (ao : Option Addr) (cap N sz : Nat) : Option Addr := if cap = N then ao else ao.map (·.add (N * sz))
theorem run_sliceAt [hT : TySl P T n] {ao : Option Addr} {len cap N M : Nat} {k : IntKind} {L : Int} {hi : Option Value} (hL : L = N) (hN : N ≤ M) (hM : M ≤ cap) (hh : (hi = none ∧ M = len) ∨ ∃ k' H, hi = some (.int k' H) ∧ H = (M : Int)) :
    (Instr.sliceAt T (.slice ao len cap) (some (.int k L)) hi none).run P w = .ok (.slice (cutA ao cap N n) (M - N) (cap - N)) w := by
  obtain ⟨e, i, h1, h2, h3⟩ := hT.out
  subst hL
  have b1 : ¬ ((N : Int) < 0) := by omega
  have hN' : (0 : Int) ≤ (N : Int) ∧ (N : Int) ≤ (M : Int) := by omega
  have hM' : (0 : Int) ≤ (M : Int) ∧ (M : Int) ≤ (cap : Int) := by omega
  rcases hh with ⟨rfl, rfl⟩ | ⟨k', H, rfl, rfl⟩
  · simp [Instr.sliceAt, Instr.slice, run_underlying h1, Instr.sliceBounds, Instr.sliceBound, asIntOf, sizeOf, typeInfo, h2, h3, hN, cutA]
  · simp [Instr.sliceAt, Instr.slice, run_underlying h1, Instr.sliceBounds, Instr.sliceBound, asIntOf, sizeOf, typeInfo, h2, h3, hN, hM, cutA]

/-- x[N:] -/
theorem wpu_sliceLo {lo : Operand} [hT : TySl P T n] (ho : o.op = .slice T x (some lo) none none) (hw : Region.wanted o (yielded ops a.tmps) = true) {ao : Option Addr} {len cap N : Nat} {k : IntKind} {L : Int} (hx : evalO a x = some (.slice ao len cap)) (hl : evalO a lo = some (.int k L)) (hL : L = N) (hN : N ≤ len) (hc : len ≤ cap)
    (kk : wpList P ops Q rest (a.put o.dst (.slice (cutA ao cap N n) (len - N) (cap - N))) w) : wpList P ops Q (o :: rest) a w :=
  wpu_val hw (by unfold execOp; rw [ho]; simp [evalO_eq hx, evalO_eq hl, run_sliceAt hL hN hc (.inl ⟨rfl, rfl⟩)]) kk
/-- x[N:M] -/
theorem wpu_sliceLH {lo hi : Operand} [hT : TySl P T n] (ho : o.op = .slice T x (some lo) (some hi) none) (hw : Region.wanted o (yielded ops a.tmps) = true) {ao : Option Addr} {len cap N M : Nat} {k k' : IntKind} {L H : Int} (hx : evalO a x = some (.slice ao len cap)) (hl : evalO a lo = some (.int k L)) (hh : evalO a hi = some (.int k' H)) (hL : L = N) (hH : H = M) (hN : N ≤ M) (hc : M ≤ cap)
    (kk : wpList P ops Q rest (a.put o.dst (.slice (cutA ao cap N n) (M - N) (cap - N))) w) : wpList P ops Q (o :: rest) a w :=
  wpu_val hw (by unfold execOp; rw [ho]; simp [evalO_eq hx, evalO_eq hl, evalO_eq hh, run_sliceAt hL hN hc (.inr ⟨k', H, rfl, hH⟩)]) kk

/-! guards: each fits one form of goal, by looking -/
section
variable {d : Option Tmp} {ty : TypeId} {pos : String} {after : Array Edge} {g : Option (Nat × Bool)} {y : Operand} {lo hi mx : Option Operand} {S : TypeId} {l : List Oper} {ob : Obj}
theorem at_load (h : wpList P ops Q (⟨d, .load T x, ty, pos, after, g⟩ :: rest) a w) : wpList P ops Q (⟨d, .load T x, ty, pos, after, g⟩ :: rest) a w := h
theorem at_store (h : wpList P ops Q (⟨d, .store T x y, ty, pos, after, g⟩ :: rest) a w) : wpList P ops Q (⟨d, .store T x y, ty, pos, after, g⟩ :: rest) a w := h
theorem at_slice (h : wpList P ops Q (⟨d, .slice T x (some y) hi none, ty, pos, after, g⟩ :: rest) a w) : wpList P ops Q (⟨d, .slice T x (some y) hi none, ty, pos, after, g⟩ :: rest) a w := h
theorem at_convert (h : wpList P ops Q (⟨d, .convert S T x, ty, pos, after, g⟩ :: rest) a w) : wpList P ops Q (⟨d, .convert S T x, ty, pos, after, g⟩ :: rest) a w := h
theorem at_append {c : Array Operand} {ats : Array TypeId} (h : wpList P ops Q (⟨d, .call ⟨.builtin .append, c, ats⟩, ty, pos, after, g⟩ :: rest) a w) : wpList P ops Q (⟨d, .call ⟨.builtin .append, c, ats⟩, ty, pos, after, g⟩ :: rest) a w := h
theorem at_makeMap {r : Option Operand} (h : wpList P ops Q (⟨d, .makeMap T r, ty, pos, after, g⟩ :: rest) a w) : wpList P ops Q (⟨d, .makeMap T r, ty, pos, after, g⟩ :: rest) a w := h
theorem at_update {z : Operand} (h : wpList P ops Q (⟨d, .mapUpdate T x y z, ty, pos, after, g⟩ :: rest) a w) : wpList P ops Q (⟨d, .mapUpdate T x y z, ty, pos, after, g⟩ :: rest) a w := h
theorem at_lookup {c : Bool} (h : wpList P ops Q (⟨d, .lookup T x y c, ty, pos, after, g⟩ :: rest) a w) : wpList P ops Q (⟨d, .lookup T x y c, ty, pos, after, g⟩ :: rest) a w := h
theorem at_len {c : Array Operand} {ats : Array TypeId} (h : wpList P ops Q (⟨d, .call ⟨.builtin .len, c, ats⟩, ty, pos, after, g⟩ :: rest) a w) : wpList P ops Q (⟨d, .call ⟨.builtin .len, c, ats⟩, ty, pos, after, g⟩ :: rest) a w := h
theorem at_delete {c : Array Operand} {ats : Array TypeId} (h : wpList P ops Q (⟨d, .call ⟨.builtin .delete, c, ats⟩, ty, pos, after, g⟩ :: rest) a w) : wpList P ops Q (⟨d, .call ⟨.builtin .delete, c, ats⟩, ty, pos, after, g⟩ :: rest) a w := h
theorem atq_len {C : World → Prop} {q : Act → Prop} {c : Array Operand} {ats : Array TypeId} (h : wpQuiet P ops C q (⟨d, .call ⟨.builtin .len, c, ats⟩, ty, pos, after, g⟩ :: rest) a) : wpQuiet P ops C q (⟨d, .call ⟨.builtin .len, c, ats⟩, ty, pos, after, g⟩ :: rest) a := h
theorem at_alloc (h : wpList P ops Q l a (w.alloc ob)) : wpList P ops Q l a (w.alloc ob) := h
theorem at_drew (h : wpList P ops Q l a w.drew) : wpList P ops Q l a w.drew := h
end

/-- a new block -/
theorem wpu_new (h : Own B A w) (k : ∀ w', Own B (blk w.heap.size cs * A) w' → wpList P ops Q rest a w') : wpList P ops Q rest a (w.alloc (.cells cs.toArray T)) := k _ (own_new h cs T)
theorem wpu_newC {c : Code} (h : Own B A w) (k : ∀ w', Own B (blk w.heap.size cs * A) w' → c.wp P Q a w') : c.wp P Q a (w.alloc (.cells cs.toArray T)) := k _ (own_new h cs T)
theorem wpu_drew (h : Own B A w) (k : ∀ w', Own B A w' → wpList P ops Q rest a w') : wpList P ops Q rest a w.drew := k _ (own_drew h)

/-! the same beside a continuation (an operation of a region that draws its order) -/
theorem wpk_skip {w' : World} (hr : (execOp a.eval o).run P w = .ok .skip w') (k : K (a.put o.dst undef) w') : o.wp P a w K Q := by unfold Oper.wp; rw [hr]; exact k
theorem wpk_store {A' : Assn} (h : Own B A w) (ho : o.op = .store T ad x) (ha' : evalO a ad = some (.pointer (some ⟨b, i, none⟩))) (hx' : evalO a x = some v) [hb : HasBlk b cs A] [hT : TyOne P T] (h1 : v.oneCell' = true)
    (hi : decide (i < cs.length) = true) [hs : SetBlk b i v A A'] (k : ∀ w', Own B A' w' → K (a.put o.dst undef) w') : o.wp P a w K Q := by
  obtain ⟨w', hr, g⟩ := exec_store1 (P := P) h ho ha' hx' h1 hi (hs := hs)
  exact wpk_skip hr (k w' g)
theorem wpk_storeB {A' : Assn} (h : Own B A w) (ho : o.op = .store T ad x) (ha' : evalO a ad = some (.pointer (some ⟨b, 0, none⟩))) (hx' : evalO a x = some (.agg vs.toArray)) [hT : TyS P T n] [hs : NewBlk b vs A cs A'] (hl : vs.length = n) (hl2 : cs.length = n)
    (h1 : vs.all (·.oneCell') = true) (k : ∀ w', Own B A' w' → K (a.put o.dst undef) w') : o.wp P a w K Q := by
  obtain ⟨w', hr, g⟩ := exec_storeB (P := P) h ho ha' hx' hl hl2 h1 (hs := hs)
  exact wpk_skip hr (k w' g)
theorem wpk_storeS {A' : Assn} (h : Own B A w) (ho : o.op = .store T ad x) (ha' : evalO a ad = some (.pointer (some ⟨b, i, none⟩))) (hx' : evalO a x = some (.agg vs.toArray)) [hT : TyS P T n] [hs : PutBlk b i vs A cs A'] (hl : vs.length = n) (hi : decide (i + vs.length ≤ cs.length) = true)
    (h1 : vs.all (·.oneCell') = true) (k : ∀ w', Own B A' w' → K (a.put o.dst undef) w') : o.wp P a w K Q := by
  obtain ⟨w', hr, g⟩ := exec_storeS (P := P) h ho ha' hx' hl hi h1 (hs := hs)
  exact wpk_skip hr (k w' g)

/-! a load in a walk that serves every world of a class -/
section
variable {ι : Type} {W : ι → World} {F : Assn} {q : Act → Prop}
theorem wpq_val (hw : Region.wanted o (yielded ops a.tmps) = true) (hr : ∀ i, (execOp a.eval o).run P (W i) = .ok (.value v) (W i)) (k : wpQuiet P ops (fun w' => ∃ i, w' = W i) q rest (a.put o.dst v)) : wpQuiet P ops (fun w' => ∃ i, w' = W i) q (o :: rest) a :=
  wpQuiet_want hw fun K hK => ⟨v, by rintro _ ⟨i, rfl⟩; unfold Oper.quietAt; rw [hr i]; exact ⟨rfl, rfl⟩, hK _ k⟩
theorem wpq_load (hW : ∀ i, Own B F (W i)) (ho : o.op = .load T ad) (hw : Region.wanted o (yielded ops a.tmps) = true) (ha' : evalO a ad = some (.pointer (some ⟨b, i, none⟩))) [hb : HasBlk b cs F] [hT : TyOne P T] (hv : cs[i]? = some v)
    (k : wpQuiet P ops (fun w' => ∃ i, w' = W i) q rest (a.put o.dst v)) : wpQuiet P ops (fun w' => ∃ i, w' = W i) q (o :: rest) a :=
  wpq_val hw (fun j => exec_load ho (evalO_eq ha') (run_loadVar_one ((hW j).cell b i hv _ (hW j)))) k
theorem wpq_loadB (hW : ∀ i, Own B F (W i)) (ho : o.op = .load T ad) (hw : Region.wanted o (yielded ops a.tmps) = true) (ha' : evalO a ad = some (.pointer (some ⟨b, 0, none⟩))) [hb : HasBlk b cs F] [hT : TyS P T n] (hl : cs.length = n)
    (k : wpQuiet P ops (fun w' => ∃ i, w' = W i) q rest (a.put o.dst (.agg cs.toArray))) : wpQuiet P ops (fun w' => ∃ i, w' = W i) q (o :: rest) a :=
  wpq_val hw (fun j => exec_load ho (evalO_eq ha') (run_loadVar_S (hW j) (by rw [← hl]; simp) (by simp [hl]))) k
theorem wpq_loadS (hW : ∀ i, Own B F (W i)) (ho : o.op = .load T ad) (hw : Region.wanted o (yielded ops a.tmps) = true) (ha' : evalO a ad = some (.pointer (some ⟨b, i, none⟩))) [hb : HasBlk b cs F] [hT : TyS P T n] (hl : decide (i + n ≤ cs.length) = true)
    (k : wpQuiet P ops (fun w' => ∃ i, w' = W i) q rest (a.put o.dst (.agg ((cs.drop i).take n).toArray))) : wpQuiet P ops (fun w' => ∃ i, w' = W i) q (o :: rest) a :=
  wpq_val hw (fun j => exec_load ho (evalO_eq ha') (run_loadVar_S (hW j) rfl hl)) k
end

theorem atq_load {C : World → Prop} {q : Act → Prop} {d : Option Tmp} {ty : TypeId} {pos : String} {after : Array Edge} {g : Option (Nat × Bool)} (h : wpQuiet P ops C q (⟨d, .load T x, ty, pos, after, g⟩ :: rest) a) : wpQuiet P ops C q (⟨d, .load T x, ty, pos, after, g⟩ :: rest) a := h
theorem atq_slice {C : World → Prop} {q : Act → Prop} {d : Option Tmp} {ty : TypeId} {pos : String} {after : Array Edge} {g : Option (Nat × Bool)} {y : Operand} {hi : Option Operand} (h : wpQuiet P ops C q (⟨d, .slice T x (some y) hi none, ty, pos, after, g⟩ :: rest) a) : wpQuiet P ops C q (⟨d, .slice T x (some y) hi none, ty, pos, after, g⟩ :: rest) a := h

/-- a block that is a slice -/
theorem Own.rdB {B w : World} {A : Assn} (_ : Own B A w) (b off n cap : Nat) {sz : Nat} {cs xs : List Value} [hb : HasBlk b cs A] (h1 : n ≤ cap) (h2 : cap ≤ maxLen) (h3 : (cs.drop off).take (n * sz) = xs) (h4 : decide (off + n * sz ≤ cs.length) = true) :
    ∀ w, Own B A w → Sl.rd w sz (.slice (some ⟨b, off, none⟩) n cap) n xs := fun w h => by
  refine ⟨_, cap, rfl, h1, h2, ?_, (fun e => by cases e), fun a ha j u hu => ?_⟩
  · rw [← h3]; simp only [List.length_take, List.length_drop]; simp only [decide_eq_true_eq] at h4; omega
  · obtain rfl := Option.some.inj ha
    rw [Addr.add_lit]
    refine h.cell b (off + j) ?_ w h
    rw [← h3, List.getElem?_take] at hu
    split at hu
    · rw [List.getElem?_drop] at hu; exact hu
    · cases hu

theorem rd_bs_take {w : World} {ao : Option Addr} {cap : Nat} {l : List UInt8} (hr : Sl.rd w 1 (.slice ao l.length cap) l.length (bs l)) {N : Nat} (hN : N ≤ l.length) : Sl.rd w 1 (.slice ao N cap) (l.take N).length (bs (l.take N)) := by
  have := rd_take1 hr hN
  rw [bs_take] at this
  rwa [List.length_take, Nat.min_eq_left hN]
theorem rd_bs_drop {w : World} {ao : Option Addr} {cap : Nat} {l : List UInt8} (hr : Sl.rd w 1 (.slice ao l.length cap) l.length (bs l)) {N : Nat} (hN : N ≤ l.length) :
    Sl.rd w 1 (.slice (cutA ao cap N 1) (l.length - N) (cap - N)) (l.drop N).length (bs (l.drop N)) := by
  have := rd_cut1 hr N l.length hN (Nat.le_refl _)
  rw [bs_drop, bs_take, List.take_of_length_le (by simp)] at this
  rwa [List.length_drop, cutA, Nat.mul_one]

/-- element k of a slice of structs, loaded -/
theorem run_loadVar_el {ad : Addr} {cap m k sz : Nat} {xs : List Value} [hT : TyS P T sz] (hr : Sl.rd w sz (.slice (some ad) m cap) m xs) (hx : (xs.drop (k * sz)).take sz = cs) (hl : cs.length = sz) : (loadVar T (ad.add (k * sz))).run P w = .ok (.agg cs.toArray) w := by
  obtain ⟨fs, hf⟩ := hT.str
  cases hq : P.info? T with
  | none => have := hT.size; rw [hq] at this; cases this
  | some inf =>
    have hs := hT.size
    rw [hq] at hs
    have hsz : inf.size = cs.length := by simpa [hl] using hs
    have hst : (loadCells (ad.add (k * sz)) cs.length).run P w = .ok cs.toArray w := by
      refine run_loadCells_list _ _ _ fun j v hj => ?_
      rw [addr_add_add]
      refine rd_cell hr ?_
      rw [← hx, List.getElem?_take] at hj
      split at hj
      · rw [List.getElem?_drop] at hj; exact hj
      · cases hj
    simp [loadVar, isAgg, run_underlying hf, sizeOf, typeInfo, hq, hsz, hst]
theorem wpu_loadE {ad : Addr} {cap m k sz : Nat} {xs : List Value} [hT : TyS P T sz] (hr : Sl.rd w sz (.slice (some ad) m cap) m xs) (hx : (xs.drop (k * sz)).take sz = cs) (ho : o.op = .load T x) (hw : Region.wanted o (yielded ops a.tmps) = true) (ha' : evalO a x = some (.pointer (some (ad.add (k * sz))))) (hl : cs.length = sz)
    (kk : wpList P ops Q rest (a.put o.dst (.agg cs.toArray)) w) : wpList P ops Q (o :: rest) a w := wpu_val hw (exec_load ho (evalO_eq ha') (run_loadVar_el hr hx hl)) kk
theorem wpq_loadE {ι : Type} {W : ι → World} {q : Act → Prop} {ad : Addr} {cap m k sz : Nat} {xs : List Value} [hT : TyS P T sz] (hr : ∀ i, Sl.rd (W i) sz (.slice (some ad) m cap) m xs) (hx : (xs.drop (k * sz)).take sz = cs) (ho : o.op = .load T x) (hw : Region.wanted o (yielded ops a.tmps) = true) (ha' : evalO a x = some (.pointer (some (ad.add (k * sz))))) (hl : cs.length = sz)
    (kk : wpQuiet P ops (fun w' => ∃ i, w' = W i) q rest (a.put o.dst (.agg cs.toArray))) : wpQuiet P ops (fun w' => ∃ i, w' = W i) q (o :: rest) a := wpq_val hw (fun j => exec_load ho (evalO_eq ha') (run_loadVar_el (hr j) hx hl)) kk

/-- element k of a slice of single cells, loaded -/
theorem wpu_loadC {ad : Addr} {cap m k : Nat} {xs : List Value} [hT : TyOne P T] (hr : Sl.rd w 1 (.slice (some ad) m cap) m xs) (hx : xs[k]? = some v) (ho : o.op = .load T x) (hw : Region.wanted o (yielded ops a.tmps) = true) (ha' : evalO a x = some (.pointer (some (ad.add k))))
    (kk : wpList P ops Q rest (a.put o.dst v) w) : wpList P ops Q (o :: rest) a w := wpu_val hw (exec_load ho (evalO_eq ha') (run_loadVar_one (rd_cell hr hx))) kk
theorem wpq_loadC {ι : Type} {W : ι → World} {q : Act → Prop} {ad : Addr} {cap m k : Nat} {xs : List Value} [hT : TyOne P T] (hr : ∀ i, Sl.rd (W i) 1 (.slice (some ad) m cap) m xs) (hx : xs[k]? = some v) (ho : o.op = .load T x) (hw : Region.wanted o (yielded ops a.tmps) = true) (ha' : evalO a x = some (.pointer (some (ad.add k))))
    (kk : wpQuiet P ops (fun w' => ∃ i, w' = W i) q rest (a.put o.dst v)) : wpQuiet P ops (fun w' => ∃ i, w' = W i) q (o :: rest) a := wpq_val hw (fun j => exec_load ho (evalO_eq ha') (run_loadVar_one (rd_cell (hr j) hx))) kk

/-! ### parts of an assertion -/

/-- A is X beside A' -/
class Take (X : Assn) (A : Assn) (A' : outParam Assn) : Prop where
  out : A = X * A'
instance (X : Assn) : Take X X emp := ⟨(star_emp _).symm⟩
instance (priority := low) (X A A' C : Assn) [h : Take X A A'] : Take X (A * C) (A' * C) := ⟨by rw [h.out, star_assoc]⟩
instance (priority := low) (X A C C' : Assn) [h : Take X C C'] : Take X (A * C) (A * C') := ⟨by rw [h.out]; ac_rfl⟩
instance (X C : Assn) : Take X (X * C) C := ⟨rfl⟩

/-- X comes to the front -/
theorem Own.pull {B w : World} {A A' : Assn} (h : Own B A w) (X : Assn) [t : Take X A A'] : Own B (X * A') w := h.eq t.out

/-- block b in A, and what is beside it -/
class TakeBlk (b : Nat) (cs : outParam (List Value)) (A : Assn) (A' : outParam Assn) : Prop where
  out : A = blk b cs * A'
instance (b : Nat) (cs : List Value) : TakeBlk b cs (blk b cs) emp := ⟨(star_emp _).symm⟩
instance (b : Nat) (cs : List Value) (A A' C : Assn) [h : TakeBlk b cs A A'] : TakeBlk b cs (A * C) (A' * C) := ⟨by rw [h.out, star_assoc]⟩
instance (b : Nat) (cs : List Value) (A C C' : Assn) [h : TakeBlk b cs C C'] : TakeBlk b cs (A * C) (A * C') := ⟨by rw [h.out]; ac_rfl⟩
instance (priority := high) (b : Nat) (cs : List Value) (C : Assn) : TakeBlk b cs (blk b cs * C) C := ⟨rfl⟩

/-- the part f x of A, whatever x is, and what is beside it -/
class TakeF {α : Type} (f : α → Assn) (x : outParam α) (A : Assn) (A' : outParam Assn) : Prop where
  out : A = f x * A'
instance {α : Type} (f : α → Assn) (x : α) : TakeF f x (f x) emp := ⟨(star_emp _).symm⟩
instance (priority := low) {α : Type} (f : α → Assn) (x : α) (A A' C : Assn) [h : TakeF f x A A'] : TakeF f x (A * C) (A' * C) := ⟨by rw [h.out, star_assoc]⟩
instance (priority := low) {α : Type} (f : α → Assn) (x : α) (A C C' : Assn) [h : TakeF f x C C'] : TakeF f x (A * C) (A * C') := ⟨by rw [h.out]; ac_rfl⟩
instance {α : Type} (f : α → Assn) (x : α) (C : Assn) : TakeF f x (f x * C) C := ⟨rfl⟩
theorem Own.pullF {B w : World} {A A' : Assn} (h : Own B A w) {α : Type} (f : α → Assn) {x : α} [t : TakeF f x A A'] : Own B (f x * A') w := h.eq t.out

/-- slice v in A, and what is beside it -/
class TakeSl (v : Value) (sz n : outParam Nat) (xs : outParam (List Value)) (A : Assn) (A' : outParam Assn) : Prop where
  out : A = sl sz v n xs * A'
instance (v : Value) (sz n : Nat) (xs : List Value) : TakeSl v sz n xs (sl sz v n xs) emp := ⟨(star_emp _).symm⟩
instance (v : Value) (sz n : Nat) (xs : List Value) (A A' C : Assn) [h : TakeSl v sz n xs A A'] : TakeSl v sz n xs (A * C) (A' * C) := ⟨by rw [h.out, star_assoc]⟩
instance (v : Value) (sz n : Nat) (xs : List Value) (A C C' : Assn) [h : TakeSl v sz n xs C C'] : TakeSl v sz n xs (A * C) (A * C') := ⟨by rw [h.out]; ac_rfl⟩
instance (priority := high) (v : Value) (sz n : Nat) (xs : List Value) (C : Assn) : TakeSl v sz n xs (sl sz v n xs * C) C := ⟨rfl⟩

section
variable {cs1 cs2 cs3 cs4 cs5 : List Value} {A1 A2 A3 A4 A5 : Assn}
theorem Own.at1 (h : Own B A w) (b1 : Nat) [t1 : TakeBlk b1 cs1 A A1] : Own B (blk b1 cs1 * A1) w := h.eq t1.out
theorem Own.only1 (h : Own B A w) (b1 : Nat) [t1 : TakeBlk b1 cs1 A A1] : Own B (blk b1 cs1) w := (h.eq t1.out).drop
theorem Own.only2 (h : Own B A w) (b1 b2 : Nat) [t1 : TakeBlk b1 cs1 A A1] [t2 : TakeBlk b2 cs2 A1 A2] : Own B (blk b1 cs1 * blk b2 cs2) w :=
  (h.eq (A' := (blk b1 cs1 * blk b2 cs2) * A2) (by rw [t1.out, t2.out]; ac_rfl)).drop
theorem Own.only3 (h : Own B A w) (b1 b2 b3 : Nat) [t1 : TakeBlk b1 cs1 A A1] [t2 : TakeBlk b2 cs2 A1 A2] [t3 : TakeBlk b3 cs3 A2 A3] : Own B (blk b1 cs1 * (blk b2 cs2 * blk b3 cs3)) w :=
  (h.eq (A' := (blk b1 cs1 * (blk b2 cs2 * blk b3 cs3)) * A3) (by rw [t1.out, t2.out, t3.out]; ac_rfl)).drop
theorem Own.only4 (h : Own B A w) (b1 b2 b3 b4 : Nat) [t1 : TakeBlk b1 cs1 A A1] [t2 : TakeBlk b2 cs2 A1 A2] [t3 : TakeBlk b3 cs3 A2 A3] [t4 : TakeBlk b4 cs4 A3 A4] : Own B (blk b1 cs1 * (blk b2 cs2 * (blk b3 cs3 * blk b4 cs4))) w :=
  (h.eq (A' := (blk b1 cs1 * (blk b2 cs2 * (blk b3 cs3 * blk b4 cs4))) * A4) (by rw [t1.out, t2.out, t3.out, t4.out]; ac_rfl)).drop
end

/-- t is a slice type that can be appended to -/
class TyApp (P : Program) (t : TypeId) (T sz bytes : outParam Nat) (z : outParam Value) : Prop where
  out : IsSl P t T sz bytes z
/-- append to an own slice -/
theorem wpu_append (h : Own B A w) {t T' sz bytes m : Nat} {z u : Value} {s y : Operand} {xs ys : List Value} (ho : o.op = .call { callee := .builtin .append, args := #[s, y], argTypes := #[t, t] }) (hw : Region.wanted o (yielded ops a.tmps) = true)
    (hs : evalO a s = some v) (hy : evalO a y = some u) [I : TyApp P t T' sz bytes z] [tk : TakeSl v sz n xs A A'] (hr : rd w sz u m ys) (h1 : ∀ y ∈ ys, y.oneCell' = true) (hm : n + m ≤ maxLen) (hb : (n + m) * bytes ≤ 140737488355328)
    (k : ∀ v' w', Own B (sl sz v' (n + m) (xs ++ ys) * A') w' → wpList P ops Q rest (a.put o.dst v') w') : wpList P ops Q (o :: rest) a w :=
  wpList_want hw fun _ hK => wp_append tk.out h I.out ho (evalO_eq hs) (evalO_eq hy) hr h1 hm hb fun v' w' h' => hK _ _ (k v' w' h')
/-- append to a new slice of no elements -/
theorem wpu_append0 (h : Own B A w) {t T' sz bytes m : Nat} {z u : Value} {s y : Operand} {ys : List Value} (ho : o.op = .call { callee := .builtin .append, args := #[s, y], argTypes := #[t, t] }) (hw : Region.wanted o (yielded ops a.tmps) = true)
    (hs : evalO a s = some (.slice (some ⟨b, 0, none⟩) 0 0)) (hy : evalO a y = some u) [I : TyApp P t T' sz bytes z] [tk : TakeBlk b cs A A'] (hr : rd w sz u m ys) (h1 : ∀ y ∈ ys, y.oneCell' = true) (hm : m ≤ maxLen) (hb : m * bytes ≤ 140737488355328)
    (k : ∀ v' w', Own B (sl sz v' m ys * A') w' → wpList P ops Q rest (a.put o.dst v') w') : wpList P ops Q (o :: rest) a w := by
  have g : Own B (sl sz (.slice (some ⟨b, 0, none⟩) 0 0) 0 [] * A') w := own_sl_mk (Nat.le_refl _) (Nat.zero_le _) (by simp) (by simp) (by simp) (h.eq tk.out)
  exact wpList_want hw fun _ hK => wp_append rfl g I.out ho (evalO_eq hs) (evalO_eq hy) hr h1 (by omega) (by simpa using hb) fun v' w' h' => hK _ _ (k v' w' (h'.eq (by simp)))
/-- append of a new block of one element (append(x, v)) -/
theorem wpu_append1 (h : Own B A w) {t T' sz bytes : Nat} {z : Value} {s y : Operand} {xs ys : List Value} (ho : o.op = .call { callee := .builtin .append, args := #[s, y], argTypes := #[t, t] }) (hw : Region.wanted o (yielded ops a.tmps) = true)
    (hs : evalO a s = some v) (hy : evalO a y = some (.slice (some ⟨b, 0, none⟩) 1 1)) [I : TyApp P t T' sz bytes z] [tb : TakeBlk b ys A A'] [tk : TakeSl v sz n xs A' R] (hl : ys.length = sz) (h1 : ys.all (·.oneCell') = true) (hm : n + 1 ≤ maxLen) (hb : (n + 1) * bytes ≤ 140737488355328)
    (k : ∀ v' w', Own B (sl sz v' (n + 1) (xs ++ ys) * R) w' → wpList P ops Q rest (a.put o.dst v') w') : wpList P ops Q (o :: rest) a w := by
  have g : Own B (sl sz v n xs * (blk b ys * R)) w := h.eq (by rw [tb.out, tk.out]; ac_rfl)
  have hr : rd w sz (.slice (some ⟨b, 0, none⟩) 1 1) 1 ys := by
    have := own_sl_mk (n := 1) (cap := 1) (off := 0) (xs := ys) (sz := sz) (Nat.le_refl _) (by decide) (by simpa using hl) (by simp [hl]) (by simp [← hl]) (g.eq (A' := blk b ys * (sl sz v n xs * R)) (by ac_rfl))
    exact own_rd this
  exact wpList_want hw fun _ hK => wp_append rfl g I.out ho (evalO_eq hs) (evalO_eq hy) hr (fun y hy => List.all_eq_true.1 h1 y hy) hm hb fun v' w' h' => hK _ _ (k v' w' (h'.eq (A' := blk b ys * (sl sz v' (n + 1) (xs ++ ys) * R)) (by ac_rfl)).right)

/-- A holds X (and more) -/
class Sub (X : Assn) (A : Assn) : Prop where
  out : ∃ R, A = X * R
instance (priority := low) (X A A' : Assn) [h : Take X A A'] : Sub X A := ⟨A', h.out⟩
instance (X Y A A' : Assn) [h : Take X A A'] [k : Sub Y A'] : Sub (X * Y) A := ⟨let ⟨R, e⟩ := k.out; ⟨R, by rw [h.out, e, star_assoc]⟩⟩
theorem Own.sub {B w : World} {A : Assn} (h : Own B A w) (X : Assn) [s : Sub X A] : Own B X w := by obtain ⟨R, e⟩ := s.out; exact (h.eq e).drop
theorem Own.give {B w : World} {A X : Assn} (h : Own B A w) [s : Sub X A] : Own B X w := h.sub X

/-! ### what a function hands back -/

def ResV (P : Program) (w : World) (tmps : Array Value) (r : ResultVar) (v : Value) : Prop :=
  match r with
  | .tmp t => tmps.toList[t]? = some v
  | .cell x T => ∃ p, tmps.toList[x]? = some (.pointer (some p)) ∧ (loadVar T p).run P w = .ok v w

section
variable {tmps : Array Value} {t : Tmp} {fn : Func} {r1 r2 r3 r4 : ResultVar} {v1 v2 v3 v4 : Value}
theorem resT (h : tmps.toList[t]? = some v) : ResV P w tmps (.tmp t) v := h
theorem resB (G : Own B A w) (h : tmps.toList[t]? = some (.pointer (some ⟨b, 0, none⟩))) [hb : HasBlk b cs A] [hT : TyS P T n] (hl : cs.length = n) : ResV P w tmps (.cell t T) (.agg cs.toArray) :=
  ⟨_, h, run_loadVar_S G (by rw [← hl]; simp) (by simp [hl])⟩
theorem resO (G : Own B A w) (h : tmps.toList[t]? = some (.pointer (some ⟨b, i, none⟩))) [hb : HasBlk b cs A] [hT : TyOne P T] (hv : cs[i]? = some v) : ResV P w tmps (.cell t T) v :=
  ⟨_, h, run_loadVar_one (G.cell b i hv w G)⟩
def valR (tmps : Array Value) : ResultVar → Sem Value
  | .tmp t => pure (tmps.getD t undef)
  | .cell a t => do loadVar t (← asAddr (tmps.getD a undef))
theorem getD_of (h : tmps.toList[t]? = some v) : tmps.getD t undef = v := by
  rw [Array.getElem?_toList] at h
  rw [Array.getD_eq_getD_getElem?, h]
  rfl
theorem resV_run {r : ResultVar} (h : ResV P w tmps r v) : (valR tmps r).run P w = .ok v w := by
  cases r with
  | tmp t => simp only [valR, getD_of h, Sem.run_pure]
  | cell x T =>
    obtain ⟨p, h1, h2⟩ := h
    simp only [valR, getD_of h1]
    simp [asAddr, h2]
theorem results_eq : results fn tmps = (do let vs ← fn.results.mapM (valR tmps); pure (if h : vs.size = 1 then vs[0] else .tuple vs)) := by
  unfold results
  congr 2
theorem results1 (h : fn.results = #[r1]) (h1 : ResV P w tmps r1 v1) : (results fn tmps).run P w = .ok v1 w := by
  rw [results_eq]
  simp [h, resV_run h1]
theorem results2 (h : fn.results = #[r1, r2]) (h1 : ResV P w tmps r1 v1) (h2 : ResV P w tmps r2 v2) : (results fn tmps).run P w = .ok (.tuple #[v1, v2]) w := by
  rw [results_eq]
  simp [h, resV_run h1, resV_run h2]
theorem results3 (h : fn.results = #[r1, r2, r3]) (h1 : ResV P w tmps r1 v1) (h2 : ResV P w tmps r2 v2) (h3 : ResV P w tmps r3 v3) : (results fn tmps).run P w = .ok (.tuple #[v1, v2, v3]) w := by
  rw [results_eq]
  simp [h, resV_run h1, resV_run h2, resV_run h3]
end
/-! ### the cells of data -/
theorem list_of_cells {cs : List Value} {n : Nat} (hl : cs.length = n) (vs : List Value) (hv : vs.length = n) (h : ∀ i, i < n → cs[i]? = vs[i]?) : cs = vs := by
  apply List.ext_getElem?
  intro i
  by_cases hi : i < n
  · exact h i hi
  · rw [List.getElem?_eq_none (by omega), List.getElem?_eq_none (by omega)]

theorem rdc_slice_cell {H : Type} {enc : TypeId × Value → H} {P : Program} {W : World} {t e : TypeId} {cs : List Value} {d : DataW H} (ht : P.underlying t = some (.slice e)) (h : RdC enc P W t cs d) : ∃ v, cs = [v] := by
  obtain ⟨v, _, _, e1, _⟩ := rdc_slice ht rfl h
  exact ⟨v, e1⟩

end
end Go.Sl
