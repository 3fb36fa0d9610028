

/-
  A map from strings to strings that the call itself has made.
  Condition: none (lemmas on worlds).
-/
import Derived.Test.YtnjldofiogbolaaDoorAuto
import Derived.Maps.OwnSet
import Derived.Maps.StringElems
namespace Go.Sl
open Go Go.RowKit Go.ChangeShapes Go.BigFrame Go.ChangeMaps Go.MapKept
open Go.WideElems (Fit rg)
open Go.Maps (Keyed)

/-- t is map[string]string, its key's type k, its element's e -/
class TyMap (P : Program) (t : TypeId) (k e : outParam TypeId) : Prop where
  map : P.underlying t = some (.map k e)
  key : P.underlying k = some .string
  elem : P.underlying e = some .string
  zero : ∀ w, (zeroValue e).run P w = .ok (str []) w

abbrev RdS (P : Program) (e : TypeId) : Value → Option (DataW Unit × List MemPlace) := plainElem P e

def getM : List (List UInt8 × List UInt8) → List UInt8 → Option (List UInt8)
  | [], _ => none
  | (k, v) :: M, x => if x = k then some v else getM M x

structure IsStr (D : DataW Unit) (M : List (List UInt8 × List UInt8)) : Prop where
  tidy : Maps.Tidy D
  has : ∀ x, Maps.has D (.string x) = (getM M x).isSome
  all : ∀ x v, getM M x = some v → D.atKey (.string x) (.lit (.string [])) = .lit (.string v)

/-- block b is the map M -/
def strA (P : Program) (k e : TypeId) (b : Nat) (M : List (List UInt8 × List UInt8)) : Assn := fun h =>
  ∃ es clock D, h = Hp.one b (.map es clock) ∧ Fit P k (RdS P e) es clock ∧ D = .map ((es.toList.map (rg P k (RdS P e))).foldr DataW.insert []) ∧ IsStr D M ∧ es.size ≤ M.length

section
variable {P : Program} {B w : World} {A R : Assn} {t k e : TypeId} {b : Nat} {M : List (List UInt8 × List UInt8)}

theorem own_strA (h : Own B (strA P k e b M * R) w) : ∃ es clock D, w.heap[b]? = some (.map es clock) ∧ Fit P k (RdS P e) es clock ∧ D = .map ((es.toList.map (rg P k (RdS P e))).foldr DataW.insert []) ∧ IsStr D M ∧ es.size ≤ M.length ∧ B.heap.size ≤ b := by
  obtain ⟨hb, _, ⟨h1, h2, d, rfl, ⟨es, clock, D, rfl, F, hD, hS, hl⟩, _⟩, kk⟩ := h
  have := kk b (.map es clock) (by simp [Hp.un, Hp.one])
  exact ⟨es, clock, D, this.2, F, hD, hS, hl, this.1⟩

theorem strA_map (h : Own B (strA P k e b M * R) w) : ∃ D, w.ownsMap P k (RdS P e) b M.length D ∧ IsStr D M := by
  obtain ⟨es, clock, D, hb, F, hD, hS, hl, _⟩ := own_strA h
  exact ⟨D, ⟨es, clock, hb, F, hl, hD⟩, hS⟩

theorem strA_turn {M' : List (List UInt8 × List UInt8)} {w' : World} (h : Own B (strA P k e b M * R) w) {D' : DataW Unit} (h' : w'.ownsMap P k (RdS P e) b M'.length D') (ht : w.mapTurned w' b) (hS : IsStr D' M') : Own B (strA P k e b M' * R) w' := by
  obtain ⟨es, clock, D, hb, F, hD, hS0, hl, hB⟩ := own_strA h
  obtain ⟨es', clock', hb', F', hl', hD'⟩ := h'
  obtain ⟨es0, clock0, es1, clock1, hb0, rfl⟩ := ht
  refine own_turn (X := strA P k e b M) (o' := .map es' clock') (fun h ⟨_, _, _, e, _⟩ => ⟨_, e⟩) (fun h e => ⟨es', clock', D', e, F', hD', hS, hl'⟩) h ?_ hb' (fun c hc => heap_setBlock_other hb0 _ hc)
  have hlt := (Array.getElem?_eq_some_iff.1 hb0).1
  exact ⟨h.1.os, h.1.tape, h.1.output, by simpa [setBlock] using h.1.size, fun i hi => by rw [heap_setBlock_other hb0 _ (show i ≠ b by omega)]; exact h.1.block i hi⟩

theorem isStr_nil : IsStr (.map []) [] := ⟨Maps.tidy_empty, fun x => by simp [Maps.has, getM], fun x v h => by simp [getM] at h⟩

theorem own_new_str (h : Own B R w) : Own B (strA P k e w.heap.size [] * R) (w.alloc (.map #[] 0)) := by
  refine (own_new_obj h _).mono ?_
  rintro _ ⟨h1, h2, d, rfl, rfl, b⟩
  obtain ⟨es, clock, hb, F, _, hD⟩ := World.ownsMap_made (H := Unit) w P k (RdS P e)
  have e1 := (MapKept.heap_alloc w (.map #[] 0)).1
  rw [e1] at hb
  simp only [Option.some.injEq, Obj.map.injEq] at hb
  obtain ⟨rfl, rfl⟩ := hb
  exact ⟨_, h2, d, rfl, ⟨#[], 0, _, rfl, F, hD, isStr_nil, by simp⟩, b⟩

/-- m[x] = v -/
theorem run_strPut [T : TyMap P t k e] (h : Own B (strA P k e b M * R) w) {x v : List UInt8} (hx : x.length ≤ maxLen) (hv : v.length ≤ maxLen) (hn : M.length < maxLen) :
    ∃ w', (Instr.mapUpdate t (.map (some b)) (str x) (str v)).run P w = .ok () w' ∧ Own B (strA P k e b ((x, v) :: M) * R) w' := by
  obtain ⟨D, hm, hS⟩ := strA_map h
  have hk : keyOf P k (str x) = some (.string x) := Go.WideMaps.keyOf_string_mk T.key (s := ⟨x.toArray⟩) (by simpa [ByteArray.size] using hx)
  have hK := Maps.string_keyed T.key
  have hlit := hK.key hk
  obtain ⟨w', hrun, hm', ht⟩ := hm.store hK T.map hn hk (plainElem_string T.elem (s := ⟨v.toArray⟩) (by simpa [ByteArray.size] using hv))
  refine ⟨w', hrun, strA_turn h hm' ht ⟨hS.tidy.put hlit _, fun y => ?_, fun y u hy => ?_⟩⟩
  · by_cases e : y = x
    · subst e
      rw [Maps.has_put_same hS.tidy.isMap hlit]
      simp [getM]
    · rw [Maps.has_put_other (by simpa using e), hS.has]
      simp [getM, e]
  · by_cases e : y = x
    · subst e
      rw [Maps.atKey_put_same hS.tidy.isMap hlit]
      simp [getM] at hy
      rw [← hy]
    · rw [Maps.atKey_put_other (by simpa using e)]
      refine hS.all y u ?_
      simpa [getM, e] using hy

theorem strA_at {D : DataW Unit} (hS : IsStr D M) (x : List UInt8) : D.atKey (.string x) (.lit (.string [])) = .lit (.string ((getM M x).getD [])) := by
  cases e : getM M x with
  | some v => exact hS.all x v e
  | none => exact Maps.atKey_of_not_has (by rw [hS.has, e]; rfl) _

theorem str_of_elem {e : TypeId} (he : P.underlying e = some .string) {v : Value} {l : List UInt8} {ps : List MemPlace} (h : RdS P e v = some (.lit (.string l), ps)) : v = str l := by
  obtain ⟨s, rfl, h2, _⟩ := plainElem_string_inv he h
  have : s.data.toList = l := by
    have := congrArg Prod.fst h2
    simpa using this.symm
  rw [← this]

/-- m[x] -/
theorem run_strLook [T : TyMap P t k e] (h : Own B (strA P k e b M * R) w) {x : List UInt8} (hx : x.length ≤ maxLen) :
    (Instr.lookup t (.map (some b)) (str x) false).run P w = .ok (str ((getM M x).getD [])) w := by
  obtain ⟨D, hm, hS⟩ := strA_map h
  have hk : keyOf P k (str x) = some (.string x) := Go.WideMaps.keyOf_string_mk T.key (s := ⟨x.toArray⟩) (by simpa [ByteArray.size] using hx)
  have hK := Maps.string_keyed T.key
  obtain ⟨v, ps, hrun, hv⟩ := hm.lookup hK T.map (T.zero w) (plainElem_string T.elem (s := ⟨([] : List UInt8).toArray⟩) (by simp [ByteArray.size])) hk
  have hat := strA_at hS x
  have : v = str ((getM M x).getD []) := str_of_elem T.elem (by rw [hv]; exact congrArg (fun z => some (z, ps)) hat)
  rw [hrun, this]
/-- v, ok := m[x] -/
theorem run_strLookOk [T : TyMap P t k e] (h : Own B (strA P k e b M * R) w) {x : List UInt8} (hx : x.length ≤ maxLen) :
    (Instr.lookup t (.map (some b)) (str x) true).run P w = .ok (.tuple #[str ((getM M x).getD []), .bool (getM M x).isSome]) w := by
  obtain ⟨D, hm, hS⟩ := strA_map h
  have hk : keyOf P k (str x) = some (.string x) := Go.WideMaps.keyOf_string_mk T.key (s := ⟨x.toArray⟩) (by simpa [ByteArray.size] using hx)
  have hK := Maps.string_keyed T.key
  obtain ⟨v, ps, hrun, hv⟩ := hm.look_ok hK T.map (T.zero w) (plainElem_string T.elem (s := ⟨([] : List UInt8).toArray⟩) (by simp [ByteArray.size])) hk
  have hat := strA_at hS x
  have : v = str ((getM M x).getD []) := str_of_elem T.elem (by rw [hv]; exact congrArg (fun z => some (z, ps)) hat)
  rw [hrun, this, hS.has]
/-- the same at a nil map -/
theorem run_nilLook [T : TyMap P t k e] {x : List UInt8} (hx : x.length ≤ maxLen) : (Instr.lookup t (.map none) (str x) false).run P w = .ok (str []) w :=
  Maps.look_nil false (Maps.string_keyed T.key) T.map (T.zero w) (Go.WideMaps.keyOf_string_mk T.key (s := ⟨x.toArray⟩) (by simpa [ByteArray.size] using hx))
theorem run_nilLookOk [T : TyMap P t k e] {x : List UInt8} (hx : x.length ≤ maxLen) : (Instr.lookup t (.map none) (str x) true).run P w = .ok (.tuple #[str [], .bool false]) w :=
  Maps.look_nil true (Maps.string_keyed T.key) T.map (T.zero w) (Go.WideMaps.keyOf_string_mk T.key (s := ⟨x.toArray⟩) (by simpa [ByteArray.size] using hx))

/-! the same at the operation -/
section
variable {A' : Assn} {ops : Array Oper} {Q : Exit → Act → World → Prop} {rest : List Oper} {o : Oper} {a : Act} {x v : List UInt8} {m key val : Operand}

theorem wpu_makeStr (h : Own B A w) [T : TyMap P t k e] (ho : o.op = .makeMap t none) (hw : Region.wanted o (yielded ops a.tmps) = true) (kk : ∀ w', Own B (strA P k e w.heap.size [] * A) w' → wpList P ops Q rest (a.put o.dst (.map (some w.heap.size))) w') : wpList P ops Q (o :: rest) a w :=
  wpu_val (w' := w.alloc (.map #[] 0)) hw (by unfold execOp; rw [ho]; rfl) (kk _ (own_new_str h))

theorem wpu_strPut (h : Own B A w) [T : TyMap P t k e] (ho : o.op = .mapUpdate t m key val) (hw : Region.wanted o (yielded ops a.tmps) = true) (hm : evalO a m = some (.map (some b))) (hk : evalO a key = some (str x)) (hv : evalO a val = some (str v))
    [tk : TakeF (strA P k e b) M A A'] (h1 : x.length ≤ maxLen) (h2 : v.length ≤ maxLen) (hn : M.length < maxLen) (kk : ∀ w', Own B (strA P k e b ((x, v) :: M) * A') w' → wpList P ops Q rest (a.put o.dst undef) w') : wpList P ops Q (o :: rest) a w := by
  obtain ⟨w', hr, g⟩ := run_strPut (h.eq tk.out) h1 h2 hn (T := T)
  exact wpu_skip hw (by unfold execOp; rw [ho]; simp [evalO_eq hm, evalO_eq hk, evalO_eq hv, hr]) (kk w' g)

theorem wpu_strLook (h : Own B A w) [T : TyMap P t k e] (ho : o.op = .lookup t m key false) (hw : Region.wanted o (yielded ops a.tmps) = true) (hm : evalO a m = some (.map (some b))) (hk : evalO a key = some (str x))
    [tk : TakeF (strA P k e b) M A A'] (h1 : x.length ≤ maxLen) {r : List UInt8} (hr : (getM M x).getD [] = r) (kk : wpList P ops Q rest (a.put o.dst (str r)) w) : wpList P ops Q (o :: rest) a w := by
  subst hr
  exact wpu_val hw (by unfold execOp; rw [ho]; simp [evalO_eq hm, evalO_eq hk, run_strLook (h.eq tk.out) h1 (T := T)]) kk
theorem wpu_strLookOk (h : Own B A w) [T : TyMap P t k e] (ho : o.op = .lookup t m key true) (hw : Region.wanted o (yielded ops a.tmps) = true) (hm : evalO a m = some (.map (some b))) (hk : evalO a key = some (str x))
    [tk : TakeF (strA P k e b) M A A'] (h1 : x.length ≤ maxLen) {r : List UInt8} {c : Bool} (hr : (getM M x).getD [] = r) (hc : (getM M x).isSome = c) (kk : wpList P ops Q rest (a.put o.dst (.tuple #[str r, .bool c])) w) : wpList P ops Q (o :: rest) a w := by
  subst hr hc
  exact wpu_val hw (by unfold execOp; rw [ho]; simp [evalO_eq hm, evalO_eq hk, run_strLookOk (h.eq tk.out) h1 (T := T)]) kk
theorem wpu_nilLook [T : TyMap P t k e] (ho : o.op = .lookup t m key false) (hw : Region.wanted o (yielded ops a.tmps) = true) (hm : evalO a m = some (.map none)) (hk : evalO a key = some (str x))
    (h1 : x.length ≤ maxLen) (kk : wpList P ops Q rest (a.put o.dst (str [])) w) : wpList P ops Q (o :: rest) a w :=
  wpu_val hw (by unfold execOp; rw [ho]; simp [evalO_eq hm, evalO_eq hk, run_nilLook (t := t) (w := w) h1 (T := T)]) kk
theorem wpu_nilLookOk [T : TyMap P t k e] (ho : o.op = .lookup t m key true) (hw : Region.wanted o (yielded ops a.tmps) = true) (hm : evalO a m = some (.map none)) (hk : evalO a key = some (str x))
    (h1 : x.length ≤ maxLen) (kk : wpList P ops Q rest (a.put o.dst (.tuple #[str [], .bool false])) w) : wpList P ops Q (o :: rest) a w :=
  wpu_val hw (by unfold execOp; rw [ho]; simp [evalO_eq hm, evalO_eq hk, run_nilLookOk (t := t) (w := w) h1 (T := T)]) kk
end
end
end Go.Sl
