
/-
  A map from integers to bools that the call itself has made, as a set: each key that is there holds true.
  Condition: none (lemmas on worlds).
-/
import Derived.Test.YtadbpekkmlblmaaAuto
import Derived.Maps.OwnSet
namespace Go.Sl
open Go Go.RowKit Go.ChangeShapes Go.BigFrame Go.ChangeMaps Go.MapKept
open Go.WideElems (Fit rg)
open Go.Maps (Keyed)

/-- t is map[int]bool, its key's type k, its element's e -/
class TySet (P : Program) (t : TypeId) (k e : outParam TypeId) : Prop where
  map : P.underlying t = some (.map k e)
  key : P.underlying k = some (.int .i64)
  elem : P.underlying e = some .bool
  zero : ∀ w, (zeroValue e).run P w = .ok (.bool false) w

abbrev RdB (P : Program) (e : TypeId) : Value → Option (DataW Unit × List MemPlace) := plainElem P e

/-- the datum D is the set S -/
structure IsSet (D : DataW Unit) (S : List Int) : Prop where
  tidy : Maps.Tidy D
  has : ∀ x : Int, Maps.has D (.int .i64 x) = decide (x ∈ S)
  all : ∀ x : Int, x ∈ S → D.atKey (.int .i64 x) (.lit (.bool false)) = .lit (.bool true)
  size : Maps.size D = S.length

/-- block b is the set S (t: the map's type) -/
def setA (P : Program) (k e : TypeId) (b : Nat) (S : List Int) : Assn := fun h =>
  ∃ es clock D, h = Hp.one b (.map es clock) ∧ Fit P k (RdB P e) es clock ∧ D = .map ((es.toList.map (rg P k (RdB P e))).foldr DataW.insert []) ∧ IsSet D S

section
variable {P : Program} {B w : World} {A R : Assn} {t k e : TypeId} {b : Nat} {S : List Int}

theorem own_setA (h : Own B (setA P k e b S * R) w) : ∃ es clock D, w.heap[b]? = some (.map es clock) ∧ Fit P k (RdB P e) es clock ∧ D = .map ((es.toList.map (rg P k (RdB P e))).foldr DataW.insert []) ∧ IsSet D S ∧ es.size = S.length ∧ B.heap.size ≤ b := by
  obtain ⟨hb, _, ⟨h1, h2, d, rfl, ⟨es, clock, D, rfl, F, hD, hS⟩, _⟩, kk⟩ := h
  have := kk b (.map es clock) (by simp [Hp.un, Hp.one])
  refine ⟨es, clock, D, this.2, F, hD, hS, ?_, this.1⟩
  have := hS.size
  rw [hD] at this
  simpa [Maps.size, length_sorted] using this

theorem setA_map (h : Own B (setA P k e b S * R) w) : ∃ D, w.ownsMap P k (RdB P e) b S.length D ∧ IsSet D S := by
  obtain ⟨es, clock, D, hb, F, hD, hS, hl, _⟩ := own_setA h
  exact ⟨D, ⟨es, clock, hb, F, by omega, hD⟩, hS⟩

theorem setA_turn {S' : List Int} {w' : World} (h : Own B (setA P k e b S * R) w) {D' : DataW Unit} {n : Nat} (h' : w'.ownsMap P k (RdB P e) b n D') (ht : w.mapTurned w' b) (hS : IsSet D' S') : Own B (setA P k e b S' * R) w' := by
  obtain ⟨es, clock, D, hb, F, hD, hS0, hl, hB⟩ := own_setA h
  obtain ⟨es', clock', hb', F', _, hD'⟩ := h'
  obtain ⟨es0, clock0, es1, clock1, hb0, rfl⟩ := ht
  refine own_turn (X := setA P k e b S) (o' := .map es' clock') (fun h ⟨_, _, _, e, _⟩ => ⟨_, e⟩) (fun h e => ⟨es', clock', D', e, F', hD', hS⟩) h ?_ hb' (fun c hc => heap_setBlock_other hb0 _ hc)
  have hlt := (Array.getElem?_eq_some_iff.1 hb0).1
  exact ⟨h.1.os, h.1.tape, h.1.output, by simpa [setBlock] using h.1.size, fun i hi => by rw [heap_setBlock_other hb0 _ (show i ≠ b by omega)]; exact h.1.block i hi⟩

theorem key_wf {x : Int} (h1 : -9223372036854775808 ≤ x) (h2 : x ≤ 9223372036854775807) : (Lit.int .i64 x).wf = true := by
  simp [Lit.wf, IntKind.min, IntKind.max, IntKind.signed, IntKind.bits]; omega

theorem isSet_nil : IsSet (.map []) [] := ⟨Maps.tidy_empty, fun x => by simp [Maps.has], fun x h => by simp at h, rfl⟩

theorem own_new_set (h : Own B R w) : Own B (setA P k e w.heap.size [] * R) (w.alloc (.map #[] 0)) := by
  refine (own_new_obj h _).mono ?_
  rintro _ ⟨h1, h2, d, rfl, rfl, b⟩
  obtain ⟨es, clock, hb, F, _, hD⟩ := World.ownsMap_made (H := Unit) w P k (RdB P e)
  have e1 := (MapKept.heap_alloc w (.map #[] 0)).1
  rw [e1] at hb
  simp only [Option.some.injEq, Obj.map.injEq] at hb
  obtain ⟨rfl, rfl⟩ := hb
  exact ⟨_, h2, d, rfl, ⟨#[], 0, _, rfl, F, hD, isSet_nil⟩, b⟩

/-- m[x] = true -/
theorem run_setPut [T : TySet P t k e] (h : Own B (setA P k e b S * R) w) {x : Int} (h1 : -9223372036854775808 ≤ x) (h2 : x ≤ 9223372036854775807) (hn : S.length < maxLen) :
    ∃ w', (Instr.mapUpdate t (.map (some b)) (.int .i64 x) (.bool true)).run P w = .ok () w' ∧ Own B (setA P k e b (if x ∈ S then S else x :: S) * R) w' := by
  obtain ⟨D, hm, hS⟩ := setA_map h
  have hk := Maps.keyOf_int_mk T.key (key_wf h1 h2)
  have hK := Maps.int_keyed T.key
  have hlit := hK.key hk
  obtain ⟨w', hrun, hm', ht⟩ := hm.store hK T.map hn hk (plainElem_bool T.elem true)
  refine ⟨w', hrun, setA_turn h hm' ht ⟨hS.tidy.put hlit _, fun y => ?_, fun y hy => ?_, ?_⟩⟩
  · by_cases e : y = x
    · subst e
      rw [Maps.has_put_same hS.tidy.isMap hlit]
      split <;> simp_all
    · rw [Maps.has_put_other (by simpa using e), hS.has]
      split <;> simp [e]
  · by_cases e : y = x
    · subst e
      rw [Maps.atKey_put_same hS.tidy.isMap hlit]
    · rw [Maps.atKey_put_other (by simpa using e)]
      refine hS.all y ?_
      split at hy
      · exact hy
      · simpa [e] using hy
  · rw [Maps.size_put hS.tidy, hS.has, hS.size]
    by_cases e : x ∈ S <;> simp [e]

/-- delete(m, x) -/
theorem run_setDel [T : TySet P t k e] (h : Own B (setA P k e b S * R) w) {x : Int} (h1 : -9223372036854775808 ≤ x) (h2 : x ≤ 9223372036854775807) (hd : S.Nodup) (ty : TypeId) :
    ∃ w', (Builtin.delete_ #[t, k] ty #[.map (some b), .int .i64 x]).run P w = .ok (.tuple #[]) w' ∧ Own B (setA P k e b (S.erase x) * R) w' := by
  obtain ⟨D, hm, hS⟩ := setA_map h
  have hk := Maps.keyOf_int_mk T.key (key_wf h1 h2)
  have hK := Maps.int_keyed T.key
  have hlit := hK.key hk
  obtain ⟨w', hrun, hm', ht⟩ := hm.drop hK T.map hk ty
  refine ⟨w', hrun, setA_turn h hm' ht ⟨hS.tidy.del _, fun y => ?_, fun y hy => ?_, ?_⟩⟩
  · by_cases e : y = x
    · subst e
      rw [Maps.has_del_same]
      simp [hd.mem_erase_iff]
    · rw [Maps.has_del_other (by simpa using e), hS.has]
      simp [hd.mem_erase_iff, e]
  · have := (hd.mem_erase_iff).1 hy
    rw [Maps.atKey_del_other (by simpa using this.1)]
    exact hS.all y this.2
  · have := Maps.size_del hS.tidy (k := .int .i64 x)
    rw [hS.has, hS.size] at this
    by_cases e : x ∈ S
    · rw [List.length_erase_of_mem e]
      simp [e] at this
      omega
    · rw [List.erase_of_not_mem e]
      simpa [e] using this

/-- m[x] -/
theorem run_setLook [T : TySet P t k e] (h : Own B (setA P k e b S * R) w) {x : Int} (h1 : -9223372036854775808 ≤ x) (h2 : x ≤ 9223372036854775807) :
    (Instr.lookup t (.map (some b)) (.int .i64 x) false).run P w = .ok (.bool (decide (x ∈ S))) w := by
  obtain ⟨D, hm, hS⟩ := setA_map h
  have hk := Maps.keyOf_int_mk T.key (key_wf h1 h2)
  have hK := Maps.int_keyed T.key
  obtain ⟨v, ps, hrun, hv⟩ := hm.lookup hK T.map (T.zero w) (plainElem_bool T.elem false) hk
  have hat : D.atKey (.int .i64 x) (.lit (.bool false)) = .lit (.bool (decide (x ∈ S))) := by
    by_cases e : x ∈ S
    · rw [hS.all x e]; simp [e]
    · rw [Maps.atKey_of_not_has (by rw [hS.has]; simpa using e)]; simp [e]
  rw [hat] at hv
  have hvv : v = .bool (decide (x ∈ S)) := by
    have he := T.elem
    unfold RdB plainElem at hv
    rw [he] at hv
    cases v <;> simp at hv
    rw [hv.1]
  rw [hrun, hvv]

/-- len(m) -/
theorem run_setLen [T : TySet P t k e] (h : Own B (setA P k e b S * R) w) (ty : TypeId) : (Builtin.len_ #[t] ty #[.map (some b)]).run P w = .ok (.int .i64 S.length) w := by
  obtain ⟨D, hm, hS⟩ := setA_map h
  rw [hm.len T.map ty, hS.size]

/-! the same at the operation -/
section
variable {A' : Assn} {ops : Array Oper} {Q : Exit → Act → World → Prop} {rest : List Oper} {o : Oper} {a : Act} {x : Int} {m key val : Operand}

theorem wpu_makeSet (h : Own B A w) [T : TySet P t k e] (ho : o.op = .makeMap t none) (hw : Region.wanted o (yielded ops a.tmps) = true) (kk : ∀ w', Own B (setA P k e w.heap.size [] * A) w' → wpList P ops Q rest (a.put o.dst (.map (some w.heap.size))) w') : wpList P ops Q (o :: rest) a w :=
  wpu_val (w' := w.alloc (.map #[] 0)) hw (by unfold execOp; rw [ho]; rfl) (kk _ (own_new_set h))
theorem wpu_newSet {l : List Oper} (h : Own B A w) (kk : ∀ w', Own B (setA P k e w.heap.size [] * A) w' → wpList P ops Q l a w') : wpList P ops Q l a (w.alloc (.map #[] 0)) := kk _ (own_new_set h)

theorem wpu_setPut (h : Own B A w) [T : TySet P t k e] (ho : o.op = .mapUpdate t m key val) (hw : Region.wanted o (yielded ops a.tmps) = true) (hm : evalO a m = some (.map (some b))) (hk : evalO a key = some (.int .i64 x)) (hv : evalO a val = some (.bool true))
    [tk : TakeF (setA P k e b) S A A'] (h1 : -9223372036854775808 ≤ x) (h2 : x ≤ 9223372036854775807) (hn : S.length < maxLen) (kk : ∀ w', Own B (setA P k e b (if x ∈ S then S else x :: S) * A') w' → wpList P ops Q rest (a.put o.dst undef) w') : wpList P ops Q (o :: rest) a w := by
  obtain ⟨w', hr, g⟩ := run_setPut (h.eq tk.out) h1 h2 hn (T := T)
  exact wpu_skip hw (by unfold execOp; rw [ho]; simp [evalO_eq hm, evalO_eq hk, evalO_eq hv, hr]) (kk w' g)

theorem wpu_setDel (h : Own B A w) [T : TySet P t k e] (ho : o.op = .call { callee := .builtin .delete, args := #[m, key], argTypes := #[t, k] }) (hw : Region.wanted o (yielded ops a.tmps) = true) (hm : evalO a m = some (.map (some b))) (hk : evalO a key = some (.int .i64 x))
    [tk : TakeF (setA P k e b) S A A'] (h1 : -9223372036854775808 ≤ x) (h2 : x ≤ 9223372036854775807) (hd : S.Nodup) (kk : ∀ w', Own B (setA P k e b (S.erase x) * A') w' → wpList P ops Q rest (a.put o.dst (.tuple #[])) w') : wpList P ops Q (o :: rest) a w := by
  obtain ⟨w', hr, g⟩ := run_setDel (h.eq tk.out) h1 h2 hd o.type (T := T)
  refine wpList_want hw fun _ hK => wp_of_builtin ho ?_ hr (hK _ _ (kk w' g))
  simp only [builtin, List.map_toArray, List.map_cons, List.map_nil, evalO_eq hm, evalO_eq hk]

theorem wpu_setLook (h : Own B A w) [T : TySet P t k e] (ho : o.op = .lookup t m key false) (hw : Region.wanted o (yielded ops a.tmps) = true) (hm : evalO a m = some (.map (some b))) (hk : evalO a key = some (.int .i64 x))
    [tk : TakeF (setA P k e b) S A A'] (h1 : -9223372036854775808 ≤ x) (h2 : x ≤ 9223372036854775807) (kk : wpList P ops Q rest (a.put o.dst (.bool (decide (x ∈ S)))) w) : wpList P ops Q (o :: rest) a w :=
  wpu_val hw (by unfold execOp; rw [ho]; simp [evalO_eq hm, evalO_eq hk, run_setLook (h.eq tk.out) h1 h2 (T := T)]) kk

theorem exec_setLen {A : Assn} (h : Own B A w) [T : TySet P t k e] (ho : o.op = .call { callee := .builtin .len, args := #[m], argTypes := #[t] }) (hm : evalO a m = some (.map (some b))) [tk : TakeF (setA P k e b) S A A'] : (execOp a.eval o).run P w = .ok (.value (.int .i64 S.length)) w := by
  have e : execOp a.eval o = (do pure (.value (← Builtin.len_ #[t] o.type #[.map (some b)]))) := by
    have e1 : execOp a.eval o = builtin .len #[t] o.type (#[m].map fun | .const _ => true | _ => false) (#[m].map a.eval) := by
      unfold execOp
      rw [ho]
      rfl
    rw [e1]
    simp only [builtin, List.map_toArray, List.map_cons, List.map_nil, evalO_eq hm]
  rw [e, Sem.run_bind, run_setLen (h.eq tk.out) o.type (T := T)]
  rfl
theorem wpu_setLen (h : Own B A w) [T : TySet P t k e] (ho : o.op = .call { callee := .builtin .len, args := #[m], argTypes := #[t] }) (hw : Region.wanted o (yielded ops a.tmps) = true) (hm : evalO a m = some (.map (some b)))
    [tk : TakeF (setA P k e b) S A A'] (kk : wpList P ops Q rest (a.put o.dst (.int .i64 S.length)) w) : wpList P ops Q (o :: rest) a w := wpu_val hw (exec_setLen h ho hm) kk
theorem wpq_setLen {ι : Type} {W : ι → World} {F F' : Assn} {q : Act → Prop} (hW : ∀ i, Own B F (W i)) [T : TySet P t k e] (ho : o.op = .call { callee := .builtin .len, args := #[m], argTypes := #[t] }) (hw : Region.wanted o (yielded ops a.tmps) = true) (hm : evalO a m = some (.map (some b)))
    [tk : TakeF (setA P k e b) S F F'] (kk : wpQuiet P ops (fun w' => ∃ i, w' = W i) q rest (a.put o.dst (.int .i64 S.length))) : wpQuiet P ops (fun w' => ∃ i, w' = W i) q (o :: rest) a := wpq_val hw (fun i => exec_setLen (hW i) ho hm) kk
end
end
end Go.Sl
