




/-
  A map from strings to bools that the call itself has made, as a set: each key that is there holds true.
  Condition: none (lemmas on worlds).
-/
import Derived.Test.YtjcpfldobiekbaaDoorAuto
import Derived.Maps.OwnSet
import Derived.Maps.StringElems
namespace Go.Sl
open Go Go.RowKit Go.ChangeShapes Go.BigFrame Go.ChangeMaps Go.MapKept
open Go.WideElems (Fit rg)
open Go.Maps (Keyed)

/-- t is map[string]bool, its key's type k, its element's e -/
class TySS (P : Program) (t : TypeId) (k e : outParam TypeId) : Prop where
  map : P.underlying t = some (.map k e)
  key : P.underlying k = some .string
  elem : P.underlying e = some .bool
  zero : ∀ w, (zeroValue e).run P w = .ok (.bool false) w

abbrev RdT (P : Program) (e : TypeId) : Value → Option (DataW Unit × List MemPlace) := plainElem P e

structure IsSS (D : DataW Unit) (S : List (List UInt8)) : Prop where
  tidy : Maps.Tidy D
  has : ∀ x, Maps.has D (.string x) = decide (x ∈ S)
  all : ∀ x, x ∈ S → D.atKey (.string x) (.lit (.bool false)) = .lit (.bool true)

/-- block b is the set S -/
def ssA (P : Program) (k e : TypeId) (b : Nat) (S : List (List UInt8)) : Assn := fun h =>
  ∃ es clock D, h = Hp.one b (.map es clock) ∧ Fit P k (RdT P e) es clock ∧ D = .map ((es.toList.map (rg P k (RdT P e))).foldr DataW.insert []) ∧ IsSS D S ∧ es.size ≤ S.length

section
variable {P : Program} {B w : World} {A R : Assn} {t k e : TypeId} {b : Nat} {S : List (List UInt8)}

theorem own_ssA (h : Own B (ssA P k e b S * R) w) : ∃ es clock D, w.heap[b]? = some (.map es clock) ∧ Fit P k (RdT P e) es clock ∧ D = .map ((es.toList.map (rg P k (RdT P e))).foldr DataW.insert []) ∧ IsSS D S ∧ es.size ≤ S.length ∧ B.heap.size ≤ b := by
  obtain ⟨hb, _, ⟨h1, h2, d, rfl, ⟨es, clock, D, rfl, F, hD, hS, hl⟩, _⟩, kk⟩ := h
  have := kk b (.map es clock) (by simp [Hp.un, Hp.one])
  exact ⟨es, clock, D, this.2, F, hD, hS, hl, this.1⟩

theorem ssA_map (h : Own B (ssA P k e b S * R) w) : ∃ D, w.ownsMap P k (RdT P e) b S.length D ∧ IsSS D S := by
  obtain ⟨es, clock, D, hb, F, hD, hS, hl, _⟩ := own_ssA h
  exact ⟨D, ⟨es, clock, hb, F, hl, hD⟩, hS⟩

theorem ssA_turn {S' : List (List UInt8)} {w' : World} (h : Own B (ssA P k e b S * R) w) {D' : DataW Unit} (h' : w'.ownsMap P k (RdT P e) b S'.length D') (ht : w.mapTurned w' b) (hS : IsSS D' S') : Own B (ssA P k e b S' * R) w' := by
  obtain ⟨es, clock, D, hb, F, hD, hS0, hl, hB⟩ := own_ssA h
  obtain ⟨es', clock', hb', F', hl', hD'⟩ := h'
  obtain ⟨es0, clock0, es1, clock1, hb0, rfl⟩ := ht
  refine own_turn (X := ssA P k e b S) (o' := .map es' clock') (fun h ⟨_, _, _, e, _⟩ => ⟨_, e⟩) (fun h e => ⟨es', clock', D', e, F', hD', hS, hl'⟩) h ?_ hb' (fun c hc => heap_setBlock_other hb0 _ hc)
  have hlt := (Array.getElem?_eq_some_iff.1 hb0).1
  exact ⟨h.1.os, h.1.tape, h.1.output, by simpa [setBlock] using h.1.size, fun i hi => by rw [heap_setBlock_other hb0 _ (show i ≠ b by omega)]; exact h.1.block i hi⟩

theorem isSS_nil : IsSS (.map []) [] := ⟨Maps.tidy_empty, fun x => by simp [Maps.has], fun x h => by simp at h⟩

theorem own_new_ss (h : Own B R w) : Own B (ssA P k e w.heap.size [] * R) (w.alloc (.map #[] 0)) := by
  refine (own_new_obj h _).mono ?_
  rintro _ ⟨h1, h2, d, rfl, rfl, b⟩
  obtain ⟨es, clock, hb, F, _, hD⟩ := World.ownsMap_made (H := Unit) w P k (RdT P e)
  have e1 := (MapKept.heap_alloc w (.map #[] 0)).1
  rw [e1] at hb
  simp only [Option.some.injEq, Obj.map.injEq] at hb
  obtain ⟨rfl, rfl⟩ := hb
  exact ⟨_, h2, d, rfl, ⟨#[], 0, _, rfl, F, hD, isSS_nil, by simp⟩, b⟩

/-- m[x] = true -/
theorem run_ssPut [T : TySS P t k e] (h : Own B (ssA P k e b S * R) w) {x : List UInt8} (hx : x.length ≤ maxLen) (hn : S.length < maxLen) :
    ∃ w', (Instr.mapUpdate t (.map (some b)) (str x) (.bool true)).run P w = .ok () w' ∧ Own B (ssA P k e b (S ++ [x]) * R) w' := by
  obtain ⟨D, hm, hS⟩ := ssA_map h
  have hk : keyOf P k (str x) = some (.string x) := Go.WideMaps.keyOf_string_mk T.key (s := ⟨x.toArray⟩) (by simpa [ByteArray.size] using hx)
  have hK := Maps.string_keyed T.key
  have hlit := hK.key hk
  obtain ⟨w', hrun, hm', ht⟩ := hm.store hK T.map hn hk (plainElem_bool T.elem true)
  have hm'' : w'.ownsMap P k (RdT P e) b (S ++ [x]).length (D.put (.string x) (.lit (.bool true))) := by rw [List.length_append]; exact hm'
  refine ⟨w', hrun, ssA_turn h hm'' ht ⟨hS.tidy.put hlit _, fun y => ?_, fun y hy => ?_⟩⟩
  · by_cases e : y = x
    · subst e
      rw [Maps.has_put_same hS.tidy.isMap hlit]
      simp
    · rw [Maps.has_put_other (by simpa using e), hS.has]
      simp [e]
  · by_cases e : y = x
    · subst e
      rw [Maps.atKey_put_same hS.tidy.isMap hlit]
    · rw [Maps.atKey_put_other (by simpa using e)]
      refine hS.all y ?_
      simpa [e] using hy

/-- m[x] -/
theorem run_ssLook [T : TySS P t k e] (h : Own B (ssA P k e b S * R) w) {x : List UInt8} (hx : x.length ≤ maxLen) :
    (Instr.lookup t (.map (some b)) (str x) false).run P w = .ok (.bool (decide (x ∈ S))) w := by
  obtain ⟨D, hm, hS⟩ := ssA_map h
  have hk : keyOf P k (str x) = some (.string x) := Go.WideMaps.keyOf_string_mk T.key (s := ⟨x.toArray⟩) (by simpa [ByteArray.size] using hx)
  have hK := Maps.string_keyed T.key
  obtain ⟨v, ps, hrun, hv⟩ := hm.lookup hK T.map (T.zero w) (plainElem_bool T.elem false) hk
  have hat : D.atKey (.string x) (.lit (.bool false)) = .lit (.bool (decide (x ∈ S))) := by
    by_cases e : x ∈ S
    · rw [hS.all x e]; simp [e]
    · rw [Maps.atKey_of_not_has (by rw [hS.has]; simpa using e)]; simp [e]
  rw [hat] at hv
  have hvv : v = .bool (decide (x ∈ S)) := by
    have he := T.elem
    unfold RdT plainElem at hv
    rw [he] at hv
    cases v <;> simp at hv
    rw [hv.1]
  rw [hrun, hvv]

/-! the same at the operation -/
section
variable {A' : Assn} {ops : Array Oper} {Q : Exit → Act → World → Prop} {rest : List Oper} {o : Oper} {a : Act} {x : List UInt8} {m key val y z : Operand} {d : Option Tmp} {ty T : TypeId} {pos : String} {after : Array Edge} {g : Option (Nat × Bool)}
theorem at_insert (h : wpList P ops Q (⟨d, .insert T m y z, ty, pos, after, g⟩ :: rest) a w) : wpList P ops Q (⟨d, .insert T m y z, ty, pos, after, g⟩ :: rest) a w := h
theorem wpu_makeSS (h : Own B A w) [T : TySS P t k e] (ho : o.op = .makeMap t none) (hw : Region.wanted o (yielded ops a.tmps) = true) (kk : ∀ w', Own B (ssA P k e w.heap.size [] * A) w' → wpList P ops Q rest (a.put o.dst (.map (some w.heap.size))) w') : wpList P ops Q (o :: rest) a w :=
  wpu_val (w' := w.alloc (.map #[] 0)) hw (by unfold execOp; rw [ho]; rfl) (kk _ (own_new_ss h))
theorem wpu_ssPut (h : Own B A w) [T : TySS P t k e] (ho : o.op = .mapUpdate t m key val ∨ o.op = .insert t m key val) (hw : Region.wanted o (yielded ops a.tmps) = true) (hm : evalO a m = some (.map (some b))) (hk : evalO a key = some (str x)) (hv : evalO a val = some (.bool true))
    [tk : TakeF (ssA P k e b) S A A'] (h1 : x.length ≤ maxLen) (hn : S.length < maxLen) (kk : ∀ w', Own B (ssA P k e b (S ++ [x]) * A') w' → wpList P ops Q rest (a.put o.dst undef) w') : wpList P ops Q (o :: rest) a w := by
  obtain ⟨w', hr, g⟩ := run_ssPut (h.eq tk.out) h1 hn (T := T)
  refine wpu_skip hw ?_ (kk w' g)
  unfold execOp
  rcases ho with ho | ho <;> rw [ho] <;> simp [evalO_eq hm, evalO_eq hk, evalO_eq hv, hr]
theorem wpu_ssLook (h : Own B A w) [T : TySS P t k e] (ho : o.op = .lookup t m key false) (hw : Region.wanted o (yielded ops a.tmps) = true) (hm : evalO a m = some (.map (some b))) (hk : evalO a key = some (str x))
    [tk : TakeF (ssA P k e b) S A A'] (h1 : x.length ≤ maxLen) {r : Bool} (hr : decide (x ∈ S) = r) (kk : wpList P ops Q rest (a.put o.dst (.bool r)) w) : wpList P ops Q (o :: rest) a w := by
  subst hr
  exact wpu_val hw (by unfold execOp; rw [ho]; simp [evalO_eq hm, evalO_eq hk, run_ssLook (h.eq tk.out) h1 (T := T)]) kk
end
end
end Go.Sl
