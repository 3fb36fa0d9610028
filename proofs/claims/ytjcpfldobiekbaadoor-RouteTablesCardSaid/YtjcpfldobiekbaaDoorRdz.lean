




/-
  Data that are read together with the form's reach: no string and no slice among them is longer, however deep it lies.
  Condition: none (lemmas over any program).
-/
import Derived.Test.YtjcpfldobiekbaaDoorLists
import Derived.Test.YtjcpfldobiekbaaDoorAuto
import Derived.Laws.Cover2
namespace Go.Sl
open Go Go.RowKit Go.ChangeShapes

section
variable {H : Type} {enc : TypeId × Value → H} {P : Program} {W : World} {t e : TypeId} {cs : List Value} {d : DataW H}

def RdZ {H : Type} (enc : TypeId × Value → H) (P : Program) (W : World) (t : TypeId) (cs : List Value) (d : DataW H) : Prop :=
  RdC enc P W t cs d ∧ ∀ n ∈ d.weights P t, n ≤ 140737488351232

theorem RdZ.rdc (h : RdZ enc P W t cs d) : RdC enc P W t cs d := h.1

theorem weightsAll_mem {P : Program} {e : TypeId} : ∀ {ds : List (DataW H)} {i : Nat} {d : DataW H}, ds[i]? = some d → ∀ n ∈ d.weights P e, n ∈ DataW.weightsAll P e ds
  | [], _, _, h, _, _ => by simp at h
  | d0 :: ds, 0, d, h, n, hn => by
    simp only [List.getElem?_cons_zero, Option.some.injEq] at h
    subst h
    simp only [DataW.weightsAll, List.mem_append]
    exact .inl hn
  | d0 :: ds, i + 1, d, h, n, hn => by
    simp only [List.getElem?_cons_succ] at h
    simp only [DataW.weightsAll, List.mem_append]
    exact .inr (weightsAll_mem h n hn)

theorem rdz_string (ht : P.underlying t = some .string) (h : RdZ enc P W t cs d) : ∃ l : List UInt8, cs = [str l] ∧ l.length ≤ 140737488351232 := by
  obtain ⟨l, e1, _, e2⟩ := rdc_string ht h.1
  subst e2
  exact ⟨l, e1, h.2 _ (by simp [DataW.weights])⟩

theorem rdc_float {k : FloatKind} (ht : P.underlying t = some (.float k)) (h : RdC enc P W t cs d) : ∃ b, cs = [.float k b] := by
  obtain ⟨f, ps, h⟩ := h
  cases f with
  | zero => simp [DataW.trod] at h
  | succ n =>
    unfold DataW.trod at h
    rw [ht] at h
    simp only at h
    split at h <;> first
      | exact ⟨_, rfl⟩
      | (cases h; done)
      | (rename_i h1 h2; cases h1; exact ⟨_, rfl⟩)
      | (split at h <;> first | (cases h; done) | exact ⟨_, rfl⟩ | (simp_all; done))
      | (simp_all; done)

theorem rdz_field {fs : Array Field} (ht : P.underlying t = some (.struct fs)) (h : RdZ enc P W t cs d) (i : Nat) {f : Field} (hi : fs[i]? = some f) {ft : TypeId} (h1 : f.type = ft) {o c : Nat} (h2 : f.offset = o) (h3 : P.cellsOf ft = c) :
    ∃ d', RdZ enc P W ft ((cs.drop o).take c) d' := by
  obtain ⟨⟨f0, ps, h⟩, hz⟩ := h
  obtain ⟨xs, n, _, e0, e1, e2, e3⟩ := DataW.trod_struct ht h
  simp only [Prod.mk.injEq] at e0
  obtain ⟨rfl, _⟩ := e0
  have hlt : i < xs.length := by rw [e2]; exact (Array.getElem?_eq_some_iff.1 hi).1
  subst h1 h2 h3
  refine ⟨xs[i].1, ⟨n, xs[i].2, ?_⟩, fun k hk => hz k ?_⟩
  · rw [e3 i f hi, List.getElem?_eq_getElem hlt]
  · rw [DataW.weights, ht]
    exact DataW.weights_mem_each (j := i) (t := f.type) (d := xs[i].1) (by simp [hi]) (by simp [hlt]) k hk

theorem rdz_slice {sz bytes : Nat} (ht : P.underlying t = some (.slice e)) (hc : P.cellsOf e = sz) (hb : P.bytesOf e = bytes) (h : RdZ enc P W t cs d) :
    ∃ v n xs, cs = [v] ∧ rd W sz v n xs ∧ n * bytes ≤ 140737488351232 ∧ ∀ i, i < n → ∃ di, RdZ enc P W e ((xs.drop (i * sz)).take sz) di := by
  obtain ⟨⟨f, ps, h⟩, hz⟩ := h
  rcases DataW.trod_slice ht h with ⟨rfl, hd⟩ | ⟨a, len, cap, elems, rest, n, _, rfl, hx, _, hl, hm, hlen, hel, _⟩
  · exact ⟨_, 0, [], rfl, rd_nil W sz, by omega, fun i hi => by omega⟩
  · simp only [Prod.mk.injEq] at hx
    obtain ⟨rfl, _⟩ := hx
    rw [hc] at hel
    have key : ∀ i, i < len → ∃ ds y, ds.length = sz ∧ (∀ k, k < sz → W.cell? (a.add (i * sz + k)) = ds[k]?) ∧ DataW.trod enc P W 0 (fun _ => true) true n e ds = some y ∧ elems[i]? = some y := by
      intro i hi
      have h1 := hel i hi
      rw [List.getElem?_eq_getElem (by omega), Option.bind_eq_some_iff] at h1
      obtain ⟨ds, h2, h3⟩ := h1
      obtain ⟨_, h4, h5⟩ := World.cells?_some h2
      refine ⟨ds, _, h4, fun k hk => ?_, h3, List.getElem?_eq_getElem (by omega)⟩
      rw [← addr_add_add]
      exact h5 k hk
    have some_ : ∀ j, j < len * sz → (W.cell? (a.add j)).isSome = true := by
      intro j hj
      have hz : 0 < sz := by
        rcases Nat.eq_zero_or_pos sz with e0 | e0
        · subst e0; omega
        · exact e0
      obtain ⟨ds, y, h1, h2, _⟩ := key (j / sz) (by rw [Nat.div_lt_iff_lt_mul hz]; exact hj)
      have hk : j % sz < sz := Nat.mod_lt _ hz
      have := h2 (j % sz) hk
      rw [Nat.mul_comm, Nat.div_add_mod] at this
      rw [this, List.getElem?_eq_getElem (by omega)]
      rfl
    have hz1 := hz ((elems.length + rest.length) * bytes) (by
      rw [DataW.weights, ht]
      simp [hb])
    refine ⟨_, len, (List.range (len * sz)).map fun j => (W.cell? (a.add j)).getD undef, rfl, ⟨some a, cap, rfl, hl, hm, by simp, (fun e => by cases e), fun a' ha j u hu => ?_⟩, ?_, fun i hi => ?_⟩
    · obtain rfl := Option.some.inj ha
      have hj : j < len * sz := by
        have := (List.getElem?_eq_some_iff.1 hu).1
        simpa using this
      simp only [List.getElem?_map, List.getElem?_range hj, Option.map_some, Option.some.injEq] at hu
      rw [← hu]
      obtain ⟨x, hx⟩ := Option.isSome_iff_exists.1 (some_ j hj)
      rw [hx]
      rfl
    · rw [hlen] at hz1
      exact Nat.le_trans (Nat.mul_le_mul_right _ (by omega)) hz1
    · obtain ⟨ds, y, h1, h2, h3, h4⟩ := key i hi
      refine ⟨y.1, ⟨n, y.2, ?_⟩, fun k hk => hz k ?_⟩
      · have e : ((((List.range (len * sz)).map fun j => (W.cell? (a.add j)).getD undef).drop (i * sz)).take sz) = ds := by
          have hle : (i + 1) * sz ≤ len * sz := Nat.mul_le_mul_right _ hi
          rw [Nat.add_mul, Nat.one_mul] at hle
          apply List.ext_getElem?
          intro k
          rw [List.getElem?_take]
          split
          · rename_i hk
            rw [List.getElem?_drop, List.getElem?_map, List.getElem?_range (by omega)]
            simp only [Option.map_some]
            rw [h2 k hk, List.getElem?_eq_getElem (by omega)]
            rfl
          · rename_i hk
            rw [List.getElem?_eq_none (by omega)]
        rw [e]
        exact h3
      · rw [DataW.weights, ht]
        simp only [List.mem_cons, List.mem_append]
        refine .inr (.inl (weightsAll_mem (i := i) (d := y.1) ?_ k hk))
        rw [List.getElem?_map, h4]
        rfl

theorem rdz_slice_cell (ht : P.underlying t = some (.slice e)) (h : RdZ enc P W t cs d) : ∃ v, cs = [v] := by
  obtain ⟨v, _, _, e1, _⟩ := rdc_slice ht rfl h.1
  exact ⟨v, e1⟩

/-- an argument, with the reach -/
theorem argz {v : Value} {ts : List TypeId} {ds : List (DataW H)} (h : Arg enc P W t v d) (hs : (DataW.weightsEach P ts ds).all (· ≤ reachBytes) = true) (j : Nat) (hj : ts[j]? = some t) (hd : ds[j]? = some d) : RdZ enc P W t v.cells.toList d := by
  refine ⟨h.2, fun n hn => ?_⟩
  have := List.all_eq_true.1 hs n (DataW.weights_mem_each hj hd n hn)
  have e : reachBytes = 140737488351232 := by decide
  rw [← e]
  simpa using this
theorem argz_slice {v : Value} {ts : List TypeId} {ds : List (DataW H)} (ht : P.underlying t = some (.slice e)) (h : Arg enc P W t v d) (hs : (DataW.weightsEach P ts ds).all (· ≤ reachBytes) = true) (j : Nat) (hj : ts[j]? = some t) (hd : ds[j]? = some d) : RdZ enc P W t [v] d := by
  have h2 := argz h hs j hj hd
  obtain ⟨⟨b, h1⟩, _⟩ := h
  rwa [val_one h1 (by rw [ht]; intro _ e; cases e) (by rw [ht]; intro _ _ e; cases e)] at h2
theorem argz_struct {v : Value} {ts : List TypeId} {ds : List (DataW H)} {fs : Array Field} (ht : P.underlying t = some (.struct fs)) (h : Arg enc P W t v d) (hs : (DataW.weightsEach P ts ds).all (· ≤ reachBytes) = true) (j : Nat) (hj : ts[j]? = some t) (hd : ds[j]? = some d) :
    ∃ cs : List Value, v = .agg cs.toArray ∧ RdZ enc P W t cs d := by
  have h2 := argz h hs j hj hd
  obtain ⟨⟨b, h1⟩, _⟩ := h
  obtain ⟨cs, rfl, e2⟩ := val_agg h1 ht
  rw [e2] at h2
  exact ⟨cs, rfl, h2⟩
end
end Go.Sl
