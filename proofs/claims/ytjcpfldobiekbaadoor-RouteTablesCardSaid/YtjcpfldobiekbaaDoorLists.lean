




/-
  Slices of slices and of numbers among the arguments; an element of an own slice written.
  Condition: none (lemmas on worlds).
-/
import Derived.Test.YtjcpfldobiekbaaDoorLaw
namespace Go.Sl
open Go Go.RowKit Go.ChangeShapes

section
variable {H : Type} {enc : TypeId × Value → H} {P : Program} {W B w : World} {A R : Assn} {t e e' : TypeId} {d : DataW H} {v : Value} {n sz : Nat} {xs : List Value}

theorem star_left_comm (X Y Z : Assn) : X * (Y * Z) = Y * (X * Z) := by ac_rfl

theorem rd_cell {ad : Addr} {cap m : Nat} (h : rd w sz (.slice (some ad) n cap) m xs) {j : Nat} {u : Value} (hj : xs[j]? = some u) : w.cell? (ad.add j) = some u := by
  obtain ⟨ao, cap', e, _, _, _, _, h5⟩ := h
  obtain ⟨rfl, rfl, rfl⟩ : some ad = ao ∧ n = m ∧ cap = cap' := by simpa using e
  exact h5 ad rfl j u hj

theorem rd_some {ao : Option Addr} {cap m : Nat} (h : rd w sz (.slice ao n cap) m xs) (hn : 0 < n) : ∃ ad, ao = some ad := by
  cases ao with
  | none =>
    obtain ⟨ao, cap', e, h1, _, _, h4, _⟩ := h
    obtain ⟨rfl, rfl, rfl⟩ : none = ao ∧ n = m ∧ cap = cap' := by simpa using e
    have := h4 rfl
    omega
  | some ad => exact ⟨ad, rfl⟩

/-- the cells of element k of a slice of structs -/
theorem rd_elem0 {ad : Addr} {cap m : Nat} (h : rd w sz (.slice (some ad) n cap) m xs) {k : Nat} {cs : List Value} (hx : (xs.drop (k * sz)).take sz = cs) {u : Value} (hu : cs[0]? = some u) : w.cell? (ad.add (k * sz)) = some u := by
  refine rd_cell h ?_
  rw [← hx, List.getElem?_take] at hu
  split at hu
  · rw [List.getElem?_drop] at hu; exact hu
  · cases hu
theorem rd_elem {ad : Addr} {cap m : Nat} (h : rd w sz (.slice (some ad) n cap) m xs) {k : Nat} {cs : List Value} (hx : (xs.drop (k * sz)).take sz = cs) (j : Nat) {u : Value} (hu : cs[j + 1]? = some u) :
    w.cell? ⟨(ad.add (k * sz)).block, (ad.add (k * sz)).off + (j + 1), none⟩ = some u := by
  have e : (⟨(ad.add (k * sz)).block, (ad.add (k * sz)).off + (j + 1), none⟩ : Addr) = (ad.add (k * sz)).add (j + 1) := by
    generalize ad.add (k * sz) = a
    simp [Addr.add]
  rw [e, addr_add_add]
  refine rd_cell h ?_
  rw [← hx, List.getElem?_take] at hu
  split at hu
  · rw [List.getElem?_drop] at hu; exact hu
  · cases hu

/-- the first k octets of a slice of octets -/
theorem rd_first {ao : Option Addr} {cap : Nat} {l : List UInt8} (hr : rd w 1 (.slice ao l.length cap) l.length (bs l)) (k : Nat) {K : Int} (hK : K = k) :
    ∃ y, y = l.take k ∧ y.length ≤ k ∧ y.length ≤ l.length ∧ min (l.length : Int) K = (y.length : Nat) ∧ rd w 1 (.slice ao y.length cap) y.length (bs y) := by
  subst hK
  refine ⟨l.take k, rfl, by simp; omega, by simp; omega, by simp; omega, ?_⟩
  have := rd_take1 hr (k := (l.take k).length) (by simp; omega)
  rwa [bs_take, List.length_take, Nat.min_comm, take_min, Nat.min_comm, ← List.length_take] at this

theorem arg_bytess (ht : P.underlying t = some (.slice e)) (hc : P.cellsOf e = 1) (he : P.underlying e = some (.slice e')) (he' : P.underlying e' = some (.int .u8)) (hc' : P.cellsOf e' = 1) (h : Arg enc P W t v d) :
    ∃ n xs, rd W 1 v n xs ∧ ((n = 0 ∧ d = .nil) ∨ ∃ es sp, d = .slice es sp ∧ es.length = n) ∧ ∀ i, i < n → ∃ v l, xs[i]? = some v ∧ rd W 1 v l.length (bs l) := by
  obtain ⟨n, xs, hr, hd, hel⟩ := arg_slice ht hc h
  refine ⟨n, xs, hr, hd, fun i hi => ?_⟩
  obtain ⟨di, h1⟩ := hel i hi
  obtain ⟨v', l, e1, h2, _⟩ := rdc_bytes he he' hc' h1
  refine ⟨v', l, ?_, h2⟩
  have := congrArg (·[0]?) e1
  simpa using this

theorem arg_ints (ht : P.underlying t = some (.slice e)) (hc : P.cellsOf e = 1) (he : P.underlying e = some (.int .i64)) (h : Arg enc P W t v d) :
    ∃ n xs, rd W 1 v n xs ∧ ((n = 0 ∧ d = .nil) ∨ ∃ es sp, d = .slice es sp ∧ es.length = n) ∧ ∀ i, i < n → ∃ x, xs[i]? = some (.int .i64 x) ∧ -9223372036854775808 ≤ x ∧ x ≤ 9223372036854775807 := by
  obtain ⟨n, xs, hr, hd, hel⟩ := arg_slice ht hc h
  refine ⟨n, xs, hr, hd, fun i hi => ?_⟩
  obtain ⟨di, h1⟩ := hel i hi
  obtain ⟨x, e1, h2⟩ := rdc_i64 he h1
  refine ⟨x, ?_, h2⟩
  have := congrArg (·[0]?) e1
  simpa using this

/-- a field of a struct that is read -/
theorem rdc_field {cs : List Value} {fs : Array Field} (ht : P.underlying t = some (.struct fs)) (h : RdC enc P W t cs d) (i : Nat) {f : Field} (hi : fs[i]? = some f) {ft : TypeId} (h1 : f.type = ft) {o c : Nat} (h2 : f.offset = o) (h3 : P.cellsOf ft = c) :
    ∃ d', RdC enc P W ft ((cs.drop o).take c) d' := by
  obtain ⟨d', h⟩ := (rdc_struct ht h).2 i f hi
  rw [h1, h2, h3] at h
  exact ⟨d', h⟩

theorem take_one {cs : List Value} {i : Nat} {v : Value} (h : (cs.drop i).take 1 = [v]) : cs[i]? = some v := by
  have := congrArg (·[0]?) h
  simpa using this

/-- an element of an own slice can be written -/
theorem sl_free {ad : Addr} {cap m : Nat} (h : Own B (sl 1 (.slice (some ad) m cap) n xs * R) w) {k : Nat} (hk : k < n) : w.frozen? (ad.add k) = false := by
  rcases own_sl h with ⟨e1, _⟩ | ⟨b, off, cap', cs, e1, a1, a2, a3, a4, a5, ho⟩
  · cases e1
  · obtain ⟨rfl, rfl, rfl⟩ : ad = ⟨b, off, none⟩ ∧ m = n ∧ cap = cap' := by simpa using e1
    rw [Addr.add_lit]
    exact own_unfrozen ho (off + k) (by omega)

theorem sl_set {ad : Addr} {cap m : Nat} (h : Own B (sl 1 (.slice (some ad) m cap) n xs * R) w) {k : Nat} (hk : k < n) (u : Value) : Own B (sl 1 (.slice (some ad) m cap) n (xs.set k u) * R) (w.setCell (ad.add k) u) := by
  rcases own_sl h with ⟨e1, _⟩ | ⟨b, off, cap', cs, e1, a1, a2, a3, a4, a5, ho⟩
  · cases e1
  · obtain ⟨rfl, rfl, rfl⟩ : ad = ⟨b, off, none⟩ ∧ m = n ∧ cap = cap' := by simpa using e1
    rw [Addr.add_lit]
    refine own_sl_mk a1 a2 (by simpa using a3) (by simpa using a4) ?_ (own_set ho (off + k) u)
    rw [← a5]
    apply List.ext_getElem?
    intro j
    simp only [List.getElem?_take, List.getElem?_drop, List.getElem?_set]
    have hl := a4
    by_cases hj : k = j
    · subst hj
      have : k < min m (cs.length - off) := by omega
      simp [this, show off + k < cs.length by omega, hk]
    · simp [hj]
end
end Go.Sl
