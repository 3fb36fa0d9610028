




/-
  Slices as lists: one that is read ('rd'), one that is the call's own ('sl'); append, copy, make, the bytes of a string.
  Condition: none (lemmas on worlds).
-/
import Derived.Test.YtjcpfldobiekbaaDoorSl
namespace Go.Sl
open Go Go.RowKit

/-- in 'w' the slice v has n elements of sz cells each, and these are xs -/
def rd (w : World) (sz : Nat) (v : Value) (n : Nat) (xs : List Value) : Prop :=
  ∃ ao cap, v = .slice ao n cap ∧ n ≤ cap ∧ cap ≤ maxLen ∧ xs.length = n * sz ∧ (ao = none → cap = 0) ∧ ∀ a, ao = some a → ∀ (j : Nat) u, xs[j]? = some u → w.cell? (a.add j) = some u

/-- the slice v is the call's own: n elements of sz cells each, which are xs; what lies behind them is nobody else's -/
def sl (sz : Nat) (v : Value) (n : Nat) (xs : List Value) : Assn := fun h =>
  ∃ ao cap, v = .slice ao n cap ∧ n ≤ cap ∧ cap ≤ maxLen ∧ xs.length = n * sz ∧
    ((ao = none ∧ cap = 0 ∧ h = Hp.nil) ∨ ∃ b off cs, ao = some ⟨b, off, none⟩ ∧ off + cap * sz ≤ cs.length ∧ (cs.drop off).take (n * sz) = xs ∧ blk b cs h)

section
variable {B w : World} {A R : Assn} {T : TypeId} {sz : Nat} {v : Value} {n : Nat} {xs : List Value}

theorem rd.len (h : rd w sz v n xs) : xs.length = n * sz := by obtain ⟨_, _, _, _, _, h, _⟩ := h; exact h
theorem rd.one (h : rd w sz v n xs) : v.oneCell' = true := by obtain ⟨_, _, rfl, _⟩ := h; rfl
theorem rd.max (h : rd w sz v n xs) : n ≤ maxLen := by obtain ⟨_, _, _, h1, h2, _⟩ := h; omega

theorem rd.below {w' : World} {k : Nat} (h : rd w sz v n xs) (hk : ∀ a : Addr, (w.cell? a).isSome = true → a.block < k) (hb : Below k w w') : rd w' sz v n xs := by
  obtain ⟨ao, cap, rfl, h1, h2, h3, h4, h5⟩ := h
  refine ⟨ao, cap, rfl, h1, h2, h3, h4, fun a ha j u hu => ?_⟩
  have hc := h5 a ha j u hu
  exact (hb.cell (hk _ (by rw [hc]; rfl))).trans hc

/-- what could be read at the beginning can be read still -/
theorem rd.old (h : rd B sz v n xs) (ho : Own B A w) : rd w sz v n xs :=
  h.below (fun _ hc => World.block_lt_of_cell? B _ (Option.eq_some_of_isSome hc)) ho.1

theorem rd_nil (w : World) (sz : Nat) : rd w sz (.slice none 0 0) 0 [] := ⟨none, 0, rfl, Nat.le_refl _, Nat.zero_le _, by simp, fun _ => rfl, fun _ h => by cases h⟩

theorem own_nil (h : Own B R w) (sz : Nat) : Own B (sl sz (.slice none 0 0) 0 [] * R) w := by
  have e : emp * R = R := emp_star R
  rw [← e] at h
  refine h.mono ?_
  rintro _ ⟨h1, h2, d, rfl, rfl, r⟩
  exact ⟨_, h2, d, rfl, ⟨none, 0, rfl, Nat.le_refl _, Nat.zero_le _, by simp, .inl ⟨rfl, rfl, rfl⟩⟩, r⟩

/-- the two ways of a slice that is owned -/
theorem own_sl (h : Own B (sl sz v n xs * R) w) :
    (v = .slice none 0 0 ∧ n = 0 ∧ xs = [] ∧ Own B R w) ∨
    ∃ b off cap cs, v = .slice (some ⟨b, off, none⟩) n cap ∧ n ≤ cap ∧ cap ≤ maxLen ∧ xs.length = n * sz ∧ off + cap * sz ≤ cs.length ∧ (cs.drop off).take (n * sz) = xs ∧ Own B (blk b cs * R) w := by
  obtain ⟨hb, _, ⟨h1, h2, d, rfl, ⟨ao, cap, rfl, a1, a2, a3, a4⟩, r⟩, k⟩ := h
  rcases a4 with ⟨rfl, rfl, rfl⟩ | ⟨b, off, cs, rfl, c1, c2, c3⟩
  · have : n = 0 := by omega
    subst this
    have e : Hp.un Hp.nil h2 = h2 := by funext x; simp [Hp.un, Hp.nil]
    rw [e] at k
    exact .inl ⟨rfl, rfl, List.eq_nil_of_length_eq_zero (by simpa using a3), hb, h2, r, k⟩
  · exact .inr ⟨b, off, cap, cs, rfl, a1, a2, a3, c1, c2, hb, _, ⟨h1, h2, d, rfl, c3, r⟩, k⟩

theorem own_sl_mk {b off cap : Nat} {cs : List Value} (h1 : n ≤ cap) (h2 : cap ≤ maxLen) (h3 : xs.length = n * sz) (h4 : off + cap * sz ≤ cs.length) (h5 : (cs.drop off).take (n * sz) = xs)
    (h : Own B (blk b cs * R) w) : Own B (sl sz (.slice (some ⟨b, off, none⟩) n cap) n xs * R) w := by
  refine h.mono ?_
  rintro _ ⟨x1, x2, d, rfl, a, r⟩
  exact ⟨x1, x2, d, rfl, ⟨_, cap, rfl, h1, h2, h3, .inr ⟨b, off, cs, rfl, h4, h5, a⟩⟩, r⟩

/-- what is owned can be read -/
theorem own_rd (h : Own B (sl sz v n xs * R) w) : rd w sz v n xs := by
  rcases own_sl h with ⟨rfl, rfl, rfl, _⟩ | ⟨b, off, cap, cs, rfl, h1, h2, h3, h4, h5, ho⟩
  · exact rd_nil w sz
  · refine ⟨_, cap, rfl, h1, h2, h3, (fun e => by cases e), fun a ha j u hu => ?_⟩
    obtain rfl := Option.some.inj ha
    rw [Addr.add_lit, own_cell ho]
    rw [← h5] at hu
    rw [List.getElem?_take] at hu
    split at hu
    · rw [List.getElem?_drop] at hu; exact hu
    · cases hu

theorem has_rd (hA : A = sl sz v n xs * R) : ∀ w, Own B A w → rd w sz v n xs := fun _ h => own_rd (h.eq hA)

theorem addr_add_add (a : Addr) (m k : Nat) : (a.add m).add k = a.add (m + k) := by
  unfold Addr.add
  by_cases e0 : m = 0
  · simp [e0]
  · by_cases e1 : k = 0
    · simp [e1]
    · have e2 : ¬ (m + k = 0) := by omega
      simp [e0, e1, Nat.add_assoc]

/-- a slice that is read, cut -/
theorem rd_cut {ao : Option Addr} {cap : Nat} (_hz : 0 < sz) (h : rd w sz (.slice ao n cap) n xs) (lo hi : Nat) (h1 : lo ≤ hi) (h2 : hi ≤ n) :
    rd w sz (.slice (if cap = lo then ao else ao.map (·.add (lo * sz))) (hi - lo) (cap - lo)) (hi - lo) ((xs.drop (lo * sz)).take ((hi - lo) * sz)) := by
  obtain ⟨ao', cap', e, a1, a2, a3, a4, a5⟩ := h
  obtain ⟨rfl, rfl⟩ : ao = ao' ∧ cap = cap' := by simpa using e
  refine ⟨_, _, rfl, by omega, by omega, ?_, ?_, ?_⟩
  · simp only [List.length_take, List.length_drop, a3]
    have : (hi - lo) * sz ≤ n * sz - lo * sz := by rw [← Nat.sub_mul]; exact Nat.mul_le_mul_right _ (by omega)
    omega
  · intro e
    split at e
    · have := a4 e; omega
    · cases ao with
      | none => have := a4 rfl; omega
      | some a => cases e
  · intro a ha j u hu
    have hj : j < (hi - lo) * sz := by
      have := (List.getElem?_eq_some_iff.1 hu).1
      simp only [List.length_take] at this
      omega
    rw [List.getElem?_take, if_pos hj, List.getElem?_drop] at hu
    split at ha
    · have h3 : hi - lo = 0 := by omega
      rw [h3] at hj
      omega
    · cases ao with
      | none => cases ha
      | some a0 =>
        obtain rfl := Option.some.inj ha
        have := a5 a0 rfl _ _ hu
        rw [← this]
        congr 1
        exact addr_add_add a0 (lo * sz) j

theorem rd_cut1 {ao : Option Addr} {cap : Nat} (h : rd w 1 (.slice ao n cap) n xs) (lo hi : Nat) (h1 : lo ≤ hi) (h2 : hi ≤ n) :
    rd w 1 (.slice (if cap = lo then ao else ao.map (·.add lo)) (hi - lo) (cap - lo)) (hi - lo) ((xs.drop lo).take (hi - lo)) := by
  have := rd_cut (by decide) h lo hi h1 h2
  simpa only [Nat.mul_one] using this

theorem rd_take1 {ao : Option Addr} {cap : Nat} (h : rd w 1 (.slice ao n cap) n xs) {k : Nat} (hk : k ≤ n) : rd w 1 (.slice ao k cap) k (xs.take k) := by
  obtain ⟨ao', cap', e, a1, a2, a3, a4, a5⟩ := h
  obtain ⟨rfl, rfl⟩ : ao = ao' ∧ cap = cap' := by simpa using e
  refine ⟨ao, cap, rfl, by omega, a2, by simp only [List.length_take, a3]; omega, a4, fun a ha j u hu => ?_⟩
  rw [List.getElem?_take] at hu
  split at hu
  · exact a5 a ha j u hu
  · cases hu

theorem rd_take {ao : Option Addr} {cap : Nat} (h : rd w sz (.slice ao n cap) n xs) {k : Nat} (hk : k ≤ n) : rd w sz (.slice ao k cap) k (xs.take (k * sz)) := by
  obtain ⟨ao', cap', e, a1, a2, a3, a4, a5⟩ := h
  obtain ⟨rfl, rfl⟩ : ao = ao' ∧ cap = cap' := by simpa using e
  refine ⟨ao, cap, rfl, by omega, a2, ?_, a4, fun a ha j u hu => ?_⟩
  · have : k * sz ≤ n * sz := Nat.mul_le_mul_right _ hk
    simp only [List.length_take, a3]
    omega
  · rw [List.getElem?_take] at hu
    split at hu
    · exact a5 a ha j u hu
    · cases hu

/-- an owned slice, cut at its end -/
theorem own_take {ao : Option Addr} {cap : Nat} (h : Own B (sl sz (.slice ao n cap) n xs * R) w) {k : Nat} (hk : k ≤ n) : Own B (sl sz (.slice ao k cap) k (xs.take (k * sz)) * R) w := by
  have hkn : k * sz ≤ n * sz := Nat.mul_le_mul_right _ hk
  rcases own_sl h with ⟨e1, rfl, rfl, ho⟩ | ⟨b, off, cap', cs, e1, a1, a2, a3, a4, a5, ho⟩
  · obtain ⟨rfl, rfl⟩ : ao = none ∧ cap = 0 := by simpa using e1
    obtain rfl : k = 0 := by omega
    simpa using own_nil ho sz
  · obtain ⟨rfl, rfl⟩ : ao = some ⟨b, off, none⟩ ∧ cap = cap' := by simpa using e1
    refine own_sl_mk (by omega) a2 ?_ a4 ?_ ho
    · simp only [List.length_take, a3]; omega
    · rw [← a5, List.take_take]; congr 1; omega

theorem own_take1 {ao : Option Addr} {cap : Nat} (h : Own B (sl 1 (.slice ao n cap) n xs * R) w) {k : Nat} (hk : k ≤ n) : Own B (sl 1 (.slice ao k cap) k (xs.take k) * R) w := by
  have := own_take h hk
  simpa only [Nat.mul_one] using this

/-- an owned slice, clipped -/
theorem own_clip {ao : Option Addr} {cap : Nat} (h : Own B (sl sz (.slice ao n cap) n xs * R) w) : Own B (sl sz (.slice ao n n) n xs * R) w := by
  rcases own_sl h with ⟨e1, rfl, rfl, ho⟩ | ⟨b, off, cap', cs, e1, a1, a2, a3, a4, a5, ho⟩
  · obtain ⟨rfl, rfl⟩ : ao = none ∧ cap = 0 := by simpa using e1
    exact own_nil ho sz
  · obtain ⟨rfl, rfl⟩ : ao = some ⟨b, off, none⟩ ∧ cap = cap' := by simpa using e1
    have : n * sz ≤ cap * sz := Nat.mul_le_mul_right _ a1
    exact own_sl_mk (Nat.le_refl _) (by omega) a3 (by omega) a5 ho

/-- an owned slice, cut at its beginning -/
theorem own_drop {ao : Option Addr} {cap : Nat} (h : Own B (sl sz (.slice ao n cap) n xs * R) w) (_hz : 0 < sz) {k : Nat} (hk : k ≤ n) :
    Own B (sl sz (.slice (if cap = k then ao else ao.map (·.add (k * sz))) (n - k) (cap - k)) (n - k) (xs.drop (k * sz)) * R) w := by
  have hkn : k * sz ≤ n * sz := Nat.mul_le_mul_right _ hk
  rcases own_sl h with ⟨e1, rfl, rfl, ho⟩ | ⟨b, off, cap', cs, e1, a1, a2, a3, a4, a5, ho⟩
  · obtain ⟨rfl, rfl⟩ : ao = none ∧ cap = 0 := by simpa using e1
    obtain rfl : k = 0 := by omega
    simpa using own_nil ho sz
  · obtain ⟨rfl, rfl⟩ : ao = some ⟨b, off, none⟩ ∧ cap = cap' := by simpa using e1
    have hkc : k * sz ≤ cap * sz := Nat.mul_le_mul_right _ (by omega)
    have hl : (xs.drop (k * sz)).length = (n - k) * sz := by rw [List.length_drop, a3, Nat.sub_mul]
    split
    · rename_i e
      obtain rfl : n = k := by omega
      have hc0 : cap - n = 0 := by omega
      refine own_sl_mk (by omega) (by omega) hl (by rw [hc0]; omega) ?_ ho
      have h0 : (n - n) * sz = 0 := by simp
      rw [h0, List.take_zero, List.drop_eq_nil_of_le (by omega)]
    · simp only [Option.map_some, Addr.add_lit]
      refine own_sl_mk (off := off + k * sz) (cap := cap - k) (cs := cs) (by omega) (by omega) hl ?_ ?_ ?_
      · rw [Nat.sub_mul]; omega
      · rw [← a5, List.drop_take, List.drop_drop, Nat.sub_mul]
      · exact ho

/-! ### what the operations do -/

variable {P : Program}

theorem run_cells_rd (h : rd w sz v n xs) : (Builtin.firstCells sz n v).run P w = .ok xs.toArray w := by
  obtain ⟨ao, cap, rfl, h1, h2, h3, h4, h5⟩ := h
  cases ao with
  | none =>
    have : cap = 0 := h4 rfl
    have hx : xs = [] := List.eq_nil_of_length_eq_zero (by rw [h3]; have : n = 0 := (by omega); simp [this])
    subst hx
    rfl
  | some a => exact run_firstCells_some w sz n a n cap xs h3 (h5 a rfl)

theorem run_storeCells_fr (g o : Nat) (t : TypeId) (fr : Nat × Nat) : ∀ (vs : List Value) (i : Nat) (cur : Array Value) (w : World), (fr.1 = fr.2 ∨ cur.size ≤ fr.1) → w.heap[g]? = some (.cells cur t fr) → o + i + vs.length ≤ cur.size → (∀ v ∈ vs, v.oneCell' = true) →
    (storeCells ⟨g, o, none⟩ vs i).run P w = .ok () (w.setRow g (cur.toList.take (o + i) ++ vs ++ cur.toList.drop (o + i + vs.length)).toArray)
  | [], i, cur, w, _, hg, _, _ => by
    simp only [storeCells, List.append_nil, List.length_nil, Nat.add_zero, List.take_append_drop, Array.toArray_toList]
    rw [setRow_self w g cur t fr hg]
    rfl
  | v :: rest, i, cur, w, hf, hg, hl, h1 => by
    have hi : o + i < cur.size := by simp at hl; omega
    have hadd : (⟨g, o, none⟩ : Addr).add i = ⟨g, o + i, none⟩ := by unfold Addr.add; split <;> simp_all
    have hcell : w.cell? ⟨g, o + i, none⟩ = some cur[o + i] := by simp [World.cell?, hg, hi]
    have hfro : w.frozen? ⟨g, o + i, none⟩ = false := by
      simp only [World.frozen?, hg, Bool.and_eq_false_iff, decide_eq_false_iff_not]
      omega
    have hst : (store ((⟨g, o, none⟩ : Addr).add i) v).run P w = .ok () (w.setRow g (cur.setIfInBounds (o + i) v)) := by
      rw [hadd, run_store P w _ v _ (h1 v (by simp)), hcell]
      simp [hfro, setCell_eq_setRow w g (o + i) cur t fr v hg]
    have ih := run_storeCells_fr g o t fr rest (i + 1) (cur.setIfInBounds (o + i) v) (w.setRow g (cur.setIfInBounds (o + i) v)) (by simpa using hf) (setRow_heap w g cur _ t _ hg) (by simp at hl ⊢; omega) (fun x hx => h1 x (by simp [hx]))
    simp only [storeCells, Sem.run_bind, hst, Result.andThen_ok, ih, setRow_setRow]
    congr 3
    have e := list_seg_step cur.toList (o + i) v rest (by simp at hl ⊢; omega)
    simpa [Array.toList_setIfInBounds, Nat.add_assoc] using e

theorem rd_min {u : Value} {m k : Nat} {ys : List Value} (h : rd w sz u m ys) (hk : k ≤ m) : (Builtin.firstCells sz k u).run P w = .ok (ys.take (k * sz)).toArray w := by
  obtain ⟨uo, ucap, rfl, h1, h2, h3, h4, h5⟩ := h
  have := run_cells_rd (P := P) (rd_take ⟨uo, ucap, rfl, h1, h2, h3, h4, h5⟩ hk)
  cases uo with
  | none => simpa [Builtin.firstCells] using this
  | some a => simpa [Builtin.firstCells] using this

/-- 'copy' into a slice of the call's own, of whatever can be read -/
theorem run_copy_sl (h : Own B (sl sz v n xs * R) w) {t ty : TypeId} {i : TypeInfo} (ht : P.underlying t = some (.slice T)) (hi : P.info? T = some i) (hsz : i.size = sz)
    {u : Value} {m : Nat} {ys : List Value} (hr : rd w sz u m ys) (h1 : ∀ y ∈ ys, y.oneCell' = true) :
    ∃ w', (Builtin.copy_ #[t, t] ty #[v, u]).run P w = .ok (goInt (min m n : Nat)) w' ∧ Own B (sl sz v n (ys.take (min m n * sz) ++ xs.drop (min m n * sz)) * R) w' := by
  subst hsz
  have hf := rd_min (P := P) hr (k := min m n) (by omega)
  have hul : ∀ w1, (Builtin.lenOf u).run P w1 = .ok m w1 := fun w1 => by obtain ⟨uo, ucap, rfl, _⟩ := hr; rfl
  have hyl := hr.len
  have hle : min m n * i.size ≤ m * i.size := Nat.mul_le_mul_right _ (by omega)
  have hle2 : min m n * i.size ≤ n * i.size := Nat.mul_le_mul_right _ (by omega)
  have htl : (ys.take (min m n * i.size)).length = min m n * i.size := by rw [List.length_take]; omega
  rcases own_sl h with ⟨rfl, rfl, rfl, ho⟩ | ⟨b, off, cap, cs, rfl, a1, a2, a3, a4, a5, ho⟩
  · refine ⟨w, ?_, (own_nil ho i.size).eq (by simp)⟩
    have hf' : (Builtin.firstCells i.size 0 u).run P w = .ok #[] w := by simpa using hf
    simp [Builtin.copy_, run_underlying ht, hul, sizeOf, typeInfo, hi, hf']
  · obtain ⟨T', fr, hfr, hg, hb'⟩ := own_blk_at ho
    have hcap : n * i.size ≤ cap * i.size := Nat.mul_le_mul_right _ a1
    have hst := run_storeCells_fr (P := P) b off T' fr (ys.take (min m n * i.size)) 0 cs.toArray w (by simpa using hfr) hg (by simp only [List.size_toArray]; omega) (fun y hy => h1 y (List.mem_of_mem_take hy))
    have hl2 : (cs.take off ++ ys.take (min m n * i.size) ++ cs.drop (off + (ys.take (min m n * i.size)).length)).length = cs.length := by
      simp only [List.length_append, List.length_take, List.length_drop]; omega
    refine ⟨w.setRow b (cs.take off ++ ys.take (min m n * i.size) ++ cs.drop (off + (ys.take (min m n * i.size)).length)).toArray, ?_, ?_⟩
    · have hst' : (storeCells ⟨b, off, none⟩ (ys.take (min m n * i.size))).run P w = .ok () (w.setRow b (cs.take off ++ ys.take (min m n * i.size) ++ cs.drop (off + (ys.take (min m n * i.size)).length)).toArray) := by simpa using hst
      have hf' : (Builtin.firstCells i.size (m.min n) u).run P w = .ok (ys.take (min m n * i.size)).toArray w := hf
      simp [Builtin.copy_, run_underlying ht, hul, sizeOf, typeInfo, hi, hf', hst', goInt]
    · refine own_sl_mk a1 a2 ?_ (by rw [hl2]; exact a4) ?_ (own_setRow ho _ hl2)
      · simp only [List.length_append, htl, List.length_drop, a3]; omega
      · have hoff : (cs.take off).length = off := by rw [List.length_take]; omega
        rw [List.append_assoc, List.drop_append_of_le_length (by omega), List.drop_eq_nil_of_le (by omega), List.nil_append, htl, List.take_append, htl, List.take_of_length_le (by omega), ← a5, List.drop_take, List.drop_drop]

/-- 'append' to a slice of the call's own, of whatever can be read -/
theorem run_append_sl (h : Own B (sl sz v n xs * R) w) {t ty : TypeId} {i : TypeInfo} {z : Value} (ht : P.underlying t = some (.slice T)) (hi : P.info? T = some i) (hz : i.zero = some z) (hsz : i.size = sz) (hzs : z.cells.size = sz) (h0 : 0 < sz)
    {u : Value} {m : Nat} {ys : List Value} (hr : rd w sz u m ys) (h1 : ∀ y ∈ ys, y.oneCell' = true) (hm : n + m ≤ maxLen) (hb : (n + m) * i.bytes ≤ 140737488355328) :
    ∃ v' w', (Builtin.append_ #[t, t] ty #[v, u]).run P w = .ok v' w' ∧ Own B (sl sz v' (n + m) (xs ++ ys) * R) w' := by
  subst hsz
  have hcu := fun (w1 : World) (hk : rd w1 i.size u m ys) => run_cells_rd (P := P) hk
  have hcv := fun (w1 : World) (hk : rd w1 i.size v n xs) => run_cells_rd (P := P) hk
  have hru := hr
  have hrv := own_rd h
  have hlen : (xs ++ ys).length = (n + m) * i.size := by rw [List.length_append, hrv.len, hru.len, Nat.add_mul]
  have hsmall : n + m ≤ 9223372036854775807 := by simpa only [maxLen] using hm
  obtain ⟨uo, ucap, rfl, u1, u2, u3, u4, u5⟩ := hr
  obtain ⟨vo, cap, rfl, v1, v2, v3, v4, v5⟩ := own_rd h
  have hn0 : P.underlying t ≠ none := by rw [ht]; simp
  by_cases hroom : n + m ≤ cap
  · rcases own_sl h with ⟨e1, rfl, rfl, ho⟩ | ⟨b, off, cap', cs, e1, a1, a2, a3, a4, a5, ho⟩
    · obtain ⟨rfl, rfl⟩ : vo = none ∧ cap = 0 := by simpa using e1
      have : m = 0 := by omega
      subst this
      have hy : ys = [] := List.eq_nil_of_length_eq_zero (by simpa using u3)
      subst hy
      refine ⟨.slice none 0 0, w, ?_, own_nil ho i.size⟩
      simp [Builtin.append_, run_underlying ht, sizeOf, typeInfo, hi, Builtin.lenOf, hcu w hru]
    · obtain ⟨rfl, rfl⟩ : vo = some ⟨b, off, none⟩ ∧ cap = cap' := by simpa using e1
      obtain ⟨T', fr, hf, hg, hb'⟩ := own_blk_at ho
      have hfit : off + n * i.size + ys.length ≤ cs.length := by
        rw [u3]
        have : (n + m) * i.size ≤ cap * i.size := Nat.mul_le_mul_right _ hroom
        rw [Nat.add_mul] at this
        omega
      have hst := run_storeCells_fr (P := P) b (off + n * i.size) T' fr ys 0 cs.toArray w (by simpa using hf) hg (by simpa using hfit) h1
      have hl2 : ((cs.take (off + n * i.size)) ++ ys ++ cs.drop (off + n * i.size + ys.length)).length = cs.length := by
        simp only [List.length_append, List.length_take, List.length_drop]; omega
      refine ⟨.slice (some ⟨b, off, none⟩) (n + m) cap, w.setRow b ((cs.take (off + n * i.size)) ++ ys ++ cs.drop (off + n * i.size + ys.length)).toArray, ?_, ?_⟩
      · have hst' : (storeCells ⟨b, off + n * i.size, none⟩ ys).run P w = .ok () (w.setRow b ((cs.take (off + n * i.size)) ++ ys ++ cs.drop (off + n * i.size + ys.length)).toArray) := by simpa using hst
        simp [Builtin.append_, run_underlying ht, sizeOf, typeInfo, hi, Builtin.lenOf, hroom, hcu w hru, Addr.add_lit, hst']
      · refine own_sl_mk hroom v2 hlen (by rw [hl2]; exact a4) ?_ (own_setRow ho _ hl2)
        rw [← a5, Nat.add_mul, ← u3]
        apply List.ext_getElem?
        intro j
        simp only [List.getElem?_take, List.getElem?_drop, List.getElem?_append, List.length_append, List.length_take, List.length_drop]
        have hc : n * i.size ≤ cs.length - off := by omega
        by_cases j1 : j < n * i.size
        · have e1 : j < n * i.size + ys.length := by omega
          have e2 : off + j < min (off + n * i.size) cs.length + ys.length := by omega
          have e3 : off + j < min (off + n * i.size) cs.length := by omega
          have e4 : off + j < off + n * i.size := by omega
          have e5 : j < min (n * i.size) (cs.length - off) := by omega
          simp [e1, e2, e3, e4, e5, j1]
        · by_cases j2 : j < n * i.size + ys.length
          · have e2 : off + j < min (off + n * i.size) cs.length + ys.length := by omega
            have e3 : ¬ off + j < min (off + n * i.size) cs.length := by omega
            have e5 : ¬ j < min (n * i.size) (cs.length - off) := by omega
            have e6 : off + j - min (off + n * i.size) cs.length = j - min (n * i.size) (cs.length - off) := by omega
            simp [j2, e2, e3, e5, e6]
          · have e5 : ¬ j < min (n * i.size) (cs.length - off) := by omega
            have e7 : ys.length ≤ j - min (n * i.size) (cs.length - off) := by omega
            simp [j2, e5, e7]
  · have hdr := own_drew h
    have hfit : Builtin.nextslicecap (n + m) cap * i.bytes ≤ 281474976710656 := growslice_fits (by omega) hb
    have h63' : ¬ (9223372036854775807 < ((n : Int) + (m : Int))) := by omega
    have h48' : ¬ (281474976710656 < Builtin.nextslicecap (n + m) cap * i.bytes) := by omega
    have hge := grownCap_ge w (n + m) cap T
    have hcm : grownCap w (n + m) cap T ≤ maxLen := grownCap_le_maxLen w (n + m) cap T hm
    have hru' : rd w.drew i.size (.slice uo m ucap) m ys := ⟨uo, ucap, rfl, u1, u2, u3, u4, u5⟩
    have hrv' : rd w.drew i.size (.slice vo n cap) n xs := own_rd hdr
    have hR : Own B R w.drew := hdr.right
    have hnew := own_new hR (xs ++ ys ++ (Builtin.zeroCells z.cells (grownCap w (n + m) cap T - (n + m))).toList) T
    refine ⟨.slice (some ⟨w.heap.size, 0, none⟩) (n + m) (grownCap w (n + m) cap T), w.drew.alloc (.cells (xs ++ ys ++ (Builtin.zeroCells z.cells (grownCap w (n + m) cap T - (n + m))).toList).toArray T), ?_, ?_⟩
    · simp [Builtin.append_, run_underlying ht, sizeOf, typeInfo, zeroValue, hi, hz, Builtin.lenOf, hroom, h63', h48', Question.forced, hcu _ hru', hcv _ hrv', newRow, grownCap]
      congr 2
      apply Array.ext'
      simp
    · refine own_sl_mk hge hcm hlen ?_ ?_ hnew
      · simp only [List.length_append, Array.length_toList, size_zeroCells, hzs]
        rw [← List.length_append, hlen, ← Nat.add_mul, Nat.zero_add]
        exact Nat.mul_le_mul_right _ (by omega)
      · rw [List.drop_zero, ← hlen]
        exact List.take_left
end
/-- A holds the slice v, of n elements, which are xs -/
class HasSl (v : Value) (sz : outParam Nat) (n : outParam Nat) (xs : outParam (List Value)) (A : Assn) : Prop where
  out : ∃ R, A = sl sz v n xs * R
instance (v : Value) (sz n : Nat) (xs : List Value) : HasSl v sz n xs (sl sz v n xs) := ⟨⟨emp, (star_emp _).symm⟩⟩
instance (v : Value) (sz n : Nat) (xs : List Value) (A C : Assn) [h : HasSl v sz n xs A] : HasSl v sz n xs (A * C) := ⟨let ⟨R, e⟩ := h.out; ⟨R * C, by rw [e, star_assoc]⟩⟩
instance (v : Value) (sz n : Nat) (xs : List Value) (A C : Assn) [h : HasSl v sz n xs C] : HasSl v sz n xs (A * C) := ⟨let ⟨R, e⟩ := h.out; ⟨A * R, by rw [e]; ac_rfl⟩⟩

theorem Own.rd {B w : World} {A : Assn} (_ : Own B A w) (v : Value) {sz n : Nat} {xs : List Value} [hb : HasSl v sz n xs A] : ∀ w, Own B A w → Sl.rd w sz v n xs :=
  fun w h => by obtain ⟨R, e⟩ := hb.out; exact own_rd (h.eq e)

/-- its header -/
theorem Own.hdr {B w : World} {A : Assn} (h : Own B A w) (v : Value) {sz n : Nat} {xs : List Value} [hb : HasSl v sz n xs A] : ∃ ao cap, v = .slice ao n cap ∧ n ≤ cap ∧ cap ≤ maxLen := by
  obtain ⟨ao, cap, e, h1, h2, _⟩ := h.rd v w h
  exact ⟨ao, cap, e, h1, h2⟩

end Go.Sl
