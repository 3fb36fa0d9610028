




/-
  From the reading of a law's arguments to what can be read of them; and from a walk that ends in 'true' to the law's statement.
  Condition: none (lemmas over any program).
-/
import Derived.Test.YtjcpfldobiekbaaDoorOps
import Derived.ProofKit
import Derived.SizedLaws
import Derived.JoinedCond
namespace Go.Sl
open Go Go.RowKit Go.ChangeShapes

section
variable {H : Type} {enc : TypeId × Value → H} {P : Program} {W : World} {t e : TypeId} {cs : List Value} {d : DataW H}

/-- these cells read at type t as d -/
def RdC {H : Type} (enc : TypeId × Value → H) (P : Program) (W : World) (t : TypeId) (cs : List Value) (d : DataW H) : Prop :=
  ∃ fuel ps, DataW.trod enc P W 0 (fun _ => true) true fuel t cs = some (d, ps)

theorem rdc_of_trod {v : Value} {ps : List MemPlace} (h : DataW.Trod enc P W 0 (fun _ => true) true t v d ps) : RdC enc P W t v.cells.toList d := by
  obtain ⟨f, h⟩ := h
  exact ⟨f, ps, h⟩

theorem rdc_int {k : IntKind} (ht : P.underlying t = some (.int k)) (h : RdC enc P W t cs d) : ∃ n, cs = [.int k n] ∧ (Lit.int k n).wf = true := by
  obtain ⟨f, ps, h⟩ := h
  obtain ⟨n, e1, _, e2⟩ := DataW.trod_int ht h
  exact ⟨n, e1, e2⟩

theorem rdc_i64 (ht : P.underlying t = some (.int .i64)) (h : RdC enc P W t cs d) : ∃ n, cs = [.int .i64 n] ∧ -9223372036854775808 ≤ n ∧ n ≤ 9223372036854775807 := by
  obtain ⟨n, e1, e2⟩ := rdc_int ht h
  refine ⟨n, e1, ?_⟩
  simpa [Lit.wf, IntKind.min, IntKind.max, IntKind.signed, IntKind.bits] using e2

theorem rdc_u64 (ht : P.underlying t = some (.int .u64)) (h : RdC enc P W t cs d) : ∃ n : Nat, cs = [.int .u64 n] ∧ n < 18446744073709551616 := by
  obtain ⟨n, e1, e2⟩ := rdc_int ht h
  have : 0 ≤ n ∧ n ≤ 18446744073709551615 := by simpa [Lit.wf, IntKind.min, IntKind.max, IntKind.signed, IntKind.bits] using e2
  refine ⟨n.toNat, ?_, by omega⟩
  rw [e1]
  congr 2
  omega

theorem rdc_u32 (ht : P.underlying t = some (.int .u32)) (h : RdC enc P W t cs d) : ∃ n : Nat, cs = [.int .u32 n] ∧ n < 4294967296 := by
  obtain ⟨n, e1, e2⟩ := rdc_int ht h
  have : 0 ≤ n ∧ n ≤ 4294967295 := by simpa [Lit.wf, IntKind.min, IntKind.max, IntKind.signed, IntKind.bits] using e2
  refine ⟨n.toNat, ?_, by omega⟩
  rw [e1]
  congr 2
  omega

theorem rdc_u8 (ht : P.underlying t = some (.int .u8)) (h : RdC enc P W t cs d) : ∃ x : UInt8, cs = [byteV x] := by
  obtain ⟨n, e1, e2⟩ := rdc_int ht h
  have : 0 ≤ n ∧ n ≤ 255 := by simpa [Lit.wf, IntKind.min, IntKind.max, IntKind.signed, IntKind.bits] using e2
  refine ⟨UInt8.ofNat n.toNat, ?_⟩
  rw [e1]
  simp only [byteV, UInt8.toNat_ofNat']
  congr 2
  omega

theorem rdc_bool (ht : P.underlying t = some .bool) (h : RdC enc P W t cs d) : ∃ b, cs = [.bool b] := by
  obtain ⟨f, ps, h⟩ := h
  obtain ⟨n, e1, _⟩ := DataW.trod_bool ht h
  exact ⟨n, e1⟩

theorem rdc_string (ht : P.underlying t = some .string) (h : RdC enc P W t cs d) : ∃ l : List UInt8, cs = [str l] ∧ l.length ≤ maxLen ∧ d = .lit (.string l) := by
  obtain ⟨f, ps, h⟩ := h
  obtain ⟨s, e1, e2, e3⟩ := DataW.trod_string ht h
  refine ⟨s.data.toList, e1, ?_, ?_⟩
  · rw [Array.length_toList]; exact e3
  · simp only [Prod.mk.injEq] at e2; exact e2.1

theorem rdc_struct {fs : Array Field} (ht : P.underlying t = some (.struct fs)) (h : RdC enc P W t cs d) :
    cs.length = P.cellsOf t ∧ ∀ (i : Nat) (f : Field), fs[i]? = some f → ∃ d', RdC enc P W f.type ((cs.drop f.offset).take (P.cellsOf f.type)) d' := by
  obtain ⟨f, ps, h⟩ := h
  obtain ⟨xs, n, _, _, e1, e2, e3⟩ := DataW.trod_struct ht h
  refine ⟨e1, fun i f hf => ?_⟩
  have hlt : i < xs.length := by rw [e2]; exact (Array.getElem?_eq_some_iff.1 hf).1
  refine ⟨xs[i].1, n, xs[i].2, ?_⟩
  rw [e3 i f hf, List.getElem?_eq_getElem hlt]

/-- a slice: all its cells; each element's own cells read -/
theorem rdc_slice {sz : Nat} (ht : P.underlying t = some (.slice e)) (hc : P.cellsOf e = sz) (h : RdC enc P W t cs d) :
    ∃ v n xs, cs = [v] ∧ rd W sz v n xs ∧ ((n = 0 ∧ d = .nil) ∨ ∃ es sp, d = .slice es sp ∧ es.length = n) ∧ ∀ i, i < n → ∃ di, RdC enc P W e ((xs.drop (i * sz)).take sz) di := by
  obtain ⟨f, ps, h⟩ := h
  rcases DataW.trod_slice ht h with ⟨rfl, hd⟩ | ⟨a, len, cap, elems, rest, n, _, rfl, hx, hb, hl, hm, hlen, hel, _⟩
  · simp only [Prod.mk.injEq] at hd
    exact ⟨_, 0, [], rfl, rd_nil W sz, .inl ⟨rfl, hd.1⟩, fun i hi => by omega⟩
  · simp only [Prod.mk.injEq] at hx
    rw [hc] at hel
    have key : ∀ i, i < len → ∃ ds y, ds.length = sz ∧ (∀ k, k < sz → W.cell? (a.add (i * sz + k)) = ds[k]?) ∧ DataW.trod enc P W 0 (fun _ => true) true n e ds = some y := by
      intro i hi
      have h1 := hel i hi
      rw [List.getElem?_eq_getElem (by omega), Option.bind_eq_some_iff] at h1
      obtain ⟨ds, h2, h3⟩ := h1
      obtain ⟨_, h4, h5⟩ := World.cells?_some h2
      refine ⟨ds, _, h4, fun k hk => ?_, h3⟩
      rw [← addr_add_add]
      exact h5 k hk
    have some_ : ∀ j, j < len * sz → (W.cell? (a.add j)).isSome = true := by
      intro j hj
      have hz : 0 < sz := by
        rcases Nat.eq_zero_or_pos sz with e0 | e0
        · subst e0; omega
        · exact e0
      obtain ⟨ds, y, h1, h2, _⟩ := key (j / sz) (by rw [Nat.div_lt_iff_lt_mul hz]; exact hj)
      have hk : j % sz < sz := Nat.mod_lt _ hz
      have := h2 (j % sz) hk
      rw [Nat.mul_comm, Nat.div_add_mod] at this
      rw [this, List.getElem?_eq_getElem (by omega)]
      rfl
    refine ⟨_, len, (List.range (len * sz)).map fun j => (W.cell? (a.add j)).getD undef, rfl, ⟨some a, cap, rfl, hl, hm, by simp, (fun e => by cases e), fun a' ha j u hu => ?_⟩, .inr ⟨_, _, hx.1, by simpa using hlen⟩, fun i hi => ?_⟩
    · obtain rfl := Option.some.inj ha
      have hj : j < len * sz := by
        have := (List.getElem?_eq_some_iff.1 hu).1
        simpa using this
      simp only [List.getElem?_map, List.getElem?_range hj, Option.map_some, Option.some.injEq] at hu
      rw [← hu]
      obtain ⟨x, hx⟩ := Option.isSome_iff_exists.1 (some_ j hj)
      rw [hx]
      rfl
    · obtain ⟨ds, y, h1, h2, h3⟩ := key i hi
      refine ⟨y.1, n, y.2, ?_⟩
      have e : ((((List.range (len * sz)).map fun j => (W.cell? (a.add j)).getD undef).drop (i * sz)).take sz) = ds := by
        have hle : (i + 1) * sz ≤ len * sz := Nat.mul_le_mul_right _ hi
        rw [Nat.add_mul, Nat.one_mul] at hle
        apply List.ext_getElem?
        intro k
        rw [List.getElem?_take]
        split
        · rename_i hk
          rw [List.getElem?_drop, List.getElem?_map, List.getElem?_range (by omega)]
          simp only [Option.map_some]
          rw [h2 k hk, List.getElem?_eq_getElem (by omega)]
          rfl
        · rename_i hk
          rw [List.getElem?_eq_none (by omega)]
      rw [e]
      exact h3

/-- bytes -/
theorem rdc_bytes (ht : P.underlying t = some (.slice e)) (he : P.underlying e = some (.int .u8)) (hc : P.cellsOf e = 1) (h : RdC enc P W t cs d) :
    ∃ v l, cs = [v] ∧ rd W 1 v l.length (bs l) ∧ ((l = [] ∧ d = .nil) ∨ ∃ es sp, d = .slice es sp ∧ es.length = l.length) := by
  obtain ⟨v, n, xs, rfl, hr, hd, hel⟩ := rdc_slice ht hc h
  have hl : xs.length = n := by simpa using hr.len
  have : ∃ l : List UInt8, xs = bs l := by
    have step : ∀ (ys : List Value), (∀ y ∈ ys, ∃ x, y = byteV x) → ∃ l : List UInt8, ys = bs l := by
      intro ys
      induction ys with
      | nil => intro _; exact ⟨[], rfl⟩
      | cons y ys ih =>
        intro h
        obtain ⟨x, rfl⟩ := h y (by simp)
        obtain ⟨l, rfl⟩ := ih (fun z hz => h z (by simp [hz]))
        exact ⟨x :: l, rfl⟩
    refine step xs fun y hy => ?_
    obtain ⟨i, hi, rfl⟩ := List.mem_iff_getElem.1 hy
    obtain ⟨di, h1⟩ := hel i (by omega)
    obtain ⟨x, hx⟩ := rdc_u8 he h1
    refine ⟨x, ?_⟩
    rw [Nat.mul_one, List.drop_eq_getElem_cons hi, List.take_succ_cons, List.take_zero] at hx
    exact (List.cons.inj hx).1
  obtain ⟨l, rfl⟩ := this
  obtain rfl : l.length = n := by simpa using hl
  refine ⟨v, l, rfl, hr, ?_⟩
  rcases hd with ⟨h1, h2⟩ | h1
  · exact .inl ⟨List.eq_nil_of_length_eq_zero h1, h2⟩
  · exact .inr h1

end

/-! ### a law that answers true -/

section
variable {H : Type} {enc : TypeId × Value → H} {P : Program} {W W' : World}

theorem trodAll_stays (hl : laidOutB P = true) {sp : Nat → Bool} (hb : Below W.heap.size W W') : ∀ {ts : List TypeId} {vs : List Value} {ds : List (DataW H)} {ps : List MemPlace}, (∀ t ∈ ts, P.readableRec t = true ∧ t < P.types.size) →
    DataW.TrodAll enc P W 0 (fun _ => true) true ts vs ds ps → (∀ p ∈ ps, p.block < W.heap.size) → (∀ p ∈ ps, sp p.block = true) → DataW.TrodAll enc P W' 0 sp true ts vs ds ps
  | [], _, _, _, _, h, _, _ => by
    obtain ⟨rfl, rfl, rfl⟩ := trodAll_nil h
    rfl
  | t :: ts, _, _, _, hr, h, hlt, hs => by
    obtain ⟨v, vs, d, ds, p, q, rfl, rfl, rfl, h1, h2⟩ := trodAll_cons h
    refine ⟨p, q, WideElems.Trod_stays hl (hr t (by simp)).1 (hr t (by simp)).2 h1 (fun x hx => hb.same (hlt x (by simp [hx]))) (fun x hx => hs x (by simp [hx])), trodAll_stays hl hb (fun u hu => hr u (by simp [hu])) h2 (fun x hx => hlt x (by simp [hx])) (fun x hx => hs x (by simp [hx])), rfl⟩

theorem keptBut_of_below (hb : Below W.heap.size W W') (may : MemPlace → Prop) : W.keptBut W' may := by
  refine ⟨hb.os, hb.output, fun i hi => ?_⟩
  rw [hb.block i hi]
  cases h : W.heap[i]? with
  | none => rfl
  | some o => cases o <;> simp

theorem post_of_law {f : Func} {s : ChangeSpec} {args : Array Value} {ds gs : List (DataW H)} {before : List MemPlace} {tb : TypeId}
    (hW : DataW.Whole enc P f.params.toList s.vars false W args.toList ds gs before) (hv : s.vars = []) (hs : s.fn H (ds ++ gs) = { results := [.lit (.bool true)], args := ds })
    (hr : f.resultTypes = #[tb]) (ht : P.underlying tb = some .bool) (hl : laidOutB P = true) (hp : ∀ t ∈ f.params.toList, P.readableRec t = true ∧ t < P.types.size) (hb : Below W.heap.size W W') :
    s.post enc P f false true false false W args (.bool true) W' := by
  have hlt := hW.lt
  have hW0 := hW
  obtain ⟨p, q, hA, hV, rfl, _, _⟩ := hW
  rw [hv] at hV
  obtain ⟨rfl, rfl⟩ := trodVars_none hV
  refine ⟨ds, [], p ++ [], [], p, [], hW0, ?_, ?_, ?_, keptBut_of_below hb _, fun h => by cases h⟩
  · rw [hs, hr]
    exact trodAll_mk1 (shut_bool ht true)
  · rw [hs]
    exact trodAll_stays hl hb hp hA (fun x hx => hlt x (by simp [hx])) (fun x hx => by simpa using hlt x (by simp [hx]))
  · rw [hs, hv]
    rfl


/-! ### arguments -/

theorem val_one {r : Reach} {base : Nat} {t : TypeId} {v : Value} (h : Value.okWide P W r base t v) (h1 : ∀ fs, P.underlying t ≠ some (.struct fs)) (h2 : ∀ n e, P.underlying t ≠ some (.array n e)) : v.cells.toList = [v] := by
  cases v with
  | agg cs =>
    exfalso
    unfold Value.okWide at h
    split at h
    · rename_i fs hf; exact h1 fs hf
    · rename_i n e hf; exact h2 n e hf
    · unfold Cell.okWide at h
      split at h <;> (first | (rename_i h3 h4; cases h4; done) | skip)
      unfold Cell.ok at h
      split at h <;> first | exact h | (rename_i h3 h4; cases h4)
  | _ => rfl

theorem val_agg {r : Reach} {base : Nat} {t : TypeId} {v : Value} {fs : Array Field} (h : Value.okWide P W r base t v) (ht : P.underlying t = some (.struct fs)) : ∃ cs : List Value, v = .agg cs.toArray ∧ v.cells.toList = cs := by
  unfold Value.okWide at h
  rw [ht] at h
  obtain ⟨cs, rfl, _⟩ := h
  exact ⟨cs.toList, by simp, rfl⟩

/-- v is an argument of type t that reads as d -/
def Arg {H : Type} (enc : TypeId × Value → H) (P : Program) (W : World) (t : TypeId) (v : Value) (d : DataW H) : Prop :=
  (∃ base, Value.okWide P W .any base t v) ∧ RdC enc P W t v.cells.toList d

def Args {H : Type} (enc : TypeId × Value → H) (P : Program) (W : World) : List TypeId → List Value → List (DataW H) → Prop
  | [], [], [] => True
  | t :: ts, v :: vs, d :: ds => Arg enc P W t v d ∧ Args enc P W ts vs ds
  | _, _, _ => False

theorem args_cons {t : TypeId} {ts : List TypeId} {vs : List Value} {ds : List (DataW H)} (h : Args enc P W (t :: ts) vs ds) : ∃ v vs' d ds', vs = v :: vs' ∧ ds = d :: ds' ∧ Arg enc P W t v d ∧ Args enc P W ts vs' ds' := by
  cases vs with
  | nil => cases ds <;> exact h.elim
  | cons v vs =>
    cases ds with
    | nil => exact h.elim
    | cons d ds => exact ⟨v, vs, d, ds, rfl, rfl, h.1, h.2⟩
theorem args_nil {vs : List Value} {ds : List (DataW H)} (h : Args enc P W [] vs ds) : vs = [] ∧ ds = [] := by
  cases vs with
  | nil =>
    cases ds with
    | nil => exact ⟨rfl, rfl⟩
    | cons d ds => exact h.elim
  | cons v vs => exact h.elim

theorem args_mk {base : Nat} : ∀ {ts : List TypeId} {vs : List Value} {ds : List (DataW H)} {p : List MemPlace}, (∀ (j : Nat) t v, ts[j]? = some t → vs[j]? = some v → Value.okWide P W .any base t v) →
    DataW.TrodAll enc P W 0 (fun _ => true) true ts vs ds p → Args enc P W ts vs ds
  | [], _, _, _, _, h => by
    obtain ⟨rfl, rfl, rfl⟩ := trodAll_nil h
    trivial
  | t :: ts, _, _, _, hv, h => by
    obtain ⟨v, vs, d, ds, p, q, rfl, rfl, rfl, h1, h2⟩ := trodAll_cons h
    exact ⟨⟨⟨base, hv 0 t v rfl rfl⟩, rdc_of_trod h1⟩, args_mk (fun j t v a b => hv (j + 1) t v a b) h2⟩

section
variable {t e : TypeId} {v : Value} {d : DataW H}

theorem arg_int {k : IntKind} (ht : P.underlying t = some (.int k)) (h : Arg enc P W t v d) : RdC enc P W t [v] d := by
  obtain ⟨⟨b, h1⟩, h2⟩ := h
  rwa [val_one h1 (by rw [ht]; intro _ e; cases e) (by rw [ht]; intro _ _ e; cases e)] at h2
theorem arg_i64 (ht : P.underlying t = some (.int .i64)) (h : Arg enc P W t v d) : ∃ n, v = .int .i64 n ∧ -9223372036854775808 ≤ n ∧ n ≤ 9223372036854775807 := by
  obtain ⟨n, e1, e2⟩ := rdc_i64 ht (arg_int ht h)
  exact ⟨n, (List.cons.inj e1).1, e2⟩
theorem arg_u64 (ht : P.underlying t = some (.int .u64)) (h : Arg enc P W t v d) : ∃ n : Nat, v = .int .u64 n ∧ n < 18446744073709551616 := by
  obtain ⟨n, e1, e2⟩ := rdc_u64 ht (arg_int ht h)
  exact ⟨n, (List.cons.inj e1).1, e2⟩
theorem arg_u32 (ht : P.underlying t = some (.int .u32)) (h : Arg enc P W t v d) : ∃ n : Nat, v = .int .u32 n ∧ n < 4294967296 := by
  obtain ⟨n, e1, e2⟩ := rdc_u32 ht (arg_int ht h)
  exact ⟨n, (List.cons.inj e1).1, e2⟩
theorem arg_bool (ht : P.underlying t = some .bool) (h : Arg enc P W t v d) : ∃ b, v = .bool b := by
  obtain ⟨⟨b, h1⟩, h2⟩ := h
  rw [val_one h1 (by rw [ht]; intro _ e; cases e) (by rw [ht]; intro _ _ e; cases e)] at h2
  obtain ⟨n, e1⟩ := rdc_bool ht h2
  exact ⟨n, (List.cons.inj e1).1⟩
theorem arg_string (ht : P.underlying t = some .string) (h : Arg enc P W t v d) : ∃ l : List UInt8, v = str l ∧ l.length ≤ maxLen ∧ d = .lit (.string l) := by
  obtain ⟨⟨b, h1⟩, h2⟩ := h
  rw [val_one h1 (by rw [ht]; intro _ e; cases e) (by rw [ht]; intro _ _ e; cases e)] at h2
  obtain ⟨l, e1, e2⟩ := rdc_string ht h2
  exact ⟨l, (List.cons.inj e1).1, e2⟩
theorem arg_slice {sz : Nat} (ht : P.underlying t = some (.slice e)) (hc : P.cellsOf e = sz) (h : Arg enc P W t v d) :
    ∃ n xs, rd W sz v n xs ∧ ((n = 0 ∧ d = .nil) ∨ ∃ es sp, d = .slice es sp ∧ es.length = n) ∧ ∀ i, i < n → ∃ di, RdC enc P W e ((xs.drop (i * sz)).take sz) di := by
  obtain ⟨⟨b, h1⟩, h2⟩ := h
  rw [val_one h1 (by rw [ht]; intro _ e; cases e) (by rw [ht]; intro _ _ e; cases e)] at h2
  obtain ⟨v', n, xs, e1, r⟩ := rdc_slice ht hc h2
  obtain rfl := (List.cons.inj e1).1
  exact ⟨n, xs, r⟩
theorem arg_bytes (ht : P.underlying t = some (.slice e)) (he : P.underlying e = some (.int .u8)) (hc : P.cellsOf e = 1) (h : Arg enc P W t v d) :
    ∃ l, rd W 1 v l.length (bs l) ∧ ((l = [] ∧ d = .nil) ∨ ∃ es sp, d = .slice es sp ∧ es.length = l.length) := by
  obtain ⟨⟨b, h1⟩, h2⟩ := h
  rw [val_one h1 (by rw [ht]; intro _ e; cases e) (by rw [ht]; intro _ _ e; cases e)] at h2
  obtain ⟨v', l, e1, r⟩ := rdc_bytes ht he hc h2
  obtain rfl := (List.cons.inj e1).1
  exact ⟨l, r⟩
theorem arg_struct {fs : Array Field} (ht : P.underlying t = some (.struct fs)) (h : Arg enc P W t v d) : ∃ cs : List Value, v = .agg cs.toArray ∧ RdC enc P W t cs d := by
  obtain ⟨⟨b, h1⟩, h2⟩ := h
  obtain ⟨cs, rfl, e2⟩ := val_agg h1 ht
  rw [e2] at h2
  exact ⟨cs, rfl, h2⟩

/-- the form's reach, of a slice among the arguments -/
theorem reach_slice {ts : List TypeId} {ds : List (DataW H)} (h : (DataW.weightsEach P ts ds).all (· ≤ reachBytes) = true) (j : Nat) {n b : Nat} (htj : ts[j]? = some t) (hd : ds[j]? = some d) (hu : P.underlying t = some (.slice e)) (hb : P.bytesOf e = b)
    (hn : (n = 0 ∧ d = .nil) ∨ ∃ es sp, d = .slice es sp ∧ es.length = n) : n * b ≤ 140737488351232 := by
  rcases hn with ⟨rfl, _⟩ | ⟨es, sp, rfl, rfl⟩
  · omega
  · have := sized_slice h htj hd hu
    rw [hb] at this
    have h2 : es.length * b ≤ (es.length + sp.length) * b := Nat.mul_le_mul_right _ (by omega)
    have : reachBytes = 140737488351232 := by decide
    omega
end

/-- THE LAW's STEP, where the walk asks no bound on the whole -/
theorem lifted_of_law {C : Checked} {os : Os} {f : FuncId} {fn : Func} {s : ChangeSpec} {conds : List PathCond} {tb : TypeId}
    (own : ownKnob C.prog.godebug = none) (started : os.Started) (noInit : C.prog.inits.idxOf? f = none) (hfn : C.prog.funcs[f]? = some fn)
    (witness : ∃ (w : World) (tape : Tape) (i : Input), w.os = os ∧ (w.forCall tape i).Shaped C.prog ∧ i.vars = [] ∧ Input.okWide C.prog (w.forCall tape i) .any w.heap.size f i ∧
      s.pre6 enc C.prog fn conds false (w.forCall tape i).memory i.args ∧ ({} : Assume).holds C.prog (lone (Frame.enter C.prog f i.args .normal) [] (w.forCall tape i)))
    (hv : s.vars = []) (hs : ∀ ds : List (DataW H), ds.length = fn.params.toList.length → s.fn H ds = { results := [.lit (.bool true)], args := ds })
    (hr : fn.resultTypes = #[tb]) (ht : C.prog.underlying tb = some .bool) (hl : laidOutB C.prog = true) (hp : fn.params.toList.all (fun t => C.prog.readableRec t && decide (t < C.prog.types.size)) = true)
    (contract : ∀ (W : World) (vs : List Value) (ds : List (DataW H)), Args enc C.prog W fn.params.toList vs ds → (DataW.weightsEach C.prog fn.params.toList ds).all (· ≤ reachBytes) = true →
      Calls C.prog f vs.toArray W fun e W' => e = .returned (.bool true) ∧ Below W.heap.size W W') :
    ReturnsInHanded {} C os f .any (s.pre6 enc C.prog fn conds false) (s.post enc C.prog fn false true false false) := by
  refine returnsInHanded_of_change_sized own started noInit hfn witness ?_
  intro W base args ds gs before hval hW _ hsz _
  have hW' := hW
  obtain ⟨p, q, hA, hV, rfl, _, _⟩ := hW
  rw [hv] at hV
  obtain ⟨rfl, rfl⟩ := trodVars_none hV
  have hlen : ds.length = fn.params.toList.length := by
    have : ∀ {ts : List TypeId} {vs : List Value} {ds : List (DataW H)} {p : List MemPlace}, DataW.TrodAll enc C.prog W 0 (fun _ => true) true ts vs ds p → ds.length = ts.length := by
      intro ts
      induction ts with
      | nil => intro vs ds p h; obtain ⟨rfl, rfl, rfl⟩ := trodAll_nil h; rfl
      | cons t ts ih => intro vs ds p h; obtain ⟨v, vs, d, ds, p, q, rfl, rfl, rfl, _, h2⟩ := trodAll_cons h; simp [ih h2]
    exact this hA
  have hvt : s.plain.varTypes C.prog = [] := by simp [DataSpec.varTypes, ChangeSpec.plain, hv]
  rw [hvt, List.append_nil, List.append_nil] at hsz
  have hc := contract W args.toList ds (args_mk (fun j t v a b => hval j t v (by simpa using a) (by simpa using b)) hA) hsz
  rw [Array.toArray_toList] at hc
  refine hc.mono fun e W' ⟨he, hb⟩ => ⟨_, he, post_of_law hW' hv ?_ hr ht hl (fun t ht => ?_) hb⟩
  · rw [List.append_nil]; exact hs ds hlen
  · have := List.all_eq_true.1 hp t ht
    simpa using this

end
end Go.Sl
