




/-
  What append, make, copy and the conversions between bytes and strings do to slices of the call's own, as laws of one operation.
  Condition: none (lemmas on worlds).
-/
import Derived.Test.YtjcpfldobiekbaaDoorSlices
import Derived.Test.YtjcpfldobiekbaaDoorMix
namespace Go.Sl
open Go Go.RowKit

/-- type t is a slice of T; an element has sz cells, so many bytes, and this zero -/
def IsSl (P : Program) (t T : TypeId) (sz bytes : Nat) (z : Value) : Prop :=
  P.underlying t = some (.slice T) ∧ z.cells.size = sz ∧ 0 < sz ∧ ∃ i, P.info? T = some i ∧ i.zero = some z ∧ i.size = sz ∧ i.bytes = bytes

theorem isSl_mk {P : Program} {t T : TypeId} {sz bytes : Nat} {z : Value} (h1 : P.underlying t = some (.slice T)) (h2 : (P.info? T).map (fun i => (i.zero, i.size, i.bytes)) = some (some z, sz, bytes)) (h3 : z.cells.size = sz) (h4 : 0 < sz) : IsSl P t T sz bytes z := by
  refine ⟨h1, h3, h4, ?_⟩
  cases hq : P.info? T with
  | none => rw [hq] at h2; cases h2
  | some i =>
    rw [hq] at h2
    simp only [Option.map_some, Option.some.injEq, Prod.mk.injEq] at h2
    exact ⟨i, rfl, h2.1, h2.2.1, h2.2.2⟩

@[go_sem high] theorem min_two (ats : Array TypeId) (ty : TypeId) (k k' : IntKind) (x y : Int) : Builtin.min_ ats ty #[.int k x, .int k' y] = pure (.int k (min x y)) := by
  simp only [Builtin.min_, List.foldlM_cons, List.foldlM_nil, Builtin.min2]
  show (pure _ : Sem Value) = _
  congr 2
  omega
@[go_sem high] theorem max_two (ats : Array TypeId) (ty : TypeId) (k k' : IntKind) (x y : Int) : Builtin.max_ ats ty #[.int k x, .int k' y] = pure (.int k (max x y)) := by
  simp only [Builtin.max_, List.foldlM_cons, List.foldlM_nil, Builtin.max2]
  show (pure _ : Sem Value) = _
  congr 2
  omega

/-- a byte's cell; bytes' cells -/
def byteV (x : UInt8) : Value := .int .u8 (x.toNat : Int)
def bs (l : List UInt8) : List Value := l.map byteV
@[simp] theorem bs_nil : bs [] = [] := rfl
@[simp] theorem bs_append (l r : List UInt8) : bs (l ++ r) = bs l ++ bs r := by simp [bs]
@[simp] theorem bs_length (l : List UInt8) : (bs l).length = l.length := by simp [bs]
theorem bs_take (l : List UInt8) (n : Nat) : (bs l).take n = bs (l.take n) := by simp [bs, List.map_take]
theorem bs_drop (l : List UInt8) (n : Nat) : (bs l).drop n = bs (l.drop n) := by simp [bs, List.map_drop]
theorem bs_one (l : List UInt8) : ∀ y ∈ bs l, y.oneCell' = true := by
  intro y hy
  obtain ⟨x, _, rfl⟩ := List.mem_map.1 hy
  rfl
theorem byteV_inj {x y : UInt8} (h : byteV x = byteV y) : x = y := by
  simp only [byteV, Value.int.injEq, true_and] at h
  exact UInt8.toNat.inj (by omega)
theorem bs_inj {l r : List UInt8} (h : bs l = bs r) : l = r := List.map_inj_right (f := byteV) (fun _ _ => byteV_inj) |>.1 h

theorem drop_min {α : Type} (l : List α) (n : Nat) : (l.drop (min n l.length)).take (l.length - min n l.length) = l.drop n := by
  rw [List.take_of_length_le (by simp)]
  rcases Nat.le_total n l.length with e | e
  · rw [Nat.min_eq_left e]
  · rw [Nat.min_eq_right e, List.drop_eq_nil_of_le e, List.drop_length]

attribute [go_sem] ByteArray.extract_mk ByteArray.mk_append_mk

/-- n & k, of an int and a constant -/
theorem and_i64 (n : Int) (k : Nat) (hk : k < 9223372036854775808) : ∃ m : Nat, bits .and .i64 n k = m ∧ m ≤ k := by
  refine ⟨(BitVec.ofInt 64 n &&& BitVec.ofInt 64 (k : Int)).toNat, ?_, ?_⟩
  · have hle : (BitVec.ofInt 64 n &&& BitVec.ofInt 64 (k : Int)).toNat ≤ k := by
      rw [BitVec.toNat_and]
      refine Nat.le_trans Nat.and_le_right ?_
      rw [BitVec.toNat_ofInt]
      omega
    show IntKind.i64.wrap ((BitVec.ofInt 64 n &&& BitVec.ofInt 64 (k : Int)).toNat : Int) = _
    rw [IntKind.wrap_i64]
    omega
  · rw [BitVec.toNat_and]
    refine Nat.le_trans Nat.and_le_right ?_
    rw [BitVec.toNat_ofInt]
    omega

theorem ret_int {k : IntKind} {a b : Int} (h : a = b) : Ending.returned (.int k a) = .returned (.int k b) := by rw [h]
theorem take_min {α : Type} (l : List α) (k : Nat) : l.take (min l.length k) = l.take k := by
  rw [List.take_eq_take_min (i := k), Nat.min_comm]

/-- a string's value -/
abbrev str (l : List UInt8) : Value := .string ⟨l.toArray⟩

section
variable {P : Program} {B w : World} {A R : Assn} {t T : TypeId} {sz bytes : Nat} {z : Value} {v u : Value} {n m : Nat} {xs ys : List Value}

section
variable {o : Oper} {a : Act} {K : Act → World → Prop} {Q : Exit → Act → World → Prop}

theorem wp_of_builtin {b : Builtin} {args : Array Operand} {ats : Array TypeId} (ho : o.op = .call { callee := .builtin b, args := args, argTypes := ats }) {s : Sem Value} {v' : Value} {w' : World}
    (hb : builtin b ats o.type (args.map fun | .const _ => true | _ => false) (args.map a.eval) = (do pure (.value (← s)))) (hr : s.run P w = .ok v' w') (k : K (a.put o.dst v') w') : o.wp P a w K Q := by
  unfold Oper.wp
  have e : execOp a.eval o = (do pure (.value (← s))) := by
    rw [← hb]
    unfold execOp
    rw [ho]
    rfl
  rw [e, Sem.run_bind, hr]
  exact k

/-- a store of one cell -/
theorem wp_store {A' : Assn} (h : Own B A w) {T' : TypeId} {ad x : Operand} (ho : o.op = .store T' ad x) (hT : (P.info? T').map (·.size) = some 1) (b i : Nat) (v : Value) (ha : a.eval ad = .pointer (some ⟨b, i, none⟩)) (hx : a.eval x = v) (hv : v.oneCell' = true)
    {cs : List Value} [hb : HasBlk b cs A] (hi : decide (i < cs.length) = true) [hs : SetBlk b i v A A'] (k : ∀ w', Own B A' w' → K (a.put o.dst undef) w') : o.wp P a w K Q := by
  cases hq : P.info? T' with
  | none => rw [hq] at hT; cases hT
  | some inf =>
    rw [hq] at hT
    have hsz : inf.size = 1 := by simpa using hT
    have hc : v.cells = #[v] := by cases v <;> first | rfl | cases hv
    have hi' : i < cs.length := by simpa using hi
    have c0 := h.cell b i (List.getElem?_eq_getElem hi') w h
    have f0 := h.free b i hi w h
    have hrun : (execOp a.eval o).run P w = .ok .skip (w.setCell ⟨b, i, none⟩ v) := by
      unfold execOp
      rw [ho]
      simp [Instr.storeAt, Instr.sureAddr, ha, hx, storeVar, sizeOf, typeInfo, hq, hsz, hc, storeCells, run_store P w _ v _ hv, Addr.add_zero', c0, f0]
    unfold Oper.wp
    rw [hrun]
    exact k _ (h.set b i v)

theorem wp_append (hA : A = sl sz v n xs * R) (h : Own B A w) (I : IsSl P t T sz bytes z) {s x : Operand} (ho : o.op = .call { callee := .builtin .append, args := #[s, x], argTypes := #[t, t] })
    (hs : a.eval s = v) (hx : a.eval x = u) (hr : rd w sz u m ys) (h1 : ∀ y ∈ ys, y.oneCell' = true) (hm : n + m ≤ maxLen) (hb : (n + m) * bytes ≤ 140737488355328)
    (k : ∀ v' w', Own B (sl sz v' (n + m) (xs ++ ys) * R) w' → K (a.put o.dst v') w') : o.wp P a w K Q := by
  obtain ⟨ht, hzs, h0, i, hi, hz, hsz, hby⟩ := I
  obtain ⟨v', w', hrun, ho'⟩ := run_append_sl (P := P) (ty := o.type) (h.eq hA) ht hi hz hsz hzs h0 hr h1 hm (by rw [hby]; exact hb)
  exact wp_of_builtin ho (by simp only [builtin, List.map_toArray, List.map_cons, List.map_nil, hs, hx]) hrun (k v' w' ho')

theorem wp_copy (hA : A = sl sz v n xs * R) (h : Own B A w) (I : IsSl P t T sz bytes z) {s x : Operand} (ho : o.op = .call { callee := .builtin .copy, args := #[s, x], argTypes := #[t, t] })
    (hs : a.eval s = v) (hx : a.eval x = u) (hr : rd w sz u m ys) (h1 : ∀ y ∈ ys, y.oneCell' = true)
    (k : ∀ w', Own B (sl sz v n (ys.take (min m n * sz) ++ xs.drop (min m n * sz)) * R) w' → K (a.put o.dst (goInt (min m n : Nat))) w') : o.wp P a w K Q := by
  obtain ⟨ht, hzs, h0, i, hi, hz, hsz, hby⟩ := I
  obtain ⟨w', hrun, ho'⟩ := run_copy_sl (P := P) (ty := o.type) (h.eq hA) ht hi hsz hr h1
  exact wp_of_builtin ho (by simp only [builtin, List.map_toArray, List.map_cons, List.map_nil, hs, hx]) hrun (k w' ho')

theorem wpl_append {ops : Array Oper} {rest : List Oper} (hg : o.guard = none) (hA : A = sl sz v n xs * R) (h : Own B A w) (I : IsSl P t T sz bytes z) {s x : Operand} (ho : o.op = .call { callee := .builtin .append, args := #[s, x], argTypes := #[t, t] })
    (hs : a.eval s = v) (hx : a.eval x = u) (hr : rd w sz u m ys) (h1 : ∀ y ∈ ys, y.oneCell' = true) (hm : n + m ≤ maxLen) (hb : (n + m) * bytes ≤ 140737488355328)
    (k : ∀ v' w', Own B (sl sz v' (n + m) (xs ++ ys) * R) w' → wpList P ops Q rest (a.put o.dst v') w') : wpList P ops Q (o :: rest) a w :=
  wpList_plain hg fun _ hK => wp_append hA h I ho hs hx hr h1 hm hb fun v' w' h' => hK _ _ (k v' w' h')

theorem wpl_store {ops : Array Oper} {rest : List Oper} (hg : o.guard = none) {A' : Assn} (h : Own B A w) {T' : TypeId} {ad x : Operand} (ho : o.op = .store T' ad x) (hT : (P.info? T').map (·.size) = some 1) (b i : Nat) (v : Value) (ha : a.eval ad = .pointer (some ⟨b, i, none⟩)) (hx : a.eval x = v) (hv : v.oneCell' = true)
    {cs : List Value} [hb : HasBlk b cs A] (hi : decide (i < cs.length) = true) [hs : SetBlk b i v A A'] (k : ∀ w', Own B A' w' → wpList P ops Q rest (a.put o.dst undef) w') : wpList P ops Q (o :: rest) a w :=
  wpList_plain hg fun _ hK => wp_store h ho hT b i v ha hx hv hi fun w' h' => hK _ _ (k w' h')

end

theorem run_string_rd {src dst e : TypeId} (hs : P.underlying src = some (.slice e)) (he : P.underlying e = some (.int .u8)) (hd : P.underlying dst = some .string) {l : List UInt8} {n : Nat} (h : rd w 1 v n (bs l)) :
    (convert src dst v).run P w = .ok (str l) w := by
  obtain ⟨ao, cap, rfl, h1, h2, h3, h4, h5⟩ := h
  have hn : n = l.length := by simpa using h3.symm
  subst hn
  cases ao with
  | none =>
    have : cap = 0 := h4 rfl
    have hl : l = [] := List.eq_nil_of_length_eq_zero (by omega)
    subst hl
    rw [run_convert_bytes_string w src dst e none _ cap hs he hd]
    simp [Conv.bytesToString]
    rfl
  | some ad =>
    refine run_convert_bytes_back w src dst e ad cap l hs he hd (fun j hj => ?_)
    refine h5 ad rfl j _ ?_
    simp [bs, hj, byteV]

theorem run_bytes_own (h : Own B R w) {src dst e : TypeId} (hs : P.underlying src = some .string) (hd : P.underlying dst = some (.slice e)) (he : P.underlying e = some (.int .u8)) (s : ByteArray) (hm : s.size ≤ maxLen) :
    ∃ v' w', (convert src dst (.string s)).run P w = .ok v' w' ∧ Own B (sl 1 v' s.size (bs s.data.toList) * R) w' := by
  refine ⟨_, _, run_bytes_of_string w src dst e s hs hd he, ?_⟩
  have hge := grownCap_ge w s.size 0 e
  have hd' := own_drew h
  have hnew : Own B (blk w.heap.size (bytesRow s (grownCap w s.size 0 e)).toList * R) (w.drew.alloc (.cells (bytesRow s (grownCap w s.size 0 e)) e ((bytesRow s (grownCap w s.size 0 e)).size, (bytesRow s (grownCap w s.size 0 e)).size + 1))) := by
    refine (own_new_obj hd' _).mono ?_
    rintro _ ⟨h1, h2, d, rfl, rfl, b⟩
    refine ⟨_, h2, d, rfl, ⟨e, _, .inr ?_, rfl⟩, b⟩
    simp
  have hl : (bytesRow s (grownCap w s.size 0 e)).toList = bs s.data.toList ++ List.replicate (grownCap w s.size 0 e - s.size) (.int .u8 0) := by
    simp [bytesRow, bs, byteV]
  have hsz : s.data.toList.length = s.size := by rw [Array.length_toList]; rfl
  refine own_sl_mk hge (grownCap_le_maxLen w _ 0 e hm) (by simp [bs, hsz]) ?_ ?_ hnew
  · rw [hl]; simp only [List.length_append, bs_length, hsz, List.length_replicate]; omega
  · rw [hl, List.drop_zero, Nat.mul_one, List.take_append_of_le_length (by simp [hsz])]
    exact List.take_of_length_le (by simp [hsz])

theorem run_make_own (h : Own B R w) (I : IsSl P t T sz bytes z) {kl kc : IntKind} {l c : Int} (h0 : 0 ≤ l) (hlc : l ≤ c) (hb : (bytes : Int) * c ≤ 140737488355328) (h63 : c ≤ 9223372036854775807) :
    ∃ v' w', (Instr.makeSlice t (.int kl l) (.int kc c)).run P w = .ok v' w' ∧ Own B (sl sz v' l.toNat (madeCells z.cells (l.toNat * sz)).toList * R) w' := by
  obtain ⟨ht, hzs, hp, i, hi, hz, hsz, hby⟩ := I
  refine ⟨_, _, run_make w t T i z ht hi hz kl kc l c h0 hlc (by rw [hby]; omega) h63, ?_⟩
  rw [hsz]
  have hnew := own_new h (madeCells z.cells (c.toNat * sz)).toList T
  simp only [Array.toArray_toList] at hnew
  have hle : l.toNat ≤ c.toNat := by omega
  refine own_sl_mk hle (by simp only [maxLen]; omega) (by simp [madeCells]) ?_ ?_ hnew
  · simp [madeCells]
  · rw [List.drop_zero]
    apply List.ext_getElem?
    intro j
    have hle' : l.toNat * sz ≤ c.toNat * sz := Nat.mul_le_mul_right _ hle
    simp only [madeCells, Array.toList_map, Array.toList_range, List.getElem?_take, List.getElem?_map]
    by_cases hj : j < l.toNat * sz
    · have : j < c.toNat * sz := by omega
      simp [hj, this]
    · simp [hj]


/-- a new block as a slice -/
theorem own_new_sl (h : Own B R w) (cs : List Value) (T : TypeId) (sz n : Nat) (hn : cs.length = n * sz) (hm : n ≤ maxLen) : Own B (sl sz (.slice (some ⟨w.heap.size, 0, none⟩) n n) n cs * R) (w.alloc (.cells cs.toArray T)) :=
  own_sl_mk (Nat.le_refl _) hm hn (by omega) (by rw [List.drop_zero, ← hn]; exact List.take_length) (own_new h cs T)

theorem sl_congr {n' : Nat} {xs' : List Value} (hn : n = n') (hx : xs = xs') : sl sz v n xs = sl sz v n' xs' := by rw [hn, hx]

end
end Go.Sl
