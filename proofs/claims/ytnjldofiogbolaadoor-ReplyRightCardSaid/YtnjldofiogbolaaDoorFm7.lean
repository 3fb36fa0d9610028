

/-
  Package fields: how large fields are; what goes on.
-/
import Derived.Test.YtnjldofiogbolaaDoorFm6
import Derived.Lib.SliceRun
namespace Go.Sl
open Go Go.RowKit Go.ChangeShapes Go.BigFrame
section
variable {P : Program} {B w : World} {A A' R : Assn} {ops : Array Oper} {Q : Exit → Act → World → Prop} {rest : List Oper} {o : Oper} {a : Act} {t T : TypeId} {sz n N cap bytes : Nat} {z : Value} {xs : List Value} {ao : Option Addr}

/-- the end of an own slice, cleared -/
theorem run_clear_tail (h : Own B (sl sz (.slice ao n cap) n xs * R) w) (ht : P.underlying t = some (.slice T)) (hz : ∀ w, (zeroValue T).run P w = .ok z w) (hzs : z.cells.size = sz) (h1 : ∀ y ∈ z.cells.toList, y.oneCell' = true) (hN : N ≤ n) {ty : TypeId} :
    ∃ w' ys, (Builtin.clear_ #[t] ty #[.slice (cutA ao cap N sz) (n - N) (cap - N)]).run P w = .ok (.tuple #[]) w' ∧ ys.take (N * sz) = xs.take (N * sz) ∧ Own B (sl sz (.slice ao n cap) n ys * R) w' := by
  rcases own_sl h with ⟨e1, rfl, rfl, ho⟩ | ⟨b, off, cap', cs, e1, a1, a2, a3, a4, a5, ho⟩
  · obtain ⟨rfl, rfl⟩ : ao = none ∧ cap = 0 := by simpa using e1
    obtain rfl : N = 0 := by omega
    refine ⟨w, [], ?_, rfl, own_nil ho sz⟩
    simp [Builtin.clear_, run_underlying ht, cutA]
  · obtain ⟨rfl, rfl⟩ : ao = some ⟨b, off, none⟩ ∧ cap = cap' := by simpa using e1
    by_cases hn : N = n
    · subst hn
      refine ⟨w, xs, ?_, rfl, own_sl_mk a1 a2 a3 a4 a5 ho⟩
      have e0 : N - N = 0 := by omega
      rw [e0]
      unfold cutA
      split <;> simp [Builtin.clear_, run_underlying ht]
    · have hc : ¬ cap = N := by omega
      have hcut : cutA (some (⟨b, off, none⟩ : Addr)) cap N sz = some ⟨b, off + N * sz, none⟩ := by
        unfold cutA
        rw [if_neg hc, Option.map_some, Addr.add_lit]
      obtain ⟨m, hm⟩ : ∃ m, n - N = m + 1 := ⟨n - N - 1, by omega⟩
      obtain ⟨T', fr, hfr, hg, hb'⟩ := own_blk_at ho
      have hzl : (Builtin.zeroCells z.cells (n - N)).toList.length = (n - N) * sz := by
        rw [Array.length_toList, size_zeroCells, hzs]
      have hmul : n * sz = N * sz + (n - N) * sz := by rw [← Nat.add_mul]; congr 1; omega
      have hcap : n * sz ≤ cap * sz := Nat.mul_le_mul_right _ a1
      have hone : ∀ v ∈ (Builtin.zeroCells z.cells (n - N)).toList, v.oneCell' = true := by
        intro v hv
        obtain ⟨i, hi, e⟩ := List.mem_iff_getElem.1 hv
        have : v ∈ z.cells.toList := by
          rw [Array.getElem_toList] at e
          simp only [Builtin.zeroCells] at e
          have hs : 0 < z.cells.size := by
            rw [Array.length_toList, size_zeroCells] at hi
            rcases Nat.eq_zero_or_pos z.cells.size with h0 | h0
            · rw [h0] at hi; omega
            · exact h0
          simp at e
          have hlt : i % z.cells.size < z.cells.size := Nat.mod_lt _ hs
          rw [getElem!_pos z.cells _ hlt] at e
          rw [← e]
          simp
        exact h1 v this
      have hst := run_storeCells_fr (P := P) b (off + N * sz) T' fr (Builtin.zeroCells z.cells (n - N)).toList 0 cs.toArray w (by simpa using hfr) hg (by simp only [List.size_toArray, hzl]; omega) hone
      simp only [Nat.add_zero] at hst
      obtain ⟨zs, hzs'⟩ : ∃ zs, (Builtin.zeroCells z.cells (n - N)).toList = zs := ⟨_, rfl⟩
      rw [hzs'] at hst hzl
      have hlen : (cs.take (off + N * sz) ++ zs ++ cs.drop (off + N * sz + zs.length)).length = cs.length := by
        simp only [List.length_append, List.length_take, List.length_drop]; omega
      refine ⟨w.setRow b (cs.take (off + N * sz) ++ zs ++ cs.drop (off + N * sz + zs.length)).toArray, ((cs.take (off + N * sz) ++ zs ++ cs.drop (off + N * sz + zs.length)).drop off).take (n * sz), ?_, ?_, own_sl_mk a1 a2 ?_ (by omega) rfl (own_setRow ho _ hlen)⟩
      · rw [hcut, hm]
        rw [hm] at hzs'
        simp [Builtin.clear_, run_underlying ht, hz, hzs', hst]
      · rw [← a5]
        apply List.ext_getElem?
        intro j
        simp only [List.getElem?_take, List.getElem?_drop, List.getElem?_append, List.length_take, List.length_append]
        repeat' split
        all_goals first
          | omega
          | rfl
      · rw [List.length_take, List.length_drop, hlen]
        omega

theorem at_clear {c : Array Operand} {ats : Array TypeId} {d ty pos after g} {l : List Oper} (h : wpList P ops Q (⟨d, .call ⟨.builtin .clear, c, ats⟩, ty, pos, after, g⟩ :: l) a w) : wpList P ops Q (⟨d, .call ⟨.builtin .clear, c, ats⟩, ty, pos, after, g⟩ :: l) a w := h
theorem wpu_clear (h : Own B A w) {s : Operand} {bytes : Nat} (ho : o.op = .call { callee := .builtin .clear, args := #[s], argTypes := #[t] }) (hw : Region.wanted o (yielded ops a.tmps) = true) (I : TyApp P t T sz bytes z) (h1 : ∀ y ∈ z.cells.toList, y.oneCell' = true)
    (hz : ∀ w, (zeroValue T).run P w = .ok z w) (hN : N ≤ n) (hs : evalO a s = some (.slice (cutA ao cap N sz) (n - N) (cap - N))) [tk : TakeSl (.slice ao n cap) sz n xs A A']
    (kk : ∀ w' ys, ys.take (N * sz) = xs.take (N * sz) → Own B (sl sz (.slice ao n cap) n ys * A') w' → wpList P ops Q rest (a.put o.dst (.tuple #[])) w') : wpList P ops Q (o :: rest) a w := by
  obtain ⟨ht, hzs, _⟩ := I.out
  obtain ⟨w', ys, hr, e, G⟩ := run_clear_tail (ty := o.type) (h.eq tk.out) ht hz hzs h1 hN
  exact wpList_want hw fun _ hK => wp_of_builtin ho (by simp only [builtin, List.map_toArray, List.map_cons, List.map_nil, evalO_eq hs]) hr (hK _ _ (kk w' ys e G))
end
end Go.Sl
namespace Go.Proofs.YtnjldofiogbolaaDoor
open Go.RowKit Go.Sl Go.ChangeShapes

theorem sizeR_app (L1 L2 : List Fd) : sizeR (L1 ++ L2) = sizeR L1 + sizeR L2 := by
  induction L1 with
  | nil => simp [sizeR]
  | cons f L1 ih => simp only [List.cons_append, sizeR, ih]; omega
theorem sizeR_take {L : List Fd} {j : Nat} {f : Fd} (h : L[j]? = some f) : sizeR (L.take (j + 1)) = sizeR (L.take j) + size1 f := by
  rw [List.take_add_one, h, sizeR_app]
  simp [sizeR]

/-! ### what goes on -/
theorem fds_set {X : List Fd} {k : Nat} {f : Fd} (hk : k < X.length) : fds (X.set k f) = (fds X).take (k * 3) ++ [str f.1, str f.2.1, .bool f.2.2] ++ (fds X).drop (k * 3 + 3) := by
  have e : X.set k f = X.take k ++ f :: X.drop (k + 1) := by rw [List.set_eq_take_append_cons_drop, if_pos hk]
  have h1 : (fds X).take (k * 3) = fds (X.take k) := by
    conv => lhs; rw [← List.take_append_drop k X, ← fds_app]
    have : (fds (X.take k)).length = k * 3 := by rw [fds_len, List.length_take, Nat.min_eq_left (by omega)]
    rw [List.take_append_of_le_length (by omega), List.take_of_length_le (by omega)]
  have h2 : (fds X).drop (k * 3 + 3) = fds (X.drop (k + 1)) := by
    conv => lhs; rw [← List.take_append_drop (k + 1) X, ← fds_app]
    have : (fds (X.take (k + 1))).length = k * 3 + 3 := by rw [fds_len, List.length_take, Nat.min_eq_left (by omega)]; omega
    rw [List.drop_append, this, Nat.sub_self, List.drop_zero, List.drop_eq_nil_of_le (by omega), List.nil_append]
  rw [e, h1, h2, ← fds_app]
  simp [fds, Fd.cs]
theorem fds_takeE {X : List Fd} {k : Nat} (hk : k ≤ X.length) : (fds X).take (k * 3) = fds (X.take k) := by
  conv => lhs; rw [← List.take_append_drop k X, ← fds_app]
  have : (fds (X.take k)).length = k * 3 := by rw [fds_len, List.length_take, Nat.min_eq_left (by omega)]
  rw [List.take_append_of_le_length (by omega), List.take_of_length_le (by omega)]

theorem fds_one (l : List Fd) : ∀ y ∈ fds l, y.oneCell' = true := by
  intro y hy
  obtain ⟨f, _, hf⟩ := List.mem_flatMap.1 hy
  simp [Fd.cs] at hf
  rcases hf with rfl | rfl | rfl <;> rfl

/-- the first of the fields that is so -/
def firstR {α : Type} (p : α → Bool) : List α → Int
  | [] => -1
  | f :: l => if p f then 0 else if firstR p l = -1 then -1 else firstR p l + 1
theorem firstR_cons {α : Type} (p : α → Bool) (f : α) (l : List α) : firstR p (f :: l) = if p f then 0 else if firstR p l = -1 then -1 else firstR p l + 1 := rfl
theorem firstR_ge {α : Type} (p : α → Bool) (l : List α) : -1 ≤ firstR p l := by
  induction l with
  | nil => show (-1 : Int) ≤ -1; omega
  | cons f l ih => rw [firstR_cons]; split <;> (try split) <;> omega
theorem firstR_app {α : Type} {p : α → Bool} {l1 l2 : List α} (h : ∀ f ∈ l1, p f = false) : firstR p (l1 ++ l2) = if firstR p l2 = -1 then -1 else l1.length + firstR p l2 := by
  induction l1 with
  | nil =>
    rw [List.nil_append]
    split
    · assumption
    · simp
  | cons f l1 ih =>
    have hf := h f (List.mem_cons_self ..)
    have := firstR_ge p l2
    rw [List.cons_append, firstR_cons, hf, ih fun g hg => h g (List.mem_cons_of_mem _ hg)]
    simp only [Bool.false_eq_true, if_false, List.length_cons]
    by_cases e : firstR p l2 = -1
    · simp [e]
    · rw [if_neg e, if_neg e, if_neg (by omega)]
      omega
/-- what it is -/
theorem firstR_is {α : Type} (p : α → Bool) : ∀ l : List α, (firstR p l = -1 ∧ ∀ f ∈ l, p f = false) ∨ ∃ k : Nat, firstR p l = k ∧ k < l.length ∧ (∀ f ∈ l.take k, p f = false) ∧ ∃ f, l[k]? = some f ∧ p f = true := by
  intro l
  induction l with
  | nil => exact .inl ⟨rfl, fun _ h => by cases h⟩
  | cons f l ih =>
    rw [firstR_cons]
    cases hp : p f with
    | true => exact .inr ⟨0, rfl, by simp, by simp, f, rfl, hp⟩
    | false =>
      rcases ih with ⟨e, h⟩ | ⟨k, e, hk, h, g, hg, hpg⟩
      · left
        rw [e]
        refine ⟨rfl, fun g hg => ?_⟩
        rcases List.mem_cons.1 hg with rfl | hg
        · exact hp
        · exact h g hg
      · right
        refine ⟨k + 1, ?_, by simp; omega, ?_, g, by simpa using hg, hpg⟩
        · rw [e, if_neg (by simp), if_neg (by omega)]; simp
        · intro x hx
          rw [List.take_succ_cons] at hx
          rcases List.mem_cons.1 hx with rfl | hx
          · exact hp
          · exact h x hx

set_option maxHeartbeats 8000000 in
set_option maxRecDepth 100000 in
theorem dropC {B w : World} {R : Assn} {f : Fd} (h : Own B R w) : Calls Tryd.prog 24 #[.agg #[str f.1, str f.2.1, .bool f.2.2]] w fun e w' => e = .returned (.bool (dropR f)) ∧ Own B R w' := by
  obtain ⟨n, v, nv⟩ := f
  simp only
  obtain ⟨q1, h1⟩ : ∃ q, decide (n = [116, 101]) = q := ⟨_, rfl⟩
  obtain ⟨q2, h2⟩ : ∃ q, decide (n = [118, 105, 97]) = q := ⟨_, rfl⟩
  obtain ⟨q3, h3⟩ : ∃ q, decide (n = [102, 111, 114, 119, 97, 114, 100, 101, 100]) = q := ⟨_, rfl⟩
  obtain ⟨q4, h4⟩ : ∃ q, ([120, 45, 104, 111, 112, 45] : Txt).isPrefixOf n = q := ⟨_, rfl⟩
  have HB : Hid (dropR (n, v, nv) = (q1 || q2 || q3 || q4)) := Lib.hid (by unfold dropR; rw [h1, h2, h3, h4])
  have H4 := Lib.hid h4
  clear h4
  go_enter Tryd.func24, Tryd.ntmps24
  cases q1
  · cases q2
    · cases q3
      · go_wp2_with (first
          | ((with_reducible refine at_eqS ?_); refine wpu_eqS rfl (by kernel_rfl) rfl rfl (by assumption) ?_; go_frame)
          | (go_at_call 25; refine Calls.mono (hasPrefixC n [120, 45, 104, 111, 112, 45] _) ?_; rintro e w ⟨rfl, rfl⟩; rw [H4.out])
          | fail)
        go_ret
        exact ⟨by rw [HB.out]; rfl, own_alloc h _⟩
      · go_wp2_with (first
          | go_big_skip
          | ((with_reducible refine at_eqS ?_); refine wpu_eqS rfl (by kernel_rfl) rfl rfl (by assumption) ?_; go_frame)
          | fail)
        go_ret
        exact ⟨by rw [HB.out]; rfl, own_alloc h _⟩
    · go_wp2_with (first
        | go_big_skip
        | ((with_reducible refine at_eqS ?_); refine wpu_eqS rfl (by kernel_rfl) rfl rfl (by assumption) ?_; go_frame)
        | fail)
      go_ret
      exact ⟨by rw [HB.out]; rfl, own_alloc h _⟩
  · go_wp2_with (first
      | go_big_skip
      | ((with_reducible refine at_eqS ?_); refine wpu_eqS rfl (by kernel_rfl) rfl rfl (by assumption) ?_; go_frame)
      | fail)
    go_ret
    exact ⟨by rw [HB.out]; rfl, own_alloc h _⟩

theorem isFields : IsSl Tryd.prog 24 28 3 40 (.agg #[str [], str [], .bool false]) := isSl_mk Tryd.underlying24 (by kernel_rfl) rfl (by decide)
@[go_sem] theorem eqNilF (w : World) (a : Option Addr) (n c : Nat) : (binOp .eql 24 (.slice a n c) (.slice none 0 0)).run Tryd.prog w = .ok (.bool a.isNone) w :=
  Lib.run_eql_slice_nil w 24 28 a n c 0 0 Tryd.underlying24
/-- slices.Clone of fields -/
theorem cloneF {B w : World} {A : Assn} {v : Value} {L : List Fd} (h : Own B A w) (hr : ∀ w, Own B A w → rd w 3 v L.length (fds L)) (hl : L.length ≤ 1000) :
    Calls Tryd.prog 23 #[v] w fun e w' => ∃ v', e = .returned v' ∧ Own B (sl 3 v' L.length (fds L) * A) w' := by
  obtain ⟨uo, ucap, rfl, u1, u2, u3, u4, -⟩ := hr w h
  unfold maxLen at u2
  cases uo with
  | none =>
    have : ucap = 0 := u4 rfl
    subst this
    have hn : L = [] := List.eq_nil_of_length_eq_zero (by omega)
    subst hn
    go_enter Tryd.func23, Tryd.ntmps23
    go_wp2
    go_ret
    exact ⟨_, rfl, own_nil h 3⟩
  | some a =>
    go_enter Tryd.func23, Tryd.ntmps23
    have g := own_new_sl h [] 28 3 0 rfl (Nat.zero_le _)
    go_wp2_with (at_builtin; go_loud (refine wpl_append rfl (v := .slice (some ⟨w.heap.size, 0, none⟩) 0 0) (A := _) rfl g isFields rfl rfl rfl (hr _ g.right) (fds_one L) (by unfold maxLen; omega) (by omega) ?_); intro v' w1 g1)
    go_ret
    exact ⟨_, rfl, g1.eq (by simp)⟩
end Go.Proofs.YtnjldofiogbolaaDoor
