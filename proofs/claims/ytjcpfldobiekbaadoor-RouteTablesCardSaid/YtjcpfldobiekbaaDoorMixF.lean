




/-
  A region that draws its order, and makes new blocks in whatever order: one walk, in the order of the text, over assertions.
  Condition: a loud operation waits for every loud one, and every maker of a new block, that stands ahead of it in the text ('mixFB', a Bool over the region).
-/
import Derived.Test.YtjcpfldobiekbaaDoorAuto2
namespace Go.Sl
open Go Go.RowKit

/-- it makes one new block, and yields v -/
def freshAt (P : Program) (o : Oper) (a : Act) (w : World) (v : Value) (cs : List Value) (T : TypeId) : Prop :=
  (execOp a.eval o).run P w = .ok (.value v) (w.alloc (.cells cs.toArray T))

theorem freshAt.unique {P : Program} {o : Oper} {a : Act} {w : World} {v v' : Value} {cs cs' : List Value} {T T' : TypeId} (h : freshAt P o a w v cs T) (k : freshAt P o a w v' cs' T') : v = v' ∧ cs = cs' := by
  unfold freshAt at *
  rw [h] at k
  simp only [Result.ok.injEq, Next.value.injEq] at k
  refine ⟨k.1, ?_⟩
  have h1 := heap_alloc_new w (.cells cs.toArray T)
  rw [k.2, heap_alloc_new w (.cells cs'.toArray T')] at h1
  simp only [Option.some.injEq, Obj.cells.injEq] at h1
  simpa using h1.1.symm

section
variable {P : Program} {ops : Array Oper} {md : Region.Mode} {C : World → Prop} {B : World} {tags : List Nat} {Q : Exit → Act → World → Prop}

theorem freshAt.put {o x : Oper} {v u : Value} {cs : List Value} {T : TypeId} {a : Act} {w : World} (hs : ∀ cs b, o.op ≠ .select cs b) (h3 : ∀ d, x.dst = some d → d ∉ o.looksAt ops) :
    freshAt P o (a.put x.dst u) w v cs T ↔ freshAt P o a w v cs T := by
  unfold freshAt
  rw [execOp_put o hs a x.dst u h3]
theorem freshAt.form {o x : Oper} {v : Value} {cs : List Value} {T : TypeId} {a a' : Act} {w : World} (hs : ∀ cs b, o.op ≠ .select cs b) (h3 : ∀ d, x.dst = some d → d ∉ o.looksAt ops)
    (hf : ∃ u ds, a' = ({ a with defers := ds } : Act).put x.dst u) : freshAt P o a' w v cs T ↔ freshAt P o a w v cs T := by
  obtain ⟨u, ds, rfl⟩ := hf
  rw [freshAt.put hs h3]
  exact Iff.rfl

def Sat (C : World → Prop) (B : World) (A : Assn) : Prop := ∃ w, C w ∧ Own B A w

def opF (P : Program) (ops : Array Oper) (C : World → Prop) (B : World) (t : Nat) (i : Nat) (K : Act → Assn → Prop) (a : Act) (A : Assn) : Prop :=
  match ops[i]? with
  | none => K a A
  | some o =>
    if isQ t then ∃ v, quietIn P ops (clsOf C t) o v a ∧ K (a.put o.dst v) A
    else if t = 4 then ∀ w, ∃ v cs T, freshAt P o a w v cs T ∧ K (a.put o.dst v) (blk w.heap.size cs * A)
    else ∀ F w, C w → Own B (A * F) w → o.wp P a w (fun a' w' => ∃ A', C w' ∧ Own B (A' * F) w' ∧ K a' A') NoPost

def wpAnyF (P : Program) (md : Region.Mode) (ops : Array Oper) (C : World → Prop) (B : World) (tags : List Nat) (Q : Exit → Act → World → Prop) : Nat → Array Bool → Act → Assn → Prop
  | 0, listed, a, A => Sat C B A → Region.ready md ops listed = [] ∧ ∀ w, Own B A w → Q .normal a w
  | fuel + 1, listed, a, A => Sat C B A →
    (Region.ready md ops listed = [] → ∀ w, Own B A w → Q .normal a w) ∧
    ∀ i ∈ Region.ready md ops listed, opF P ops C B (tags.getD i 3) i (wpAnyF P md ops C B tags Q fuel (listed.setIfInBounds i true)) a A

theorem anyF_of {fuel : Nat} {listed : Array Bool} {a : Act} {A : Assn} (h : Sat C B A → wpAnyF P md ops C B tags Q fuel listed a A) : wpAnyF P md ops C B tags Q fuel listed a A := by
  cases fuel with
  | zero => exact fun s => h s s
  | succ n => exact fun s => h s s

/-- the loud ones wait -/
def orderF (S : List (List Nat)) (tags : List Nat) (n : Nat) : Bool :=
  (List.range n).all fun j => (List.range n).all fun i => isQ (tags.getD j 3) || tags.getD j 3 == 4 || decide (j ≤ i) || isQ (tags.getD i 3) || (S.getD j []).contains i
def noGuards (ops : Array Oper) (tags : List Nat) : Bool := (List.range ops.size).all fun i => isQ (tags.getD i 3) || (match ops[i]? with | none => true | some o => o.guard.isNone)
def mixFB (md : Region.Mode) (ops : Array Oper) (tags : List Nat) : Bool :=
  Region.noSelect ops && ancB md ops (ancs md ops) && orderF (ancs md ops) tags ops.size && noGuards ops tags && Region.lexFrom md ops ops.size 0 (Array.replicate ops.size false)

structure GoodF (md : Region.Mode) (ops : Array Oper) (tags : List Nat) : Prop where
  sel : ∀ (j : Nat) (o : Oper) cs b, ops[j]? = some o → o.op ≠ .select cs b
  one : ∀ listed, Closed md ops listed → ∀ i j, i ∈ Region.ready md ops listed → j ∈ Region.ready md ops listed → i < j → isQ (tags.getD i 3) = false → isQ (tags.getD j 3) = false → tags.getD j 3 = 4

theorem goodF_of {tags : List Nat} (h : mixFB md ops tags = true) : GoodF md ops tags ∧ (∀ i o, ops[i]? = some o → isQ (tags.getD i 3) = false → o.guard = none) ∧ Region.lexFrom md ops ops.size 0 (Array.replicate ops.size false) = true := by
  simp only [mixFB, Bool.and_eq_true] at h
  obtain ⟨⟨⟨⟨hsel, hS⟩, hord⟩, hg⟩, hlex⟩ := h
  have lt : ∀ {listed : Array Bool} {i : Nat}, i ∈ Region.ready md ops listed → i < ops.size := fun hi => by
    obtain ⟨_, o, ho, _⟩ := mem_ready.1 hi
    exact (Array.getElem?_eq_some_iff.1 ho).1
  refine ⟨⟨Region.noSelect_spec hsel, ?_⟩, ?_, hlex⟩
  · intro listed inv i j hi hj hlt qi qj
    have h1 := List.all_eq_true.1 hord j (List.mem_range.2 (lt hj))
    have h2 := List.all_eq_true.1 h1 i (List.mem_range.2 (lt hi))
    rw [qj, qi] at h2
    simp only [Bool.false_or, Bool.or_false, Bool.or_eq_true, beq_iff_eq, decide_eq_true_eq, List.contains_iff_mem] at h2
    rcases h2 with (h2 | h2) | h2
    · exact h2
    · omega
    · have h3 := anc_ready hS inv hj h2
      rw [getD_false_of_true (mem_ready.1 hi).1] at h3
      cases h3
  · intro i o ho hq
    have h1 := List.all_eq_true.1 hg i (List.mem_range.2 (Array.getElem?_eq_some_iff.1 ho).1)
    rw [hq, ho] at h1
    simpa using h1

theorem wanted_none {o : Oper} (h : o.guard = none) {y : Nat → Option Bool} : Region.wanted o y = true := by simp [Region.wanted, h]

theorem sat_new (hCa : ∀ w o, C w → C (w.alloc o)) {A : Assn} {w : World} (hc : C w) (h : Own B A w) (cs : List Value) (T : TypeId) : Sat C B (blk w.heap.size cs * A) :=
  ⟨w.alloc (.cells cs.toArray T), hCa _ _ hc, own_new h cs T⟩

/-- it is a wpAny -/
theorem any_of_F (G : GoodF md ops tags) (hg : ∀ i o, ops[i]? = some o → isQ (tags.getD i 3) = false → o.guard = none) (hCa : ∀ w o, C w → C (w.alloc o)) : ∀ (fuel : Nat) (listed : Array Bool) (a : Act) (A : Assn) (w : World), C w → Own B A w →
    wpAnyF P md ops C B tags Q fuel listed a A → wpAny P md ops Q fuel listed a w
  | 0, _, _, _, w, hc, ho, h => ⟨(h ⟨w, hc, ho⟩).1, (h ⟨w, hc, ho⟩).2 w ho⟩
  | fuel + 1, listed, a, A, w, hc, ho, h => by
    have h := h ⟨w, hc, ho⟩
    refine ⟨fun e => h.1 e w ho, fun j hj => ?_⟩
    have h1 := h.2 j hj
    obtain ⟨hjun, oj, hoj, hall⟩ := mem_ready.1 hj
    unfold opF at h1
    unfold wpOp
    simp only [hoj] at h1 ⊢
    split at h1
    · obtain ⟨v, hy, hk⟩ := h1
      have hk' := any_of_F G hg hCa fuel _ _ _ w hc ho hk
      rcases hy with ⟨hw, hv⟩ | ⟨hw, rfl⟩
      · rw [if_pos hw]
        refine .inl ?_
        have hr := hv w (fun _ => hc)
        unfold Oper.wp
        rcases hr with hr | ⟨hr, rfl⟩ <;> rw [hr] <;> exact hk'
      · rw [hw]
        exact hk'
    · rename_i hq
      have hw := wanted_none (hg j oj hoj (by simpa using hq)) (y := yielded ops a.tmps)
      rw [if_pos hw]
      refine .inl ?_
      split at h1
      · obtain ⟨v, cs, T, hr, hk⟩ := h1 w
        unfold Oper.wp
        unfold freshAt at hr
        rw [hr]
        exact any_of_F G hg hCa fuel _ _ _ _ (hCa _ _ hc) (own_new ho cs T) hk
      · refine wp_exit (Oper.wp_mono (fun a' w' hh => ?_) (h1 emp w hc (ho.eq (star_emp A).symm)))
        obtain ⟨A', hc', ho', hk⟩ := hh
        exact any_of_F G hg hCa fuel _ _ _ w' hc' (ho'.eq (star_emp A')) hk

theorem opF_quiet {i : Nat} {oi : Oper} {v : Value} {a : Act} {A : Assn} {t : Nat} {K : Act → Assn → Prop} (hi : ops[i]? = some oi) (ht : isQ t = true) (hy : quietIn P ops (clsOf C t) oi v a) (h : K (a.put oi.dst v) A) :
    opF P ops C B t i K a A := by
  unfold opF
  simp only [hi, ht, if_true]
  exact ⟨v, hy, h⟩

/-- a quiet operation that may come up now may be taken first -/
theorem first_quietF (G : GoodF md ops tags) {i : Nat} {oi : Oper} {v : Value} (hi : ops[i]? = some oi) (ht : isQ (tags.getD i 3) = true) :
    ∀ (fuel : Nat) (listed : Array Bool) (a : Act) (A : Assn),
      (∀ j oj, ops[j]? = some oj → j ≠ i → listed.getD j true = false → (∀ e ∈ oj.after, Region.binds md e = true → e.on ≠ i) → oi.apart ops oj = true) →
      i ∈ Region.ready md ops listed → quietIn P ops (clsOf C (tags.getD i 3)) oi v a →
      wpAnyF P md ops C B tags Q fuel (listed.setIfInBounds i true) (a.put oi.dst v) A → wpAnyF P md ops C B tags Q (fuel + 1) listed a A := by
  intro fuel
  induction fuel with
  | zero =>
    intro listed a A _ hr hy H sat
    refine ⟨fun h => (by rw [h] at hr; cases hr), fun j hj => ?_⟩
    by_cases hji : j = i
    · subst hji; exact opF_quiet hi ht hy H
    · have := ready_mono hj hji
      rw [(H sat).1] at this
      cases this
  | succ fuel ih =>
    intro listed a A hfree hr hy H sat
    refine ⟨fun h => (by rw [h] at hr; cases hr), fun j hj => ?_⟩
    by_cases hji : j = i
    · subst hji; exact opF_quiet hi ht hy H
    · have h1 := (H sat).2 j (ready_mono hj hji)
      obtain ⟨hjun, oj, hoj, hall⟩ := mem_ready.1 hj
      have hnot : ∀ e ∈ oj.after, Region.binds md e = true → e.on ≠ i := fun e he hb heq => by
        have h1 := hall e he hb
        have h0 := (mem_ready.1 hr).1
        rw [heq, getD_false_of_true h0] at h1
        cases h1
      obtain ⟨a1, a2, a3⟩ := Oper.apart_spec (hfree j oj hoj hji hjun hnot)
      have si := fun cs b => G.sel i oi cs b hi
      have sj := fun cs b => G.sel j oj cs b hoj
      have hfree' : ∀ k ok, ops[k]? = some ok → k ≠ i → (listed.setIfInBounds j true).getD k true = false →
          (∀ e ∈ ok.after, Region.binds md e = true → e.on ≠ i) → oi.apart ops ok = true := fun k ok hk hki hun hno => by
        refine hfree k ok hk hki ?_ hno
        by_cases hjk : j = k
        · subst hjk; exact hjun
        · rw [getD_set_ne true hjk] at hun; exact hun
      have hr' := ready_mono hr (Ne.symm hji)
      unfold opF at h1 ⊢
      simp only [hoj] at h1 ⊢
      split
      · rename_i hq
        rw [if_pos hq] at h1
        obtain ⟨vj, hyj, hk⟩ := h1
        refine ⟨vj, (quietIn.put sj a1).1 hyj, ih _ _ _ hfree' hr' ((quietIn.put si a3).2 hy) ?_⟩
        rw [← Act.put_comm a v vj a2, Array.setIfInBounds_comm _ _ hji]
        exact hk
      · rename_i hq
        rw [if_neg hq] at h1
        split
        · rename_i h4
          rw [if_pos h4] at h1
          intro w
          obtain ⟨vj, cs, T, hf, hk⟩ := h1 w
          refine ⟨vj, cs, T, (freshAt.put sj a1).1 hf, ih _ _ _ hfree' hr' ((quietIn.put si a3).2 hy) ?_⟩
          rw [← Act.put_comm a v vj a2, Array.setIfInBounds_comm _ _ hji]
          exact hk
        · rename_i h4
          rw [if_neg h4] at h1
          intro F w hc ho
          refine Oper.wp_mono (fun a' w' hh => ?_) (wp_form ((wp_put_in sj a1 a2).1 (h1 F w hc ho)))
          obtain ⟨hf, A', hc', ho', hk⟩ := hh
          refine ⟨A', hc', ho', ih _ _ _ hfree' hr' ((quietIn.form si a3 hf).2 hy) ?_⟩
          rw [Array.setIfInBounds_comm _ _ hji]
          exact hk

/-- a maker of a new block that may come up now, and stands first in the text, may be taken first -/
theorem first_freshF (G : GoodF md ops tags) (hCa : ∀ w o, C w → C (w.alloc o)) {i : Nat} {oi : Oper} (hi : ops[i]? = some oi) (ht : isQ (tags.getD i 3) = false) (ht4 : tags.getD i 3 = 4) :
    ∀ (fuel : Nat) (listed : Array Bool) (a : Act) (A : Assn), Closed md ops listed → (∀ j, j < i → listed.getD j true = true) →
      (∀ j oj, ops[j]? = some oj → j ≠ i → listed.getD j true = false → (∀ e ∈ oj.after, Region.binds md e = true → e.on ≠ i) → oi.apart ops oj = true) →
      i ∈ Region.ready md ops listed →
      (∀ w, ∃ v cs T, freshAt P oi a w v cs T ∧ wpAnyF P md ops C B tags Q fuel (listed.setIfInBounds i true) (a.put oi.dst v) (blk w.heap.size cs * A)) → wpAnyF P md ops C B tags Q (fuel + 1) listed a A := by
  intro fuel
  induction fuel with
  | zero =>
    intro listed a A inv hmin _ hr H sat
    refine ⟨fun h => (by rw [h] at hr; cases hr), fun j hj => ?_⟩
    by_cases hji : j = i
    · subst hji; unfold opF; simp only [hi, ht, ht4, if_true]; exact H
    · obtain ⟨w0, hc0, ho0⟩ := sat
      obtain ⟨v, cs, T, _, hk⟩ := H w0
      have := ready_mono hj hji
      rw [(hk (sat_new hCa hc0 ho0 cs T)).1] at this
      cases this
  | succ fuel ih =>
    intro listed a A inv hmin hfree hr H sat
    refine ⟨fun h => (by rw [h] at hr; cases hr), fun j hj => ?_⟩
    by_cases hji : j = i
    · subst hji; unfold opF; simp only [hi, ht, ht4, if_true]; exact H
    · obtain ⟨hjun, oj, hoj, hall⟩ := mem_ready.1 hj
      have hlt : i < j := by
        rcases Nat.lt_trichotomy i j with h | h | h
        · exact h
        · exact absurd h.symm hji
        · have := hmin j h
          rw [hjun] at this
          cases this
      have hnot : ∀ e ∈ oj.after, Region.binds md e = true → e.on ≠ i := fun e he hb heq => by
        have h1 := hall e he hb
        have h0 := (mem_ready.1 hr).1
        rw [heq, getD_false_of_true h0] at h1
        cases h1
      obtain ⟨a1, a2, a3⟩ := Oper.apart_spec (hfree j oj hoj hji hjun hnot)
      have si := fun cs b => G.sel i oi cs b hi
      have sj := fun cs b => G.sel j oj cs b hoj
      have hfree' : ∀ k ok, ops[k]? = some ok → k ≠ i → (listed.setIfInBounds j true).getD k true = false →
          (∀ e ∈ ok.after, Region.binds md e = true → e.on ≠ i) → oi.apart ops ok = true := fun k ok hk hki hun hno => by
        refine hfree k ok hk hki ?_ hno
        by_cases hjk : j = k
        · subst hjk; exact hjun
        · rw [getD_set_ne true hjk] at hun; exact hun
      have hmin' : ∀ k, k < i → (listed.setIfInBounds j true).getD k true = true := fun k hk => by
        rw [getD_set_ne true (by omega)]
        exact hmin k hk
      have hr' := ready_mono hr (Ne.symm hji)
      obtain ⟨w0, hc0, ho0⟩ := sat
      obtain ⟨v0, cs0, T0, hf0, hk0⟩ := H w0
      have h1 := (hk0 (sat_new hCa hc0 ho0 cs0 T0)).2 j (ready_mono hj hji)
      unfold opF at h1 ⊢
      simp only [hoj] at h1 ⊢
      split
      · rename_i hq
        rw [if_pos hq] at h1
        obtain ⟨vj, hyj, _⟩ := h1
        have hyj' := (quietIn.put sj a1).1 hyj
        refine ⟨vj, hyj', ih _ _ _ (inv.set hj) hmin' hfree' hr' fun w => ?_⟩
        obtain ⟨v, cs, T, hf, hk⟩ := H w
        refine ⟨v, cs, T, (freshAt.put si a3).2 hf, anyF_of fun s => ?_⟩
        have h2 := (hk s).2 j (ready_mono hj hji)
        unfold opF at h2
        simp only [hoj] at h2
        rw [if_pos hq] at h2
        obtain ⟨vj', hyj2, hk2⟩ := h2
        obtain rfl : vj' = vj := quietIn.unique (w := w0) (fun _ => hc0) ((quietIn.put sj a1).1 hyj2) hyj'
        rw [← Act.put_comm a v vj' a2, Array.setIfInBounds_comm _ _ hji]
        exact hk2
      · rename_i hq
        have h4 := G.one listed inv i j hr hj hlt ht (by simpa using hq)
        rw [if_neg hq, if_pos h4] at h1
        rw [if_pos h4]
        intro w
        obtain ⟨vj, csj, Tj, hfj, _⟩ := h1 w
        have hfj' := (freshAt.put sj a1).1 hfj
        refine ⟨vj, csj, Tj, hfj', ih _ _ _ (inv.set hj) hmin' hfree' hr' fun wi => ?_⟩
        obtain ⟨v, cs, T, hf, hk⟩ := H wi
        refine ⟨v, cs, T, (freshAt.put si a3).2 hf, anyF_of fun s => ?_⟩
        have s' : Sat C B (blk wi.heap.size cs * A) := by obtain ⟨w', h1, h2⟩ := s; exact ⟨w', h1, h2.skip⟩
        have h2 := (hk s').2 j (ready_mono hj hji)
        unfold opF at h2
        simp only [hoj] at h2
        rw [if_neg hq, if_pos h4] at h2
        obtain ⟨vj', csj', Tj', hfj2, hk2⟩ := h2 w
        obtain ⟨rfl, rfl⟩ := ((freshAt.put sj a1).1 hfj2).unique hfj'
        rw [← Act.put_comm a v vj' a2, Array.setIfInBounds_comm _ _ hji, star_left_comm]
        exact hk2

/-- a loud one that may come up now, and stands first in the text, may be taken first -/
theorem first_loudF (G : GoodF md ops tags) {i : Nat} {oi : Oper} (hi : ops[i]? = some oi) (ht : isQ (tags.getD i 3) = false) (ht4 : tags.getD i 3 ≠ 4) :
    ∀ (fuel : Nat) (listed : Array Bool) (a : Act) (A : Assn), Closed md ops listed → (∀ j, j < i → listed.getD j true = true) →
      (∀ j oj, ops[j]? = some oj → j ≠ i → listed.getD j true = false → (∀ e ∈ oj.after, Region.binds md e = true → e.on ≠ i) → oi.apart ops oj = true) →
      i ∈ Region.ready md ops listed →
      (∀ F w, C w → Own B (A * F) w → oi.wp P a w (fun a' w' => ∃ A', C w' ∧ Own B (A' * F) w' ∧ wpAnyF P md ops C B tags Q fuel (listed.setIfInBounds i true) a' A') NoPost) → wpAnyF P md ops C B tags Q (fuel + 1) listed a A := by
  intro fuel
  induction fuel with
  | zero =>
    intro listed a A inv hmin _ hr H sat
    refine ⟨fun h => (by rw [h] at hr; cases hr), fun j hj => ?_⟩
    by_cases hji : j = i
    · subst hji; unfold opF; simp only [hi, ht, if_neg ht4]; exact H
    · obtain ⟨w0, hc0, ho0⟩ := sat
      obtain ⟨a', w', A', hc', ho', hk⟩ := wp_some (H emp w0 hc0 (ho0.eq (star_emp A).symm))
      have := ready_mono hj hji
      rw [(hk ⟨w', hc', ho'.drop⟩).1] at this
      cases this
  | succ fuel ih =>
    intro listed a A inv hmin hfree hr H sat
    refine ⟨fun h => (by rw [h] at hr; cases hr), fun j hj => ?_⟩
    by_cases hji : j = i
    · subst hji; unfold opF; simp only [hi, ht, if_neg ht4]; exact H
    · obtain ⟨hjun, oj, hoj, hall⟩ := mem_ready.1 hj
      have hlt : i < j := by
        rcases Nat.lt_trichotomy i j with h | h | h
        · exact h
        · exact absurd h.symm hji
        · have := hmin j h
          rw [hjun] at this
          cases this
      have hnot : ∀ e ∈ oj.after, Region.binds md e = true → e.on ≠ i := fun e he hb heq => by
        have h1 := hall e he hb
        have h0 := (mem_ready.1 hr).1
        rw [heq, getD_false_of_true h0] at h1
        cases h1
      obtain ⟨a1, a2, a3⟩ := Oper.apart_spec (hfree j oj hoj hji hjun hnot)
      have si := fun cs b => G.sel i oi cs b hi
      have sj := fun cs b => G.sel j oj cs b hoj
      have hfree' : ∀ k ok, ops[k]? = some ok → k ≠ i → (listed.setIfInBounds j true).getD k true = false →
          (∀ e ∈ ok.after, Region.binds md e = true → e.on ≠ i) → oi.apart ops ok = true := fun k ok hk hki hun hno => by
        refine hfree k ok hk hki ?_ hno
        by_cases hjk : j = k
        · subst hjk; exact hjun
        · rw [getD_set_ne true hjk] at hun; exact hun
      have hmin' : ∀ k, k < i → (listed.setIfInBounds j true).getD k true = true := fun k hk => by
        rw [getD_set_ne true (by omega)]
        exact hmin k hk
      have hr' := ready_mono hr (Ne.symm hji)
      obtain ⟨w0, hc0, ho0⟩ := sat
      obtain ⟨a', w', hform, A', hc', ho', hk0⟩ := wp_some (wp_form (H emp w0 hc0 (ho0.eq (star_emp A).symm)))
      have h1 := (hk0 ⟨w', hc', ho'.drop⟩).2 j (ready_mono hj hji)
      unfold opF at h1 ⊢
      simp only [hoj] at h1 ⊢
      split
      · rename_i hq
        rw [if_pos hq] at h1
        obtain ⟨vj, hyj, _⟩ := h1
        have hyj' := (quietIn.form sj a1 hform).1 hyj
        refine ⟨vj, hyj', ih _ _ _ (inv.set hj) hmin' hfree' hr' fun F w hc ho => ?_⟩
        refine (wp_put_in si a3 (fun d hd he => a2 d he hd)).2 (Oper.wp_mono (fun a' w' hh => ?_) (wp_form (H F w hc ho)))
        obtain ⟨hf, A1, hc1, ho1, hk⟩ := hh
        have h2 := (hk ⟨w', hc1, ho1.drop⟩).2 j (ready_mono hj hji)
        unfold opF at h2
        simp only [hoj] at h2
        rw [if_pos hq] at h2
        obtain ⟨vj', hyj2, hk2⟩ := h2
        obtain rfl : vj' = vj := quietIn.unique (w := w0) (fun _ => hc0) ((quietIn.form sj a1 hf).1 hyj2) hyj'
        refine ⟨A1, hc1, ho1, ?_⟩
        rw [Array.setIfInBounds_comm _ _ hji]
        exact hk2
      · rename_i hq
        have h4 := G.one listed inv i j hr hj hlt ht (by simpa using hq)
        rw [if_neg hq, if_pos h4] at h1
        rw [if_pos h4]
        intro wj
        obtain ⟨vj, csj, Tj, hfj, _⟩ := h1 wj
        have hfj' := (freshAt.form sj a1 hform).1 hfj
        refine ⟨vj, csj, Tj, hfj', ih _ _ _ (inv.set hj) hmin' hfree' hr' fun F w hc ho => ?_⟩
        refine (wp_put_in si a3 (fun d hd he => a2 d he hd)).2 (Oper.wp_mono (fun a' w' hh => ?_) (wp_form (H (blk wj.heap.size csj * F) w hc (ho.eq (by ac_rfl)))))
        obtain ⟨hf, A1, hc1, ho1, hk⟩ := hh
        have h2 := (hk ⟨w', hc1, ho1.drop⟩).2 j (ready_mono hj hji)
        unfold opF at h2
        simp only [hoj] at h2
        rw [if_neg hq, if_pos h4] at h2
        obtain ⟨vj', csj', Tj', hfj2, hk2⟩ := h2 wj
        obtain ⟨rfl, rfl⟩ := ((freshAt.form sj a1 hf).1 hfj2).unique hfj'
        refine ⟨blk wj.heap.size csj' * A1, hc1, ho1.eq (by ac_rfl), ?_⟩
        rw [Array.setIfInBounds_comm _ _ hji]
        exact hk2

/-! ### the order of the text -/

def wpMixF (P : Program) (ops : Array Oper) (C : World → Prop) (B : World) (Q : Exit → Act → World → Prop) : List Nat → List Oper → Act → Assn → Prop
  | _, [], a, A => ∀ w, Own B A w → Q .normal a w
  | [], _ :: _, _, _ => False
  | t :: ts, o :: rest, a, A =>
    if isQ t then ∃ v, quietIn P ops (clsOf C t) o v a ∧ wpMixF P ops C B Q ts rest (a.put o.dst v) A
    else if t = 4 then ∀ w, ∃ v cs T, freshAt P o a w v cs T ∧ wpMixF P ops C B Q ts rest (a.put o.dst v) (blk w.heap.size cs * A)
    else ∀ F w, C w → Own B (A * F) w → o.wp P a w (fun a' w' => ∃ A', C w' ∧ Own B (A' * F) w' ∧ wpMixF P ops C B Q ts rest a' A') NoPost

theorem mixF_lex (G : GoodF md ops tags) (hCa : ∀ w o, C w → C (w.alloc o)) : ∀ (l : List Oper) (k : Nat) (listed : Array Bool) (a : Act) (A : Assn), (∀ j, l[j]? = ops[k + j]?) → Closed md ops listed → (∀ j, j < k → listed.getD j true = true) →
    Region.lexFrom md ops l.length k listed = true → wpMixF P ops C B Q (tags.drop k) l a A → wpAnyF P md ops C B tags Q l.length listed a A
  | [], _, _, _, _, _, _, _, hB, h => fun _ => ⟨by simpa [Region.lexFrom] using hB, by
      unfold wpMixF at h
      exact h⟩
  | o :: l, k, listed, a, A, hl, inv, hmin, hB, h => by
    have h0 : ops[k]? = some o := by simpa using (hl 0).symm
    have hk : k < ops.size := (Array.getElem?_eq_some_iff.1 h0).1
    simp only [List.length_cons, Region.lexFrom, Bool.and_eq_true] at hB
    obtain ⟨⟨hr, hf⟩, hB'⟩ := hB
    have hr' : k ∈ Region.ready md ops listed := by simpa using hr
    have hl' : ∀ j, l[j]? = ops[k + 1 + j]? := fun j => by have := hl (j + 1); simpa [Nat.add_assoc, Nat.add_comm 1 j] using this
    have hmin' : ∀ j, j < k + 1 → (listed.setIfInBounds k true).getD j true = true := fun j hj => by
      by_cases e : k = j
      · subst e; exact getD_set_same
      · rw [getD_set_ne true e]; exact hmin j (by omega)
    cases htl : tags.drop k with
    | nil => rw [htl] at h; exact h.elim
    | cons t ts =>
      have hlt : k < tags.length := by
        rcases Nat.lt_or_ge k tags.length with h1 | h1
        · exact h1
        · rw [List.drop_eq_nil_of_le h1] at htl; cases htl
      have ht : tags.getD k 3 = t := by
        have h1 := List.drop_eq_getElem_cons hlt
        rw [htl] at h1
        simp only [List.cons.injEq] at h1
        simp [hlt, h1.1]
      have hts : tags.drop (k + 1) = ts := by
        have h1 := List.drop_eq_getElem_cons hlt
        rw [htl] at h1
        simp only [List.cons.injEq] at h1
        exact h1.2.symm
      rw [htl] at h
      unfold wpMixF at h
      have next : ∀ a' A', wpMixF P ops C B Q ts l a' A' → wpAnyF P md ops C B tags Q l.length (listed.setIfInBounds k true) a' A' := fun a' A' hh =>
        mixF_lex G hCa l (k + 1) _ _ _ hl' (inv.set hr') hmin' hB' (by rw [hts]; exact hh)
      split at h
      · rename_i hq
        obtain ⟨v, hy, hK⟩ := h
        exact first_quietF G h0 (by rw [ht]; exact hq) l.length listed a A (Region.free_spec h0 hf) hr' (by rw [ht]; exact hy) (next _ _ hK)
      · rename_i hq
        split at h
        · rename_i h4
          refine first_freshF G hCa h0 (by rw [ht]; simpa using hq) (by rw [ht]; exact h4) l.length listed a A inv hmin (Region.free_spec h0 hf) hr' fun w => ?_
          obtain ⟨v, cs, T, hfr, hK⟩ := h w
          exact ⟨v, cs, T, hfr, next _ _ hK⟩
        · rename_i h4
          refine first_loudF G h0 (by rw [ht]; simpa using hq) (by rw [ht]; exact h4) l.length listed a A inv hmin (Region.free_spec h0 hf) hr' fun F w hc ho => ?_
          refine Oper.wp_mono (fun a' w' hh => ?_) (h F w hc ho)
          obtain ⟨A', hc', ho', hK⟩ := hh
          exact ⟨A', hc', ho', next _ _ hK⟩

/-- **ONE WALK, IN THE ORDER OF THE TEXT, SERVES EVERY ORDER, that of new blocks too.** -/
theorem wp_region_mixF {id : Nat} {a : Act} {w : World} {A : Assn} {l : List Oper} (tags : List Nat) (C : World → Prop) (hm : P.follows .mixedOrders = true) (hB : mixFB .any l.toArray tags = true) (hCa : ∀ w o, C w → C (w.alloc o))
    (hC : C w.drew) (hO : Own B A w.drew) (h : wpMixF P l.toArray C B Q tags l a A) : (Code.region id l.toArray true).wp P Q a w := by
  obtain ⟨G, hg, hlex⟩ := goodF_of hB
  refine wp_region_any hm (any_of_F G hg hCa _ _ _ A _ hC hO ?_)
  have := mixF_lex (C := C) (B := B) (Q := Q) (P := P) G hCa l 0 (Array.replicate l.toArray.size false) a A (by simp) ?_ (fun j hj => by omega) (by simpa using hlex) (by simpa using h)
  · simpa using this
  · intro j oj _ hl
    rw [getD_replicate_false] at hl
    cases hl

theorem mixf_nil {a : Act} {A : Assn} {ts : List Nat} (h : ∀ w, Own B A w → Q .normal a w) : wpMixF P ops C B Q ts [] a A := by
  unfold wpMixF
  exact h
theorem mixf_fresh {a : Act} {A : Assn} {ts : List Nat} {o : Oper} {rest : List Oper} (v : Nat → Value) (cs : List Value) (T : TypeId) (hr : ∀ w : World, (execOp a.eval o).run P w = .ok (.value (v w.heap.size)) (w.alloc (.cells cs.toArray T)))
    (k : ∀ b, wpMixF P ops C B Q ts rest (a.put o.dst (v b)) (blk b cs * A)) : wpMixF P ops C B Q (4 :: ts) (o :: rest) a A := by
  unfold wpMixF
  rw [if_neg (by decide), if_pos rfl]
  exact fun w => ⟨_, cs, T, hr w, k _⟩
theorem mixf_loud {a : Act} {A : Assn} {ts : List Nat} {o : Oper} {rest : List Oper}
    (h : ∀ (F : Assn) (w : World) (K : Act → World → Prop), C w → Own B (A * F) w → (∀ a' w' A', C w' → Own B (A' * F) w' → wpMixF P ops C B Q ts rest a' A' → K a' w') → o.wp P a w K NoPost) : wpMixF P ops C B Q (1 :: ts) (o :: rest) a A := by
  unfold wpMixF
  rw [if_neg (by decide), if_neg (by decide)]
  exact fun F w hc ho => h F w _ hc ho fun a' w' A' h1 h2 h3 => ⟨A', h1, h2, h3⟩
theorem mixf_segment {D : World → Prop} {A : Assn} {t : Nat} (ht : isQ t = true) (hD : ∀ v, clsOf C t v → D v) : ∀ (n : Nat) {ts : List Nat} {l : List Oper} {a : Act}, (l.take n).all plainOp = true → n ≤ l.length →
    wpQuiet P ops D (fun a' => wpMixF P ops C B Q ts (l.drop n) a' A) (l.take n) a → wpMixF P ops C B Q (List.replicate n t ++ ts) l a A
  | 0, ts, l, a, _, _, h => by simpa [wpQuiet] using h
  | n + 1, ts, [], a, _, hn, h => by simp at hn
  | n + 1, ts, o :: l, a, hp, hn, h => by
    simp only [List.take_succ_cons, List.all_cons, Bool.and_eq_true] at hp
    simp only [List.take_succ_cons, List.drop_succ_cons, wpQuiet] at h
    simp only [List.replicate_succ, List.cons_append]
    unfold wpMixF
    rw [if_pos ht]
    split at h
    · rename_i hw
      obtain ⟨v, h1, h2⟩ := h
      exact ⟨v, .inl ⟨hw, fun w' hw' => runsTo_of_quietAt hp.1 (h1 w' (hD w' hw'))⟩, mixf_segment ht hD n hp.2 (by simpa using hn) h2⟩
    · rename_i hw
      exact ⟨undef, .inr ⟨by simpa using hw, rfl⟩, mixf_segment ht hD n hp.2 (by simpa using hn) h⟩
/-- the next n operations are calm -/
theorem mixf_calm (n : Nat) {ts : List Nat} {l : List Oper} {a : Act} {A : Assn} (hne : ∃ w, C w) (hp : (l.take n).all plainOp = true) (hn : decide (n ≤ l.length) = true)
    (h : ∀ (ι : Type) (W : ι → World), Nonempty ι → (∀ i, C (W i)) → wpQuiet P ops (fun w' => ∃ i, w' = W i) (fun a' => wpMixF P ops C B Q ts (l.drop n) a' A) (l.take n) a) :
    wpMixF P ops C B Q (List.replicate n 0 ++ ts) l a A := by
  obtain ⟨w, hw⟩ := hne
  exact mixf_segment (D := fun w' => ∃ i : { u : World // C u }, w' = i.val) rfl (fun v hv => ⟨⟨v, hv rfl⟩, rfl⟩) n hp (by simpa using hn) (h { u : World // C u } (fun i => i.val) ⟨⟨w, hw⟩⟩ (fun i => i.2))
/-- the next n operations do not look at the world -/
theorem mixf_plain (n : Nat) {ts : List Nat} {l : List Oper} {a : Act} {A : Assn} (hne : ∃ w, C w) (hp : (l.take n).all plainOp = true) (hn : decide (n ≤ l.length) = true)
    (h : ∀ (ι : Type) (W : ι → World), Nonempty ι → wpQuiet P ops (fun w' => ∃ i, w' = W i) (fun a' => wpMixF P ops C B Q ts (l.drop n) a' A) (l.take n) a) :
    wpMixF P ops C B Q (List.replicate n 3 ++ ts) l a A := by
  obtain ⟨w, _⟩ := hne
  exact mixf_segment (D := fun w' => ∃ i : World, w' = i) rfl (fun v _ => ⟨v, rfl⟩) n hp (by simpa using hn) (h World id ⟨w⟩)
end

/-- append to a new slice of no elements, beside a continuation -/
theorem wpk_append0 {P : Program} {B w : World} {A A' : Assn} {Q : Exit → Act → World → Prop} {o : Oper} {a : Act} {K : Act → World → Prop} {b : Nat} (h : Own B A w) {t T' sz bytes m : Nat} {z u : Value} {s y : Operand} {ys : List Value} (ho : o.op = .call { callee := .builtin .append, args := #[s, y], argTypes := #[t, t] })
    (hs : evalO a s = some (.slice (some ⟨b, 0, none⟩) 0 0)) (hy : evalO a y = some u) [I : TyApp P t T' sz bytes z] [tk : TakeBlk b [] A A'] (hr : rd w sz u m ys) (h1 : ∀ y ∈ ys, y.oneCell' = true) (hm : m ≤ maxLen) (hb : m * bytes ≤ 140737488355328)
    (k : ∀ v' w', Own B (sl sz v' m ys * A') w' → K (a.put o.dst v') w') : o.wp P a w K Q := by
  have g : Own B (sl sz (.slice (some ⟨b, 0, none⟩) 0 0) 0 [] * A') w := own_sl_mk (Nat.le_refl _) (Nat.zero_le _) (by simp) (by simp) (by simp) (h.eq tk.out)
  exact wp_append rfl g I.out ho (evalO_eq hs) (evalO_eq hy) hr h1 (by omega) (by simpa using hb) fun v' w' h' => k v' w' (h'.eq (by simp))
end Go.Sl
