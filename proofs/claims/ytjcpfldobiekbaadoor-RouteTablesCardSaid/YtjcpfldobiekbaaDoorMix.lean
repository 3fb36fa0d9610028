




/-
  A region that draws its order is walked once, in the order of its text, where its operations are of four kinds: calm (reads, the same in every world of a class), plain (no reading at all), loud (writes, keeps the class), last (writes, keeps nothing).
  Condition: the loud ones wait for one another, and the last ones for every calm one ('mixB', a Bool over the region).
-/
import Derived.Deep.Quiet
import Derived.Deep.QuietTactic
import Derived.StillTail
namespace Go.Sl
open Go

/-- no way out but the normal one -/
def NoPost : Exit → Act → World → Prop := fun _ _ _ => False

theorem not_letsOut : ¬ LetsOut NoPost := fun ⟨_, _, h⟩ => h

section
variable {P : Program} {ops : Array Oper} {md : Region.Mode} {C : World → Prop}

theorem wp_form {o : Oper} {a : Act} {w : World} {K : Act → World → Prop} {Q : Exit → Act → World → Prop} (h : o.wp P a w K Q) :
    o.wp P a w (fun a' w' => (∃ u ds, a' = ({ a with defers := ds } : Act).put o.dst u) ∧ K a' w') Q := by
  unfold Oper.wp at *
  generalize (execOp a.eval o).run P w = r at *
  cases r with
  | ok n w' =>
    cases n <;> simp only [Oper.upon] at h ⊢
    case value v => exact ⟨⟨v, a.defers, rfl⟩, h⟩
    case skip => exact ⟨⟨undef, a.defers, rfl⟩, h⟩
    case defer d => exact ⟨⟨undef, d :: a.defers, rfl⟩, h⟩
    case enter f args =>
      refine Calls.mono h fun e w'' he => ?_
      cases e with
      | returned v => exact ⟨⟨v, a.defers, rfl⟩, he⟩
      | panicked c => exact he
      | outgrown => exact he
    case row row args => exact Rows.mono h fun v w'' he => ⟨⟨v, a.defers, rfl⟩, he⟩
  | halt x w' => cases x <;> simp only [Oper.upon] at h ⊢ <;> exact h

theorem wp_some {o : Oper} {a : Act} {w : World} {K : Act → World → Prop} (h : o.wp P a w K NoPost) : ∃ a' w', K a' w' := by
  unfold Oper.wp at h
  generalize (execOp a.eval o).run P w = r at *
  cases r with
  | ok n w' =>
    cases n <;> simp only [Oper.upon] at h
    case value v => exact ⟨_, _, h⟩
    case skip => exact ⟨_, _, h⟩
    case defer d => exact ⟨_, _, h⟩
    case enter f args =>
      obtain ⟨e, w'', fr, he, _⟩ := h []
      cases e with
      | returned v => exact ⟨_, _, he⟩
      | panicked c => exact (he : False).elim
      | outgrown => exact (not_letsOut he).elim
    case row row args =>
      obtain ⟨v, w'', he, _⟩ := h default []
      exact ⟨_, _, he⟩
  | halt x w' => cases x <;> simp only [Oper.upon] at h <;> exact (h : False).elim

theorem wp_put_in {o : Oper} {x : Option Tmp} {v : Value} (hns : ∀ cs b, o.op ≠ .select cs b) (h1 : ∀ d, x = some d → d ∉ o.looksAt ops) (h2 : ∀ d, x = some d → o.dst ≠ some d)
    {a : Act} {w : World} {K : Act → World → Prop} : o.wp P (a.put x v) w K NoPost ↔ o.wp P a w (fun a' w' => K (a'.put x v) w') NoPost := by
  unfold Oper.wp
  rw [execOp_put o hns a x v h1]
  generalize (execOp a.eval o).run P w = r
  cases r with
  | ok n w' =>
    cases n <;> simp only [Oper.upon]
    case value u => rw [Act.put_comm a v u h2]
    case skip => rw [Act.put_comm a v undef h2]
    case defer d => rw [Act.put_defers, Act.put_comm _ v undef h2]
    case enter f args =>
      constructor
      · exact fun h => Calls.mono h fun e w'' he => by
          cases e with
          | returned u => show K _ _; rw [← Act.put_comm a v u h2]; exact he
          | panicked c => exact he
          | outgrown => exact he
      · exact fun h => Calls.mono h fun e w'' he => by
          cases e with
          | returned u => show K _ _; rw [Act.put_comm a v u h2]; exact he
          | panicked c => exact he
          | outgrown => exact he
    case row row args =>
      constructor
      · exact fun h => Rows.mono h fun u w'' he => by rw [← Act.put_comm a v u h2]; exact he
      · exact fun h => Rows.mono h fun u w'' he => by rw [Act.put_comm a v u h2]; exact he
  | halt x w' => cases x <;> simp only [Oper.upon] <;> exact Iff.rfl

theorem wp_exit {o : Oper} {a : Act} {w : World} {K : Act → World → Prop} {Q : Exit → Act → World → Prop} (h : o.wp P a w K NoPost) : o.wp P a w K Q := by
  unfold Oper.wp at *
  generalize (execOp a.eval o).run P w = r at *
  cases r with
  | ok n w' =>
    cases n <;> simp only [Oper.upon] at h ⊢
    case enter f args =>
      refine Calls.mono h fun e w'' he => ?_
      cases e with
      | returned v => exact he
      | panicked c => exact (he : False).elim
      | outgrown => exact (not_letsOut he).elim
    all_goals exact h
  | halt x w' => cases x <;> simp only [Oper.upon] at h ⊢ <;> exact (h : False).elim

/-- it yields this value (or nothing), in the very world that it got -/
def runsTo (P : Program) (o : Oper) (a : Act) (w : World) (v : Value) : Prop :=
  (execOp a.eval o).run P w = .ok (.value v) w ∨ ((execOp a.eval o).run P w = .ok .skip w ∧ v = undef)

theorem runsTo_unique {o : Oper} {a : Act} {w : World} {v u : Value} (h : runsTo P o a w v) (k : runsTo P o a w u) : v = u := by
  unfold runsTo at *
  rcases h with h | ⟨h, rfl⟩ <;> rcases k with k | ⟨k, rfl⟩ <;> rw [h] at k <;> simp at k
  exact k

def quietIn (P : Program) (ops : Array Oper) (C : World → Prop) (o : Oper) (v : Value) (a : Act) : Prop :=
  (Region.wanted o (yielded ops a.tmps) = true ∧ ∀ w, C w → runsTo P o a w v) ∨ (Region.wanted o (yielded ops a.tmps) = false ∧ v = undef)

theorem quietIn.of_same {o : Oper} {v : Value} {a a' : Act} (hy : quietIn P ops C o v a) (he : execOp a'.eval o = execOp a.eval o)
    (hw : Region.wanted o (yielded ops a'.tmps) = Region.wanted o (yielded ops a.tmps)) : quietIn P ops C o v a' := by
  unfold quietIn runsTo at *
  rw [he, hw]
  exact hy

theorem quietIn.unique {o : Oper} {v u : Value} {a : Act} {w : World} (hc : C w) (h : quietIn P ops C o v a) (k : quietIn P ops C o u a) : v = u := by
  rcases h with ⟨h1, h2⟩ | ⟨h1, rfl⟩ <;> rcases k with ⟨k1, k2⟩ | ⟨k1, rfl⟩
  · exact runsTo_unique (h2 w hc) (k2 w hc)
  · rw [h1] at k1; cases k1
  · rw [h1] at k1; cases k1
  · rfl

theorem quietIn.put {o x : Oper} {v u : Value} {a : Act} (hs : ∀ cs b, o.op ≠ .select cs b) (h3 : ∀ d, x.dst = some d → d ∉ o.looksAt ops) :
    quietIn P ops C o v (a.put x.dst u) ↔ quietIn P ops C o v a :=
  ⟨fun h => h.of_same (execOp_put o hs a x.dst u h3).symm (wanted_put o a x.dst u h3).symm, fun h => h.of_same (execOp_put o hs a x.dst u h3) (wanted_put o a x.dst u h3)⟩

theorem quietIn.form {o x : Oper} {v : Value} {a a' : Act} (hs : ∀ cs b, o.op ≠ .select cs b) (h3 : ∀ d, x.dst = some d → d ∉ o.looksAt ops)
    (hf : ∃ u ds, a' = ({ a with defers := ds } : Act).put x.dst u) : quietIn P ops C o v a' ↔ quietIn P ops C o v a := by
  obtain ⟨u, ds, rfl⟩ := hf
  rw [quietIn.put hs h3]
  exact ⟨fun h => h.of_same rfl rfl, fun h => h.of_same rfl rfl⟩

/-- the class that an operation of this kind reads in -/
def clsOf (C : World → Prop) (t : Nat) : World → Prop := fun w => t = 0 → C w

/-- kinds: 0 calm, 3 plain; 1 loud, 2 last -/
def isQ (t : Nat) : Bool := t == 0 || t == 3

def mOp (P : Program) (ops : Array Oper) (C : World → Prop) (t : Nat) (i : Nat) (K : Act → World → Prop) (a : Act) (w : World) : Prop :=
  match ops[i]? with
  | none => K a w
  | some o =>
    if isQ t then ∃ v, quietIn P ops (clsOf C t) o v a ∧ K (a.put o.dst v) w
    else if Region.wanted o (yielded ops a.tmps) then o.wp P a w (fun a' w' => (t ≠ 2 → C w') ∧ K a' w') NoPost
    else K (a.put o.dst undef) w

def wpAnyM (P : Program) (md : Region.Mode) (ops : Array Oper) (C : World → Prop) (tags : List Nat) (Q : Exit → Act → World → Prop) : Nat → Array Bool → Act → World → Prop
  | 0, listed, a, w => Region.ready md ops listed = [] ∧ Q .normal a w
  | fuel + 1, listed, a, w =>
    (Region.ready md ops listed = [] → Q .normal a w) ∧
    ∀ i ∈ Region.ready md ops listed, mOp P ops C (tags.getD i 3) i (wpAnyM P md ops C tags Q fuel (listed.setIfInBounds i true)) a w

/-! ### what waits for what -/

def ancStep (md : Region.Mode) (acc : List (List Nat)) (o : Oper) : List (List Nat) :=
  acc ++ [((o.after.toList.filter fun e => Region.binds md e).flatMap fun e => e.on :: acc.getD e.on []).eraseDups]
def ancs (md : Region.Mode) (ops : Array Oper) : List (List Nat) := ops.toList.foldl (ancStep md) []

/-- each row of the table says no more than is so -/
def ancB (md : Region.Mode) (ops : Array Oper) (S : List (List Nat)) : Bool :=
  (List.range ops.size).all fun j => match ops[j]? with
    | none => true
    | some o => (S.getD j []).all fun r => o.after.toList.any fun e => Region.binds md e && decide (e.on < j) && (e.on == r || (S.getD e.on []).contains r)

def orderB (S : List (List Nat)) (tags : List Nat) (n : Nat) : Bool :=
  (List.range n).all fun j => (List.range n).all fun i =>
    isQ (tags.getD j 3) ||
    ((decide (j ≤ i) || isQ (tags.getD i 3) || (S.getD j []).contains i) &&
     (tags.getD j 3 != 2 || tags.getD i 3 != 0 || (S.getD j []).contains i))

def Region.mixB (md : Region.Mode) (ops : Array Oper) (tags : List Nat) : Bool :=
  Region.noSelect ops && ancB md ops (ancs md ops) && orderB (ancs md ops) tags ops.size && Region.lexFrom md ops ops.size 0 (Array.replicate ops.size false)

def Closed (md : Region.Mode) (ops : Array Oper) (listed : Array Bool) : Prop :=
  ∀ j oj, ops[j]? = some oj → listed.getD j false = true → ∀ e ∈ oj.after, Region.binds md e = true → listed.getD e.on false = true

theorem getD_false_of_true {listed : Array Bool} {i : Nat} (h : listed.getD i true = false) : listed.getD i false = false := by
  rcases Nat.lt_or_ge i listed.size with h' | h'
  · simp [h'] at h ⊢; exact h
  · simp [Array.getElem?_eq_none h'] at h

theorem Closed.set {i : Nat} {listed : Array Bool} (inv : Closed md ops listed) (hi : i ∈ Region.ready md ops listed) : Closed md ops (listed.setIfInBounds i true) := by
  obtain ⟨_, oi, hoi, hall⟩ := mem_ready.1 hi
  intro j oj hj hl e he hb
  by_cases hij : i = j
  · subst hij
    have : oj = oi := Option.some.inj (hj.symm.trans hoi)
    subst this
    exact getD_set_true (hall e he hb)
  · rw [getD_set_ne false hij] at hl
    exact getD_set_true (inv j oj hj hl e he hb)

theorem anc_listed {S : List (List Nat)} {listed : Array Bool} (hS : ancB md ops S = true) (inv : Closed md ops listed) :
    ∀ (n j : Nat), j ≤ n → listed.getD j false = true → ∀ r ∈ S.getD j [], j < ops.size → listed.getD r false = true := by
  intro n
  induction n with
  | zero =>
    intro j hj hl r hr hlt
    have h1 := List.all_eq_true.1 hS j (List.mem_range.2 hlt)
    rw [Array.getElem?_eq_getElem hlt] at h1
    have h2 := List.all_eq_true.1 h1 r hr
    obtain ⟨e, he, h3⟩ := List.any_eq_true.1 h2
    simp only [Bool.and_eq_true, decide_eq_true_eq] at h3
    omega
  | succ n ih =>
    intro j hj hl r hr hlt
    have h1 := List.all_eq_true.1 hS j (List.mem_range.2 hlt)
    rw [Array.getElem?_eq_getElem hlt] at h1
    have h2 := List.all_eq_true.1 h1 r hr
    obtain ⟨e, he, h3⟩ := List.any_eq_true.1 h2
    simp only [Bool.and_eq_true, decide_eq_true_eq, Bool.or_eq_true, beq_iff_eq] at h3
    obtain ⟨⟨hb, hlt'⟩, h4⟩ := h3
    have hl' := inv j _ (Array.getElem?_eq_getElem hlt) hl e (by simpa using he) hb
    rcases h4 with rfl | h4
    · exact hl'
    · exact ih e.on (by omega) hl' r (by simpa using h4) (by omega)

theorem anc_ready {S : List (List Nat)} {listed : Array Bool} (hS : ancB md ops S = true) (inv : Closed md ops listed) {j r : Nat} (hj : j ∈ Region.ready md ops listed) (hr : r ∈ S.getD j []) :
    listed.getD r false = true := by
  obtain ⟨_, oj, hoj, hall⟩ := mem_ready.1 hj
  have hlt : j < ops.size := (Array.getElem?_eq_some_iff.1 hoj).1
  have h1 := List.all_eq_true.1 hS j (List.mem_range.2 hlt)
  rw [hoj] at h1
  have h2 := List.all_eq_true.1 h1 r hr
  obtain ⟨e, he, h3⟩ := List.any_eq_true.1 h2
  simp only [Bool.and_eq_true, decide_eq_true_eq, Bool.or_eq_true, beq_iff_eq] at h3
  obtain ⟨⟨hb, hlt'⟩, h4⟩ := h3
  have hl' := hall e (by simpa using he) hb
  rcases h4 with rfl | h4
  · exact hl'
  · exact anc_listed hS inv e.on e.on (Nat.le_refl _) hl' r (by simpa using h4) (by omega)

/-- what the Bool gives -/
structure Good (md : Region.Mode) (ops : Array Oper) (tags : List Nat) : Prop where
  sel : ∀ (j : Nat) (o : Oper) cs b, ops[j]? = some o → o.op ≠ .select cs b
  one : ∀ listed, Closed md ops listed → ∀ i j, i ∈ Region.ready md ops listed → j ∈ Region.ready md ops listed → isQ (tags.getD i 3) = false → isQ (tags.getD j 3) = false → i = j
  last : ∀ listed, Closed md ops listed → ∀ i j, j ∈ Region.ready md ops listed → tags.getD j 3 = 2 → tags.getD i 3 = 0 → i < ops.size → listed.getD i true = true

theorem good_of_mixB {tags : List Nat} (h : Region.mixB md ops tags = true) : Good md ops tags ∧ Region.lexFrom md ops ops.size 0 (Array.replicate ops.size false) = true := by
  simp only [Region.mixB, Bool.and_eq_true] at h
  obtain ⟨⟨⟨hsel, hS⟩, hord⟩, hlex⟩ := h
  have ord : ∀ j i, j < ops.size → i < ops.size → isQ (tags.getD j 3) = false → ((j ≤ i ∨ isQ (tags.getD i 3) = true) ∨ i ∈ (ancs md ops).getD j []) ∧ ((tags.getD j 3 ≠ 2 ∨ tags.getD i 3 ≠ 0) ∨ i ∈ (ancs md ops).getD j []) := by
    intro j i hj hi hq
    have h1 := List.all_eq_true.1 hord j (List.mem_range.2 hj)
    have h2 := List.all_eq_true.1 h1 i (List.mem_range.2 hi)
    rw [hq] at h2
    simp only [Bool.false_or, Bool.and_eq_true, Bool.or_eq_true, decide_eq_true_eq, bne_iff_ne, ne_eq, List.contains_iff_mem] at h2
    exact h2
  have lt : ∀ {listed : Array Bool} {i : Nat}, i ∈ Region.ready md ops listed → i < ops.size := fun hi => by
    obtain ⟨_, o, ho, _⟩ := mem_ready.1 hi
    exact (Array.getElem?_eq_some_iff.1 ho).1
  refine ⟨⟨Region.noSelect_spec hsel, ?_, ?_⟩, hlex⟩
  · intro listed inv i j hi hj qi qj
    have aux : ∀ i j, i ∈ Region.ready md ops listed → j ∈ Region.ready md ops listed → isQ (tags.getD i 3) = false → isQ (tags.getD j 3) = false → i < j → False := by
      intro i j hi hj qi qj hlt
      have h1 := (ord j i (lt hj) (lt hi) qj).1
      rcases h1 with (h1 | h1) | h1
      · omega
      · rw [qi] at h1; cases h1
      · have h2 := anc_ready hS inv hj h1
        rw [getD_false_of_true (mem_ready.1 hi).1] at h2
        cases h2
    rcases Nat.lt_trichotomy i j with h | h | h
    · exact (aux i j hi hj qi qj h).elim
    · exact h
    · exact (aux j i hj hi qj qi h).elim
  · intro listed inv i j hj tj ti hi
    have qj : isQ (tags.getD j 3) = false := by rw [tj]; rfl
    have h1 := (ord j i (lt hj) hi qj).2
    rcases h1 with (h1 | h1) | h1
    · exact (h1 tj).elim
    · exact (h1 ti).elim
    · have h2 := anc_ready hS inv hj h1
      cases h3 : listed.getD i true with
      | true => rfl
      | false => rw [getD_false_of_true h3] at h2; cases h2

/-- while a calm one has not come up, the class holds -/
def StillC (C : World → Prop) (ops : Array Oper) (tags : List Nat) (listed : Array Bool) (w : World) : Prop := ∀ i, i < ops.size → tags.getD i 3 = 0 → listed.getD i true = false → C w

theorem StillC.set {tags : List Nat} {listed : Array Bool} {w : World} (h : StillC C ops tags listed w) (j : Nat) : StillC C ops tags (listed.setIfInBounds j true) w := by
  intro i hi ti hl
  refine h i hi ti ?_
  by_cases hij : j = i
  · subst hij
    rcases Nat.lt_or_ge j listed.size with h' | h'
    · simp [h'] at hl
    · simp at hl
  · rwa [getD_set_ne true hij] at hl

variable {Q : Exit → Act → World → Prop} {tags : List Nat}

theorem mOp_quiet {i : Nat} {oi : Oper} {v : Value} {a : Act} {w : World} {t : Nat} {K : Act → World → Prop} (hi : ops[i]? = some oi) (ht : isQ t = true) (hy : quietIn P ops (clsOf C t) oi v a) (h : K (a.put oi.dst v) w) :
    mOp P ops C t i K a w := by
  unfold mOp
  simp only [hi, ht, if_true]
  exact ⟨v, hy, h⟩

/-- a quiet operation that may come up now may be taken first -/
theorem first_quiet (G : Good md ops tags) {i : Nat} {oi : Oper} {v : Value} (hi : ops[i]? = some oi) (ht : isQ (tags.getD i 3) = true) :
    ∀ (fuel : Nat) (listed : Array Bool) (a : Act) (w : World),
      (∀ j oj, ops[j]? = some oj → j ≠ i → listed.getD j true = false → (∀ e ∈ oj.after, Region.binds md e = true → e.on ≠ i) → oi.apart ops oj = true) →
      i ∈ Region.ready md ops listed → quietIn P ops (clsOf C (tags.getD i 3)) oi v a →
      wpAnyM P md ops C tags Q fuel (listed.setIfInBounds i true) (a.put oi.dst v) w → wpAnyM P md ops C tags Q (fuel + 1) listed a w := by
  intro fuel
  induction fuel with
  | zero =>
    intro listed a w _ hr hy H
    refine ⟨fun h => (by rw [h] at hr; cases hr), fun j hj => ?_⟩
    by_cases hji : j = i
    · subst hji; exact mOp_quiet hi ht hy H
    · have := ready_mono hj hji
      rw [H.1] at this
      cases this
  | succ fuel ih =>
    intro listed a w hfree hr hy H
    refine ⟨fun h => (by rw [h] at hr; cases hr), fun j hj => ?_⟩
    by_cases hji : j = i
    · subst hji; exact mOp_quiet hi ht hy H
    · have h1 := H.2 j (ready_mono hj hji)
      obtain ⟨hjun, oj, hoj, hall⟩ := mem_ready.1 hj
      have hnot : ∀ e ∈ oj.after, Region.binds md e = true → e.on ≠ i := fun e he hb heq => by
        have h1 := hall e he hb
        have h0 := (mem_ready.1 hr).1
        rw [heq, getD_false_of_true h0] at h1
        cases h1
      obtain ⟨a1, a2, a3⟩ := Oper.apart_spec (hfree j oj hoj hji hjun hnot)
      have si := fun cs b => G.sel i oi cs b hi
      have sj := fun cs b => G.sel j oj cs b hoj
      have hfree' : ∀ k ok, ops[k]? = some ok → k ≠ i → (listed.setIfInBounds j true).getD k true = false →
          (∀ e ∈ ok.after, Region.binds md e = true → e.on ≠ i) → oi.apart ops ok = true := fun k ok hk hki hun hno => by
        refine hfree k ok hk hki ?_ hno
        by_cases hjk : j = k
        · subst hjk; exact hjun
        · rw [getD_set_ne true hjk] at hun; exact hun
      have hr' := ready_mono hr (Ne.symm hji)
      unfold mOp at h1 ⊢
      simp only [hoj] at h1 ⊢
      split
      · rename_i hq
        rw [if_pos hq] at h1
        obtain ⟨vj, hyj, hk⟩ := h1
        refine ⟨vj, (quietIn.put sj a1).1 hyj, ih _ _ _ hfree' hr' ((quietIn.put si a3).2 hy) ?_⟩
        rw [← Act.put_comm a v vj a2, Array.setIfInBounds_comm _ _ hji]
        exact hk
      · rename_i hq
        rw [if_neg hq, wanted_put oj a oi.dst v a1] at h1
        split
        · rename_i hw
          rw [if_pos hw] at h1
          refine Oper.wp_mono (fun a' w' hh => ?_) (wp_form ((wp_put_in sj a1 a2).1 h1))
          obtain ⟨hf, hc, hk⟩ := hh
          refine ⟨hc, ih _ _ _ hfree' hr' ((quietIn.form si a3 hf).2 hy) ?_⟩
          rw [Array.setIfInBounds_comm _ _ hji]
          exact hk
        · rename_i hw
          rw [if_neg hw] at h1
          refine ih _ _ _ hfree' hr' ((quietIn.put si a3).2 hy) ?_
          rw [← Act.put_comm a v undef a2, Array.setIfInBounds_comm _ _ hji]
          exact h1

/-- a loud one that may come up now may be taken first -/
theorem first_loud (G : Good md ops tags) {i : Nat} {oi : Oper} (hi : ops[i]? = some oi) (ht : isQ (tags.getD i 3) = false) :
    ∀ (fuel : Nat) (listed : Array Bool) (a : Act) (w : World), Closed md ops listed → StillC C ops tags listed w →
      (∀ j oj, ops[j]? = some oj → j ≠ i → listed.getD j true = false → (∀ e ∈ oj.after, Region.binds md e = true → e.on ≠ i) → oi.apart ops oj = true) →
      i ∈ Region.ready md ops listed → Region.wanted oi (yielded ops a.tmps) = true →
      oi.wp P a w (fun a' w' => (tags.getD i 3 ≠ 2 → C w') ∧ wpAnyM P md ops C tags Q fuel (listed.setIfInBounds i true) a' w') NoPost → wpAnyM P md ops C tags Q (fuel + 1) listed a w := by
  intro fuel
  induction fuel with
  | zero =>
    intro listed a w _ _ _ hr hwant H
    refine ⟨fun h => (by rw [h] at hr; cases hr), fun j hj => ?_⟩
    by_cases hji : j = i
    · subst hji; unfold mOp; simp only [hi, ht, hwant, if_true]; exact H
    · obtain ⟨a', w', _, h0⟩ := wp_some H
      have := ready_mono hj hji
      rw [h0.1] at this
      cases this
  | succ fuel ih =>
    intro listed a w inv hC hfree hr hwant H
    refine ⟨fun h => (by rw [h] at hr; cases hr), fun j hj => ?_⟩
    by_cases hji : j = i
    · subst hji; unfold mOp; simp only [hi, ht, hwant, if_true]; exact H
    · obtain ⟨hjun, oj, hoj, hall⟩ := mem_ready.1 hj
      have hjlt : j < ops.size := (Array.getElem?_eq_some_iff.1 hoj).1
      have hnot : ∀ e ∈ oj.after, Region.binds md e = true → e.on ≠ i := fun e he hb heq => by
        have h1 := hall e he hb
        have h0 := (mem_ready.1 hr).1
        rw [heq, getD_false_of_true h0] at h1
        cases h1
      obtain ⟨a1, a2, a3⟩ := Oper.apart_spec (hfree j oj hoj hji hjun hnot)
      have si := fun cs b => G.sel i oi cs b hi
      have sj := fun cs b => G.sel j oj cs b hoj
      have hfree' : ∀ k ok, ops[k]? = some ok → k ≠ i → (listed.setIfInBounds j true).getD k true = false →
          (∀ e ∈ ok.after, Region.binds md e = true → e.on ≠ i) → oi.apart ops ok = true := fun k ok hk hki hun hno => by
        refine hfree k ok hk hki ?_ hno
        by_cases hjk : j = k
        · subst hjk; exact hjun
        · rw [getD_set_ne true hjk] at hun; exact hun
      have hr' := ready_mono hr (Ne.symm hji)
      have qj : isQ (tags.getD j 3) = true := by
        cases hq : isQ (tags.getD j 3) with
        | true => rfl
        | false => exact (hji (G.one listed inv j i hj hr hq ht)).elim
      have cj : clsOf C (tags.getD j 3) w := fun h0 => hC j hjlt h0 hjun
      -- what the other order says of 'j'
      have get : ∀ a' w', (∃ u ds, a' = ({ a with defers := ds } : Act).put oi.dst u) → wpAnyM P md ops C tags Q (fuel + 1) (listed.setIfInBounds i true) a' w' →
          ∃ vj, quietIn P ops (clsOf C (tags.getD j 3)) oj vj a ∧ wpAnyM P md ops C tags Q fuel ((listed.setIfInBounds i true).setIfInBounds j true) (a'.put oj.dst vj) w' := by
        intro a' w' hf hk
        have h1 := hk.2 j (ready_mono hj hji)
        unfold mOp at h1
        simp only [hoj, qj, if_true] at h1
        obtain ⟨vj, hyj, hk'⟩ := h1
        exact ⟨vj, (quietIn.form sj a1 hf).1 hyj, hk'⟩
      obtain ⟨a', w', hf, _, h0⟩ := wp_some (wp_form H)
      obtain ⟨vj, hyj, _⟩ := get a' w' hf h0
      refine mOp_quiet hoj qj hyj (ih _ _ _ (inv.set hj) (hC.set j) hfree' hr' ?_ ?_)
      · rw [wanted_put oi a oj.dst vj a3]; exact hwant
      · refine (wp_put_in si a3 (fun d hd he => a2 d he hd)).2 (Oper.wp_mono (fun a' w' hh => ?_) (wp_form H))
        obtain ⟨hf, hc, hk⟩ := hh
        obtain ⟨vj', hyj', hk'⟩ := get a' w' hf hk
        obtain rfl : vj' = vj := quietIn.unique cj hyj' hyj
        refine ⟨hc, ?_⟩
        rw [Array.setIfInBounds_comm _ _ hji]
        exact hk'

/-- it is a wpAny -/
theorem wpAny_of_mix (G : Good md ops tags) : ∀ (fuel : Nat) (listed : Array Bool) (a : Act) (w : World), Closed md ops listed → StillC C ops tags listed w →
    wpAnyM P md ops C tags Q fuel listed a w → wpAny P md ops Q fuel listed a w
  | 0, _, _, _, _, _, h => h
  | fuel + 1, listed, a, w, inv, hC, h => by
    refine ⟨h.1, fun j hj => ?_⟩
    have h1 := h.2 j hj
    obtain ⟨hjun, oj, hoj, hall⟩ := mem_ready.1 hj
    have hjlt : j < ops.size := (Array.getElem?_eq_some_iff.1 hoj).1
    unfold mOp at h1
    unfold wpOp
    simp only [hoj] at h1 ⊢
    split at h1
    · rename_i hq
      obtain ⟨v, hy, hk⟩ := h1
      have hk' := wpAny_of_mix G fuel _ _ _ (inv.set hj) (hC.set j) hk
      rcases hy with ⟨hw, hv⟩ | ⟨hw, rfl⟩
      · rw [if_pos hw]
        refine .inl ?_
        have hr := hv w (fun h0 => hC j hjlt h0 hjun)
        unfold Oper.wp
        rcases hr with hr | ⟨hr, rfl⟩ <;> rw [hr] <;> exact hk'
      · rw [hw]
        exact hk'
    · rename_i hq
      split at h1
      · rename_i hw
        rw [if_pos hw]
        refine .inl (Oper.wp_mono (fun a' w' hh => ?_) (wp_exit h1))
        refine wpAny_of_mix G fuel _ _ _ (inv.set hj) ?_ hh.2
        intro k hk tk hl
        have hl' : listed.getD k true = false := by
          by_cases hjk : j = k
          · subst hjk
            rw [tk] at hq
            exact absurd rfl hq
          · rwa [getD_set_ne true hjk] at hl
        by_cases h3 : tags.getD j 3 = 2
        · have := G.last listed inv k j hj h3 tk hk
          rw [this] at hl'
          cases hl'
        · exact hh.1 h3
      · rename_i hw
        rw [if_neg hw]
        exact wpAny_of_mix G fuel _ _ _ (inv.set hj) (hC.set j) h1

/-- a loud one whose guard says no may be taken first -/
theorem skip_first (G : Good md ops tags) {i : Nat} {oi : Oper} (hi : ops[i]? = some oi) (ht : isQ (tags.getD i 3) = false) :
    ∀ (fuel : Nat) (listed : Array Bool) (a : Act) (w : World),
      (∀ j oj, ops[j]? = some oj → j ≠ i → listed.getD j true = false → (∀ e ∈ oj.after, Region.binds md e = true → e.on ≠ i) → oi.apart ops oj = true) →
      i ∈ Region.ready md ops listed → Region.wanted oi (yielded ops a.tmps) = false →
      wpAnyM P md ops C tags Q fuel (listed.setIfInBounds i true) (a.put oi.dst undef) w → wpAnyM P md ops C tags Q (fuel + 1) listed a w := by
  have self : ∀ (fuel : Nat) (listed : Array Bool) (a : Act) (w : World), Region.wanted oi (yielded ops a.tmps) = false →
      wpAnyM P md ops C tags Q fuel (listed.setIfInBounds i true) (a.put oi.dst undef) w → mOp P ops C (tags.getD i 3) i (wpAnyM P md ops C tags Q fuel (listed.setIfInBounds i true)) a w := by
    intro fuel listed a w hy H
    unfold mOp
    simp only [hi, ht, hy, Bool.false_eq_true, if_false]
    exact H
  intro fuel
  induction fuel with
  | zero =>
    intro listed a w _ hr hy H
    refine ⟨fun h => (by rw [h] at hr; cases hr), fun j hj => ?_⟩
    by_cases hji : j = i
    · subst hji; exact self _ _ _ _ hy H
    · have := ready_mono hj hji
      rw [H.1] at this
      cases this
  | succ fuel ih =>
    intro listed a w hfree hr hy H
    refine ⟨fun h => (by rw [h] at hr; cases hr), fun j hj => ?_⟩
    by_cases hji : j = i
    · subst hji; exact self _ _ _ _ hy H
    · have h1 := H.2 j (ready_mono hj hji)
      obtain ⟨hjun, oj, hoj, hall⟩ := mem_ready.1 hj
      have hnot : ∀ e ∈ oj.after, Region.binds md e = true → e.on ≠ i := fun e he hb heq => by
        have h1 := hall e he hb
        have h0 := (mem_ready.1 hr).1
        rw [heq, getD_false_of_true h0] at h1
        cases h1
      obtain ⟨a1, a2, a3⟩ := Oper.apart_spec (hfree j oj hoj hji hjun hnot)
      have sj := fun cs b => G.sel j oj cs b hoj
      have hfree' : ∀ k ok, ops[k]? = some ok → k ≠ i → (listed.setIfInBounds j true).getD k true = false →
          (∀ e ∈ ok.after, Region.binds md e = true → e.on ≠ i) → oi.apart ops ok = true := fun k ok hk hki hun hno => by
        refine hfree k ok hk hki ?_ hno
        by_cases hjk : j = k
        · subst hjk; exact hjun
        · rw [getD_set_ne true hjk] at hun; exact hun
      have hr' := ready_mono hr (Ne.symm hji)
      have keep : ∀ a' : Act, (∃ u ds, a' = ({ a with defers := ds } : Act).put oj.dst u) → Region.wanted oi (yielded ops a'.tmps) = false := by
        rintro a' ⟨u, ds, rfl⟩
        rw [wanted_put oi _ oj.dst u a3]
        exact hy
      unfold mOp at h1 ⊢
      simp only [hoj] at h1 ⊢
      split
      · rename_i hq
        rw [if_pos hq] at h1
        obtain ⟨vj, hyj, hk⟩ := h1
        refine ⟨vj, (quietIn.put sj a1).1 hyj, ih _ _ _ hfree' hr' (keep _ ⟨vj, a.defers, rfl⟩) ?_⟩
        rw [← Act.put_comm a undef vj a2, Array.setIfInBounds_comm _ _ hji]
        exact hk
      · rename_i hq
        rw [if_neg hq, wanted_put oj a oi.dst undef a1] at h1
        split
        · rename_i hw
          rw [if_pos hw] at h1
          refine Oper.wp_mono (fun a' w' hh => ?_) (wp_form ((wp_put_in sj a1 a2).1 h1))
          obtain ⟨hf, hc, hk⟩ := hh
          refine ⟨hc, ih _ _ _ hfree' hr' (keep _ hf) ?_⟩
          rw [Array.setIfInBounds_comm _ _ hji]
          exact hk
        · rename_i hw
          rw [if_neg hw] at h1
          refine ih _ _ _ hfree' hr' (keep _ ⟨undef, a.defers, rfl⟩) ?_
          rw [← Act.put_comm a undef undef a2, Array.setIfInBounds_comm _ _ hji]
          exact h1

/-! ### the order of the text -/

def wpMix (P : Program) (ops : Array Oper) (C : World → Prop) (Q : Exit → Act → World → Prop) : List Nat → List Oper → Act → World → Prop
  | _, [], a, w => Q .normal a w
  | [], _ :: _, _, _ => False
  | t :: ts, o :: rest, a, w =>
    if isQ t then ∃ v, quietIn P ops (clsOf C t) o v a ∧ wpMix P ops C Q ts rest (a.put o.dst v) w
    else if Region.wanted o (yielded ops a.tmps) then o.wp P a w (fun a' w' => (t ≠ 2 → C w') ∧ wpMix P ops C Q ts rest a' w') NoPost
    else wpMix P ops C Q ts rest (a.put o.dst undef) w

theorem getD_set_same {listed : Array Bool} {i : Nat} : (listed.setIfInBounds i true).getD i true = true := by
  rcases Nat.lt_or_ge i listed.size with h' | h'
  · simp [h']
  · simp

theorem mix_lex (G : Good md ops tags) : ∀ (l : List Oper) (k : Nat) (listed : Array Bool) (a : Act) (w : World), (∀ j, l[j]? = ops[k + j]?) → Closed md ops listed → StillC C ops tags listed w →
    Region.lexFrom md ops l.length k listed = true → wpMix P ops C Q (tags.drop k) l a w → wpAnyM P md ops C tags Q l.length listed a w
  | [], _, _, _, _, _, _, _, hB, h => ⟨by simpa [Region.lexFrom] using hB, by
      unfold wpMix at h
      exact h⟩
  | o :: l, k, listed, a, w, hl, inv, hC, hB, h => by
    have h0 : ops[k]? = some o := by simpa using (hl 0).symm
    have hk : k < ops.size := (Array.getElem?_eq_some_iff.1 h0).1
    simp only [List.length_cons, Region.lexFrom, Bool.and_eq_true] at hB
    obtain ⟨⟨hr, hf⟩, hB'⟩ := hB
    have hr' : k ∈ Region.ready md ops listed := by simpa using hr
    have hl' : ∀ j, l[j]? = ops[k + 1 + j]? := fun j => by have := hl (j + 1); simpa [Nat.add_assoc, Nat.add_comm 1 j] using this
    cases htl : tags.drop k with
    | nil => rw [htl] at h; exact h.elim
    | cons t ts =>
      have hlt : k < tags.length := by
        rcases Nat.lt_or_ge k tags.length with h1 | h1
        · exact h1
        · rw [List.drop_eq_nil_of_le h1] at htl; cases htl
      have ht : tags.getD k 3 = t := by
        have h1 := List.drop_eq_getElem_cons hlt
        rw [htl] at h1
        simp only [List.cons.injEq] at h1
        simp [hlt, h1.1]
      have hts : tags.drop (k + 1) = ts := by
        have h1 := List.drop_eq_getElem_cons hlt
        rw [htl] at h1
        simp only [List.cons.injEq] at h1
        exact h1.2.symm
      rw [htl] at h
      unfold wpMix at h
      have next : ∀ a' w', StillC C ops tags (listed.setIfInBounds k true) w' → wpMix P ops C Q ts l a' w' →
          wpAnyM P md ops C tags Q l.length (listed.setIfInBounds k true) a' w' := fun a' w' hC' hh =>
        mix_lex G l (k + 1) _ _ _ hl' (inv.set hr') hC' hB' (by rw [hts]; exact hh)
      split at h
      · rename_i hq
        obtain ⟨v, hy, hK⟩ := h
        refine first_quiet G h0 (by rw [ht]; exact hq) l.length listed a w (Region.free_spec h0 hf) hr' (by rw [ht]; exact hy) ?_
        exact next _ _ (hC.set k) hK
      · rename_i hq
        split at h
        · rename_i hw
          refine first_loud G h0 (by rw [ht]; simpa using hq) l.length listed a w inv hC (Region.free_spec h0 hf) hr' hw (Oper.wp_mono (fun a' w' hh => ⟨by rw [ht]; exact hh.1, ?_⟩) h)
          have hC' : StillC C ops tags (listed.setIfInBounds k true) w' := by
            intro i hi ti hli
            by_cases h2 : t = 2
            · have h3 := G.last listed inv i k hr' (by rw [ht]; exact h2) ti hi
              by_cases hik : k = i
              · subst hik
                rw [getD_set_same] at hli
                cases hli
              · rw [getD_set_ne true hik, h3] at hli
                cases hli
            · exact hh.1 h2
          exact next _ _ hC' hh.2
        · rename_i hw
          refine ⟨fun h1 => (by rw [h1] at hr'; cases hr'), fun j hj => ?_⟩
          have hdone := next _ _ (hC.set k) h
          -- it yields nothing: as a plain one would
          exact (skip_first G h0 (by rw [ht]; simpa using hq) l.length listed a w (Region.free_spec h0 hf) hr' (by simpa using hw) hdone).2 j hj


/-- **ONE WALK, IN THE ORDER OF THE TEXT, SERVES EVERY ORDER.** -/
theorem wp_region_mix {id : Nat} {a : Act} {w : World} {l : List Oper} (tags : List Nat) (C : World → Prop) (hm : P.follows .mixedOrders = true) (hB : Region.mixB .any l.toArray tags = true) (hC : C w.drew)
    (h : wpMix P l.toArray C Q tags l a w.drew) : (Code.region id l.toArray true).wp P Q a w := by
  obtain ⟨G, hlex⟩ := good_of_mixB hB
  refine wp_region_any hm (wpAny_of_mix (C := C) G _ _ _ _ ?_ (fun _ _ _ _ => hC) ?_)
  · intro j oj _ hl
    rw [getD_replicate_false] at hl
    cases hl
  · have := mix_lex (C := C) (Q := Q) G l 0 (Array.replicate l.toArray.size false) a w.drew (by simp) ?_ (fun _ _ _ _ => hC) (by simpa using hlex) (by simpa using h)
    · simpa using this
    · intro j oj _ hl
      rw [getD_replicate_false] at hl
      cases hl

theorem mix_nil {a : Act} {w : World} {ts : List Nat} (h : Q .normal a w) : wpMix P ops C Q ts [] a w := by
  unfold wpMix
  exact h

theorem mix_loud {a : Act} {w : World} {ts : List Nat} {o : Oper} {rest : List Oper} (hg : o.guard = none)
    (h : ∀ K : Act → World → Prop, (∀ a' w', (C w' ∧ wpMix P ops C Q ts rest a' w') → K a' w') → o.wp P a w K NoPost) : wpMix P ops C Q (1 :: ts) (o :: rest) a w := by
  unfold wpMix
  rw [if_neg (by simp [isQ]), if_pos (by simp [Region.wanted, hg])]
  exact Oper.wp_mono (fun a' w' hh => ⟨fun _ => hh.1, hh.2⟩) (h _ (fun _ _ hh => hh))

theorem mix_loud_g {a : Act} {w : World} {ts : List Nat} {o : Oper} {rest : List Oper} (hg : Region.wanted o (yielded ops a.tmps) = true)
    (h : ∀ K : Act → World → Prop, (∀ a' w', (C w' ∧ wpMix P ops C Q ts rest a' w') → K a' w') → o.wp P a w K NoPost) : wpMix P ops C Q (1 :: ts) (o :: rest) a w := by
  unfold wpMix
  rw [if_neg (by simp [isQ]), if_pos hg]
  exact Oper.wp_mono (fun a' w' hh => ⟨fun _ => hh.1, hh.2⟩) (h _ (fun _ _ hh => hh))

theorem mix_skip {a : Act} {w : World} {ts : List Nat} {o : Oper} {rest : List Oper} {t : Nat} (ht : isQ t = false) (hg : Region.wanted o (yielded ops a.tmps) = false)
    (h : wpMix P ops C Q ts rest (a.put o.dst undef) w) : wpMix P ops C Q (t :: ts) (o :: rest) a w := by
  unfold wpMix
  rw [if_neg (by simp [ht]), if_neg (by simp [hg])]
  exact h

theorem mix_last {a : Act} {w : World} {ts : List Nat} {o : Oper} {rest : List Oper} (hg : o.guard = none)
    (h : ∀ K : Act → World → Prop, (∀ a' w', wpMix P ops C Q ts rest a' w' → K a' w') → o.wp P a w K NoPost) : wpMix P ops C Q (2 :: ts) (o :: rest) a w := by
  unfold wpMix
  rw [if_neg (by simp [isQ]), if_pos (by simp [Region.wanted, hg])]
  exact Oper.wp_mono (fun a' w' hh => ⟨fun h2 => absurd rfl h2, hh⟩) (h _ (fun _ _ hh => hh))

/-- operations that call no function -/
def plainOp (o : Oper) : Bool :=
  match o.op with
  | .move _ | .assign _ | .pick .. | .alloc _ | .box .. | .build .. | .buildSlice .. | .load .. | .store .. | .binOp .. | .unOp .. | .convert .. | .makeInterface .. | .makeFunc .. | .makeMap .. | .makeSlice .. | .slice ..
  | .fieldAddr .. | .field .. | .indexAddr .. | .index .. | .lookup .. | .extract .. | .typeAssert .. | .nilCheck _ => true
  | .call { callee := .builtin .len, .. } | .call { callee := .builtin .cap, .. } | .call { callee := .builtin .min, .. } | .call { callee := .builtin .max, .. } => true
  | _ => false

theorem no_enter {α : Type} (s : Sem α) (g : α → Next) (hg : ∀ x f args, g x ≠ .enter f args) {w w' : World} {f : FuncId} {args : Array Value} : (do let x ← s; pure (g x) : Sem Next).run P w ≠ .ok (.enter f args) w' := by
  rw [Sem.run_bind]
  cases s.run P w with
  | ok x w1 =>
    intro h
    simp only [Result.andThen_ok, Sem.run_pure, Result.ok.injEq] at h
    exact hg x f args h.1
  | halt x w1 => intro h; simp at h


theorem no_enter_bind {α : Type} (s : Sem α) (g : α → Sem Next) {w w' : World} {f : FuncId} {args : Array Value} (hg : ∀ x w1, (g x).run P w1 ≠ .ok (.enter f args) w') : (s >>= g).run P w ≠ .ok (.enter f args) w' := by
  rw [Sem.run_bind]
  cases s.run P w with
  | ok x w1 =>
    intro h
    simp only [Result.andThen_ok] at h
    exact hg x w1 h
  | halt x w1 => intro h; simp at h

theorem no_enter_val {v : Value} {w w' : World} {f : FuncId} {args : Array Value} : (pure (Next.value v) : Sem Next).run P w ≠ .ok (.enter f args) w' := by
  intro h
  simp at h

theorem plain_no_enter {o : Oper} (h : plainOp o = true) {ρ : Operand → Value} {w w' : World} {f : FuncId} {args : Array Value} : (execOp ρ o).run P w ≠ .ok (.enter f args) w' := by
  obtain ⟨dst, op, type, pos, after, guard⟩ := o
  cases op <;> simp only [plainOp, Bool.false_eq_true] at h <;> unfold execOp <;> simp only []
  case move x => exact no_enter_val
  case assign x => exact no_enter_val
  case nilCheck x =>
    split
    · intro h; simp [runtimePanic] at h
    · intro h; simp [runtimePanic] at h
    · intro h; simp [runtimePanic] at h
    · split
      · intro h; simp [runtimePanic] at h
      · refine no_enter_bind _ _ fun _ _ => no_enter_bind _ _ fun _ _ => ?_
        split
        · exact no_enter_bind _ _ fun _ _ => no_enter_val
        · exact no_enter_val
      · exact no_enter_val
    · exact no_enter_val
  case call c =>
    obtain ⟨callee, as, ats⟩ := c
    cases callee with
    | value x => simp at h
    | invoke r m => simp at h
    | builtin b =>
      change (builtin b ats type _ _).run P w ≠ _
      cases b <;> first
        | exact no_enter _ _ (fun _ _ _ h => by cases h)
        | exact absurd h (by simp)
  all_goals exact no_enter _ _ (fun _ _ _ h => by cases h)

theorem runsTo_of_quietAt {o : Oper} (hp : plainOp o = true) {a : Act} {w : World} {v : Value} (h : o.quietAt P a C w v) : runsTo P o a w v := by
  unfold Oper.quietAt at h
  unfold runsTo
  have hne := fun f args w' => plain_no_enter (P := P) hp (ρ := a.eval) (w := w) (w' := w') (f := f) (args := args)
  generalize (execOp a.eval o).run P w = r at *
  cases r with
  | ok n w' =>
    cases n <;> simp only [Oper.quietUpon] at h
    case value u => obtain ⟨rfl, rfl⟩ := h; exact .inl rfl
    case skip => obtain ⟨rfl, rfl⟩ := h; exact .inr ⟨rfl, rfl⟩
    case enter f args => exact (hne f args w' rfl).elim
  | halt x w' => simp only [Oper.quietUpon] at h

theorem mix_segment {D : World → Prop} {w : World} {t : Nat} (ht : isQ t = true) (hD : ∀ v, clsOf C t v → D v) : ∀ (n : Nat) {ts : List Nat} {l : List Oper} {a : Act}, (l.take n).all plainOp = true → n ≤ l.length →
    wpQuiet P ops D (fun a' => wpMix P ops C Q ts (l.drop n) a' w) (l.take n) a → wpMix P ops C Q (List.replicate n t ++ ts) l a w
  | 0, ts, l, a, _, _, h => by simpa [wpQuiet] using h
  | n + 1, ts, [], a, _, hn, h => by simp at hn
  | n + 1, ts, o :: l, a, hp, hn, h => by
    simp only [List.take_succ_cons, List.all_cons, Bool.and_eq_true] at hp
    simp only [List.take_succ_cons, List.drop_succ_cons, wpQuiet] at h
    simp only [List.replicate_succ, List.cons_append]
    unfold wpMix
    rw [if_pos ht]
    split at h
    · rename_i hw
      obtain ⟨v, h1, h2⟩ := h
      exact ⟨v, .inl ⟨hw, fun w' hw' => runsTo_of_quietAt hp.1 (h1 w' (hD w' hw'))⟩, mix_segment ht hD n hp.2 (by simpa using hn) h2⟩
    · rename_i hw
      exact ⟨undef, .inr ⟨by simpa using hw, rfl⟩, mix_segment ht hD n hp.2 (by simpa using hn) h⟩

/-- the next n operations are calm: they are walked in any world of the class -/
theorem mix_calm (n : Nat) {ts : List Nat} {l : List Oper} {a : Act} {w : World} (hw : C w) (hp : (l.take n).all plainOp = true) (hn : decide (n ≤ l.length) = true)
    (h : ∀ (ι : Type) (W : ι → World), Nonempty ι → (∀ i, C (W i)) → wpQuiet P ops (fun w' => ∃ i, w' = W i) (fun a' => wpMix P ops C Q ts (l.drop n) a' w) (l.take n) a) :
    wpMix P ops C Q (List.replicate n 0 ++ ts) l a w :=
  mix_segment (D := fun w' => ∃ i : { u : World // C u }, w' = i.val) rfl (fun v hv => ⟨⟨v, hv rfl⟩, rfl⟩) n hp (by simpa using hn) (h { u : World // C u } (fun i => i.val) ⟨⟨w, hw⟩⟩ (fun i => i.2))

/-- the next n operations do not look at the world -/
theorem mix_plain (n : Nat) {ts : List Nat} {l : List Oper} {a : Act} {w : World} (hp : (l.take n).all plainOp = true) (hn : decide (n ≤ l.length) = true)
    (h : ∀ (ι : Type) (W : ι → World), Nonempty ι → wpQuiet P ops (fun w' => ∃ i, w' = W i) (fun a' => wpMix P ops C Q ts (l.drop n) a' w) (l.take n) a) :
    wpMix P ops C Q (List.replicate n 3 ++ ts) l a w :=
  mix_segment (D := fun w' => ∃ i : World, w' = i) rfl (fun v _ => ⟨v, rfl⟩) n hp (by simpa using hn) (h World id ⟨w⟩)

/-- a region that reads alone -/
theorem wp_region_calm {id : Nat} {a : Act} {w : World} {l : List Oper} (C : World → Prop) (hm : P.follows .mixedOrders = true) (hB : Region.lexB .any l.toArray = true) (hC : C w.drew)
    (h : ∀ (ι : Type) (W : ι → World), Nonempty ι → (∀ i, C (W i)) → (∀ w, C w → ∃ i, w = W i) → wpQuiet P l.toArray (fun w' => ∃ i, w' = W i) (fun a' => ∀ i, Q .normal a' (W i)) l a) : (Code.region id l.toArray true).wp P Q a w := by
  refine wp_region_quiet (C := fun w' => ∃ i : { u : World // C u }, w' = i.val) hm hB ⟨⟨w.drew, hC⟩, rfl⟩ ?_
  have := h { u : World // C u } (fun i => i.val) ⟨⟨w.drew, hC⟩⟩ (fun i => i.2) (fun w hw => ⟨⟨w, hw⟩, rfl⟩)
  have e : (fun a' => ∀ w', (∃ i : { u : World // C u }, w' = i.val) → Q .normal a' w') = fun a' => ∀ i : { u : World // C u }, Q .normal a' i.val := by
    funext a'
    exact propext ⟨fun h i => h _ ⟨i, rfl⟩, fun h w' ⟨i, hi⟩ => hi ▸ h i⟩
  rw [e]
  simpa using this
end
end Go.Sl
