




/-
  Assertions on parts of the memory that a call makes, joined by '*'; what is below the world 'B' stays as it was.
  Condition: none (lemmas on worlds).
-/
import Derived.WalkKit
import Derived.WalkSpells
import Derived.WalkLawsBesides
namespace Go.Sl
open Go Go.RowKit

/-- a part of the memory -/
abbrev Hp := Nat → Option Obj
def Hp.dis (h k : Hp) : Prop := ∀ b, h b = none ∨ k b = none
def Hp.un (h k : Hp) : Hp := fun b => (h b).or (k b)
def Hp.nil : Hp := fun _ => none
def Hp.one (b : Nat) (o : Obj) : Hp := fun c => if c = b then some o else none

def Assn := Hp → Prop
def star (A B : Assn) : Assn := fun h => ∃ h1 h2, Hp.dis h1 h2 ∧ h = Hp.un h1 h2 ∧ A h1 ∧ B h2
instance : Mul Assn := ⟨star⟩
def emp : Assn := fun h => h = Hp.nil
def ex {α : Sort _} (f : α → Assn) : Assn := fun h => ∃ x, f x h
def pur (p : Prop) : Assn := fun h => p ∧ h = Hp.nil

theorem Hp.un_comm {h k : Hp} (d : Hp.dis h k) : Hp.un h k = Hp.un k h := by
  funext b
  rcases d b with e | e <;> simp [Hp.un, e]

theorem star_comm (A B : Assn) : A * B = B * A := by
  funext h
  refine propext ⟨?_, ?_⟩ <;> rintro ⟨h1, h2, d, rfl, a, b⟩ <;> exact ⟨h2, h1, fun x => (d x).symm, Hp.un_comm d, b, a⟩

theorem star_assoc (A B C : Assn) : A * B * C = A * (B * C) := by
  funext h
  refine propext ⟨?_, ?_⟩
  · rintro ⟨h12, h3, d, rfl, ⟨h1, h2, d', rfl, a, b⟩, c⟩
    refine ⟨h1, Hp.un h2 h3, fun x => ?_, ?_, a, h2, h3, fun x => ?_, rfl, b, c⟩
    · have d1 := d x; have d2 := d' x
      simp only [Hp.un] at d1 ⊢
      cases e1 : h1 x <;> cases e2 : h2 x <;> cases e3 : h3 x <;> simp_all
    · funext x; simp [Hp.un, Option.or_assoc]
    · have d1 := d x; have d2 := d' x
      simp only [Hp.un] at d1
      cases e1 : h1 x <;> cases e2 : h2 x <;> cases e3 : h3 x <;> simp_all
  · rintro ⟨h1, h23, d, rfl, a, h2, h3, d', rfl, b, c⟩
    refine ⟨Hp.un h1 h2, h3, fun x => ?_, ?_, ⟨h1, h2, fun x => ?_, rfl, a, b⟩, c⟩
    · have d1 := d x; have d2 := d' x
      simp only [Hp.un] at d1 ⊢
      cases e1 : h1 x <;> cases e2 : h2 x <;> cases e3 : h3 x <;> simp_all
    · funext x; simp [Hp.un, Option.or_assoc]
    · have d1 := d x; have d2 := d' x
      simp only [Hp.un] at d1
      cases e1 : h1 x <;> cases e2 : h2 x <;> cases e3 : h3 x <;> simp_all

instance : Std.Associative (α := Assn) (· * ·) := ⟨star_assoc⟩
instance : Std.Commutative (α := Assn) (· * ·) := ⟨star_comm⟩

theorem emp_star (A : Assn) : emp * A = A := by
  funext h
  refine propext ⟨?_, fun a => ⟨Hp.nil, h, fun _ => .inl rfl, by funext x; simp [Hp.un, Hp.nil], rfl, a⟩⟩
  rintro ⟨h1, h2, d, rfl, rfl, b⟩
  have : Hp.un Hp.nil h2 = h2 := by funext x; simp [Hp.un, Hp.nil]
  rw [this]; exact b
theorem star_emp (A : Assn) : A * emp = A := by rw [star_comm, emp_star]

theorem ex_star {α : Sort _} (f : α → Assn) (A : Assn) : ex f * A = ex fun x => f x * A := by
  funext h
  refine propext ⟨?_, ?_⟩
  · rintro ⟨h1, h2, d, rfl, ⟨x, a⟩, b⟩
    exact ⟨x, h1, h2, d, rfl, a, b⟩
  · rintro ⟨x, h1, h2, d, rfl, a, b⟩
    exact ⟨h1, h2, d, rfl, ⟨x, a⟩, b⟩

theorem pur_star {p : Prop} (hp : p) (A : Assn) : pur p * A = A := by
  have : pur p = emp := by funext h; exact propext ⟨fun h => h.2, fun h => ⟨hp, h⟩⟩
  rw [this, emp_star]

/-- one block of cells -/
def blk (b : Nat) (cs : List Value) : Assn := fun h => ∃ (T : TypeId) (fr : Nat × Nat), (fr.1 = fr.2 ∨ cs.length ≤ fr.1) ∧ h = Hp.one b (.cells cs.toArray T fr)
/-- one block of another kind -/
def obj (b : Nat) (o : Obj) : Assn := fun h => h = Hp.one b o

/-- what was there before 'B' is as it was; beside it lies what A says -/
def Own (B : World) (A : Assn) (w : World) : Prop := Below B.heap.size B w ∧ ∃ h, A h ∧ ∀ b o, h b = some o → B.heap.size ≤ b ∧ w.heap[b]? = some o

section
variable {B w : World} {A R : Assn}

theorem own_begin (B : World) : Own B emp B := ⟨Below.refl _ _, Hp.nil, rfl, fun _ _ h => by cases h⟩

theorem Own.below (h : Own B A w) : Below B.heap.size B w := h.1

theorem Own.mono {A' : Assn} (h : Own B A w) (k : ∀ h, A h → A' h) : Own B A' w := ⟨h.1, let ⟨x, a, b⟩ := h.2; ⟨x, k x a, b⟩⟩

theorem Own.eq {A' : Assn} (h : Own B A w) (e : A = A') : Own B A' w := e ▸ h

theorem Own.drop (h : Own B (A * R) w) : Own B A w := by
  obtain ⟨hb, _, ⟨h1, h2, d, rfl, a, _⟩, k⟩ := h
  refine ⟨hb, h1, a, fun b o e => k b o ?_⟩
  simp [Hp.un, e]

theorem Own.right (h : Own B (A * R) w) : Own B R w := (h.eq (star_comm A R)).drop

/-- the second part is let go -/
theorem Own.skip {C : Assn} (h : Own B (A * (C * R)) w) : Own B (A * R) w := (h.eq (A' := A * R * C) (by ac_rfl)).drop

theorem own_ex {α : Sort _} {f : α → Assn} (h : Own B (ex f * R) w) : ∃ x, Own B (f x * R) w := by
  obtain ⟨hb, x, a, k⟩ := h
  rw [ex_star] at a
  obtain ⟨y, a⟩ := a
  exact ⟨y, hb, x, a, k⟩

theorem own_ex_mk {α : Sort _} {f : α → Assn} (x : α) (h : Own B (f x * R) w) : Own B (ex f * R) w := by
  rw [ex_star]
  exact h.mono fun h a => ⟨x, a⟩

theorem own_pur {p : Prop} (h : Own B (pur p * R) w) : p ∧ Own B R w := by
  obtain ⟨hb, _, ⟨h1, h2, d, rfl, ⟨hp, rfl⟩, b⟩, k⟩ := h
  have : Hp.un Hp.nil h2 = h2 := by funext x; simp [Hp.un, Hp.nil]
  rw [this] at k
  exact ⟨hp, hb, h2, b, k⟩

theorem own_pur_mk {p : Prop} (hp : p) (h : Own B R w) : Own B (pur p * R) w := by rw [pur_star hp]; exact h

/-- a change of the world that lets be all blocks of A's -/
theorem Own.keep {w' : World} (h : Own B A w) (hb : Below B.heap.size B w') (k : ∀ (b : Nat) (o : Obj), w.heap[b]? = some o → w'.heap[b]? = some o) : Own B A w' :=
  ⟨hb, let ⟨x, a, c⟩ := h.2; ⟨x, a, fun b o e => ⟨(c b o e).1, k b o (c b o e).2⟩⟩⟩

@[go_sem] theorem own_drew (h : Own B A w) : Own B A w.drew := ⟨h.1.drew, h.2⟩

theorem heap_alloc_some (w : World) (o : Obj) (b : Nat) (x : Obj) (h : w.heap[b]? = some x) : (w.alloc o).heap[b]? = some x := by
  rw [Below.heap_alloc w o b (Array.getElem?_eq_some_iff.1 h).1]
  exact h

@[go_sem] theorem own_alloc (h : Own B A w) (o : Obj) : Own B A (w.alloc o) :=
  h.keep (h.1.alloc h.1.size o) (fun b x => heap_alloc_some w o b x)

theorem Hp.one_self (b : Nat) (o : Obj) : Hp.one b o b = some o := by simp [Hp.one]
theorem Hp.one_some {b c : Nat} {o x : Obj} (h : Hp.one b o c = some x) : c = b ∧ x = o := by
  unfold Hp.one at h
  split at h
  · rename_i e; exact ⟨e, (Option.some.inj h).symm⟩
  · cases h

/-- a new block is one's own -/
theorem own_new_obj (h : Own B A w) (o : Obj) : Own B (obj w.heap.size o * A) (w.alloc o) := by
  obtain ⟨hb, x, a, k⟩ := h
  refine ⟨hb.alloc hb.size o, _, ⟨Hp.one w.heap.size o, x, fun c => ?_, rfl, rfl, a⟩, fun b y hy => ?_⟩
  · by_cases e : c = w.heap.size
    · right
      cases hx : x c with
      | none => rfl
      | some y =>
        have := (Array.getElem?_eq_some_iff.1 (k c y hx).2).1
        omega
    · left; simp [Hp.one, e]
  · cases h1 : Hp.one w.heap.size o b with
    | some z =>
      obtain ⟨rfl, rfl⟩ := Hp.one_some h1
      simp only [Hp.un, h1] at hy
      obtain rfl := Option.some.inj hy
      exact ⟨hb.size, heap_alloc_new w _⟩
    | none =>
      simp only [Hp.un, h1, Option.none_or] at hy
      exact ⟨(k b y hy).1, heap_alloc_some w o b y (k b y hy).2⟩

theorem own_new (h : Own B A w) (cs : List Value) (T : TypeId) : Own B (blk w.heap.size cs * A) (w.alloc (.cells cs.toArray T)) := by
  refine (own_new_obj h _).mono ?_
  rintro _ ⟨h1, h2, d, rfl, rfl, b⟩
  exact ⟨_, h2, d, rfl, ⟨T, (0, 0), .inl rfl, rfl⟩, b⟩

/-- what an owned block is in the world -/
theorem own_obj_at {b : Nat} {o : Obj} (h : Own B (obj b o * R) w) : w.heap[b]? = some o ∧ B.heap.size ≤ b := by
  obtain ⟨hb, _, ⟨h1, h2, d, rfl, rfl, _⟩, k⟩ := h
  have := k b o (by simp [Hp.un, Hp.one])
  exact ⟨this.2, this.1⟩

theorem own_blk_at {b : Nat} {cs : List Value} (h : Own B (blk b cs * R) w) : ∃ (T : TypeId) (fr : Nat × Nat), (fr.1 = fr.2 ∨ cs.length ≤ fr.1) ∧ w.heap[b]? = some (.cells cs.toArray T fr) ∧ B.heap.size ≤ b := by
  obtain ⟨hb, _, ⟨h1, h2, d, rfl, ⟨T, fr, hf, rfl⟩, _⟩, k⟩ := h
  have := k b (.cells cs.toArray T fr) (by simp [Hp.un, Hp.one])
  exact ⟨T, fr, hf, this.2, this.1⟩

theorem own_lt {b : Nat} {cs : List Value} (h : Own B (blk b cs * R) w) : B.heap.size ≤ b ∧ b < w.heap.size := by
  obtain ⟨T, fr, _, hg, hb⟩ := own_blk_at h
  exact ⟨hb, (Array.getElem?_eq_some_iff.1 hg).1⟩

theorem own_cell {b : Nat} {cs : List Value} (h : Own B (blk b cs * R) w) (i : Nat) : w.cell? ⟨b, i, none⟩ = cs[i]? := by
  obtain ⟨T, fr, _, hg, _⟩ := own_blk_at h
  rw [cell_of_row w b i cs.toArray T fr hg]
  simp

theorem own_unfrozen {b : Nat} {cs : List Value} (h : Own B (blk b cs * R) w) (i : Nat) (hi : i < cs.length) : w.frozen? ⟨b, i, none⟩ = false := by
  obtain ⟨T, fr, hf, hg, _⟩ := own_blk_at h
  simp only [World.frozen?, hg, Bool.and_eq_false_iff, decide_eq_false_iff_not]
  omega

/-- two blocks that are owned side by side are two -/
theorem own_ne {b c : Nat} {cs ds : List Value} (h : Own B (blk b cs * (blk c ds * R)) w) : b ≠ c := by
  rintro rfl
  obtain ⟨hb, _, ⟨h1, h2, d, rfl, ⟨T, fr, hf, rfl⟩, ⟨h3, h4, d', rfl, ⟨T', fr', hf', rfl⟩, _⟩⟩, k⟩ := h
  have := d b
  simp [Hp.one, Hp.un] at this

/-- one owned block becomes another one -/
theorem own_turn {b : Nat} {o' : Obj} {w' : World} {X Y : Assn} (hX : ∀ h, X h → ∃ o, h = Hp.one b o) (hY : ∀ h, h = Hp.one b o' → Y h) (h : Own B (X * R) w) (hb : Below B.heap.size B w') (hn : w'.heap[b]? = some o')
    (hk : ∀ c, c ≠ b → w'.heap[c]? = w.heap[c]?) : Own B (Y * R) w' := by
  obtain ⟨_, _, ⟨h1, h2, d, rfl, hx, r⟩, k⟩ := h
  obtain ⟨o, rfl⟩ := hX _ hx
  have hb0 : B.heap.size ≤ b := (k b o (by simp [Hp.un, Hp.one])).1
  refine ⟨hb, _, ⟨Hp.one b o', h2, fun c => ?_, rfl, hY _ rfl, r⟩, fun c y hy => ?_⟩
  · by_cases e : c = b
    · subst e
      have := d c
      simp [Hp.one] at this
      exact .inr this
    · left; simp [Hp.one, e]
  · by_cases e : c = b
    · subst e
      simp only [Hp.un, Hp.one, if_true] at hy
      obtain rfl := Option.some.inj hy
      exact ⟨hb0, hn⟩
    · have e2 : (Hp.one b o' c) = none := by simp [Hp.one, e]
      simp only [Hp.un, e2, Option.none_or] at hy
      have e3 : (Hp.un (Hp.one b o) h2) c = some y := by simp [Hp.un, Hp.one, e, hy]
      obtain ⟨h4, h5⟩ := k c y e3
      exact ⟨h4, by rw [hk c e]; exact h5⟩

theorem blk_one {b : Nat} {cs : List Value} : ∀ h, blk b cs h → ∃ o, h = Hp.one b o := fun _ ⟨_, _, _, e⟩ => ⟨_, e⟩

theorem own_set {b : Nat} {cs : List Value} (h : Own B (blk b cs * R) w) (i : Nat) (v : Value) : Own B (blk b (cs.set i v) * R) (w.setCell ⟨b, i, none⟩ v) := by
  obtain ⟨T, fr, hf, hg, hb⟩ := own_blk_at h
  refine own_turn (o' := .cells (cs.set i v).toArray T fr) blk_one (fun h e => ⟨T, fr, by simpa using hf, e⟩) h (h.1.setCell hb v) ?_ (fun c hc => Below.heap_setCell _ _ _ _ hc)
  simp only [World.setCell, Array.getElem?_modify, if_true, hg, Option.map_some, Option.isSome_none]
  simp

/-- the whole row of a block written anew -/
theorem own_setRow {b : Nat} {cs : List Value} (h : Own B (blk b cs * R) w) (ds : List Value) (hl : ds.length = cs.length) : Own B (blk b ds * R) (w.setRow b ds.toArray) := by
  obtain ⟨T, fr, hf, hg, hb⟩ := own_blk_at h
  refine own_turn (o' := .cells ds.toArray T fr) blk_one (fun h e => ⟨T, fr, by rw [hl]; exact hf, e⟩) h ?_ (setRow_heap w b _ _ T fr hg) (fun c hc => setRow_other w b c _ hc)
  exact ⟨h.1.os, h.1.tape, h.1.output, by simpa using h.1.size, fun k hk => by rw [setRow_other w b k _ (by omega)]; exact h.1.block k hk⟩

theorem own_obj_set {b : Nat} {o o' : Obj} (h : Own B (obj b o * R) w) : Own B (obj b o' * R) { w with heap := w.heap.setIfInBounds b o' } := by
  obtain ⟨hg, hb⟩ := own_obj_at h
  have hlt := (Array.getElem?_eq_some_iff.1 hg).1
  refine own_turn (o' := o') (fun h e => ⟨o, e⟩) (fun h e => e) h ?_ (by simp [hlt]) (fun c hc => by simp [Array.getElem?_setIfInBounds_ne (Ne.symm hc)])
  exact ⟨h.1.os, h.1.tape, h.1.output, by simpa using h.1.size, fun k hk => by
    show (w.heap.setIfInBounds b o')[k]? = _
    rw [Array.getElem?_setIfInBounds_ne (by omega)]; exact h.1.block k hk⟩

/-- a cell of old memory reads as it did -/
theorem own_old (h : Own B A w) {a : Addr} (ha : a.block < B.heap.size) : w.cell? a = B.cell? a := h.1.cell ha

end

/-! ### facts for a walk: an assertion that holds a block -/

theorem has_cell {B : World} {A R : Assn} {b : Nat} {cs : List Value} (hA : A = blk b cs * R) (i : Nat) {v : Value} (hv : cs[i]? = some v) : ∀ w, Own B A w → w.cell? ⟨b, i, none⟩ = some v :=
  fun _ h => by rw [own_cell (h.eq hA) i]; exact hv
theorem has_free {B : World} {A R : Assn} {b : Nat} {cs : List Value} (hA : A = blk b cs * R) (i : Nat) (hi : i < cs.length) : ∀ w, Own B A w → w.frozen? ⟨b, i, none⟩ = false :=
  fun _ h => own_unfrozen (h.eq hA) i hi

/-- A holds block b, whose cells are cs -/
class HasBlk (b : Nat) (cs : outParam (List Value)) (A : Assn) : Prop where
  out : ∃ R, A = blk b cs * R
instance (b : Nat) (cs : List Value) : HasBlk b cs (blk b cs) := ⟨⟨emp, (star_emp _).symm⟩⟩
instance (b : Nat) (cs : List Value) (A C : Assn) [h : HasBlk b cs A] : HasBlk b cs (A * C) := ⟨let ⟨R, e⟩ := h.out; ⟨R * C, by rw [e, star_assoc]⟩⟩
instance (b : Nat) (cs : List Value) (A C : Assn) [h : HasBlk b cs C] : HasBlk b cs (A * C) := ⟨let ⟨R, e⟩ := h.out; ⟨A * R, by rw [e]; ac_rfl⟩⟩

theorem Own.cell {B w : World} {A : Assn} (_ : Own B A w) (b i : Nat) {cs : List Value} [hb : HasBlk b cs A] {v : Value} (hv : cs[i]? = some v) : ∀ w, Own B A w → w.cell? ⟨b, i, none⟩ = some v :=
  fun w h => by obtain ⟨R, e⟩ := hb.out; exact has_cell e i hv w h
theorem Own.free {B w : World} {A : Assn} (_ : Own B A w) (b i : Nat) {cs : List Value} [hb : HasBlk b cs A] (hi : decide (i < cs.length) = true) : ∀ w, Own B A w → w.frozen? ⟨b, i, none⟩ = false :=
  fun w h => by obtain ⟨R, e⟩ := hb.out; exact has_free e i (by simpa using hi) w h
theorem Own.lt {B w : World} {A : Assn} (h : Own B A w) (b : Nat) {cs : List Value} [hb : HasBlk b cs A] : b < w.heap.size := by obtain ⟨R, e⟩ := hb.out; exact (own_lt (h.eq e)).2

/-- A' is A with v in cell i of block b -/
class SetBlk (b i : Nat) (v : Value) (A : Assn) (A' : outParam Assn) : Prop where
  out : ∃ cs R, A = blk b cs * R ∧ A' = blk b (cs.set i v) * R
instance (b i : Nat) (v : Value) (cs : List Value) : SetBlk b i v (blk b cs) (blk b (cs.set i v)) := ⟨⟨cs, emp, (star_emp _).symm, (star_emp _).symm⟩⟩
instance (b i : Nat) (v : Value) (A A' C : Assn) [h : SetBlk b i v A A'] : SetBlk b i v (A * C) (A' * C) := ⟨let ⟨cs, R, e, e'⟩ := h.out; ⟨cs, R * C, by rw [e, star_assoc], by rw [e', star_assoc]⟩⟩
instance (b i : Nat) (v : Value) (A C C' : Assn) [h : SetBlk b i v C C'] : SetBlk b i v (A * C) (A * C') := ⟨let ⟨cs, R, e, e'⟩ := h.out; ⟨cs, A * R, by rw [e]; ac_rfl, by rw [e']; ac_rfl⟩⟩

theorem Own.set {B w : World} {A A' : Assn} (h : Own B A w) (b i : Nat) (v : Value) [hb : SetBlk b i v A A'] : Own B A' (w.setCell ⟨b, i, none⟩ v) := by
  obtain ⟨cs, R, e, e'⟩ := hb.out
  rw [e']
  exact own_set (h.eq e) i v

end Go.Sl
