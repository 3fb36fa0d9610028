
/-
  A scheduler, plain: streams in a queue, and what may be sent next.
-/
import Derived.Test.YtbekaeahedkeoaaTy
namespace Go.Proofs.Ytbekaeahedkeoaa

/-- a stream that sends: its number, its window, what waits, and whether an end is to be told -/
structure Fl where
  id : Int
  win : Int
  wait : Int
  fin : Bool

structure Sc where
  ctl : List (List UInt8)
  q : List Fl
  win : Int
  frame : Int

def Fl.ready (f : Fl) (w : Int) : Bool := (decide (0 < f.wait) && decide (0 < f.win) && decide (0 < w)) || (decide (f.wait = 0) && f.fin)

def pick (w : Int) : List Fl → Option (List Fl × Fl × List Fl)
  | [] => none
  | f :: l => if f.ready w then some ([], f, l) else (pick w l).map fun p => (f :: p.1, p.2.1, p.2.2)

theorem pick_none {w : Int} {l : List Fl} : pick w l = none ↔ ∀ f ∈ l, f.ready w = false := by
  induction l with
  | nil => simp [pick]
  | cons f l ih =>
    unfold pick
    cases h : f.ready w <;> simp [h, ih]

theorem pick_some {w : Int} {l l1 l2 : List Fl} {f : Fl} : pick w l = some (l1, f, l2) ↔ l = l1 ++ f :: l2 ∧ (∀ x ∈ l1, x.ready w = false) ∧ f.ready w = true := by
  induction l generalizing l1 with
  | nil => simp [pick]
  | cons g l ih =>
    unfold pick
    cases h : g.ready w
    · cases l1 with
      | nil =>
        simp only [Bool.false_eq_true, if_false, Option.map_eq_some_iff, Prod.mk.injEq, reduceCtorEq, List.nil_append, List.cons.injEq]
        constructor
        · rintro ⟨_, _, h0, _⟩; cases h0
        · rintro ⟨⟨rfl, rfl⟩, _, h2⟩; rw [h] at h2; cases h2
      | cons y l1 =>
        simp only [Bool.false_eq_true, if_false, Option.map_eq_some_iff, Prod.mk.injEq, List.cons_append, List.cons.injEq]
        constructor
        · rintro ⟨⟨a, b, c⟩, h1, ⟨rfl, rfl⟩, rfl, rfl⟩
          obtain ⟨rfl, h2, h3⟩ := ih.1 h1
          refine ⟨⟨rfl, rfl⟩, ?_, h3⟩
          intro x hx
          rcases List.mem_cons.1 hx with rfl | hx
          · exact h
          · exact h2 x hx
        · rintro ⟨⟨rfl, rfl⟩, h2, h3⟩
          exact ⟨(l1, f, l2), ih.2 ⟨rfl, fun x hx => h2 x (List.mem_cons_of_mem _ hx), h3⟩, ⟨rfl, rfl⟩, rfl, rfl⟩
    · simp only [if_true, Option.some.injEq, Prod.mk.injEq]
      constructor
      · rintro ⟨rfl, rfl, rfl⟩
        exact ⟨rfl, by simp, h⟩
      · rintro ⟨e, h2, h3⟩
        cases l1 with
        | nil => simp at e; obtain ⟨rfl, rfl⟩ := e; exact ⟨rfl, rfl, rfl⟩
        | cons y l1 =>
          simp at e
          obtain ⟨rfl, _⟩ := e
          have := h2 g (List.mem_cons_self ..)
          rw [h] at this
          cases this

def Sc.amount (s : Sc) (f : Fl) (c : Int) : Int := if 0 < f.wait then min (min (min (min f.wait f.win) s.win) s.frame) (c - 9) else 0

/-- what comes behind a stream's piece of n octets -/
def Fl.less (f : Fl) (n : Int) : Fl := { f with win := f.win - n, wait := f.wait - n }
/-- this piece is the last one -/
def Fl.last (f : Fl) (n : Int) : Bool := f.fin && decide (f.wait - n = 0)

def Sc.next (s : Sc) (c : Int) : Option (Int × Int × Bool) × Sc :=
  if c < 9 then (none, s)
  else match pick s.win s.q with
    | none => (none, s)
    | some (l1, f, l2) =>
      if 0 < f.wait ∧ s.amount f c < 1 then (none, s)
      else (some (f.id, s.amount f c, f.last (s.amount f c)), { s with q := l1 ++ l2 ++ (if f.last (s.amount f c) then [] else [f.less (s.amount f c)]), win := s.win - s.amount f c })

/-- what is so of each stream -/
structure Fl.Ok (f : Fl) : Prop where
  w1 : -2147483647 ≤ f.win
  w2 : f.win ≤ 2147483647
  o1 : 0 ≤ f.wait
  o2 : f.wait ≤ 2147483647
  i1 : 1 ≤ f.id
  i2 : f.id ≤ 2147483647

structure Sc.Ok (s : Sc) : Prop where
  fl : ∀ f ∈ s.q, f.Ok
  w1 : -2147483647 ≤ s.win
  w2 : s.win ≤ 2147483647
  f1 : 1 ≤ s.frame
  f2 : s.frame ≤ 16777215

theorem Sc.next_some {s s' : Sc} {c id n : Int} {e : Bool} (h : s.next c = (some (id, n, e), s')) :
    9 ≤ c ∧ ∃ l1 f l2, s.q = l1 ++ f :: l2 ∧ (∀ x ∈ l1, x.ready s.win = false) ∧ f.ready s.win = true ∧ id = f.id ∧ n = s.amount f c ∧ e = f.last n ∧ (0 < f.wait → 1 ≤ n) ∧
      s' = { s with q := l1 ++ l2 ++ (if f.last n then [] else [f.less n]), win := s.win - n } := by
  unfold Sc.next at h
  split at h
  · cases h
  · split at h
    · cases h
    · rename_i hp
      obtain ⟨e1, e2, e3⟩ := pick_some.1 hp
      split at h
      · cases h
      · rename_i hn
        cases h
        exact ⟨by omega, _, _, _, e1, e2, e3, rfl, rfl, rfl, by intro h0; simp only [not_and] at hn; have := hn h0; omega, rfl⟩

theorem Sc.next_none {s s' : Sc} {c : Int} (h : s.next c = (none, s')) : s' = s := by
  unfold Sc.next at h
  split at h
  · cases h; rfl
  · split at h
    · cases h; rfl
    · split at h
      · cases h; rfl
      · cases h

theorem Sc.amount_le {s : Sc} {f : Fl} {c : Int} (h : 0 < f.wait) : s.amount f c ≤ f.wait ∧ s.amount f c ≤ f.win ∧ s.amount f c ≤ s.win ∧ s.amount f c ≤ s.frame ∧ s.amount f c ≤ c - 9 := by
  unfold Sc.amount
  rw [if_pos h]
  omega
theorem Sc.amount_zero {s : Sc} {f : Fl} {c : Int} (h : ¬ 0 < f.wait) : s.amount f c = 0 := by
  unfold Sc.amount
  rw [if_neg h]

theorem Sc.Ok.next {s s' : Sc} {c : Int} {p : Option (Int × Int × Bool)} (k : s.Ok) (h : s.next c = (p, s')) : s'.Ok := by
  cases p with
  | none => rw [Sc.next_none h]; exact k
  | some p =>
    obtain ⟨id, n, e⟩ := p
    obtain ⟨hc, l1, f, l2, hq, -, -, -, hn, -, h1, rfl⟩ := Sc.next_some h
    have kf := k.fl f (by rw [hq]; simp)
    obtain ⟨a1, a2, a3, a4, a5, a6⟩ := kf
    obtain ⟨b1, b2, b3, b4, b5⟩ := k
    have hb : 0 ≤ n ∧ n ≤ f.wait ∧ (0 < n → n ≤ f.win ∧ n ≤ s.win) := by
      by_cases h0 : 0 < f.wait
      · have := Sc.amount_le (s := s) (c := c) h0
        have := h1 h0
        omega
      · rw [Sc.amount_zero h0] at hn
        omega
    refine ⟨fun g hg => ?_, ?_, ?_, b4, b5⟩
    · simp only [List.mem_append] at hg
      rcases hg with (hg | hg) | hg
      · exact b1 g (by rw [hq]; simp [hg])
      · exact b1 g (by rw [hq]; simp [hg])
      · split at hg
        · cases hg
        · rw [List.mem_singleton.1 hg]
          exact ⟨by simp only [Fl.less]; omega, by simp only [Fl.less]; omega, by simp only [Fl.less]; omega, by simp only [Fl.less]; omega, a5, a6⟩
    · show -2147483647 ≤ s.win - n
      omega
    · show s.win - n ≤ 2147483647
      omega

/-- where a stream stands -/
def place (id : Int) : List Fl → Option Nat
  | [] => none
  | f :: l => if f.id = id then some 0 else (place id l).map (· + 1)

theorem place_none {id : Int} {l : List Fl} : place id l = none ↔ ∀ f ∈ l, f.id ≠ id := by
  induction l with
  | nil => simp [place]
  | cons f l ih =>
    unfold place
    by_cases h : f.id = id <;> simp [h, ih]

theorem place_some {id : Int} {l : List Fl} {i : Nat} (h : place id l = some i) : ∃ l1 f l2, l = l1 ++ f :: l2 ∧ l1.length = i ∧ f.id = id ∧ ∀ x ∈ l1, x.id ≠ id := by
  induction l generalizing i with
  | nil => cases h
  | cons f l ih =>
    unfold place at h
    by_cases e : f.id = id
    · rw [if_pos e] at h
      cases h
      exact ⟨[], f, l, rfl, rfl, e, by simp⟩
    · rw [if_neg e] at h
      obtain ⟨j, hj, rfl⟩ := Option.map_eq_some_iff.1 h
      obtain ⟨l1, g, l2, rfl, rfl, h3, h4⟩ := ih hj
      refine ⟨f :: l1, g, l2, rfl, rfl, h3, ?_⟩
      intro x hx
      rcases List.mem_cons.1 hx with rfl | hx
      · exact e
      · exact h4 x hx

theorem place_at {id : Int} {l1 l2 : List Fl} {f : Fl} (h : f.id = id) (h1 : ∀ x ∈ l1, x.id ≠ id) : place id (l1 ++ f :: l2) = some l1.length := by
  induction l1 with
  | nil => simp [place, h]
  | cons g l ih =>
    have hg := h1 g (List.mem_cons_self ..)
    simp only [List.cons_append, place, if_neg hg, ih fun x hx => h1 x (List.mem_cons_of_mem _ hx)]
    simp

/-- the index, as a number: -1 if there is none -/
def placeI (id : Int) (l : List Fl) : Int := match place id l with | some i => (i : Int) | none => -1

end Go.Proofs.Ytbekaeahedkeoaa
