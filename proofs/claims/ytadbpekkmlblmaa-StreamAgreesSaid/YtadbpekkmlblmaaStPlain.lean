
/-
  A stream with two ends: who keeps the rules is never at fault (no program in sight).
-/
import Derived.Test.YtadbpekkmlblmaaStStep
namespace Go.Proofs.Ytadbpekkmlblmaa

/-- a frame that says nothing of a stream's state -/
abbrev ign (k : Int) : Prop := k < 0 ∨ 8 < k ∨ k = 4 ∨ k = 6 ∨ k = 7 ∨ k = 2

/-- what one end has said so far: 0 nothing, 1 something, 2 its end, 3 a reset -/
def phase (p : Nat) (f : Int × Bool) : Option Nat :=
  if ign f.1 then some p
  else if f.1 = 0 ∨ f.1 = 1 then (if p ≤ 1 then some (if f.2 then 2 else 1) else none)
  else if f.1 = 8 then (if p ≤ 2 then some (max p 1) else none)
  else if f.1 = 3 then (if p ≤ 2 then some 3 else none)
  else none

def path : Nat → List (Int × Bool) → Option Nat
  | p, [] => some p
  | p, f :: l => (phase p f).bind (path · l)

theorem path_append (f : Int × Bool) : ∀ (l : List (Int × Bool)) (p : Nat), path p (l ++ [f]) = (path p l).bind (phase · f)
  | [], p => by simp [path]
  | g :: l, p => by
    simp only [List.cons_append, path]
    cases phase p g with
    | none => rfl
    | some q => simp [path_append f l q]

/-- the state of an end that has said p and heard r -/
def stB (s : Int) (p r : Nat) : Bool :=
  if p = 3 then s = 5 else if r = 3 then s = 6 || (s = 4 && p = 2)
  else s = if p = 2 then (if r = 2 then 4 else 2) else if r = 2 then 3 else if p = 0 ∧ r = 0 then 0 else 1
structure St (s : Int) (p r : Nat) : Prop where
  hp : p ≤ 3
  hr : r ≤ 3
  hs : stB s p r = true

theorem St.range {s : Int} {p r : Nat} (h : St s p r) : s = 0 ∨ s = 1 ∨ s = 2 ∨ s = 3 ∨ s = 4 ∨ s = 5 ∨ s = 6 := by
  obtain ⟨h1, h2, h3⟩ := h
  unfold stB at h3
  split at h3
  · simp at h3; omega
  · split at h3
    · simp at h3; omega
    · simp at h3; split at h3 <;> split at h3 <;> first | omega | (split at h3 <;> omega)

def kinds : List Int := [0, 1, 3, 5, 8]
theorem kind_of {k : Int} (h : ¬ ign k) : k ∈ kinds := by
  unfold ign at h
  have : k = 0 ∨ k = 1 ∨ k = 3 ∨ k = 5 ∨ k = 8 := by omega
  rcases this with rfl | rfl | rfl | rfl | rfl <;> decide

def states : List Int := [0, 1, 2, 3, 4, 5, 6]
theorem St.mem {s : Int} {p r : Nat} (h : St s p r) : s ∈ states ∧ p ∈ List.range 4 ∧ r ∈ List.range 4 := by
  refine ⟨?_, by have := h.hp; simp; omega, by have := h.hr; simp; omega⟩
  rcases h.range with rfl | rfl | rfl | rfl | rfl | rfl | rfl <;> decide

def sendOk (s : Int) (p r : Nat) (k : Int) (e : Bool) : Bool :=
  !(stB s p r) || (stepS s true k e).2.1 != 0 ||
    (match phase p (k, e) with
     | some q => decide (q ≤ 3) && stB (stepS s true k e).1 q r && (q != 0) && ((q == 3) == (p == 3 || k == 3)) && (!(p == 0 && r == 0) || k == 1)
     | none => false)
theorem send_all : ∀ s ∈ states, ∀ p ∈ List.range 4, ∀ r ∈ List.range 4, ∀ k ∈ kinds, sendOk s p r k true = true ∧ sendOk s p r k false = true := by decide +kernel

def badOk (s : Int) (k : Int) (e : Bool) : Bool := (stepS s true k e).2.1 == 0 || ((stepS s true k e).2.1 == 4 && (stepS s true k e).2.2 == 2 && (stepS s true k e).1 == s)
theorem bad_all : ∀ s ∈ states, ∀ k ∈ kinds, badOk s k true = true ∧ badOk s k false = true := by decide +kernel

def gotOk (s : Int) (p r : Nat) (k : Int) (e : Bool) : Bool :=
  !(stB s p r) || (p == 0 && r == 0 && k != 1) ||
    (match phase r (k, e) with
     | some q => decide (q ≤ 3) && stB (stepS s false k e).1 p q && (q != 0) && ((stepS s false k e).2.1 == 0 || (stepS s false k e).2.1 == 1)
     | none => true)
theorem got_all : ∀ s ∈ states, ∀ p ∈ List.range 4, ∀ r ∈ List.range 4, ∀ k ∈ kinds, gotOk s p r k true = true ∧ gotOk s p r k false = true := by decide +kernel

theorem step_ign {s k : Int} {d e : Bool} (hs : 0 ≤ s ∧ s ≤ 6) (h : ign k) : stepS s d k e = (s, 0, 0) := by
  unfold stepS
  rw [if_neg (by omega), if_pos h]

theorem phase_ign {p : Nat} {k : Int} {e : Bool} (h : ign k) : phase p (k, e) = some p := by unfold phase; rw [if_pos h]

theorem St.bounds {s : Int} {p r : Nat} (h : St s p r) : 0 ≤ s ∧ s ≤ 6 := by have := h.range; omega

/-- a frame that may be sent -/
theorem St.send {s : Int} {p r : Nat} (h : St s p r) (k : Int) (e : Bool) (h0 : (stepS s true k e).2.1 = 0) :
    ∃ q, phase p (k, e) = some q ∧ St (stepS s true k e).1 q r ∧ (q = 3 ↔ p = 3 ∨ k = 3) ∧ (¬ ign k → q ≠ 0) ∧ (¬ ign k → p = 0 → r = 0 → k = 1) := by
  by_cases hi : ign k
  · rw [step_ign h.bounds hi, phase_ign hi]
    exact ⟨p, rfl, h, by unfold ign at hi; constructor <;> intro h <;> omega, fun h => absurd hi h, fun h => absurd hi h⟩
  · obtain ⟨m1, m2, m3⟩ := h.mem
    obtain ⟨a1, a2⟩ := send_all s m1 p m2 r m3 k (kind_of hi)
    have a : sendOk s p r k e = true := by cases e <;> assumption
    unfold sendOk at a
    rw [h.hs, h0] at a
    cases hq : phase p (k, e) with
    | none => rw [hq] at a; simp at a
    | some q =>
      rw [hq] at a
      simp at a
      obtain ⟨⟨⟨⟨a1, a2⟩, a3⟩, a4⟩, a5⟩ := a
      refine ⟨q, rfl, ⟨a1, h.hr, a2⟩, ?_, fun _ => a3, fun _ h1 h2 => ?_⟩
      · by_cases b1 : q = 3 <;> by_cases b2 : p = 3 <;> by_cases b3 : k = 3 <;> simp [b1, b2, b3] at a4 ⊢
      · rcases a5 with (a5 | a5) | a5
        · exact absurd h1 a5
        · exact absurd h2 a5
        · exact a5

theorem St.refused {s : Int} {p r : Nat} (h : St s p r) (k : Int) (e : Bool) (h0 : (stepS s true k e).2.1 ≠ 0) : stepS s true k e = (s, 4, 2) := by
  by_cases hi : ign k
  · rw [step_ign h.bounds hi] at h0; exact absurd rfl h0
  · obtain ⟨a1, a2⟩ := bad_all s h.mem.1 k (kind_of hi)
    have a : badOk s k e = true := by cases e <;> assumption
    unfold badOk at a
    simp [h0] at a
    obtain ⟨⟨a, b⟩, c⟩ := a
    generalize stepS s true k e = x at a b c
    obtain ⟨x, y, z⟩ := x
    simp at a b c
    subst a b c
    rfl

/-- a frame that may come -/
theorem St.got {s : Int} {p r q : Nat} (h : St s p r) (k : Int) (e : Bool) (hq : phase r (k, e) = some q) (h1 : p = 0 → r = 0 → ign k ∨ k = 1) :
    St (stepS s false k e).1 p q ∧ ((stepS s false k e).2.1 = 0 ∨ (stepS s false k e).2.1 = 1) ∧ (¬ ign k → q ≠ 0) := by
  by_cases hi : ign k
  · rw [phase_ign hi] at hq
    obtain rfl := Option.some.inj hq
    rw [step_ign h.bounds hi]
    exact ⟨h, .inl rfl, fun h => absurd hi h⟩
  · obtain ⟨m1, m2, m3⟩ := h.mem
    obtain ⟨a1, a2⟩ := got_all s m1 p m2 r m3 k (kind_of hi)
    have a : gotOk s p r k e = true := by cases e <;> assumption
    unfold gotOk at a
    rw [h.hs, hq] at a
    have a0 : (p == 0 && r == 0 && k != 1) = false := by
      by_cases b1 : p = 0 <;> by_cases b2 : r = 0 <;> simp [b1, b2]
      rcases h1 b1 b2 with h | h
      · exact absurd h hi
      · exact h
    rw [a0] at a
    simp at a
    obtain ⟨⟨⟨a1, a2⟩, a3⟩, a4⟩ := a
    exact ⟨⟨h.hp, a1, a2⟩, a4, fun _ => a3⟩

/-- the first frame that says something is HEADERS -/
def firstOk : List (Int × Bool) → Prop
  | [] => True
  | f :: l => if ign f.1 then firstOk l else f.1 = 1

theorem phase_zero {p : Nat} {f : Int × Bool} (h : phase p f = some 0) : p = 0 ∧ ign f.1 := by
  unfold phase at h
  split at h
  · rename_i hi
    exact ⟨Option.some.inj h, hi⟩
  · split at h
    · split at h
      · have := Option.some.inj h; split at this <;> omega
      · cases h
    · split at h
      · split at h
        · have := Option.some.inj h; omega
        · cases h
      · split at h
        · split at h
          · have := Option.some.inj h; omega
          · cases h
        · cases h
theorem path_zero : ∀ {l : List (Int × Bool)} {p : Nat}, path p l = some 0 → p = 0 ∧ ∀ f ∈ l, ign f.1
  | [], p, h => ⟨Option.some.inj h, fun _ h => by cases h⟩
  | f :: l, p, h => by
    simp only [path] at h
    cases hq : phase p f with
    | none => rw [hq] at h; cases h
    | some q =>
      rw [hq] at h
      obtain ⟨rfl, h2⟩ := path_zero (l := l) (p := q) h
      obtain ⟨h3, h4⟩ := phase_zero hq
      refine ⟨h3, fun g hg => ?_⟩
      rcases List.mem_cons.1 hg with rfl | hg
      · exact h4
      · exact h2 g hg
theorem firstOk_append {f : Int × Bool} : ∀ {l : List (Int × Bool)}, firstOk l → ((∀ g ∈ l, ign g.1) → ign f.1 ∨ f.1 = 1) → firstOk (l ++ [f])
  | [], _, h => by
    simp only [List.nil_append, firstOk]
    split
    · trivial
    · rcases h (fun _ h => by cases h) with h | h
      · contradiction
      · exact h
  | g :: l, h1, h2 => by
    simp only [List.cons_append, firstOk] at h1 ⊢
    split
    · rename_i hg
      rw [if_pos hg] at h1
      refine firstOk_append h1 fun h => h2 fun x hx => ?_
      rcases List.mem_cons.1 hx with rfl | hx
      · exact hg
      · exact h x hx
    · rename_i hg
      rw [if_neg hg] at h1
      exact h1
theorem path_ign : ∀ {l : List (Int × Bool)} {p : Nat}, (∀ f ∈ l, ign f.1) → path p l = some p
  | [], _, _ => rfl
  | f :: l, p, h => by
    simp only [path]
    rw [show phase p f = some p from phase_ign (h f (List.mem_cons_self ..))]
    exact path_ign fun g hg => h g (List.mem_cons_of_mem _ hg)

/-- two ends, and what is on its way to each -/
structure Two (sa sb : Int) (qa qb : List (Int × Bool)) (pa ra pb rb : Nat) : Prop where
  a : St sa pa ra
  b : St sb pb rb
  wb : path rb qb = some pa
  wa : path ra qa = some pb
  fb : pb = 0 → rb = 0 → firstOk qb
  fa : pa = 0 → ra = 0 → firstOk qa

theorem Two.flip {sa sb : Int} {qa qb : List (Int × Bool)} {pa ra pb rb : Nat} (h : Two sa sb qa qb pa ra pb rb) : Two sb sa qb qa pb rb pa ra := ⟨h.b, h.a, h.wa, h.wb, h.fa, h.fb⟩

theorem Two.start : Two 0 0 [] [] 0 0 0 0 := ⟨⟨by decide, by decide, by decide⟩, ⟨by decide, by decide, by decide⟩, rfl, rfl, fun _ _ => trivial, fun _ _ => trivial⟩

theorem Two.send {sa sb : Int} {qa qb : List (Int × Bool)} {pa ra pb rb : Nat} (h : Two sa sb qa qb pa ra pb rb) (k : Int) (e : Bool) (h0 : (stepS sa true k e).2.1 = 0) :
    ∃ p, Two (stepS sa true k e).1 sb qa (qb ++ [(k, e)]) p ra pb rb ∧ (p = 3 ↔ pa = 3 ∨ k = 3) := by
  obtain ⟨p, h1, h2, h3, h4, h5⟩ := h.a.send k e h0
  refine ⟨p, ⟨h2, h.b, by rw [path_append, h.wb]; exact h1, h.wa, fun e1 e2 => ?_, fun e1 e2 => ?_⟩, h3⟩
  · refine firstOk_append (h.fb e1 e2) fun hall => ?_
    have e3 : pa = 0 := by
      have := h.wb
      rw [path_ign hall] at this
      exact (Option.some.inj this).symm.trans e2
    have e4 : ra = 0 := (path_zero (e1 ▸ h.wa)).1
    by_cases hi : ign k
    · exact .inl hi
    · exact .inr (h5 hi e3 e4)
  · by_cases hi : ign k
    · have := h1
      rw [phase_ign hi] at this
      exact h.fa ((Option.some.inj this).trans e1) e2
    · exact absurd e1 (h4 hi)

theorem Two.get {sa sb : Int} {q qb : List (Int × Bool)} {k : Int} {e : Bool} {pa ra pb rb : Nat} (h : Two sa sb ((k, e) :: q) qb pa ra pb rb) :
    ∃ r, Two (stepS sa false k e).1 sb q qb pa r pb rb ∧ ((stepS sa false k e).2.1 = 0 ∨ (stepS sa false k e).2.1 = 1) := by
  have hw := h.wa
  simp only [path] at hw
  cases hr : phase ra (k, e) with
  | none => rw [hr] at hw; cases hw
  | some r =>
    rw [hr] at hw
    have hf : pa = 0 → ra = 0 → ign k ∨ k = 1 := fun e1 e2 => by
      have := h.fa e1 e2
      simp only [firstOk] at this
      by_cases hi : ign k
      · exact .inl hi
      · rw [if_neg hi] at this; exact .inr this
    obtain ⟨h1, h2, h3⟩ := h.a.got k e hr hf
    refine ⟨r, ⟨h1, h.b, h.wb, hw, h.fb, fun e1 e2 => ?_⟩, h2⟩
    by_cases hi : ign k
    · rw [phase_ign hi] at hr
      have := h.fa e1 ((Option.some.inj hr).trans e2)
      simp only [firstOk] at this
      rwa [if_pos hi] at this
    · exact absurd e2 (h3 hi)

theorem end_all : ∀ p ∈ List.range 4, ∀ r ∈ List.range 4, ∀ s ∈ states, ∀ t ∈ states, stB s p r = true → stB t r p = true →
    if p = 3 ∨ r = 3 then 4 ≤ s ∧ 4 ≤ t else (s = 0 ∧ t = 0) ∨ (s = 1 ∧ t = 1) ∨ (s = 2 ∧ t = 3) ∨ (s = 3 ∧ t = 2) ∨ (s = 4 ∧ t = 4) := by decide +kernel

theorem Two.ends {sa sb : Int} {pa ra pb rb : Nat} (h : Two sa sb [] [] pa ra pb rb) :
    if pa = 3 ∨ pb = 3 then 4 ≤ sa ∧ 4 ≤ sb else (sa = 0 ∧ sb = 0) ∨ (sa = 1 ∧ sb = 1) ∨ (sa = 2 ∧ sb = 3) ∨ (sa = 3 ∧ sb = 2) ∨ (sa = 4 ∧ sb = 4) := by
  obtain rfl : rb = pa := Option.some.inj h.wb
  obtain rfl : ra = pb := Option.some.inj h.wa
  obtain ⟨m1, m2, m3⟩ := h.a.mem
  exact end_all _ m2 _ m3 _ m1 _ h.b.mem.1 h.a.hs h.b.hs
end Go.Proofs.Ytadbpekkmlblmaa
