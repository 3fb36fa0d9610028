




/-
  Package match, in plain Lean: what a path, a name, a host, a matcher is.
-/
import Derived.Lib.Strings
import Derived.Lib.IndexMore
import Derived.Lib.LastIndexByte
namespace Go.Proofs.YtjcpfldobiekbaaDoor

abbrev Txt := List UInt8

/-! ### the last place of a byte -/

def lastAt (c : UInt8) : Txt → Option Nat
  | [] => none
  | x :: l => match lastAt c l with
    | some i => some (i + 1)
    | none => if x = c then some 0 else none

theorem lastAt_spec (c : UInt8) (l : Txt) : (lastAt c l = none ∧ ∀ j : Nat, l[j]? ≠ some c) ∨ ∃ i : Nat, lastAt c l = some i ∧ l[i]? = some c ∧ ∀ j : Nat, i < j → l[j]? ≠ some c := by
  induction l with
  | nil => exact .inl ⟨rfl, fun j h => by simp at h⟩
  | cons x l ih =>
    rcases ih with ⟨h1, h2⟩ | ⟨i, h1, h2, h3⟩
    · by_cases hx : x = c
      · refine .inr ⟨0, by unfold lastAt; rw [h1]; simp [hx], by simp [hx], fun j hj => ?_⟩
        cases j with
        | zero => omega
        | succ j => simpa using h2 j
      · refine .inl ⟨by unfold lastAt; rw [h1]; simp [hx], fun j => ?_⟩
        cases j with
        | zero => simpa using hx
        | succ j => simpa using h2 j
    · refine .inr ⟨i + 1, by unfold lastAt; rw [h1], by simpa using h2, fun j hj => ?_⟩
      cases j with
      | zero => omega
      | succ j => simpa using h3 j (by omega)

theorem lastAt_eq {c : UInt8} {l : Txt} {i : Nat} (h1 : l[i]? = some c) (h2 : ∀ j : Nat, i < j → l[j]? ≠ some c) : lastAt c l = some i := by
  rcases lastAt_spec c l with ⟨_, k2⟩ | ⟨i', k1, k2, k3⟩
  · exact absurd h1 (k2 i)
  · rw [k1]
    have a : ¬ i < i' := fun h => h2 i' h k2
    have b : ¬ i' < i := fun h => k3 i h h1
    congr 1
    omega
theorem lastAt_no {c : UInt8} {l : Txt} (h : ∀ j : Nat, l[j]? ≠ some c) : lastAt c l = none := by
  rcases lastAt_spec c l with ⟨k1, _⟩ | ⟨i, _, k2, _⟩
  · exact k1
  · exact absurd k2 (h i)
theorem lastAt_lt {c : UInt8} {l : Txt} {i : Nat} (h : lastAt c l = some i) : i < l.length := by
  rcases lastAt_spec c l with ⟨k1, _⟩ | ⟨i', k1, k2, _⟩
  · rw [k1] at h; cases h
  · rw [k1] at h; cases h
    exact (List.getElem?_eq_some_iff.1 k2).1

def lastI (c : UInt8) (l : Txt) : Int := match lastAt c l with | some i => i | none => -1

theorem data_at (l : Txt) (i : Nat) (hi : i < l.length) : (ByteArray.mk l.toArray).data[i]! = l[i] := by simp [hi]

theorem lastIndexByte_eq (l : Txt) (c : UInt8) : Lib.lastIndexByte ⟨l.toArray⟩ (c.toNat : Int) = lastI c l := by
  have hs : (ByteArray.mk l.toArray).size = l.length := by simp [ByteArray.size]
  have key : ∀ j (hj : j < l.length), ((((ByteArray.mk l.toArray).data[j]!).toNat : Int) = (c.toNat : Int) ↔ l[j]? = some c) := by
    intro j hj
    rw [data_at l j hj, List.getElem?_eq_getElem hj]
    constructor
    · intro h
      have : l[j].toNat = c.toNat := by omega
      rw [UInt8.toNat_inj.1 this]
    · intro h
      rw [Option.some.inj h]
  unfold lastI
  rcases Lib.lastIndexByte_spec ⟨l.toArray⟩ (c.toNat : Int) with ⟨h1, h2⟩ | ⟨i, h0, h1, h2, h3⟩
  · rw [h1, lastAt_no]
    intro j hj
    have hjl := (List.getElem?_eq_some_iff.1 hj).1
    exact h2 j (by rw [hs]; exact hjl) ((key j hjl).2 hj)
  · rw [hs] at h0
    rw [h1, lastAt_eq ((key i h0).1 h2)]
    intro j hij hj
    have hjl := (List.getElem?_eq_some_iff.1 hj).1
    exact h3 j hij (by rw [hs]; exact hjl) ((key j hjl).2 hj)

/-! ### paths -/

def bareL (p : Txt) : Txt := p.takeWhile (· != 63)

theorem bare_hit {p : Txt} {j : Nat} (h : ∀ k : Nat, k < j → p[k]? ≠ some 63) (hj : p[j]? = some 63) : bareL p = p.take j := by
  induction p generalizing j with
  | nil => simp at hj
  | cons x p ih =>
    cases j with
    | zero =>
      simp at hj
      subst hj
      rfl
    | succ j =>
      have hx : x ≠ 63 := by simpa using h 0 (by omega)
      unfold bareL
      rw [List.takeWhile_cons_of_pos (by simpa using hx), List.take_succ_cons]
      congr 1
      exact ih (fun k hk => by simpa using h (k + 1) (by omega)) (by simpa using hj)
theorem bare_all {p : Txt} (h : ∀ k : Nat, p[k]? ≠ some 63) : bareL p = p := by
  induction p with
  | nil => rfl
  | cons x p ih =>
    have hx : x ≠ 63 := by simpa using h 0
    unfold bareL
    rw [List.takeWhile_cons_of_pos (by simpa using hx)]
    congr 1
    exact ih fun k => by simpa using h (k + 1)
theorem bare_no {p : Txt} : ∀ k : Nat, (bareL p)[k]? ≠ some 63 := by
  intro k h
  have hm := List.mem_of_getElem? h
  have ha : (bareL p).all (· != 63) = true := by
    unfold bareL
    clear h hm
    induction p with
    | nil => rfl
    | cons x p ih =>
      rw [List.takeWhile_cons]
      split
      · rename_i hx
        rw [List.all_cons, hx, ih]
        rfl
      · rfl
  have := List.all_eq_true.1 ha 63 hm
  simp at this
theorem bare_len (p : Txt) : (bareL p).length ≤ p.length := (List.takeWhile_sublist _).length_le

def pathR (how : Int) (want p : Txt) : Bool :=
  if how = 0 then true
  else if how = 1 then decide (bareL p = want)
  else if how = 2 then want.isPrefixOf (bareL p) && (decide ((bareL p).length = want.length) || decide (want = []) || ([47] : Txt).isSuffixOf want || decide ((bareL p)[want.length]? = some 47))
  else false

def callR (p : Txt) : Option (Txt × Txt) :=
  match bareL p with
  | [] => none
  | x :: q => if x = 47 then
      match lastAt 47 q with
      | some i => if 1 ≤ i ∧ i + 1 ≠ q.length then some (q.take i, q.drop (i + 1)) else none
      | none => none
    else none

/-! ### names -/

def smallC (c : UInt8) : UInt8 := if 65 ≤ c ∧ c ≤ 90 then c + 32 else c
def smallL (l : Txt) : Txt := l.map smallC
def digit (c : UInt8) : Bool := decide (48 ≤ c) && decide (c ≤ 57)
def nameL (s : Txt) : Txt :=
  match lastAt 58 s with
  | some i => if i + 1 < s.length ∧ (s.drop (i + 1)).all digit = true then smallL (s.take i) else smallL s
  | none => smallL s

theorem name_colon {s : Txt} {i : Nat} (h : s[i]? = some 58) (hd : ∀ (j : Nat) c, i < j → s[j]? = some c → digit c = true) : nameL s = if i + 1 < s.length then smallL (s.take i) else smallL s := by
  have hl : lastAt 58 s = some i := lastAt_eq h fun j hj e => by have := hd j 58 hj e; simp [digit] at this
  have ha : (s.drop (i + 1)).all digit = true := by
    rw [List.all_eq_true]
    intro c hc
    obtain ⟨k, hk⟩ := List.getElem?_of_mem hc
    rw [List.getElem?_drop] at hk
    exact hd _ c (by omega) hk
  unfold nameL
  rw [hl]
  simp [ha]
theorem name_other {s : Txt} {i : Nat} {c : UInt8} (h : s[i]? = some c) (h1 : c ≠ 58) (h2 : digit c = false) (hd : ∀ (j : Nat) c, i < j → s[j]? = some c → digit c = true) : nameL s = smallL s := by
  unfold nameL
  rcases lastAt_spec 58 s with ⟨k1, _⟩ | ⟨j, k1, k2, _⟩
  · rw [k1]
  · rw [k1]
    have hji : j < i := by
      rcases Nat.lt_trichotomy j i with g | g | g
      · exact g
      · subst g; rw [k2] at h; exact absurd (Option.some.inj h).symm h1
      · have := hd j 58 g k2; simp [digit] at this
    have ha : (s.drop (j + 1)).all digit = false := by
      rw [List.all_eq_false]
      refine ⟨c, ?_, by simp [h2]⟩
      refine List.mem_of_getElem? (i := i - (j + 1)) ?_
      rw [List.getElem?_drop, show j + 1 + (i - (j + 1)) = i by omega]
      exact h
    simp [ha]
theorem name_end {s : Txt} (hd : ∀ (j : Nat) c, s[j]? = some c → digit c = true) : nameL s = smallL s := by
  unfold nameL
  rw [lastAt_no fun j e => by have := hd j 58 e; simp [digit] at this]

def hostR (pat auth : Txt) : Int :=
  if smallL pat = [42] then 1
  else if ([42, 46] : Txt).isPrefixOf (smallL pat) = true then (if (smallL pat).tail.isSuffixOf (nameL auth) = true ∧ nameL auth ≠ (smallL pat).tail then 1 + pat.length else 0)
  else if smallL pat = nameL auth then 1000 + pat.length
  else 0
end Go.Proofs.YtjcpfldobiekbaaDoor
