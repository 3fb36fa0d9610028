

/-
  Package fields, in plain Lean: what a name, a value, a message is.
-/
import Derived.Lib.Strings
import Derived.Shelf.Strings.SlTrimAscii
import Derived.Test.YtnjldofiogbolaaDoorFlds
import Derived.Test.YtnjldofiogbolaaDoorStrMap
namespace Go.Proofs.YtnjldofiogbolaaDoor
open Go.Sl

abbrev Txt := List UInt8
def digit (c : UInt8) : Bool := decide (48 ≤ c) && decide (c ≤ 57)
def digitsL : Txt := [48, 49, 50, 51, 52, 53, 54, 55, 56, 57]
set_option maxRecDepth 100000 in
theorem digit_mem (c : UInt8) : digitsL.contains c = digit c := by
  have key : ∀ n : Fin 256, digitsL.contains (UInt8.ofNat n.val) = digit (UInt8.ofNat n.val) := by decide
  have := key ⟨c.toNat, c.toNat_lt⟩
  rwa [UInt8.ofNat_toNat] at this
theorem trim_nil (l : Txt) : Lib.trimS l digitsL = [] ↔ l.all digit = true := by
  have e : (fun c => digitsL.contains c) = digit := funext digit_mem
  unfold Lib.trimS Lib.trimLeftS Lib.trimRightS
  rw [e]
  constructor
  · intro h
    rw [List.all_eq_true]
    intro c hc
    cases hd : digit c with
    | true => rfl
    | false =>
      exfalso
      have h1 : c ∈ l.reverse.dropWhile digit := by
        have hsplit := List.takeWhile_append_dropWhile (p := digit) (l := l.reverse)
        have : c ∈ l.reverse := List.mem_reverse.2 hc
        rw [← hsplit] at this
        rcases List.mem_append.1 this with g | g
        · have : (l.reverse.takeWhile digit).all digit = true := by
            generalize l.reverse = m
            induction m with
            | nil => rfl
            | cons x m ih =>
              rw [List.takeWhile_cons]
              split
              · rename_i hx; rw [List.all_cons, hx, ih]; rfl
              · rfl
          rw [List.all_eq_true.1 this c g] at hd
          cases hd
        · exact g
      have h2 : c ∈ ((l.reverse.dropWhile digit).reverse).dropWhile digit := by
        have hsplit := List.takeWhile_append_dropWhile (p := digit) (l := (l.reverse.dropWhile digit).reverse)
        have : c ∈ (l.reverse.dropWhile digit).reverse := List.mem_reverse.2 h1
        rw [← hsplit] at this
        rcases List.mem_append.1 this with g | g
        · have : (((l.reverse.dropWhile digit).reverse).takeWhile digit).all digit = true := by
            generalize (l.reverse.dropWhile digit).reverse = m
            induction m with
            | nil => rfl
            | cons x m ih =>
              rw [List.takeWhile_cons]
              split
              · rename_i hx; rw [List.all_cons, hx, ih]; rfl
              · rfl
          rw [List.all_eq_true.1 this c g] at hd
          cases hd
        · exact g
      rw [h] at h2
      cases h2
  · intro h
    have hr : ∀ c ∈ l.reverse, digit c = true := fun c hc => List.all_eq_true.1 h c (List.mem_reverse.1 hc)
    have hd : l.reverse.dropWhile digit = [] := by
      revert hr
      generalize l.reverse = m
      intro hr
      induction m with
      | nil => rfl
      | cons x m ih =>
        rw [List.dropWhile_cons_of_pos (hr x (List.mem_cons_self ..))]
        exact ih fun c hc => hr c (List.mem_cons_of_mem _ hc)
    rw [hd]
    rfl


theorem digit_le {c : UInt8} (h : digit c = true) : 48 ≤ c.toNat ∧ c.toNat ≤ 57 := by
  unfold digit at h
  simp at h
  exact ⟨UInt8.le_iff_toNat_le.1 h.1, UInt8.le_iff_toNat_le.1 h.2⟩

def badV (c : UInt8) : Bool := decide (c = 0) || decide (c = 10) || decide (c = 13)
def blankL : Txt := [32, 9]
def valueR (s : Txt) : Bool := s.all (fun c => !badV c) && decide (Lib.trimS s blankL = s)
def badN (c : UInt8) : Bool := decide (c.toNat ≤ 32) || decide (127 ≤ c.toNat) || decide (c = 58) || (decide (65 ≤ c.toNat) && decide (c.toNat ≤ 90))
def nameR (s : Txt) : Bool := s.all (fun c => !badN c) && !decide (s = [])
def hopN (n : Txt) : Bool := decide (n = [99, 111, 110, 110, 101, 99, 116, 105, 111, 110]) || decide (n = [112, 114, 111, 120, 121, 45, 99, 111, 110, 110, 101, 99, 116, 105, 111, 110]) || decide (n = [107, 101, 101, 112, 45, 97, 108, 105, 118, 101]) || decide (n = [116, 114, 97, 110, 115, 102, 101, 114, 45, 101, 110, 99, 111, 100, 105, 110, 103]) || decide (n = [117, 112, 103, 114, 97, 100, 101])
def hopR (f : Fd) : Bool := hopN f.1 || (decide (f.1 = [116, 101]) && !decide (f.2.1 = [116, 114, 97, 105, 108, 101, 114, 115]))
def pseudoR (f : Fd) : Bool := ([58] : Txt).isPrefixOf f.1
def numR (s : Txt) : Nat := s.foldl (fun n c => n * 10 + (c.toNat - 48)) 0
theorem numR_snoc (s : Txt) (c : UInt8) : numR (s ++ [c]) = numR s * 10 + (c.toNat - 48) := by unfold numR; rw [List.foldl_append]; rfl
theorem numR_lt : ∀ (n : Nat) (s : Txt), s.length = n → s.all digit = true → numR s < 10 ^ n := by
  intro n
  induction n with
  | zero => intro s h _; rw [List.eq_nil_of_length_eq_zero h]; decide
  | succ n ih =>
    intro s h hd
    have hne : s ≠ [] := fun e => by rw [e] at h; cases h
    obtain ⟨t, c, rfl⟩ : ∃ t c, s = t ++ [c] := ⟨s.dropLast, s.getLast hne, (List.dropLast_concat_getLast hne).symm⟩
    rw [List.all_append] at hd
    simp only [Bool.and_eq_true] at hd
    have h1 := ih t (by simpa using h) hd.1
    have h2 := digit_le (c := c) (by simpa using hd.2)
    rw [numR_snoc, Nat.pow_succ]
    omega
def digitsR (s : Txt) (a b : Nat) : Option Nat := if a ≤ s.length ∧ s.length ≤ b ∧ s.all digit = true then some (numR s) else none

structure Ms where
  len : Int
  map : List (Txt × Txt)
  last : Nat
def CL : Txt := [99, 111, 110, 116, 101, 110, 116, 45, 108, 101, 110, 103, 116, 104]
def lengthR (s : Ms) (f : Fd) : Option Ms :=
  if f.1 ≠ CL then some s else
    match digitsR f.2.1 1 15 with
    | none => none
    | some k => if s.len < 0 ∨ (getM s.map CL).getD [] = f.2.1 then some { s with len := k, map := (CL, f.2.1) :: s.map } else none
def stepR (named : List Txt) (i : Nat) (f : Fd) (s : Ms) : Option Ms :=
  if (valueR f.2.1 && !hopR f) = false then none
  else if pseudoR f = false then (if nameR f.1 = true then lengthR s f else none)
  else if i = s.last ∧ (getM s.map f.1).isSome = false ∧ f.1 ∈ named then some { s with map := (f.1, f.2.1) :: s.map, last := i + 1 }
  else none
def runR (named : List Txt) : Nat → List Fd → Ms → Option Ms
  | _, [], s => some s
  | i, f :: L, s => match stepR named i f s with
    | none => none
    | some s' => runR named (i + 1) L s'
def messageR (named : List Txt) (L : List Fd) : Option Ms := runR named 0 L ⟨-1, [], 0⟩
theorem runR_app (named : List Txt) : ∀ (L1 L2 : List Fd) (i : Nat) (s : Ms), runR named i (L1 ++ L2) s = (runR named i L1 s).bind (runR named (i + L1.length) L2) := by
  intro L1
  induction L1 with
  | nil => intro L2 i s; rfl
  | cons f L1 ih =>
    intro L2 i s
    show (match stepR named i f s with | none => none | some s' => runR named (i + 1) (L1 ++ L2) s') = _
    simp only [runR]
    cases stepR named i f s with
    | none => rfl
    | some s' =>
      simp only [ih]
      rw [List.length_cons, show i + 1 + L1.length = i + (L1.length + 1) by omega]
end Go.Proofs.YtnjldofiogbolaaDoor
