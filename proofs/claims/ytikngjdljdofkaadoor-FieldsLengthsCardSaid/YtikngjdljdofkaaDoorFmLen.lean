

/-
  FieldsLengths: a length is digits, and all lengths are one.
-/
import Derived.Test.YtikngjdljdofkaaDoorFmEnd
import Derived.Test.YtikngjdljdofkaaDoorStrAdd
namespace Go.Proofs.YtikngjdljdofkaaDoor.fieldsLengths
open Go.RowKit Go.Sl Go.ChangeShapes

def digC (d : Nat) : UInt8 := UInt8.ofNat (48 + d)
theorem digC_nat {d : Nat} (h : d < 10) : (digC d).toNat = 48 + d := by
  unfold digC
  rw [UInt8.toNat_ofNat']
  omega
theorem digC_digit {d : Nat} (h : d < 10) : digit (digC d) = true := by
  unfold digit
  simp only [Bool.and_eq_true, decide_eq_true_eq, UInt8.le_iff_toNat_le]
  rw [digC_nat h]
  exact ⟨by decide +revert, by show 48 + d ≤ 57; omega⟩
/-- a number's digits -/
def decT : Nat → Nat → Txt
  | 0, _ => []
  | fuel + 1, n => if n < 10 then [digC n] else decT fuel (n / 10) ++ [digC (n % 10)]
def nought (k : Nat) : Txt := List.replicate k 48
theorem decT_all : ∀ (fuel n : Nat), (decT fuel n).all digit = true := by
  intro fuel
  induction fuel with
  | zero => intro n; rfl
  | succ f ih =>
    intro n
    unfold decT
    split
    · rename_i h; simp [digC_digit h]
    · rw [List.all_append, ih]
      simp [digC_digit (Nat.mod_lt n (by decide : 0 < 10))]
theorem decT_num : ∀ (fuel n : Nat), n < 10 ^ fuel → numR (decT fuel n) = n := by
  intro fuel
  induction fuel with
  | zero => intro n h; simp at h; subst h; rfl
  | succ f ih =>
    intro n h
    unfold decT
    split
    · rename_i h1
      show numR ([] ++ [digC n]) = n
      rw [numR_snoc, digC_nat h1]
      show 0 * 10 + _ = n
      omega
    · rw [numR_snoc, ih (n / 10) (by rw [Nat.pow_succ] at h; omega), digC_nat (Nat.mod_lt n (by decide))]
      omega
theorem decT_len : ∀ (fuel n : Nat), (decT fuel n).length ≤ fuel := by
  intro fuel
  induction fuel with
  | zero => intro n; exact Nat.le_refl _
  | succ f ih =>
    intro n
    unfold decT
    split
    · simp
    · rw [List.length_append]
      have := ih (n / 10)
      simp
      omega
theorem decT_pos (f n : Nat) : 1 ≤ (decT (f + 1) n).length := by
  unfold decT
  split
  · simp
  · rw [List.length_append]; simp
theorem numR_from (s : Txt) : ∀ t : Txt, s.foldl (fun n c => n * 10 + (c.toNat - 48)) (numR t) = numR (t ++ s) := fun t => by unfold numR; rw [List.foldl_append]
theorem numR_nought (k : Nat) (s : Txt) : numR (nought k ++ s) = numR s := by
  have h0 : ∀ k, numR (nought k) = 0 := by
    intro k
    induction k with
    | zero => rfl
    | succ k ih =>
      have : nought (k + 1) = nought k ++ [48] := by unfold nought; rw [List.replicate_succ']
      rw [this, numR_snoc, ih]
      rfl
  rw [← numR_from, h0]
  rfl
def numT (n k : Nat) : Txt := nought k ++ decT 9 n
theorem numT_digits {n k : Nat} (hn : n < 1000000000) (hk : k ≤ 3) : digitsR (numT n k) 1 15 = some n := by
  unfold digitsR
  have h1 := decT_len 9 n
  have h2 : 1 ≤ (decT 9 n).length := decT_pos 8 n
  have h3 : (numT n k).length = k + (decT 9 n).length := by unfold numT nought; simp
  rw [if_pos]
  · rw [numT, numR_nought, decT_num 9 n (by simpa using hn)]
  · refine ⟨by omega, by omega, ?_⟩
    unfold numT nought
    rw [List.all_append, decT_all]
    simp [digit]
def valid (t : Txt) : Prop := t.all digit = true ∧ 1 ≤ t.length ∧ t.length ≤ 15
theorem numT_valid {n k : Nat} (hk : k ≤ 3) : (numT n k).all digit = true ∧ 1 ≤ (numT n k).length ∧ (numT n k).length ≤ 12 := by
  have h1 := decT_len 9 n
  have h2 : 1 ≤ (decT 9 n).length := decT_pos 8 n
  have h3 : (numT n k).length = k + (decT 9 n).length := by unfold numT nought; simp
  refine ⟨?_, by omega, by omega⟩
  unfold numT nought
  rw [List.all_append, decT_all]
  simp [digit]
theorem digits_value {t : Txt} (h : t.all digit = true) : valueR t = true := by
  unfold valueR
  have h1 : t.all (fun c => !badV c) = true := List.all_eq_true.2 fun c hc => by
    have := digit_le (List.all_eq_true.1 h c hc)
    have e0 : c ≠ 0 := fun e => by subst e; revert this; decide
    have e1 : c ≠ 10 := fun e => by subst e; revert this; decide
    have e2 : c ≠ 13 := fun e => by subst e; revert this; decide
    simp [badV, e0, e1, e2]
  have hb : ∀ c ∈ t, blankL.contains c = false := fun c hc => by
    have := digit_le (List.all_eq_true.1 h c hc)
    have e0 : c ≠ 32 := fun e => by subst e; revert this; decide
    have e1 : c ≠ 9 := fun e => by subst e; revert this; decide
    simp [blankL, e0, e1]
  have hd : ∀ s : Txt, (∀ c ∈ s, blankL.contains c = false) → s.dropWhile (fun c => blankL.contains c) = s := by
    intro s hs
    cases s with
    | nil => rfl
    | cons c s => rw [List.dropWhile_cons_of_neg (by rw [hs c (List.mem_cons_self ..)]; decide)]
  have h2 : Lib.trimS t blankL = t := by
    unfold Lib.trimS Lib.trimLeftS Lib.trimRightS
    rw [hd t.reverse (fun c hc => hb c (List.mem_reverse.1 hc)), List.reverse_reverse, hd t hb]
  rw [h1, h2]
  simp

/-! ### three messages -/
def st : Fd := (nStatus, [50, 48, 48], false)
def sS : Ms := ⟨-1, [(nStatus, [50, 48, 48])], 1⟩
theorem hop_no {n a : Txt} (h1 : hopN n = false) (h2 : decide (n = [116, 101]) = false) : hopR (n, a, false) = false := by
  unfold hopR
  rw [h1, h2]
  rfl
set_option maxRecDepth 10000 in
theorem step_st : stepR [nStatus] 0 st ⟨-1, [], 0⟩ = some sS :=
  stepR_pseudo (s := ⟨-1, [], 0⟩) (f := st) (by decide +kernel) (hop_no (by decide) (by decide)) rfl (by rfl) (by decide)
theorem step_cl {i : Nat} {s : Ms} {a : Txt} (ha : a.all digit = true) : stepR [nStatus] i (CL, a, false) s = lengthR s (CL, a, false) :=
  stepR_plain (f := (CL, a, false)) (digits_value ha) (hop_no (by decide) (by decide)) rfl (show nameR CL = true by decide +kernel)
theorem len_first {M : List (Txt × Txt)} {l : Nat} {a : Txt} {n : Nat} (hn : digitsR a 1 15 = some n) : lengthR ⟨-1, M, l⟩ (CL, a, false) = some ⟨n, (CL, a) :: M, l⟩ := by
  unfold lengthR
  rw [if_neg (fun e => e rfl)]
  simp only [hn]
  rw [if_pos (.inl (by decide))]
theorem len_next {M : List (Txt × Txt)} {l k : Nat} {a b : Txt} {n : Nat} (hn : digitsR b 1 15 = some n) : lengthR ⟨(k : Int), (CL, a) :: M, l⟩ (CL, b, false) = if a = b then some ⟨n, (CL, b) :: (CL, a) :: M, l⟩ else none := by
  unfold lengthR
  rw [if_neg (fun e => e rfl)]
  simp only [hn]
  have e : (getM ((CL, a) :: M) CL).getD [] = a := by simp [getM]
  rw [e]
  by_cases h : a = b
  · rw [if_pos (.inr h), if_pos h]
  · rw [if_neg (by rintro (h2 | h2); omega; exact h h2), if_neg h]
theorem status_is {M : List (Txt × Txt)} (h : getV M nStatus = [50, 48, 48]) : digitsR (getV M nStatus) 3 3 = some 200 := by rw [h]; decide +kernel
theorem resp1 {a : Txt} {n : Nat} (ha : a.all digit = true) (hn : digitsR a 1 15 = some n) : responseR [st, (CL, a, false)] = some ⟨[], [], [], [], 200, n⟩ := by
  unfold responseR messageR
  rw [runR_mk step_st (runR_mk (by rw [step_cl ha]; exact len_first hn) rfl)]
  simp only
  rw [status_is rfl]
  rfl
def xy : Fd := ([120], [121], false)
theorem step_xy {i : Nat} {s : Ms} : stepR [nStatus] i xy s = some s := by
  rw [stepR_plain (f := xy) (by decide +kernel) (hop_no (by decide) (by decide)) rfl (by decide +kernel)]
  rfl
theorem resp2 {a : Txt} {n : Nat} (ha : a.all digit = true) (hn : digitsR a 1 15 = some n) : responseR [st, (CL, a, false), xy, (CL, a, false)] = some ⟨[], [], [], [], 200, n⟩ := by
  unfold responseR messageR
  rw [runR_mk step_st (runR_mk (by rw [step_cl ha]; exact len_first hn) (runR_mk step_xy (runR_mk (by rw [step_cl ha, len_next hn, if_pos rfl]) rfl)))]
  simp only
  rw [status_is rfl]
  rfl
theorem resp3 {a b : Txt} {n m : Nat} (ha : a.all digit = true) (hn : digitsR a 1 15 = some n) (hb : b.all digit = true) (hm : digitsR b 1 15 = some m) : (responseR [st, (CL, a, false), (CL, b, false)]).isSome = decide (a = b) := by
  unfold responseR messageR
  by_cases h : a = b
  · rw [runR_mk step_st (runR_mk (by rw [step_cl ha]; exact len_first hn) (runR_mk (by rw [step_cl hb, len_next hm, if_pos h]) rfl))]
    simp only
    rw [status_is rfl, decide_eq_true h]
    rfl
  · have : runR [nStatus] 0 [st, (CL, a, false), (CL, b, false)] ⟨-1, [], 0⟩ = none := by
      unfold runR
      rw [step_st]
      simp only
      unfold runR
      rw [step_cl ha, sS, len_first hn]
      simp only
      unfold runR
      rw [step_cl hb, len_next hm, if_neg h]
    rw [this, decide_eq_false h]
    rfl
end Go.Proofs.YtikngjdljdofkaaDoor.fieldsLengths
