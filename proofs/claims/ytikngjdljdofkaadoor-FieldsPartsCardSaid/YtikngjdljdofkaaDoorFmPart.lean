

/-
  FieldsParts, in plain Lean.
-/
import Derived.Test.YtikngjdljdofkaaDoorFmQ
namespace Go.Proofs.YtikngjdljdofkaaDoor.fieldsParts
open Go.Sl

def topL (p : Txt) : List Fd := [(nMethod, [71, 69, 84], false), (nScheme, [104, 116, 116, 112], false), (nPath, p, false)]
def sT (p : Txt) : Ms := ⟨-1, [(nPath, p), (nScheme, [104, 116, 116, 112]), (nMethod, [71, 69, 84])], 3⟩
theorem hop_no {n a : Txt} (h1 : hopN n = false) (h2 : decide (n = [116, 101]) = false) : hopR (n, a, false) = false := by
  unfold hopR
  rw [h1, h2]
  rfl
theorem step_bad {named : List Txt} {i : Nat} {f : Fd} {s : Ms} (h : valueR f.2.1 = false) : stepR named i f s = none := by
  unfold stepR
  rw [if_pos (by rw [h]; rfl)]
set_option maxRecDepth 10000 in
theorem top_two : runR reqN 0 [(nMethod, [71, 69, 84], false), (nScheme, [104, 116, 116, 112], false)] ⟨-1, [], 0⟩ = some ⟨-1, [(nScheme, [104, 116, 116, 112]), (nMethod, [71, 69, 84])], 2⟩ := by
  refine runR_mk (stepR_pseudo (s := ⟨-1, [], 0⟩) (f := (nMethod, [71, 69, 84], false)) (by decide +kernel) (hop_no (by decide) (by decide)) rfl (by rfl) (by decide)) ?_
  exact runR_mk (stepR_pseudo (s := ⟨-1, [(nMethod, [71, 69, 84])], 1⟩) (f := (nScheme, [104, 116, 116, 112], false)) (by decide +kernel) (hop_no (by decide) (by decide)) rfl (by rfl) (by decide)) rfl
theorem top_run (p : Txt) : runR reqN 0 (topL p) ⟨-1, [], 0⟩ = if valueR p = true then some (sT p) else none := by
  show runR reqN 0 ([(nMethod, [71, 69, 84], false), (nScheme, [104, 116, 116, 112], false)] ++ [(nPath, p, false)]) _ = _
  rw [runR_app, top_two]
  show runR reqN 2 [(nPath, p, false)] ⟨-1, [(nScheme, [104, 116, 116, 112]), (nMethod, [71, 69, 84])], 2⟩ = _
  unfold runR
  cases h : valueR p with
  | false => rw [step_bad h]; rfl
  | true =>
    rw [show (2 : Nat) = (⟨-1, [(nScheme, [104, 116, 116, 112]), (nMethod, [71, 69, 84])], 2⟩ : Ms).last from rfl, stepR_pseudo (f := (nPath, p, false)) h (hop_no (by decide) (by decide)) rfl (by rfl) (show nPath ∈ reqN by decide)]
    rfl
theorem msg_top (p : Txt) (L : List Fd) : messageR reqN (topL p ++ L) = if valueR p = true then runR reqN 3 L (sT p) else none := by
  unfold messageR
  rw [runR_app, top_run]
  cases valueR p <;> rfl
theorem ok_top {p : Txt} (hp : ([47] : Txt).isPrefixOf p = true) {L : List Fd} {s : Ms} (h : runR reqN 3 L (sT p) = some s) : requestOk s.map = true := by
  have h1 : getV s.map nMethod = [71, 69, 84] := by unfold getV; rw [run_keeps h (x := nMethod) (v := [71, 69, 84]) rfl (by decide)]; rfl
  have h2 : getV s.map nScheme = [104, 116, 116, 112] := by unfold getV; rw [run_keeps h (x := nScheme) (v := [104, 116, 116, 112]) rfl (by decide)]; rfl
  have h3 : getV s.map nPath = p := by unfold getV; rw [run_keeps h (x := nPath) (v := p) rfl (by decide)]; rfl
  unfold requestOk
  rw [h1, h2, h3, hp, if_neg (by decide), if_neg (by decide)]
  rfl
theorem req_top {p : Txt} (hp : ([47] : Txt).isPrefixOf p = true) (L : List Fd) : (requestR (topL p ++ L)).isSome = (valueR p && (runR reqN 3 L (sT p)).isSome) := by
  unfold requestR
  rw [msg_top]
  cases valueR p with
  | false => rfl
  | true =>
    simp only [if_true, Bool.true_and]
    cases h : runR reqN 3 L (sT p) with
    | none => rfl
    | some s => simp only; rw [if_pos (ok_top hp h)]; rfl
theorem run_snoc {named : List Txt} {i : Nat} {L : List Fd} {f : Fd} {s : Ms} : (runR named i (L ++ [f]) s).isSome = ((runR named i L s).isSome && ((runR named i L s).bind (stepR named (i + L.length) f)).isSome) := by
  rw [runR_app]
  cases runR named i L s with
  | none => rfl
  | some s' =>
    simp only [Option.bind_some, Option.isSome_some, Bool.true_and]
    unfold runR
    cases stepR named (i + L.length) f s' <;> rfl
/-- an ordinary field stands by itself -/
theorem step_self {named : List Txt} {i : Nat} {f : Fd} {s : Ms} (h1 : pseudoR f = false) (h2 : f.1 ≠ CL) : stepR named i f s = if (valueR f.2.1 && !hopR f && nameR f.1) = true then some s else none := by
  unfold stepR lengthR
  cases hv : valueR f.2.1 && !hopR f with
  | false => rw [if_pos rfl]; rfl
  | true =>
    rw [if_neg (by decide), if_pos h1, if_pos h2]
    cases nameR f.1 <;> rfl
theorem parts {p : Txt} (hp : ([47] : Txt).isPrefixOf p = true) (L : List Fd) (f : Fd) (h1 : pseudoR f = false) (h2 : f.1 ≠ CL) :
    (requestR (topL p ++ (L ++ [f]))).isSome = ((requestR (topL p ++ L)).isSome && (requestR (topL p ++ [f])).isSome) := by
  rw [req_top hp, req_top hp, req_top hp, run_snoc, show ([f] : List Fd) = [] ++ [f] from rfl, run_snoc]
  cases valueR p with
  | false => rfl
  | true =>
    simp only [Bool.true_and]
    cases runR reqN 3 L (sT p) with
    | none => rfl
    | some s =>
      have e : runR reqN 3 [] (sT p) = some (sT p) := rfl
      rw [e]
      simp only [Option.bind_some, Option.isSome_some, Bool.true_and]
      rw [step_self h1 h2, step_self h1 h2]
      cases (valueR f.2.1 && !hopR f && nameR f.1) <;> rfl
theorem parts_less {p : Txt} (hp : ([47] : Txt).isPrefixOf p = true) (L : List Fd) (f : Fd) (h : (requestR (topL p ++ (L ++ [f]))).isSome = true) : (requestR (topL p ++ L)).isSome = true := by
  rw [req_top hp, run_snoc] at h
  rw [req_top hp]
  simp only [Bool.and_eq_true] at h ⊢
  exact ⟨h.1, h.2.1⟩
def headIs : Txt → Bool
  | [] => false
  | c :: _ => decide (c = 58)
theorem pseudo_head (f : Fd) : pseudoR f = headIs f.1 := by
  unfold pseudoR
  cases f.1 with
  | nil => rfl
  | cons c n =>
    show ((58 : UInt8) == c && List.isPrefixOf [] n) = decide (c = 58)
    have : List.isPrefixOf ([] : Txt) n = true := by cases n <;> rfl
    rw [this, Bool.and_true, Bool.eq_iff_iff, beq_iff_eq, decide_eq_true_iff]
    exact ⟨Eq.symm, Eq.symm⟩
end Go.Proofs.YtikngjdljdofkaaDoor.fieldsParts
