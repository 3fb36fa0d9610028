

/-
  Package fields, in plain Lean: requests, responses, trailers; what goes on.
-/
import Derived.Test.YtnjldofiogbolaaDoorFmP
namespace Go.Proofs.YtnjldofiogbolaaDoor
open Go.Sl

structure Msg where
  method : Txt
  scheme : Txt
  authority : Txt
  path : Txt
  status : Int
  len : Int
deriving DecidableEq

def nMethod : Txt := [58, 109, 101, 116, 104, 111, 100]
def nScheme : Txt := [58, 115, 99, 104, 101, 109, 101]
def nAuth : Txt := [58, 97, 117, 116, 104, 111, 114, 105, 116, 121]
def nPath : Txt := [58, 112, 97, 116, 104]
def nStatus : Txt := [58, 115, 116, 97, 116, 117, 115]
def reqN : List Txt := [nMethod, nScheme, nAuth, nPath]
def getV (M : List (Txt × Txt)) (n : Txt) : Txt := (getM M n).getD []
def requestOk (M : List (Txt × Txt)) : Bool :=
  if getV M nMethod = [] then false
  else if getV M nMethod = [67, 79, 78, 78, 69, 67, 84] then !decide (getV M nAuth = []) && !(getM M nScheme).isSome && !(getM M nPath).isSome
  else !decide (getV M nScheme = []) && (([47] : Txt).isPrefixOf (getV M nPath) || (decide (getV M nPath = [42]) && decide (getV M nMethod = [79, 80, 84, 73, 79, 78, 83])))
def requestR (L : List Fd) : Option Msg :=
  match messageR reqN L with
  | none => none
  | some s => if requestOk s.map = true then some ⟨getV s.map nMethod, getV s.map nScheme, getV s.map nAuth, getV s.map nPath, 0, s.len⟩ else none
def responseR (L : List Fd) : Option Msg :=
  match messageR [nStatus] L with
  | none => none
  | some s => match digitsR (getV s.map nStatus) 3 3 with
    | none => none
    | some n => if n < 100 then none else some ⟨[], [], [], [], n, s.len⟩
def trailersR (L : List Fd) : Bool := (messageR [] L).isSome
def size1 (f : Fd) : Nat := f.1.length + f.2.1.length + 32
def sizeR : List Fd → Nat
  | [] => 0
  | f :: L => size1 f + sizeR L
def dropR (f : Fd) : Bool := decide (f.1 = [116, 101]) || decide (f.1 = [118, 105, 97]) || decide (f.1 = [102, 111, 114, 119, 97, 114, 100, 101, 100]) || ([120, 45, 104, 111, 112, 45] : Txt).isPrefixOf f.1
def forwardR (L : List Fd) : List Fd := L.filter (fun f => !dropR f)

/-! ### a step -/
theorem lengthR_cases {s s' : Ms} {f : Fd} (h : lengthR s f = some s') :
    (f.1 ≠ CL ∧ s' = s) ∨ (f.1 = CL ∧ ∃ k, digitsR f.2.1 1 15 = some k ∧ (s.len < 0 ∨ getV s.map CL = f.2.1) ∧ s' = ⟨k, (CL, f.2.1) :: s.map, s.last⟩) := by
  unfold lengthR at h
  split at h
  · rename_i hn
    exact .inl ⟨hn, (Option.some.inj h).symm⟩
  · rename_i hn
    right
    refine ⟨Classical.not_not.1 hn, ?_⟩
    split at h
    · cases h
    · rename_i k hk
      split at h
      · rename_i hc
        exact ⟨k, hk, hc, (Option.some.inj h).symm⟩
      · cases h

theorem stepR_cases {named : List Txt} {i : Nat} {f : Fd} {s s' : Ms} (h : stepR named i f s = some s') :
    valueR f.2.1 = true ∧ hopR f = false ∧ ((pseudoR f = false ∧ nameR f.1 = true ∧ lengthR s f = some s') ∨
      (pseudoR f = true ∧ i = s.last ∧ (getM s.map f.1).isSome = false ∧ f.1 ∈ named ∧ s' = ⟨s.len, (f.1, f.2.1) :: s.map, i + 1⟩)) := by
  unfold stepR at h
  split at h
  · cases h
  · rename_i h1
    simp only [Bool.not_eq_false, Bool.and_eq_true, Bool.not_eq_true'] at h1
    refine ⟨h1.1, h1.2, ?_⟩
    split at h
    · rename_i h2
      split at h
      · rename_i h3
        exact .inl ⟨h2, h3, h⟩
      · cases h
    · rename_i h2
      split at h
      · rename_i h3
        exact .inr ⟨by simpa using h2, h3.1, h3.2.1, h3.2.2, (Option.some.inj h).symm⟩
      · cases h

theorem stepR_plain {named : List Txt} {i : Nat} {f : Fd} {s : Ms} (h1 : valueR f.2.1 = true) (h2 : hopR f = false) (h3 : pseudoR f = false) (h4 : nameR f.1 = true) : stepR named i f s = lengthR s f := by
  unfold stepR
  simp [h1, h2, h3, h4]
theorem stepR_pseudo {named : List Txt} {f : Fd} {s : Ms} (h1 : valueR f.2.1 = true) (h2 : hopR f = false) (h3 : pseudoR f = true) (h4 : (getM s.map f.1).isSome = false) (h5 : f.1 ∈ named) : stepR named s.last f s = some ⟨s.len, (f.1, f.2.1) :: s.map, s.last + 1⟩ := by
  unfold stepR
  rw [if_neg (by simp [h1, h2]), if_neg (by simp [h3]), if_pos ⟨rfl, h4, h5⟩]

theorem step_last {named : List Txt} {i : Nat} {f : Fd} {s s' : Ms} (h : stepR named i f s = some s') (hl : s.last ≤ i) : s'.last ≤ i + 1 := by
  obtain ⟨_, _, ⟨_, _, h⟩ | ⟨_, _, _, _, rfl⟩⟩ := stepR_cases h
  · obtain ⟨_, rfl⟩ | ⟨_, k, _, _, rfl⟩ := lengthR_cases h
    · omega
    · exact Nat.le_succ_of_le hl
  · exact Nat.le_refl _

theorem runR_cons {named : List Txt} {i : Nat} {f : Fd} {L : List Fd} {s s' : Ms} (h : runR named i (f :: L) s = some s') : ∃ s1, stepR named i f s = some s1 ∧ runR named (i + 1) L s1 = some s' := by
  unfold runR at h
  split at h
  · cases h
  · rename_i s1 h1
    exact ⟨s1, h1, h⟩
theorem runR_mk {named : List Txt} {i : Nat} {f : Fd} {L : List Fd} {s s1 s' : Ms} (h1 : stepR named i f s = some s1) (h2 : runR named (i + 1) L s1 = some s') : runR named i (f :: L) s = some s' := by
  unfold runR
  rw [h1]
  exact h2

theorem run_last {named : List Txt} : ∀ {L : List Fd} {i : Nat} {s s' : Ms}, runR named i L s = some s' → s.last ≤ i → s'.last ≤ i + L.length := by
  intro L
  induction L with
  | nil => intro i s s' h hl; cases h; simpa using hl
  | cons f L ih =>
    intro i s s' h hl
    obtain ⟨s1, h1, h2⟩ := runR_cons h
    have := ih h2 (step_last h1 hl)
    rw [List.length_cons]
    omega

/-! ### what a map holds -/
theorem step_keeps {named : List Txt} {i : Nat} {f : Fd} {s s' : Ms} (h : stepR named i f s = some s') {x v : Txt} (hx : getM s.map x = some v) (hn : x ≠ CL) : getM s'.map x = some v := by
  obtain ⟨_, _, ⟨_, _, h⟩ | ⟨_, _, h4, _, rfl⟩⟩ := stepR_cases h
  · obtain ⟨_, rfl⟩ | ⟨_, k, _, _, rfl⟩ := lengthR_cases h
    · exact hx
    · simp [getM, hn, hx]
  · have : x ≠ f.1 := fun e => by rw [← e, hx] at h4; cases h4
    simp [getM, this, hx]
theorem run_keeps {named : List Txt} : ∀ {L : List Fd} {i : Nat} {s s' : Ms}, runR named i L s = some s' → ∀ {x v : Txt}, getM s.map x = some v → x ≠ CL → getM s'.map x = some v := by
  intro L
  induction L with
  | nil => intro i s s' h x v hx _; cases h; exact hx
  | cons f L ih =>
    intro i s s' h x v hx hn
    obtain ⟨s1, h1, h2⟩ := runR_cons h
    exact ih h2 (step_keeps h1 hx hn) hn
theorem run_from {named : List Txt} : ∀ {L : List Fd} {i : Nat} {s s' : Ms}, runR named i L s = some s' → ∀ {x : Txt}, (getM s'.map x).isSome = true → (getM s.map x).isSome = true ∨ ∃ f ∈ L, f.1 = x := by
  intro L
  induction L with
  | nil => intro i s s' h x hx; cases h; exact .inl hx
  | cons f L ih =>
    intro i s s' h x hx
    obtain ⟨s1, h1, h2⟩ := runR_cons h
    rcases ih h2 hx with g | ⟨e, he, hn⟩
    · by_cases hf : f.1 = x
      · exact .inr ⟨f, List.mem_cons_self .., hf⟩
      · left
        obtain ⟨_, _, ⟨_, _, h⟩ | ⟨_, _, h4, _, rfl⟩⟩ := stepR_cases h1
        · obtain ⟨_, rfl⟩ | ⟨hc, k, _, _, rfl⟩ := lengthR_cases h
          · exact g
          · have : x ≠ CL := fun e => hf (hc.trans e.symm)
            simpa [getM, this] using g
        · have : x ≠ f.1 := fun e => hf e.symm
          simpa [getM, this] using g
    · exact .inr ⟨e, List.mem_cons_of_mem _ he, hn⟩
theorem run_named {named : List Txt} : ∀ {L : List Fd} {i : Nat} {s s' : Ms}, runR named i L s = some s' → ∀ f ∈ L, pseudoR f = true → f.1 ∈ named := by
  intro L
  induction L with
  | nil => intro i s s' _ f hf; cases hf
  | cons g L ih =>
    intro i s s' h f hf hp
    obtain ⟨s1, h1, h2⟩ := runR_cons h
    rcases List.mem_cons.1 hf with rfl | hf
    · obtain ⟨_, _, ⟨h3, _, _⟩ | ⟨_, _, _, h5, _⟩⟩ := stepR_cases h1
      · rw [hp] at h3; cases h3
      · exact h5
    · exact ih h2 f hf hp

/-! ### what goes on -/
theorem drop_plain {f : Fd} (h : dropR f = true) : pseudoR f = false ∧ f.1 ≠ CL := by
  unfold dropR at h
  simp only [Bool.or_eq_true, decide_eq_true_eq] at h
  obtain ⟨n, v, b⟩ := f
  simp only at h ⊢
  rcases h with ((rfl | rfl) | rfl) | h
  · exact ⟨rfl, by decide⟩
  · exact ⟨rfl, by decide⟩
  · exact ⟨rfl, by decide⟩
  · match n, h with
    | [], h => cases h
    | c :: n, h =>
      have hc : (120 : UInt8) = c := by
        simp only [List.isPrefixOf, Bool.and_eq_true, beq_iff_eq] at h
        exact h.1
      subst hc
      exact ⟨rfl, fun e => by cases e⟩

theorem run_forward {named : List Txt} : ∀ {L : List Fd} {i i' : Nat} {s s' : Ms}, runR named i L s = some s' → s.last ≤ i → (i' = i ∨ s.last < i) → runR named i' (forwardR L) s = some s' := by
  intro L
  induction L with
  | nil => intro i i' s s' h _ _; exact h
  | cons f L ih =>
    intro i i' s s' h hl hi
    obtain ⟨s1, h1, h2⟩ := runR_cons h
    have hs1 := step_last h1 hl
    obtain ⟨c1, c2, c3⟩ := stepR_cases h1
    by_cases hd : dropR f = true
    · obtain ⟨d1, d2⟩ := drop_plain hd
      have e1 : s1 = s := by
        rcases c3 with ⟨_, _, g⟩ | ⟨g, _⟩
        · rcases lengthR_cases g with ⟨_, e⟩ | ⟨e, _⟩
          · exact e
          · exact absurd e d2
        · rw [d1] at g; cases g
      subst e1
      have : forwardR (f :: L) = forwardR L := by unfold forwardR; rw [List.filter_cons, hd]; rfl
      rw [this]
      exact ih h2 hs1 (.inr (by omega))
    · have : forwardR (f :: L) = f :: forwardR L := by unfold forwardR; rw [List.filter_cons, if_pos (by simpa using hd)]
      rw [this]
      rcases c3 with ⟨g1, g2, g3⟩ | ⟨g1, g2, g3, g4, g5⟩
      · refine runR_mk (s1 := s1) (by rw [stepR_plain c1 c2 g1 g2]; exact g3) (ih h2 hs1 ?_)
        rcases hi with rfl | hi
        · exact .inl rfl
        · right
          rcases lengthR_cases g3 with ⟨_, rfl⟩ | ⟨_, k, _, _, rfl⟩ <;> first | omega | (simp only; omega)
      · have e : i' = i := by omega
        subst e
        subst g2
        exact runR_mk h1 (ih h2 hs1 (.inl rfl))
theorem message_forward {named : List Txt} {L : List Fd} {s : Ms} (h : messageR named L = some s) : messageR named (forwardR L) = some s := run_forward h (Nat.le_refl _) (.inl rfl)
theorem request_forward {L : List Fd} {m : Msg} (h : requestR L = some m) : requestR (forwardR L) = some m := by
  unfold requestR at h ⊢
  cases e : messageR reqN L with
  | none => rw [e] at h; cases h
  | some s => rw [e] at h; rw [message_forward e]; exact h
theorem response_forward {L : List Fd} {m : Msg} (h : responseR L = some m) : responseR (forwardR L) = some m := by
  unfold responseR at h ⊢
  cases e : messageR [nStatus] L with
  | none => rw [e] at h; cases h
  | some s => rw [e] at h; rw [message_forward e]; exact h
theorem trailers_forward {L : List Fd} (h : trailersR L = true) : trailersR (forwardR L) = true := by
  unfold trailersR at h ⊢
  cases e : messageR [] L with
  | none => rw [e] at h; cases h
  | some s => rw [message_forward e]; rfl
theorem forward_again (L : List Fd) : forwardR (forwardR L) = forwardR L := by unfold forwardR; rw [List.filter_filter]; congr 1; funext f; cases dropR f <;> rfl
theorem size_forward (L : List Fd) : sizeR (forwardR L) ≤ sizeR L := by
  induction L with
  | nil => exact Nat.le_refl _
  | cons f L ih =>
    unfold forwardR at ih ⊢
    rw [List.filter_cons]
    split
    · simp only [sizeR]; omega
    · simp only [sizeR]; omega

/-! ### kinds -/
theorem get_some {M : List (Txt × Txt)} {x : Txt} (h : getV M x ≠ []) : (getM M x).isSome = true := by
  unfold getV at h
  cases e : getM M x with
  | none => rw [e] at h; exact absurd rfl h
  | some v => rfl
theorem request_has {L : List Fd} (h : (requestR L).isSome = true) : ∃ s, messageR reqN L = some s ∧ ∃ f ∈ L, f.1 = nMethod := by
  unfold requestR at h
  cases e : messageR reqN L with
  | none => rw [e] at h; cases h
  | some s =>
    rw [e] at h
    simp only at h
    refine ⟨s, rfl, ?_⟩
    have hm : getV s.map nMethod ≠ [] := by
      intro g
      unfold requestOk at h
      rw [if_pos g] at h
      cases h
    rcases run_from e (get_some hm) with g | g
    · cases g
    · exact g
theorem response_has {L : List Fd} (h : (responseR L).isSome = true) : ∃ s, messageR [nStatus] L = some s ∧ ∃ f ∈ L, f.1 = nStatus := by
  unfold responseR at h
  cases e : messageR [nStatus] L with
  | none => rw [e] at h; cases h
  | some s =>
    rw [e] at h
    simp only at h
    refine ⟨s, rfl, ?_⟩
    have hm : getV s.map nStatus ≠ [] := by
      intro g
      rw [g] at h
      cases h
    rcases run_from e (get_some hm) with g | g
    · cases g
    · exact g
theorem trailers_has {L : List Fd} (h : trailersR L = true) : ∃ s, messageR [] L = some s := Option.isSome_iff_exists.1 h
theorem kinds_ab {L : List Fd} (h1 : (requestR L).isSome = true) (h2 : (responseR L).isSome = true) : False := by
  obtain ⟨s, e, _⟩ := request_has h1
  obtain ⟨_, _, f, hf, hn⟩ := response_has h2
  have := run_named e f hf (by unfold pseudoR; rw [hn]; rfl)
  rw [hn] at this
  exact absurd this (by decide)
theorem kinds_ac {L : List Fd} (h1 : (requestR L).isSome = true) (h2 : trailersR L = true) : False := by
  obtain ⟨_, _, f, hf, hn⟩ := request_has h1
  obtain ⟨s, e⟩ := trailers_has h2
  have := run_named e f hf (by unfold pseudoR; rw [hn]; rfl)
  cases this
theorem kinds_bc {L : List Fd} (h1 : (responseR L).isSome = true) (h2 : trailersR L = true) : False := by
  obtain ⟨_, _, f, hf, hn⟩ := response_has h1
  obtain ⟨s, e⟩ := trailers_has h2
  have := run_named e f hf (by unfold pseudoR; rw [hn]; rfl)
  cases this
theorem message_behind {named : List Txt} {L : List Fd} {f g : Fd} (hg : pseudoR g = true) (hf : pseudoR f = false) : messageR named (L ++ [f, g]) = none := by
  cases e : messageR named (L ++ [f, g]) with
  | none => rfl
  | some s' =>
    exfalso
    unfold messageR at e
    rw [runR_app] at e
    cases e1 : runR named 0 L ⟨-1, [], 0⟩ with
    | none => rw [e1] at e; cases e
    | some s =>
      rw [e1, Option.bind_some, Nat.zero_add] at e
      have hl := run_last e1 (Nat.le_refl _)
      obtain ⟨s1, h1, h2⟩ := runR_cons e
      obtain ⟨s2, h3, h4⟩ := runR_cons h2
      have hl1 : s1.last ≤ L.length := by
        obtain ⟨_, _, ⟨_, _, h⟩ | ⟨h, _⟩⟩ := stepR_cases h1
        · simp only [Nat.zero_add] at hl
          rcases lengthR_cases h with ⟨_, rfl⟩ | ⟨_, k, _, _, rfl⟩
          · exact hl
          · exact hl
        · rw [hf] at h; cases h
      obtain ⟨_, _, ⟨h, _⟩ | ⟨_, h, _⟩⟩ := stepR_cases h3
      · rw [hg] at h; cases h
      · omega
end Go.Proofs.YtnjldofiogbolaaDoor
