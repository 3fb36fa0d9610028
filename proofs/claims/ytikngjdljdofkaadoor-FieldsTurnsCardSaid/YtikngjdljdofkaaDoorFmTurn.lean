

/-
  FieldsTurns, in plain Lean: behind the pseudo fields the order does not matter.
-/
import Derived.Test.YtikngjdljdofkaaDoorFmQ
namespace Go.Proofs.YtikngjdljdofkaaDoor.fieldsTurns
open Go.Sl

def st : Fd := (nStatus, [50, 48, 48], false)
def sS : Ms := ⟨-1, [(nStatus, [50, 48, 48])], 1⟩
theorem hop_no {n a : Txt} (h1 : hopN n = false) (h2 : decide (n = [116, 101]) = false) : hopR (n, a, false) = false := by
  unfold hopR
  rw [h1, h2]
  rfl
set_option maxRecDepth 10000 in
theorem step_st : stepR [nStatus] 0 st ⟨-1, [], 0⟩ = some sS :=
  stepR_pseudo (s := ⟨-1, [], 0⟩) (f := st) (by decide +kernel) (hop_no (by decide) (by decide)) rfl (by rfl) (by decide)

def good (f : Fd) : Bool := valueR f.2.1 && !hopR f && !pseudoR f && nameR f.1 && (!decide (f.1 = CL) || (digitsR f.2.1 1 15).isSome)
/-- the lengths among these say one text at most -/
def Alike (L : List Fd) : Prop := ∀ f ∈ L, ∀ g ∈ L, f.1 = CL → g.1 = CL → f.2.1 = g.2.1
/-- the length that these say -/
def Says (L : List Fd) (x : Int) : Prop := (x = -1 ∧ ∀ f ∈ L, f.1 ≠ CL) ∨ ∃ f ∈ L, f.1 = CL ∧ ∃ k, digitsR f.2.1 1 15 = some k ∧ x = (k : Int)

theorem status_key : nStatus ≠ CL := by decide
theorem step_no {i : Nat} {f : Fd} {s : Ms} (h : good f = false) (hs : (getM s.map nStatus).isSome = true) : stepR [nStatus] i f s = none := by
  cases e : stepR [nStatus] i f s with
  | none => rfl
  | some s' =>
    exfalso
    obtain ⟨h1, h2, ⟨h3, h4, h5⟩ | ⟨h3, _, h5, h6, _⟩⟩ := stepR_cases e
    · unfold good at h
      rw [h1, h2, h3, h4] at h
      rcases lengthR_cases h5 with ⟨hn, _⟩ | ⟨hn, k, hk, _, _⟩
      · rw [decide_eq_false hn] at h; cases h
      · rw [hk] at h; simp at h
    · rw [List.mem_singleton.1 h6] at h5
      rw [hs] at h5
      cases h5

/-- the state: nothing has been said, or a text has -/
def St (L : List Fd) (s : Ms) : Prop := (getM s.map nStatus).isSome = true ∧ (s.len = -1 ∨ ∃ v k, digitsR v 1 15 = some k ∧ s.len = (k : Int) ∧ (getM s.map CL).getD [] = v ∧ ∀ f ∈ L, f.1 = CL → f.2.1 = v)

theorem run_all : ∀ {L : List Fd} {i : Nat} {s : Ms}, St L s → Alike L →
    if L.all good = true then ∃ s', runR [nStatus] i L s = some s' ∧ getM s'.map nStatus = getM s.map nStatus ∧ ((∀ f ∈ L, f.1 ≠ CL) → s'.len = s.len) ∧ (∀ f ∈ L, f.1 = CL → ∀ k, digitsR f.2.1 1 15 = some k → s'.len = (k : Int))
    else runR [nStatus] i L s = none := by
  intro L
  induction L with
  | nil => intro i s _ _; simp [runR]
  | cons f L ih =>
    intro i s hst hal
    have hal' : Alike L := fun x hx y hy => hal x (List.mem_cons_of_mem _ hx) y (List.mem_cons_of_mem _ hy)
    cases hg : good f with
    | false =>
      rw [if_neg (by rw [List.all_cons, hg, Bool.false_and]; decide)]
      unfold runR
      rw [step_no hg hst.1]
    | true =>
      have hg' := hg
      unfold good at hg'
      simp only [Bool.and_eq_true, Bool.not_eq_true', Bool.or_eq_true, decide_eq_false_iff_not] at hg'
      obtain ⟨⟨⟨⟨g1, g2⟩, g3⟩, g4⟩, g5⟩ := hg'
      have hstep : stepR [nStatus] i f s = lengthR s f := stepR_plain g1 g2 g3 g4
      by_cases hn : f.1 = CL
      · obtain ⟨k, hk⟩ : ∃ k, digitsR f.2.1 1 15 = some k := by
          rcases g5 with g5 | g5
          · exact absurd hn g5
          · exact Option.isSome_iff_exists.1 g5
        have hs1 : lengthR s f = some ⟨k, (CL, f.2.1) :: s.map, s.last⟩ := by
          unfold lengthR
          rw [if_neg (fun e => e hn)]
          simp only [hk]
          rcases hst.2 with h | ⟨v, k', _, h2, h3, h4⟩
          · rw [if_pos (.inl (by rw [h]; decide))]
          · rw [if_pos (.inr (by rw [h3, h4 f (List.mem_cons_self ..) hn]))]
        have hst1 : St L ⟨k, (CL, f.2.1) :: s.map, s.last⟩ := by
          refine ⟨?_, .inr ⟨f.2.1, k, hk, rfl, by simp [getM], fun g hg hgn => hal g (List.mem_cons_of_mem _ hg) f (List.mem_cons_self ..) hgn hn⟩⟩
          show (getM ((CL, f.2.1) :: s.map) nStatus).isSome = true
          simp only [getM]
          rw [if_neg status_key]
          exact hst.1
        have := ih (i := i + 1) hst1 hal'
        rw [List.all_cons, hg, Bool.true_and]
        split
        · rename_i h
          rw [if_pos h] at this
          obtain ⟨s', h1, h2, h3, h4⟩ := this
          refine ⟨s', runR_mk (hstep.trans hs1) h1, ?_, fun h => absurd hn (h f (List.mem_cons_self ..)), ?_⟩
          · rw [h2]
            simp only [getM]
            rw [if_neg status_key]
          · intro g hg hgn j hj
            rcases List.mem_cons.1 hg with rfl | hg
            · rw [hk] at hj
              cases hj
              by_cases hno : ∀ x ∈ L, x.1 ≠ CL
              · exact h3 hno
              · simp only [Classical.not_forall, Classical.not_not] at hno
                obtain ⟨x, hx, hxn⟩ := hno
                have hxe := hal x (List.mem_cons_of_mem _ hx) g (List.mem_cons_self ..) hxn hn
                exact h4 x hx hxn k (by rw [hxe]; exact hk)
            · exact h4 g hg hgn j hj
        · rename_i h
          rw [if_neg h] at this
          unfold runR
          rw [hstep, hs1]
          exact this
      · have hs1 : lengthR s f = some s := by unfold lengthR; rw [if_pos hn]
        have hst1 : St L s := ⟨hst.1, hst.2.imp id fun ⟨v, k', a, b, c, d⟩ => ⟨v, k', a, b, c, fun x hx => d x (List.mem_cons_of_mem _ hx)⟩⟩
        have := ih (i := i + 1) hst1 hal'
        rw [List.all_cons, hg, Bool.true_and]
        split
        · rename_i h
          rw [if_pos h] at this
          obtain ⟨s', h1, h2, h3, h4⟩ := this
          refine ⟨s', runR_mk (hstep.trans hs1) h1, h2, fun h => h3 fun x hx => h x (List.mem_cons_of_mem _ hx), ?_⟩
          intro g hg hgn j hj
          rcases List.mem_cons.1 hg with rfl | hg
          · exact absurd hgn hn
          · exact h4 g hg hgn j hj
        · rename_i h
          rw [if_neg h] at this
          unfold runR
          rw [hstep, hs1]
          exact this

theorem resp_all {L : List Fd} (hal : Alike L) : if L.all good = true then ∃ x, responseR (st :: L) = some ⟨[], [], [], [], 200, x⟩ ∧ ((∀ f ∈ L, f.1 ≠ CL) → x = -1) ∧ (∀ f ∈ L, f.1 = CL → ∀ k, digitsR f.2.1 1 15 = some k → x = (k : Int)) else responseR (st :: L) = none := by
  have h := run_all (L := L) (i := 1) (s := sS) ⟨rfl, .inl rfl⟩ hal
  split
  · rename_i hg
    rw [if_pos hg] at h
    obtain ⟨s', h1, h2, h3, h4⟩ := h
    refine ⟨s'.len, ?_, h3, h4⟩
    unfold responseR messageR
    rw [runR_mk step_st h1]
    simp only
    have : getV s'.map nStatus = [50, 48, 48] := by unfold getV; rw [h2]; rfl
    rw [this, show digitsR [50, 48, 48] 3 3 = some 200 by decide +kernel]
    rfl
  · rename_i hg
    rw [if_neg hg] at h
    unfold responseR messageR runR
    rw [step_st]
    simp only
    rw [h]

/-- the same fields, in whatever order -/
theorem turns {L M : List Fd} (h : ∀ f, f ∈ L ↔ f ∈ M) (hal : Alike L) : responseR (st :: L) = responseR (st :: M) := by
  have hal' : Alike M := fun x hx y hy => hal x ((h x).2 hx) y ((h y).2 hy)
  have hg : L.all good = M.all good := by
    rw [Bool.eq_iff_iff, List.all_eq_true, List.all_eq_true]
    exact ⟨fun k f hf => k f ((h f).2 hf), fun k f hf => k f ((h f).1 hf)⟩
  have r1 := resp_all hal
  have r2 := resp_all hal'
  rw [← hg] at r2
  split at r1
  · rename_i e
    rw [if_pos e] at r2
    obtain ⟨x, e1, x1, x2⟩ := r1
    obtain ⟨y, e2, y1, y2⟩ := r2
    have : x = y := by
      by_cases hno : ∀ f ∈ L, f.1 ≠ CL
      · rw [x1 hno, y1 fun f hf => hno f ((h f).2 hf)]
      · simp only [Classical.not_forall, Classical.not_not] at hno
        obtain ⟨f, hf, hn⟩ := hno
        have hgf := List.all_eq_true.1 e f hf
        unfold good at hgf
        simp only [Bool.and_eq_true, Bool.or_eq_true, hn, decide_true, Bool.not_true] at hgf
        obtain ⟨k, hk⟩ := Option.isSome_iff_exists.1 (hgf.2.resolve_left (by decide))
        rw [x2 f hf hn k hk, y2 f ((h f).1 hf) hn k hk]
    rw [e1, e2, this]
  · rename_i e
    rw [if_neg e] at r2
    rw [r1, r2]

def lengths (L : List Fd) : Nat := (L.filter fun f => decide (f.1 = CL)).length
theorem alike_of {L : List Fd} (h : lengths L ≤ 1) : Alike L := by
  intro f hf g hg h1 h2
  unfold lengths at h
  have m1 : f ∈ L.filter fun f => decide (f.1 = CL) := List.mem_filter.2 ⟨hf, by simp [h1]⟩
  have m2 : g ∈ L.filter fun f => decide (f.1 = CL) := List.mem_filter.2 ⟨hg, by simp [h2]⟩
  match e : L.filter (fun f => decide (f.1 = CL)), h with
  | [], _ => rw [e] at m1; cases m1
  | [x], _ => rw [e] at m1 m2; rw [List.mem_singleton.1 m1, List.mem_singleton.1 m2]
  | x :: y :: l, h => rw [e] at h; simp at h
theorem size_set : ∀ {L : List Fd} {i : Nat} {f g : Fd}, L[i]? = some f → sizeR (L.set i g) + size1 f = sizeR L + size1 g
  | [], i, f, g, h => by simp at h
  | x :: L, 0, f, g, h => by simp at h; subst h; simp only [List.set_cons_zero, sizeR]; omega
  | x :: L, i + 1, f, g, h => by
    have := size_set (L := L) (i := i) (f := f) (g := g) (by simpa using h)
    simp only [List.set_cons_succ, sizeR]
    omega
/-- two of them changed about -/
theorem swap_mem {L : List Fd} {i k : Nat} {f g : Fd} (hi : L[i]? = some f) (hk : L[k]? = some g) : ∀ x, x ∈ L ↔ x ∈ (L.set i g).set k f := by
  have li := (List.getElem?_eq_some_iff.1 hi).1
  have lk := (List.getElem?_eq_some_iff.1 hk).1
  intro x
  constructor
  · intro hx
    obtain ⟨j, hj, e⟩ := List.mem_iff_getElem.1 hx
    have he : L[j]? = some x := by rw [List.getElem?_eq_getElem hj, e]
    by_cases h1 : j = i
    · subst h1
      rw [hi] at he
      cases he
      exact List.mem_iff_getElem.2 ⟨k, by simpa using lk, by simp⟩
    · by_cases h2 : j = k
      · subst h2
        rw [hk] at he
        cases he
        by_cases h3 : i = j
        · exact absurd h3.symm h1
        · exact List.mem_iff_getElem.2 ⟨i, by simpa using li, by rw [List.getElem_set_ne (fun e => h3 e.symm), List.getElem_set_self]⟩
      · exact List.mem_iff_getElem.2 ⟨j, by simpa using hj, by rw [List.getElem_set_ne (fun e => h2 e.symm), List.getElem_set_ne (fun e => h1 e.symm)]; exact e⟩
  · intro hx
    rcases List.mem_or_eq_of_mem_set hx with hx | rfl
    · rcases List.mem_or_eq_of_mem_set hx with hx | rfl
      · exact hx
      · exact List.mem_of_getElem? hk
    · exact List.mem_of_getElem? hi
theorem swap_size {L : List Fd} {i k : Nat} {f g : Fd} (hi : L[i]? = some f) (hk : L[k]? = some g) : sizeR ((L.set i g).set k f) = sizeR L := by
  have h1 := size_set (g := g) hi
  have lk := (List.getElem?_eq_some_iff.1 hk).1
  by_cases e : i = k
  · subst e
    rw [hi] at hk
    cases hk
    have h2 := size_set (L := L.set i f) (i := i) (f := f) (g := f) (by simp [lk])
    omega
  · have h2 := size_set (L := L.set i g) (i := k) (f := g) (g := f) (by rw [List.getElem?_set_ne e]; exact hk)
    omega
end Go.Proofs.YtikngjdljdofkaaDoor.fieldsTurns
