
/-
  SchedIdle, plain: who has gone, and who is ready.
-/
import Derived.Test.YtbekaeahedkeoaaSchArg
namespace Go.Proofs.Ytbekaeahedkeoaa.schedIdle

/-- what is so at any time: streams that are there, and those that have gone -/
structure Inv (F : List F3) (s : Sc) (gl : List Bool) : Prop where
  ok : s.Ok
  ctl : s.ctl = []
  len : gl.length = 30
  fl : F.length ≤ 30
  here : ∀ f ∈ s.q, ∃ (j : Nat) (g : F3), F[j]? = some g ∧ f.id = 2 * (j : Int) + 1 ∧ f.fin = g.2.2 ∧ gl[j]? = some false
  there : ∀ j : Nat, j < F.length → gl[j]? = some false → ∃ f ∈ s.q, f.id = 2 * (j : Int) + 1
  nodup : s.q.Pairwise (fun f g => f.id ≠ g.id)
  qlen : s.q.length ≤ F.length

theorem mkQ_at {k j : Nat} {F : List F3} {g : F3} (h : F[j]? = some g) : (⟨2 * ((k + j : Nat) : Int) + 1, g.1, g.2.1, g.2.2⟩ : Fl) ∈ mkQ k F := by
  induction F generalizing k j with
  | nil => simp at h
  | cons f F ih =>
    cases j with
    | zero => simp at h; subst h; exact List.mem_cons_self ..
    | succ j =>
      have := ih (k := k + 1) (j := j) (by simpa using h)
      have e : k + 1 + j = k + (j + 1) := by omega
      rw [e] at this
      exact List.mem_cons_of_mem _ this

theorem mkQ_pair (k : Nat) (F : List F3) : (mkQ k F).Pairwise (fun f g => f.id ≠ g.id) := by
  induction F generalizing k with
  | nil => exact List.Pairwise.nil
  | cons f F ih =>
    refine List.Pairwise.cons ?_ (ih (k + 1))
    intro g hg
    obtain ⟨j, x, _, rfl⟩ := mkQ_mem hg
    simp only
    omega

theorem Inv.start {F : List F3} (hF : F.length ≤ 30) (h : ∀ f ∈ F, FOk f) {fr : Int} (f1 : 1 ≤ fr) (f2 : fr ≤ 16777215) : Inv F ⟨[], mkQ 0 F, 65535, fr⟩ (List.replicate 30 false) where
  ok := ⟨mkQ_ok hF h, by show (-2147483647 : Int) ≤ 65535; decide, by show (65535 : Int) ≤ 2147483647; decide, f1, f2⟩
  ctl := rfl
  len := by simp
  fl := hF
  here := by
    intro f hf
    obtain ⟨j, g, h1, rfl⟩ := mkQ_mem hf
    have := (List.getElem?_eq_some_iff.1 h1).1
    exact ⟨j, g, h1, by simp, rfl, by rw [List.getElem?_replicate, if_pos (by omega)]⟩
  there := by
    intro j hj _
    obtain ⟨g, hg⟩ : ∃ g, F[j]? = some g := ⟨F[j], by simp [hj]⟩
    exact ⟨_, mkQ_at (k := 0) hg, by simp⟩
  nodup := mkQ_pair 0 F
  qlen := by rw [mkQ_len]; exact Nat.le_refl _

theorem Inv.next {F : List F3} {s s' : Sc} {gl : List Bool} {c id n : Int} {e : Bool} (h : Inv F s gl) (hn : s.next c = (some (id, n, e), s')) :
    ∃ j, j < F.length ∧ id = 2 * (j : Int) + 1 ∧ Inv F s' (if e then gl.set j true else gl) := by
  obtain ⟨-, l1, f, l2, hq, -, -, rfl, hm, he, -, hs⟩ := Sc.next_some hn
  obtain ⟨j, g, h1, h2, h3, h4⟩ := h.here f (by rw [hq]; simp)
  have hj := (List.getElem?_eq_some_iff.1 h1).1
  have hnd := h.nodup
  rw [hq] at hnd
  obtain ⟨p1, p2, p3⟩ := List.pairwise_append.1 hnd
  obtain ⟨p4, p5⟩ := List.pairwise_cons.1 p2
  have hl := Sc.next_len hn
  have hle : s'.q.length ≤ F.length := Nat.le_trans hl.1 h.qlen
  refine ⟨j, hj, h2, ?_⟩
  cases e
  · have hq' : s'.q = l1 ++ l2 ++ [f.less n] := by rw [hs, ← he]; rfl
    refine ⟨h.ok.next hn, by rw [hl.2]; exact h.ctl, h.len, h.fl, ?_, ?_, ?_, hle⟩
    · intro x hx
      rw [hq'] at hx
      simp only [List.mem_append, List.mem_singleton] at hx
      rcases hx with (hx | hx) | rfl
      · exact h.here x (by rw [hq]; simp [hx])
      · exact h.here x (by rw [hq]; simp [hx])
      · exact ⟨j, g, h1, h2, h3, h4⟩
    · intro i hi hg
      obtain ⟨x, hx, hi2⟩ := h.there i hi hg
      rw [hq] at hx
      rw [hq']
      simp only [List.mem_append, List.mem_cons] at hx
      rcases hx with hx | rfl | hx
      · exact ⟨x, by simp [hx], hi2⟩
      · exact ⟨x.less n, by simp, hi2⟩
      · exact ⟨x, by simp [hx], hi2⟩
    · rw [hq']
      refine List.pairwise_append.2 ⟨List.pairwise_append.2 ⟨p1, p5, fun a ha b hb => p3 a ha b (List.mem_cons_of_mem _ hb)⟩, List.pairwise_singleton _ _, ?_⟩
      intro a ha b hb
      rw [List.mem_singleton.1 hb]
      rcases List.mem_append.1 ha with ha | ha
      · exact p3 a ha f (List.mem_cons_self ..)
      · exact fun e => p4 a ha e.symm
  · have hq' : s'.q = l1 ++ l2 := by rw [hs, ← he]; simp
    have hne : ∀ x ∈ l1 ++ l2, x.id ≠ f.id := by
      intro x hx
      rcases List.mem_append.1 hx with hx | hx
      · exact p3 x hx f (List.mem_cons_self ..)
      · exact fun e => p4 x hx e.symm
    refine ⟨h.ok.next hn, by rw [hl.2]; exact h.ctl, by simp [h.len], h.fl, ?_, ?_, ?_, hle⟩
    · intro x hx
      rw [hq'] at hx
      have hx' : x ∈ s.q := by
        rw [hq]
        rcases List.mem_append.1 hx with hx | hx <;> simp [hx]
      obtain ⟨i, g', a1, a2, a3, a4⟩ := h.here x hx'
      have hij : j ≠ i := by
        intro e
        have := hne x hx
        rw [a2, h2, e] at this
        exact this rfl
      exact ⟨i, g', a1, a2, a3, by simp [List.getElem?_set, hij, a4]⟩
    · intro i hi hg
      have hij : j ≠ i := by
        intro e
        subst e
        have : j < gl.length := by rw [h.len]; have := h.fl; omega
        simp [this] at hg
      have hg' : gl[i]? = some false := by simpa [List.getElem?_set, hij] using hg
      obtain ⟨x, hx, hi2⟩ := h.there i hi hg'
      rw [hq] at hx
      rw [hq']
      simp only [List.mem_append, List.mem_cons] at hx
      rcases hx with hx | rfl | hx
      · exact ⟨x, by simp [hx], hi2⟩
      · rw [h2] at hi2; omega
      · exact ⟨x, by simp [hx], hi2⟩
    · rw [hq']
      exact List.pairwise_append.2 ⟨p1, p5, fun a ha b hb => p3 a ha b (List.mem_cons_of_mem _ hb)⟩

/-- somebody of the first i streams is ready -/
def may (s : Sc) (i : Nat) : Prop := ∃ f ∈ s.q, f.id < 2 * (i : Int) + 1 ∧ f.ready s.win = true

theorem may_zero {F : List F3} {s : Sc} {gl : List Bool} (h : Inv F s gl) : ¬ may s 0 := by
  rintro ⟨f, hf, h1, _⟩
  obtain ⟨j, g, _, h2, _⟩ := h.here f hf
  omega

theorem may_next {F : List F3} {s : Sc} {gl : List Bool} {i : Nat} (h : Inv F s gl) {l1 l2 : List Fl} {f : Fl} (hq : s.q = l1 ++ f :: l2) (hf : f.id = 2 * (i : Int) + 1) : may s (i + 1) ↔ may s i ∨ f.ready s.win = true := by
  have hnd := h.nodup
  rw [hq] at hnd
  obtain ⟨p1, p2, p3⟩ := List.pairwise_append.1 hnd
  obtain ⟨p4, p5⟩ := List.pairwise_cons.1 p2
  constructor
  · rintro ⟨x, hx, h1, h2⟩
    obtain ⟨j, g, _, h3, _⟩ := h.here x hx
    by_cases hj : j = i
    · right
      subst hj
      rw [hq] at hx
      simp only [List.mem_append, List.mem_cons] at hx
      rcases hx with hx | rfl | hx
      · exact absurd (h3.trans hf.symm) (p3 x hx f (List.mem_cons_self ..))
      · exact h2
      · exact absurd (hf.trans h3.symm) (p4 x hx)
    · exact .inl ⟨x, hx, by omega, h2⟩
  · rintro (⟨x, hx, h1, h2⟩ | h2)
    · exact ⟨x, hx, by omega, h2⟩
    · exact ⟨f, by rw [hq]; simp, by omega, h2⟩

theorem may_gone {F : List F3} {s : Sc} {gl : List Bool} {i : Nat} (h : Inv F s gl) (hg : gl[i]? = some true) : may s (i + 1) ↔ may s i := by
  constructor
  · rintro ⟨x, hx, h1, h2⟩
    obtain ⟨j, g, _, h3, _, h4⟩ := h.here x hx
    by_cases hj : j = i
    · subst hj; rw [h4] at hg; cases hg
    · exact ⟨x, hx, by omega, h2⟩
  · rintro ⟨x, hx, h1, h2⟩
    exact ⟨x, hx, by omega, h2⟩

theorem Inv.gone {F : List F3} {s : Sc} {gl : List Bool} {i : Nat} (h : Inv F s gl) (hg : gl[i]? = some true) : ∀ x ∈ s.q, x.id ≠ 2 * (i : Int) + 1 := by
  intro x hx e
  obtain ⟨j, g, _, h3, _, h4⟩ := h.here x hx
  obtain rfl : j = i := by omega
  rw [h4] at hg
  cases hg

theorem Inv.found {F : List F3} {s : Sc} {gl : List Bool} {i : Nat} (h : Inv F s gl) (hi : i < F.length) (hg : gl[i]? = some false) :
    ∃ l1 f l2 g, s.q = l1 ++ f :: l2 ∧ f.id = 2 * (i : Int) + 1 ∧ (∀ x ∈ l1, x.id ≠ 2 * (i : Int) + 1) ∧ F[i]? = some g ∧ f.fin = g.2.2 ∧ f.Ok := by
  obtain ⟨f, hf, h1⟩ := h.there i hi hg
  obtain ⟨l1, l2, hq⟩ := List.append_of_mem hf
  obtain ⟨j, g, a1, a2, a3, -⟩ := h.here f hf
  obtain rfl : j = i := by omega
  have hnd := h.nodup
  rw [hq] at hnd
  obtain ⟨p1, p2, p3⟩ := List.pairwise_append.1 hnd
  exact ⟨l1, f, l2, g, hq, h1, fun x hx e => p3 x hx f (List.mem_cons_self ..) (e.trans h1.symm), a1, a3, h.ok.fl f hf⟩

theorem Inv.last {F : List F3} {s s' : Sc} {gl : List Bool} {p : Option (Int × Int × Bool)} (h : Inv F s gl) (hn : s.next 10 = (p, s')) : p.isSome = true ↔ may s F.length := by
  constructor
  · intro hp
    obtain ⟨⟨id, n, e⟩, rfl⟩ := Option.isSome_iff_exists.1 hp
    obtain ⟨-, l1, f, l2, hq, -, h2, -⟩ := Sc.next_some hn
    have hf : f ∈ s.q := by rw [hq]; simp
    obtain ⟨j, g, h1, h3, _⟩ := h.here f hf
    have := (List.getElem?_eq_some_iff.1 h1).1
    exact ⟨f, hf, by omega, h2⟩
  · rintro ⟨f, hf, -, h2⟩
    unfold Sc.next at hn
    rw [if_neg (by decide)] at hn
    split at hn
    · rename_i hp
      have := pick_none.1 hp f hf
      rw [h2] at this
      cases this
    · rename_i l1 x l2 hp
      obtain ⟨hq, -, h3⟩ := pick_some.1 hp
      have hm : ¬ (0 < x.wait ∧ s.amount x 10 < 1) := by
        rintro ⟨a1, a2⟩
        simp only [Fl.ready, Bool.or_eq_true, Bool.and_eq_true, decide_eq_true_eq] at h3
        have hfr := h.ok.f1
        unfold Sc.amount at a2
        rw [if_pos a1] at a2
        omega
      rw [if_neg hm] at hn
      cases hn
      rfl
end Go.Proofs.Ytbekaeahedkeoaa.schedIdle
