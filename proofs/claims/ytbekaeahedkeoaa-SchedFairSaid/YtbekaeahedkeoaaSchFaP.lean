
/-
  SchedFair, plain: whose turn it is.
-/
import Derived.Test.YtbekaeahedkeoaaSchArg
namespace Go.Proofs.Ytbekaeahedkeoaa.schedFair

def waits (q : List Fl) : Int := (q.map Fl.wait).sum

theorem waits_app (p q : List Fl) : waits (p ++ q) = waits p + waits q := by simp [waits]
theorem waits_cons (f : Fl) (q : List Fl) : waits (f :: q) = f.wait + waits q := by simp [waits]
theorem waits_nonneg {q : List Fl} (h : ∀ f ∈ q, 1 ≤ f.wait) : 0 ≤ waits q := by
  induction q with
  | nil => simp [waits]
  | cons f q ih =>
    rw [waits_cons]
    have := h f (List.mem_cons_self ..)
    have := ih fun x hx => h x (List.mem_cons_of_mem _ hx)
    omega

def Here (n : Nat) (lf : List Int) (f : Fl) : Prop := ∃ j : Nat, j < n ∧ f.id = 2 * (j : Int) + 1 ∧ lf[j]? = some f.wait ∧ 1 ≤ f.wait ∧ f.wait ≤ f.win ∧ f.fin = true
def Turn (tn : List Int) (T : Int) (f : Fl) : Prop := ∀ j : Nat, f.id = 2 * (j : Int) + 1 → tn[j]? = some T

structure Inv (n : Nat) (lf tn : List Int) (s : Sc) (k : Nat) : Prop where
  ok : s.Ok
  ctl : s.ctl = []
  l30 : lf.length = 30
  t30 : tn.length = 30
  n30 : n ≤ 30
  fr : s.frame ≤ 16384
  here : ∀ f ∈ s.q, Here n lf f
  there : ∀ j : Nat, j < n → lf[j]? = some 0 ∨ ∃ f ∈ s.q, f.id = 2 * (j : Int) + 1
  nodup : s.q.Pairwise (fun f g => f.id ≠ g.id)
  sum : waits s.q ≤ s.win
  left : waits s.q ≤ 30720 - k
  turns : ∃ T q1 q2, s.q = q1 ++ q2 ∧ (∀ f ∈ q1, Turn tn T f) ∧ (∀ f ∈ q2, Turn tn (T + 1) f)
  bnd : ∀ (j : Nat) x, tn[j]? = some x → 0 ≤ x ∧ x ≤ k
  qlen : s.q.length ≤ 30

/-- the head's turn is the least -/
theorem Inv.head {n : Nat} {lf tn : List Int} {s : Sc} {k : Nat} (h : Inv n lf tn s k) {f : Fl} {q : List Fl} (hq : s.q = f :: q) : ∃ T q1 q2, q = q1 ++ q2 ∧ Turn tn T f ∧ (∀ f ∈ q1, Turn tn T f) ∧ (∀ f ∈ q2, Turn tn (T + 1) f) := by
  obtain ⟨T, q1, q2, h1, h2, h3⟩ := h.turns
  rw [hq] at h1
  cases q1 with
  | nil =>
    simp at h1
    subst h1
    exact ⟨T + 1, q, [], by simp, h3 f (List.mem_cons_self ..), fun x hx => h3 x (List.mem_cons_of_mem _ hx), by simp⟩
  | cons g q1 =>
    simp at h1
    obtain ⟨rfl, rfl⟩ := h1
    exact ⟨T, q1, q2, rfl, h2 f (List.mem_cons_self ..), fun x hx => h2 x (List.mem_cons_of_mem _ hx), h3⟩

theorem Inv.step {n : Nat} {lf tn : List Int} {s s' : Sc} {k : Nat} {id m : Int} {e : Bool} (h : Inv n lf tn s k) (hn : s.next 100000 = (some (id, m, e), s')) :
    ∃ (j : Nat) (lj tj : Int), j < n ∧ id = 2 * (j : Int) + 1 ∧ lf[j]? = some lj ∧ tn[j]? = some tj ∧ 1 ≤ m ∧ m ≤ lj ∧ lj ≤ 2147483647 ∧ e = decide (lj - m = 0) ∧
      (∀ (i : Nat) x y, i < n → (lf.set j (lj - m))[i]? = some x → (tn.set j (tj + 1))[i]? = some y → ¬ (0 < x ∧ y + 1 < tj + 1)) ∧ Inv n (lf.set j (lj - m)) (tn.set j (tj + 1)) s' (k + 1) := by
  have hsn := hn
  obtain ⟨-, l1, f, l2, hq, hl1, hr, rfl, hm, he, hm1, hs⟩ := Sc.next_some hn
  cases l1 with
  | cons g l1 =>
    exfalso
    have hg := hl1 g (List.mem_cons_self ..)
    obtain ⟨j, _, _, _, h1, h2, _⟩ := h.here g (by rw [hq]; simp)
    have h3 := h.sum
    rw [hq, List.cons_append, waits_cons] at h3
    have h4 : 0 ≤ waits (l1 ++ f :: l2) := waits_nonneg fun x hx => (h.here x (by rw [hq]; simp at hx ⊢; right; exact hx)).choose_spec.2.2.2.1
    have a1 : decide (0 < g.wait) = true := by simp; omega
    have a2 : decide (0 < g.win) = true := by simp; omega
    have a3 : decide (0 < s.win) = true := by simp; omega
    simp [Fl.ready, a1, a2, a3] at hg
  | nil =>
    obtain ⟨j, hj, hid, hlj, w1, w2, w3⟩ := h.here f (by rw [hq]; simp)
    have hq' : s.q = f :: l2 := by rw [hq]; rfl
    obtain ⟨T, q1, q2, hl2, t1, t2, t3⟩ := h.head hq'
    have htj := t1 j hid
    have hle := Sc.amount_le (s := s) (c := 100000) (show 0 < f.wait by omega)
    rw [← hm] at hle
    have hm0 : 1 ≤ m := hm1 (by omega)
    have hsum := h.sum
    have hleft := h.left
    rw [hq', waits_cons] at hsum hleft
    have hpos : 0 ≤ waits l2 := waits_nonneg fun x hx => (h.here x (by rw [hq']; simp [hx])).choose_spec.2.2.2.1
    have hok := h.ok.fl f (by rw [hq]; simp)
    have hnd := h.nodup
    rw [hq'] at hnd
    obtain ⟨p1, p2⟩ := List.pairwise_cons.1 hnd
    have hel : e = decide (f.wait - m = 0) := by rw [he]; simp [Fl.last, w3]
    have hother : ∀ x ∈ l2, ∀ i : Nat, x.id = 2 * (i : Int) + 1 → j ≠ i := by
      intro x hx i hi e
      subst e
      exact p1 x hx (hid.trans hi.symm)
    have hjl : j < lf.length := by rw [h.l30]; have := h.n30; omega
    have hjt : j < tn.length := by rw [h.t30]; have := h.n30; omega
    have hres : ∀ (i : Nat) x y, i < n → (lf.set j (f.wait - m))[i]? = some x → (tn.set j (T + 1))[i]? = some y → ¬ (0 < x ∧ y + 1 < T + 1) := by
      rintro i x y hi hx hy ⟨b1, b2⟩
      by_cases hij : j = i
      · subst hij
        simp [hjt] at hy
        omega
      · have hx' : lf[i]? = some x := by simpa [List.getElem?_set, hij] using hx
        have hy' : tn[i]? = some y := by simpa [List.getElem?_set, hij] using hy
        rcases h.there i hi with h0 | ⟨g, hg, hgi⟩
        · rw [h0] at hx'; cases hx'; omega
        · rw [hq', hl2] at hg
          simp only [List.mem_cons, List.mem_append] at hg
          rcases hg with rfl | hg | hg
          · omega
          · have := t2 g hg i hgi; rw [hy'] at this; cases this; omega
          · have := t3 g hg i hgi; rw [hy'] at this; cases this; omega
    have hok' := h.ok.next hsn
    have hlen' := Sc.next_len hsn
    have hbnd : ∀ (i : Nat) x, (tn.set j (T + 1))[i]? = some x → 0 ≤ x ∧ x ≤ ((k + 1 : Nat) : Int) := by
      intro i x hx
      by_cases hij : j = i
      · subst hij
        simp [hjt] at hx
        have := h.bnd j T htj
        omega
      · have hx' : tn[i]? = some x := by simpa [List.getElem?_set, hij] using hx
        have := h.bnd i x hx'
        omega
    have hhere : ∀ x ∈ l2, Here n (lf.set j (f.wait - m)) x := by
      intro x hx
      obtain ⟨i, a1, a2, a3, a4⟩ := h.here x (by rw [hq']; simp [hx])
      have hij := hother x hx i a2
      exact ⟨i, a1, a2, by simp [List.getElem?_set, hij, a3], a4⟩
    have hturn : ∀ x ∈ l2, ∀ U, Turn tn U x → Turn (tn.set j (T + 1)) U x := by
      intro x hx U hU i hi
      have hij := hother x hx i hi
      simp [List.getElem?_set, hij, hU i hi]
    refine ⟨j, f.wait, T, hj, hid, hlj, htj, hm0, hle.1, hok.o2, hel, hres, ?_⟩
    have hql : s'.q.length ≤ 30 := Nat.le_trans hlen'.1 h.qlen
    cases e
    · have hfm : ¬ f.wait - m = 0 := by simpa using hel
      have hq2 : s'.q = l2 ++ [f.less m] := by rw [hs, ← he]; rfl
      refine ⟨hok', by rw [hlen'.2]; exact h.ctl, by simp [h.l30], by simp [h.t30], h.n30, by rw [hs]; exact h.fr, ?_, ?_, ?_, ?_, ?_, ⟨T, q1, q2 ++ [f.less m], by rw [hq2, hl2]; simp, ?_, ?_⟩, hbnd, hql⟩
      · intro x hx
        rw [hq2] at hx
        rcases List.mem_append.1 hx with hx | hx
        · exact hhere x hx
        · rw [List.mem_singleton.1 hx]
          exact ⟨j, hj, hid, by simp [hjl, Fl.less], by show 1 ≤ f.wait - m; omega, by show f.wait - m ≤ f.win - m; omega, w3⟩
      · intro i hi
        by_cases hij : j = i
        · subst hij; exact .inr ⟨f.less m, by rw [hq2]; simp, hid⟩
        · rcases h.there i hi with h0 | ⟨g, hg, hgi⟩
          · exact .inl (by simp [List.getElem?_set, hij, h0])
          · rw [hq'] at hg
            rcases List.mem_cons.1 hg with rfl | hg
            · omega
            · exact .inr ⟨g, by rw [hq2]; simp [hg], hgi⟩
      · rw [hq2]
        exact List.pairwise_append.2 ⟨p2, List.pairwise_singleton _ _, fun a ha b hb => by rw [List.mem_singleton.1 hb]; exact fun e => p1 a ha e.symm⟩
      · rw [hq2, waits_app, hs]
        show waits l2 + waits [f.less m] ≤ s.win - m
        rw [waits_cons]
        show waits l2 + (f.wait - m + waits []) ≤ s.win - m
        simp only [waits, List.map_nil, List.sum_nil]
        simp only [waits] at hsum
        omega
      · rw [hq2, waits_app, waits_cons]
        show waits l2 + (f.wait - m + waits []) ≤ 30720 - ((k + 1 : Nat) : Int)
        simp only [waits, List.map_nil, List.sum_nil]
        simp only [waits] at hleft
        omega
      · intro x hx
        exact hturn x (by rw [hl2]; simp [hx]) T (t2 x hx)
      · intro x hx
        rcases List.mem_append.1 hx with hx | hx
        · exact hturn x (by rw [hl2]; simp [hx]) (T + 1) (t3 x hx)
        · rw [List.mem_singleton.1 hx]
          intro i hi
          have hji : j = i := by
            have : f.id = 2 * (i : Int) + 1 := hi
            omega
          subst hji
          simp [hjt]
    · have hfm : f.wait - m = 0 := by simpa using hel
      have hq2 : s'.q = l2 := by rw [hs, ← he]; simp
      refine ⟨hok', by rw [hlen'.2]; exact h.ctl, by simp [h.l30], by simp [h.t30], h.n30, by rw [hs]; exact h.fr, ?_, ?_, ?_, ?_, ?_, ⟨T, q1, q2, by rw [hq2, hl2], ?_, ?_⟩, hbnd, hql⟩
      · intro x hx
        rw [hq2] at hx
        exact hhere x hx
      · intro i hi
        by_cases hij : j = i
        · subst hij; exact .inl (by simp [hjl, hfm])
        · rcases h.there i hi with h0 | ⟨g, hg, hgi⟩
          · exact .inl (by simp [List.getElem?_set, hij, h0])
          · rw [hq'] at hg
            rcases List.mem_cons.1 hg with rfl | hg
            · omega
            · exact .inr ⟨g, by rw [hq2]; exact hg, hgi⟩
      · rw [hq2]; exact p2
      · rw [hq2, hs]
        show waits l2 ≤ s.win - m
        omega
      · rw [hq2]
        omega
      · intro x hx
        exact hturn x (by rw [hl2]; simp [hx]) T (t2 x hx)
      · intro x hx
        exact hturn x (by rw [hl2]; simp [hx]) (T + 1) (t3 x hx)

/-- when nothing is told all has come -/
theorem Inv.done {n : Nat} {lf tn : List Int} {s s' : Sc} {k : Nat} (h : Inv n lf tn s k) (hn : s.next 100000 = (none, s') ∨ k = 30720) : s.q = [] ∧ ∀ j : Nat, j < n → lf[j]? = some 0 := by
  have hq : s.q = [] := by
    cases hq : s.q with
    | nil => rfl
    | cons f q =>
      exfalso
      obtain ⟨j, hj, hid, hlj, w1, w2, w3⟩ := h.here f (by rw [hq]; simp)
      have hsum := h.sum
      have hleft := h.left
      rw [hq, waits_cons] at hsum hleft
      have hpos : 0 ≤ waits q := waits_nonneg fun x hx => (h.here x (by rw [hq]; simp [hx])).choose_spec.2.2.2.1
      rcases hn with hn | rfl
      · have a1 : decide (0 < f.wait) = true := by simp; omega
        have a2 : decide (0 < f.win) = true := by simp; omega
        have a3 : decide (0 < s.win) = true := by simp; omega
        have hr : f.ready s.win = true := by simp [Fl.ready, a1, a2, a3]
        have hfr := h.ok.f1
        have hnot : ¬ (0 < f.wait ∧ s.amount f 100000 < 1) := by
          rintro ⟨b1, b2⟩
          unfold Sc.amount at b2
          rw [if_pos b1] at b2
          omega
        rw [next_yes (l1 := []) (by decide) hq (by simp) hr rfl hnot] at hn
        cases hn
      · have : waits q + f.wait ≤ 0 := by simp at hleft; omega
        omega
  refine ⟨hq, fun j hj => ?_⟩
  rcases h.there j hj with h0 | ⟨f, hf, _⟩
  · exact h0
  · rw [hq] at hf; cases hf
end Go.Proofs.Ytbekaeahedkeoaa.schedFair
