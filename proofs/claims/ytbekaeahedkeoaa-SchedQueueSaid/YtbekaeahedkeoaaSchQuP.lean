
/-
  SchedQueue, in plain Lean: who is served goes to the end.
-/
import Derived.Test.YtbekaeahedkeoaaSchArg
namespace Go.Proofs.Ytbekaeahedkeoaa.schedQueue
open Go.RowKit Go.Sl Go.ChangeShapes

def ints (l : List Int) : List Value := l.map (.int .i64 ·)
theorem ints_len (l : List Int) : (ints l).length = l.length := by simp [ints]
theorem ints_at {l : List Int} {i : Nat} {b : Int} (h : l[i]? = some b) : (ints l)[i]? = some (.int .i64 b) := by simp [ints, h]
theorem ints_app (l m : List Int) : ints (l ++ m) = ints l ++ ints m := by simp [ints]
theorem ints_snoc (l : List Int) (x : Int) : ints l ++ [.int .i64 x] = ints (l ++ [x]) := by simp [ints]
theorem ints_one (l : List Int) : ∀ y ∈ ints l, y.oneCell' = true := by
  intro y hy
  obtain ⟨x, _, rfl⟩ := List.mem_map.1 hy
  rfl

def _root_.Go.Proofs.Ytbekaeahedkeoaa.Fl.wide (f : Fl) : Bool := decide (0 < f.win)

/-- the first wide one -/
theorem first_wide {A : List Fl} {x : Int} {xs : List Int} (h : (A.filter Fl.wide).map Fl.id = x :: xs) :
    ∃ l1 f l2, A = l1 ++ f :: l2 ∧ (∀ g ∈ l1, g.wide = false) ∧ f.wide = true ∧ f.id = x ∧ (l2.filter Fl.wide).map Fl.id = xs := by
  induction A with
  | nil => simp at h
  | cons g A ih =>
    by_cases hg : g.wide = true
    · rw [List.filter_cons_of_pos hg] at h
      simp only [List.map_cons, List.cons.injEq] at h
      exact ⟨[], g, A, rfl, by simp, hg, h.1, h.2⟩
    · rw [List.filter_cons_of_neg hg] at h
      obtain ⟨l1, f, l2, rfl, h1, h2, h3, h4⟩ := ih h
      exact ⟨g :: l1, f, l2, rfl, by simp; exact ⟨by simpa using hg, h1⟩, h2, h3, h4⟩

/-- the first narrow one -/
theorem first_narrow {A : List Fl} {x : Int} {xs : List Int} (h : (A.filter (!·.wide)).map Fl.id = x :: xs) :
    ∃ l1 f l2, A = l1 ++ f :: l2 ∧ (∀ g ∈ l1, g.wide = true) ∧ f.wide = false ∧ f.id = x ∧ (l2.filter (!·.wide)).map Fl.id = xs := by
  induction A with
  | nil => simp at h
  | cons g A ih =>
    by_cases hg : g.wide = true
    · rw [List.filter_cons_of_neg (by simp [hg])] at h
      obtain ⟨l1, f, l2, rfl, h1, h2, h3, h4⟩ := ih h
      exact ⟨g :: l1, f, l2, rfl, by simp; exact ⟨hg, h1⟩, h2, h3, h4⟩
    · rw [List.filter_cons_of_pos (by simp [hg])] at h
      simp only [List.map_cons, List.cons.injEq] at h
      exact ⟨[], g, A, rfl, by simp, by simpa using hg, h.1, h.2⟩

/-- in a round: A still to be served, of R the first i have been; L has no window; m octets and window of each at least -/
structure Turn (R L : List Int) (i : Nat) (m : Int) (s : Sc) (A B : List Fl) : Prop where
  q : s.q = A ++ B
  a1 : (A.filter Fl.wide).map Fl.id = R.drop i
  a2 : (A.filter (!·.wide)).map Fl.id = L
  b1 : B.map Fl.id = R.take i
  fa : ∀ f ∈ A, f.fin = false ∧ m ≤ f.wait ∧ (0 ≤ f.win ∧ f.win ≤ 100) ∧ (f.wide = true → m ≤ f.win)
  fb : ∀ f ∈ B, f.fin = false ∧ m - 1 ≤ f.wait ∧ m - 1 ≤ f.win ∧ f.win ≤ 100
  fr : s.frame = 1
  ok : s.Ok
  ct : s.ctl = []

theorem Turn.ids {R L : List Int} {m : Int} {s : Sc} {A B : List Fl} (h : Turn R L R.length m s A B) : s.q.map Fl.id = L ++ R := by
  have ha : ∀ f ∈ A, f.wide = false := by
    intro f hf
    cases hw : f.wide with
    | false => rfl
    | true =>
      have : f.id ∈ (A.filter Fl.wide).map Fl.id := List.mem_map_of_mem (List.mem_filter.2 ⟨hf, hw⟩)
      rw [h.a1, List.drop_length] at this
      cases this
  have hA : A.filter (!·.wide) = A := List.filter_eq_self.2 fun f hf => by rw [ha f hf]; rfl
  have a2 := h.a2
  rw [hA] at a2
  rw [h.q, List.map_append, h.b1, a2, List.take_length]

theorem Turn.next {R L : List Int} {m : Int} {s : Sc} {A B : List Fl} (h : Turn R L R.length m s A B) (hm : 2 ≤ m) : Turn R L 0 (m - 1) s (A ++ B) [] := by
  have hB : ∀ f ∈ B, f.wide = true := fun f hf => by have := (h.fb f hf).2.2.1; unfold Fl.wide; simp; omega
  have hA1 : (A.filter Fl.wide).map Fl.id = [] := by rw [h.a1, List.drop_length]
  refine ⟨by rw [h.q, List.append_nil], ?_, ?_, by simp, ?_, by simp, h.fr, h.ok, h.ct⟩
  · rw [List.filter_append, List.map_append, hA1, List.filter_eq_self.2 hB, h.b1, List.take_length]; rfl
  · rw [List.filter_append, List.map_append, h.a2, List.filter_eq_nil_iff.2 (by intro f hf; simp [hB f hf])]; simp
  · intro f hf
    rcases List.mem_append.1 hf with hf | hf
    · obtain ⟨h1, h2, h0, h3⟩ := h.fa f hf
      exact ⟨h1, by omega, h0, fun k => by have := h3 k; omega⟩
    · obtain ⟨h1, h2, h3, h4⟩ := h.fb f hf
      exact ⟨h1, h2, ⟨by omega, h4⟩, fun _ => h3⟩

theorem Turn.step {R L : List Int} {i : Nat} {m c : Int} {s : Sc} {A B : List Fl} (h : Turn R L i m s A B) (hi : i < R.length) (hm : 3 ≤ m) (hc : 10 ≤ c) (hw : 1 ≤ s.win) :
    ∃ x s' A' B', R[i]? = some x ∧ s.next c = (some (x, 1, false), s') ∧ Turn R L (i + 1) m s' A' B' ∧ s'.win = s.win - 1 ∧ s'.q.length = s.q.length := by
  have hx : R[i]? = some R[i] := by simp [hi]
  have a1 := h.a1
  rw [List.drop_eq_getElem_cons hi] at a1
  obtain ⟨l1, f, l2, rfl, h1, h2, h3, h4⟩ := first_wide a1
  obtain ⟨f1, f2, f0, f3⟩ := h.fa f (by simp)
  replace f3 := f3 h2
  have hready : f.ready s.win = true := by
    unfold Fl.ready
    simp
    left
    omega
  have hnr : ∀ g ∈ l1, g.ready s.win = false := by
    intro g hg
    have := h1 g hg
    obtain ⟨g1, g2, _⟩ := h.fa g (by simp [hg])
    unfold Fl.wide at this
    unfold Fl.ready
    simp at this ⊢
    exact ⟨fun _ _ => by omega, fun _ => g1⟩
  have hp : pick s.win s.q = some (l1, f, l2 ++ B) := pick_some.2 ⟨by rw [h.q]; simp, hnr, hready⟩
  have ham : s.amount f c = 1 := by
    unfold Sc.amount
    rw [if_pos (by omega), h.fr]
    omega
  have hlast : f.last 1 = false := by unfold Fl.last; rw [f1]; rfl
  have hn : s.next c = (some (R[i], 1, false), { s with q := l1 ++ (l2 ++ B) ++ [f.less 1], win := s.win - 1 }) := by
    unfold Sc.next
    rw [if_neg (by omega), hp]
    simp only [ham]
    rw [if_neg (by omega), hlast, h3]
    simp
  refine ⟨R[i], _, l1 ++ l2, B ++ [f.less 1], hx, hn, ⟨by simp, ?_, ?_, ?_, ?_, ?_, h.fr, h.ok.next hn, h.ct⟩, rfl, ?_⟩
  · rw [List.filter_append, List.filter_eq_nil_iff.2 (by intro g hg; simp [h1 g hg]), List.nil_append, h4]
  · have := h.a2
    rw [List.filter_append, List.filter_cons_of_neg (by simp [h2]), ← List.filter_append] at this
    exact this
  · rw [List.map_append, h.b1, List.map_singleton, show (f.less 1).id = f.id from rfl, h3, List.take_add_one, hx]
    rfl
  · intro g hg
    exact h.fa g (by rcases List.mem_append.1 hg with hg | hg <;> simp [hg])
  · intro g hg
    rcases List.mem_append.1 hg with hg | hg
    · exact h.fb g hg
    · rw [List.mem_singleton.1 hg]
      exact ⟨f1, by show m - 1 ≤ f.wait - 1; omega, by show m - 1 ≤ f.win - 1; omega, by show f.win - 1 ≤ 100; omega⟩
  · rw [h.q]; simp; omega

/-- the streams as they are opened -/
structure Built (n : Nat) (R L W : List Int) (q : List Fl) : Prop where
  a1 : (q.filter Fl.wide).map Fl.id = R
  a2 : (q.filter (!·.wide)).map Fl.id = L
  ids : q.map Fl.id = W
  w : W = (List.range n).map fun j : Nat => (j : Int) + 1
  f : ∀ f ∈ q, f.fin = false ∧ f.wait = 50 ∧ (f.win = 0 ∨ f.win = 100)

theorem Built.nil : Built 0 [] [] [] [] := ⟨rfl, rfl, rfl, rfl, by simp⟩
theorem Built.mem {n : Nat} {R L W : List Int} {q : List Fl} (h : Built n R L W q) : ∀ f ∈ q, ∃ j, j < n ∧ f.id = (j : Int) + 1 := by
  intro f hf
  have : f.id ∈ q.map Fl.id := List.mem_map_of_mem hf
  rw [h.ids, h.w] at this
  obtain ⟨j, hj, e⟩ := List.mem_map.1 this
  exact ⟨j, List.mem_range.1 hj, e.symm⟩
theorem Built.ne {n : Nat} {R L W : List Int} {q : List Fl} (h : Built n R L W q) : ∀ f ∈ q, f.id ≠ (n : Int) + 1 := by
  intro f hf
  obtain ⟨j, hj, e⟩ := h.mem f hf
  omega
theorem Built.len {n : Nat} {R L W : List Int} {q : List Fl} (h : Built n R L W q) : q.length = n ∧ W.length = n ∧ R.length + L.length = n := by
  have h1 : W.length = n := by rw [h.w]; simp
  have h2 : q.length = n := by rw [← h1, ← h.ids]; simp
  refine ⟨h2, h1, ?_⟩
  rw [← h2, ← h.a1, ← h.a2]
  simp only [List.length_map]
  clear h h1 h2
  induction q with
  | nil => rfl
  | cons g q ih =>
    cases hg : g.wide
    · rw [List.filter_cons_of_neg (by simp [hg]), List.filter_cons_of_pos (by simp [hg])]
      simp only [List.length_cons]; omega
    · rw [List.filter_cons_of_pos (by simp [hg]), List.filter_cons_of_neg (by simp [hg])]
      simp only [List.length_cons]; omega

theorem Built.wide {n : Nat} {R L W : List Int} {q : List Fl} (h : Built n R L W q) : Built (n + 1) (R ++ [(n : Int) + 1]) L (W ++ [(n : Int) + 1]) (q ++ [⟨(n : Int) + 1, 100, 0 + 50, false⟩]) := by
  refine ⟨?_, ?_, ?_, ?_, ?_⟩
  · rw [List.filter_append, List.map_append, h.a1]; rfl
  · rw [List.filter_append, List.map_append, h.a2]; simp [Fl.wide]
  · rw [List.map_append, h.ids]; rfl
  · rw [List.range_succ, List.map_append, h.w]; rfl
  · intro f hf
    rcases List.mem_append.1 hf with hf | hf
    · exact h.f f hf
    · rw [List.mem_singleton.1 hf]; exact ⟨rfl, rfl, .inr rfl⟩
theorem Built.narrow {n : Nat} {R L W : List Int} {q : List Fl} (h : Built n R L W q) : Built (n + 1) R (L ++ [(n : Int) + 1]) (W ++ [(n : Int) + 1]) (q ++ [⟨(n : Int) + 1, 0, 0 + 50, false⟩]) := by
  refine ⟨?_, ?_, ?_, ?_, ?_⟩
  · rw [List.filter_append, List.map_append, h.a1]; simp [Fl.wide]
  · rw [List.filter_append, List.map_append, h.a2]; rfl
  · rw [List.map_append, h.ids]; rfl
  · rw [List.range_succ, List.map_append, h.w]; rfl
  · intro f hf
    rcases List.mem_append.1 hf with hf | hf
    · exact h.f f hf
    · rw [List.mem_singleton.1 hf]; exact ⟨rfl, rfl, .inl rfl⟩

theorem Built.turn {n : Nat} {R L W : List Int} {q : List Fl} (h : Built n R L W q) (hn : n ≤ 10) : Turn R L 0 50 ⟨[], q, 65535, 1⟩ q [] := by
  refine ⟨by simp, by rw [h.a1]; rfl, h.a2, by simp, ?_, by simp, rfl, ⟨?_, by show (-2147483647 : Int) ≤ 65535; decide, by show (65535 : Int) ≤ 2147483647; decide, by show (1 : Int) ≤ 1; decide, by show (1 : Int) ≤ 16777215; decide⟩, rfl⟩
  · intro f hf
    obtain ⟨h1, h2, h3⟩ := h.f f hf
    exact ⟨h1, by omega, by omega, fun k => by unfold Fl.wide at k; simp at k; omega⟩
  · intro f hf
    obtain ⟨h1, h2, h3⟩ := h.f f hf
    obtain ⟨j, hj, e⟩ := h.mem f hf
    exact ⟨by omega, by omega, by omega, by omega, by omega, by omega⟩

/-- between: of L the first i have got a window -/
structure Gr (L W : List Int) (i : Nat) (m : Int) (s : Sc) : Prop where
  a2 : (s.q.filter (!·.wide)).map Fl.id = L.drop i
  ids : s.q.map Fl.id = W
  f : ∀ f ∈ s.q, f.fin = false ∧ m ≤ f.wait ∧ (0 ≤ f.win ∧ f.win ≤ 100) ∧ (f.wide = true → m ≤ f.win)
  fr : s.frame = 1
  ok : s.Ok
  ct : s.ctl = []

theorem Gr.step {L W : List Int} {i : Nat} {m : Int} {s : Sc} (h : Gr L W i m s) (hi : i < L.length) (hW : W.Nodup) (hm1 : 1 ≤ m) (hm : m ≤ 50) :
    ∃ x l1 f l2, L[i]? = some x ∧ 1 ≤ x ∧ s.q = l1 ++ f :: l2 ∧ f.id = x ∧ (∀ g ∈ l1, g.id ≠ x) ∧ f.win + 100 ≤ 2147483647 ∧ -2147483647 ≤ f.win ∧ Gr L W (i + 1) m { s with q := l1 ++ { f with win := f.win + 100 } :: l2 } := by
  have hx : L[i]? = some L[i] := by simp [hi]
  have a2 := h.a2
  rw [List.drop_eq_getElem_cons hi] at a2
  obtain ⟨l1, f, l2, hq, h1, h2, h3, h4⟩ := first_narrow a2
  obtain ⟨f1, f2, f0, f3⟩ := h.f f (by rw [hq]; simp)
  have hids := h.ids
  rw [hq, List.map_append, List.map_cons] at hids
  have fok := h.ok.fl f (by rw [hq]; simp)
  have fw : f.win = 0 := by unfold Fl.wide at h2; simp at h2; omega
  have i1 := fok.i1
  refine ⟨L[i], l1, f, l2, hx, by omega, hq, h3, ?_, by omega, by omega, ?_⟩
  · intro g hg e
    rw [← hids] at hW
    have := (List.nodup_append.1 hW).2.2 g.id (List.mem_map_of_mem hg) f.id (List.mem_cons_self ..)
    exact this (by rw [e, h3])
  · have hmem : ∀ g ∈ l1 ++ { f with win := f.win + 100 } :: l2, g ∈ s.q ∨ g = { f with win := f.win + 100 } := by
      intro g hg
      rw [hq]
      rcases List.mem_append.1 hg with hg | hg
      · left; simp [hg]
      · rcases List.mem_cons.1 hg with hg | hg
        · right; exact hg
        · left; simp [hg]
    refine ⟨?_, by rw [← hids]; simp, ?_, h.fr, ⟨?_, h.ok.w1, h.ok.w2, h.ok.f1, h.ok.f2⟩, h.ct⟩
    · rw [List.filter_append, List.filter_eq_nil_iff.2 (by intro g hg; simp [h1 g hg]), List.nil_append, List.filter_cons_of_neg (by simp [Fl.wide]; omega), h4]
    · intro g hg
      rcases hmem g hg with hg | rfl
      · exact h.f g hg
      · exact ⟨f1, f2, ⟨by show 0 ≤ f.win + 100; omega, by show f.win + 100 ≤ 100; omega⟩, fun _ => by show m ≤ f.win + 100; omega⟩
    · intro g hg
      rcases hmem g hg with hg | rfl
      · exact h.ok.fl g hg
      · exact ⟨by show -2147483647 ≤ f.win + 100; omega, by show f.win + 100 ≤ 2147483647; omega, fok.o1, fok.o2, fok.i1, fok.i2⟩

theorem Turn.gr {R L W : List Int} {m : Int} {s : Sc} {A : List Fl} (h : Turn R L 0 m s A []) (hW : s.q.map Fl.id = W) : Gr L W 0 m s := by
  have e : s.q = A := by rw [h.q, List.append_nil]
  exact ⟨by rw [e, h.a2]; rfl, hW, by rw [e]; exact h.fa, h.fr, h.ok, h.ct⟩

theorem Gr.done {L W : List Int} {m : Int} {s : Sc} (h : Gr L W L.length m s) : Turn W [] 0 m s s.q [] := by
  have hA : ∀ f ∈ s.q, f.wide = true := by
    intro f hf
    cases hw : f.wide with
    | true => rfl
    | false =>
      have : f.id ∈ (s.q.filter (!·.wide)).map Fl.id := List.mem_map_of_mem (List.mem_filter.2 ⟨hf, by rw [hw]; rfl⟩)
      rw [h.a2, List.drop_length] at this
      cases this
  refine ⟨by simp, by rw [List.filter_eq_self.2 hA, h.ids]; rfl, by rw [h.a2, List.drop_length], by simp, ?_, by simp, h.fr, h.ok, h.ct⟩
  intro f hf
  exact h.f f hf

theorem Built.nodup {n : Nat} {R L W : List Int} {q : List Fl} (h : Built n R L W q) : W.Nodup ∧ (L ++ R).Nodup := by
  have hW : W.Nodup := by
    rw [h.w]
    unfold List.Nodup
    rw [List.pairwise_map]
    exact List.nodup_range.imp fun h e => h (by omega)
  refine ⟨hW, ?_⟩
  have hp : ((q.filter (!·.wide) ++ q.filter Fl.wide).map Fl.id).Perm (q.map Fl.id) := by
    have := List.filter_append_perm Fl.wide q
    exact (List.perm_append_comm.trans this).map _
  rw [List.map_append, h.a1, h.a2, h.ids] at hp
  exact hp.nodup_iff.2 hW

theorem arg_bools {H : Type} {enc : TypeId × Value → H} {P : Program} {W : World} {t e : TypeId} {v : Value} {d : DataW H} (ht : P.underlying t = some (.slice e)) (hc : P.cellsOf e = 1) (he : P.underlying e = some .bool) (h : Arg enc P W t v d) :
    ∃ n xs, rd W 1 v n xs ∧ ∀ i, i < n → ∃ b, xs[i]? = some (.bool b) := by
  obtain ⟨n, xs, hr, hd, hel⟩ := arg_slice ht hc h
  refine ⟨n, xs, hr, fun i hi => ?_⟩
  obtain ⟨di, h1⟩ := hel i hi
  obtain ⟨x, e1⟩ := rdc_bool he h1
  refine ⟨x, ?_⟩
  have := congrArg (·[0]?) e1
  simpa using this
end Go.Proofs.Ytbekaeahedkeoaa.schedQueue
