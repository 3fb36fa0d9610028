
/-
  SchedWindows, in plain Lean: what there is, is what was put and granted.
-/
import Derived.Test.YtbekaeahedkeoaaSchArg
import Derived.Test.YtbekaeahedkeoaaSlSet
namespace Go.Proofs.Ytbekaeahedkeoaa.schedWindows
open Go.RowKit Go.Sl Go.ChangeShapes

theorem fcs_at {F : List F3} {i : Nat} {g : F3} (h : F[i]? = some g) : ((fcs F).drop (i * 3)).take 3 = g.cs := by
  induction F generalizing i with
  | nil => simp at h
  | cons f F ih =>
    cases i with
    | zero => simp at h; subst h; simp [fcs, F3.cs]
    | succ i =>
      rw [List.getElem?_cons_succ] at h
      have e : (fcs (f :: F)).drop ((i + 1) * 3) = (fcs F).drop (i * 3) := by
        show (f.cs ++ fcs F).drop _ = _
        rw [List.drop_append, List.drop_eq_nil_of_le (by show 3 ≤ (i + 1) * 3; omega)]
        simp [F3.cs, show (i + 1) * 3 - 3 = i * 3 by omega]
      rw [e]
      exact ih h

theorem fcs_split {F : List F3} {i : Nat} {g : F3} (h : F[i]? = some g) : ∃ K L, F = K ++ g :: L ∧ K.length = i ∧ fcs F = fcs K ++ (g.cs ++ fcs L) ∧ (fcs K).length = i * 3 := by
  have hi := (List.getElem?_eq_some_iff.1 h).1
  have e : F = F.take i ++ g :: F.drop (i + 1) := by
    have := List.getElem?_eq_some_iff.1 h
    rw [← this.2, List.getElem_cons_drop, List.take_append_drop]
  refine ⟨F.take i, F.drop (i + 1), e, by simp; omega, ?_, by rw [fcs_len, List.length_take]; congr 1; omega⟩
  rw [e]
  simp only [fcs, List.flatMap_append, List.flatMap_cons, List.append_assoc]
  rw [← e]

theorem set_app {K : List Value} {L : List Value} {n o : Nat} {v : Value} (h : K.length = n) : (K ++ L).set (n + o) v = K ++ L.set o v := by
  rw [List.set_append_right _ _ (by omega), h, Nat.add_sub_cancel_left]

theorem fcs_set0 {F : List F3} {i : Nat} {g : F3} (h : F[i]? = some g) (x : Int) : (fcs F).set (i * 3) (.int .i64 x) = fcs (F.set i (x, g.2.1, g.2.2)) := by
  obtain ⟨K, L, e, hK, h1, h2⟩ := fcs_split h
  have e2 : F.set i (x, g.2.1, g.2.2) = K ++ (x, g.2.1, g.2.2) :: L := by
    rw [e, List.set_append_right _ _ (by omega), hK, Nat.sub_self]; rfl
  rw [h1, show i * 3 = i * 3 + 0 from rfl, set_app h2, e2]
  simp [fcs, F3.cs]
theorem fcs_set1 {F : List F3} {i : Nat} {g : F3} (h : F[i]? = some g) (x : Int) : (fcs F).set (i * 3 + (0 + 1)) (.int .i64 x) = fcs (F.set i (g.1, x, g.2.2)) := by
  obtain ⟨K, L, e, hK, h1, h2⟩ := fcs_split h
  have e2 : F.set i (g.1, x, g.2.2) = K ++ (g.1, x, g.2.2) :: L := by
    rw [e, List.set_append_right _ _ (by omega), hK, Nat.sub_self]; rfl
  rw [h1, set_app h2, e2]
  simp [fcs, F3.cs]
theorem fcs_put {F : List F3} {i : Nat} {g : F3} (h : F[i]? = some g) (x : F3) : (fcs F).take (i * 3) ++ x.cs ++ (fcs F).drop (i * 3 + 3) = fcs (F.set i x) := by
  obtain ⟨K, L, e, hK, h1, h2⟩ := fcs_split h
  have e2 : F.set i x = K ++ x :: L := by
    rw [e, List.set_append_right _ _ (by omega), hK, Nat.sub_self]; rfl
  rw [h1, e2, ← h2, List.take_left', ← List.drop_drop, List.drop_left']
  · simp [fcs, F3.cs]
  · rfl
  · rfl

/-- what the statement keeps is what the scheduler holds -/
structure Inv (most : Int) (F : List F3) (s : Sc) (i : Nat) : Prop where
  q : ∀ f ∈ s.q, ∃ (j : Nat) (g : F3), F[j]? = some g ∧ f = ⟨2 * (j : Int) + 1, g.1, g.2.1, g.2.2⟩
  pw : s.q.Pairwise (fun f g => f.id ≠ g.id)
  len : F.length ≤ 30
  fb : ∀ f ∈ s.q, -1000 ≤ f.win ∧ f.win ≤ 1047575 + 65535 * i ∧ 0 ≤ f.wait ∧ f.wait ≤ 1048575
  w0 : 0 ≤ s.win
  w1 : s.win ≤ 65535 + 65535 * i
  fr : s.frame = min (max most 1) 16777215
  ct : s.ctl = []
  ql : s.q.length ≤ 30

theorem Inv.ok {most : Int} {F : List F3} {s : Sc} {i : Nat} (h : Inv most F s i) (hi : i ≤ 200) : s.Ok := by
  refine ⟨?_, ?_, ?_, ?_, ?_⟩
  · intro f hf
    obtain ⟨j, g, h1, h2⟩ := h.q f hf
    have hj := (List.getElem?_eq_some_iff.1 h1).1
    have := h.fb f hf
    have := h.len
    exact ⟨by omega, by omega, by omega, by omega, by rw [h2]; show 1 ≤ 2 * (j : Int) + 1; omega, by rw [h2]; show 2 * (j : Int) + 1 ≤ 2147483647; omega⟩
  · have := h.w0; omega
  · have := h.w1; omega
  · have := h.fr; omega
  · have := h.fr; omega

theorem Inv.up {most : Int} {F : List F3} {s : Sc} {i : Nat} (h : Inv most F s i) : Inv most F s (i + 1) := by
  refine ⟨h.q, h.pw, h.len, ?_, h.w0, ?_, h.fr, h.ct, h.ql⟩
  · intro f hf
    have := h.fb f hf
    omega
  · have := h.w1; omega

theorem Inv.start {most : Int} {F : List F3} (hl : F.length ≤ 30) (hF : ∀ f ∈ F, FOk f) : Inv most F ⟨[], mkQ 0 F, 65535, min (max most 1) 16777215⟩ 0 := by
  have hm : ∀ f ∈ mkQ 0 F, ∃ (j : Nat) (g : F3), F[j]? = some g ∧ f = ⟨2 * (j : Int) + 1, g.1, g.2.1, g.2.2⟩ := by
    intro f hf
    obtain ⟨j, g, h1, rfl⟩ := mkQ_mem hf
    exact ⟨j, g, h1, by congr 3; omega⟩
  refine ⟨hm, ?_, hl, ?_, by show (0 : Int) ≤ 65535; decide, by show (65535 : Int) ≤ 65535 + 65535 * ((0 : Nat) : Int); decide, rfl, rfl, by show (mkQ 0 F).length ≤ 30; rw [mkQ_len]; exact hl⟩
  · show (mkQ 0 F).Pairwise _
    generalize 0 = k
    clear hl hF hm
    induction F generalizing k with
    | nil => exact List.Pairwise.nil
    | cons f F ih =>
      refine List.Pairwise.cons ?_ (ih (k + 1))
      intro g hg
      obtain ⟨j, x, _, rfl⟩ := mkQ_mem hg
      simp only
      omega
  · intro f hf
    obtain ⟨j, g, h1, rfl⟩ := hm f hf
    have := hF g (List.mem_of_getElem? h1)
    exact ⟨this.w1, by have := this.w2; show g.1 ≤ _; omega, this.o1, this.o2⟩

/-- both grants -/
theorem Inv.grant {most : Int} {F : List F3} {s : Sc} {i n t : Nat} (h : Inv most F s i) (hn : n ≤ 65535) (hi : i ≤ 200) :
    ((∀ x ∈ s.q, x.id ≠ 2 * (t : Int) + 1) ∧ Inv most F { s with win := s.win + (n : Int) } (i + 1)) ∨
    ∃ (l1 : List Fl) (f : Fl) (l2 : List Fl) (g : F3), s.q = l1 ++ f :: l2 ∧ (∀ x ∈ l1, x.id ≠ 2 * (t : Int) + 1) ∧ f.id = 2 * (t : Int) + 1 ∧ F[t]? = some g ∧ f.win + (n : Int) ≤ 2147483647 ∧ -2147483647 ≤ f.win ∧ g.1 = f.win ∧
      Inv most (F.set t (g.1 + (n : Int), g.2.1, g.2.2)) { s with q := l1 ++ { f with win := f.win + (n : Int) } :: l2, win := s.win + (n : Int) } (i + 1) := by
  have hw0 := h.w0
  have hw1 := h.w1
  by_cases hx : ∀ x ∈ s.q, x.id ≠ 2 * (t : Int) + 1
  · left
    exact ⟨hx, h.q, h.pw, h.len, h.up.fb, by show 0 ≤ s.win + n; omega, by show s.win + n ≤ _; omega, h.fr, h.ct, h.ql⟩
  · right
    obtain ⟨f, hf, hid⟩ : ∃ f ∈ s.q, f.id = 2 * (t : Int) + 1 := by
      simpa using hx
    obtain ⟨l1, l2, hq⟩ := List.append_of_mem hf
    obtain ⟨j, g, hg, hfg⟩ := h.q f hf
    obtain rfl : t = j := by rw [hfg] at hid; simp only at hid; omega
    have hpw := h.pw
    rw [hq] at hpw
    have hb := h.fb f hf
    have hp := List.pairwise_append.1 hpw
    have hne1 : ∀ x ∈ l1, x.id ≠ 2 * (t : Int) + 1 := fun x hx => by
      have := hp.2.2 x hx f (List.mem_cons_self ..)
      rwa [hid] at this
    have hne2 : ∀ x ∈ l2, x.id ≠ 2 * (t : Int) + 1 := fun x hx => by
      have := (List.pairwise_cons.1 hp.2.1).1 x hx
      rw [hid] at this
      exact fun e => this e.symm
    have gw : g.1 = f.win := by rw [hfg]
    refine ⟨l1, f, l2, g, hq, hne1, hid, hg, by omega, by omega, gw, ⟨?_, ?_, by simpa using h.len, ?_, by show 0 ≤ s.win + n; omega, by show s.win + n ≤ _; omega, h.fr, h.ct, ?_⟩⟩
    · have hold : ∀ x, (x ∈ l1 ∨ x ∈ l2) → ∃ (j : Nat) (g' : F3), (F.set t (g.1 + (n : Int), g.2.1, g.2.2))[j]? = some g' ∧ x = ⟨2 * (j : Int) + 1, g'.1, g'.2.1, g'.2.2⟩ := by
        intro x hx
        obtain ⟨j, g', h1, h2⟩ := h.q x (by rw [hq]; rcases hx with hx | hx <;> simp [hx])
        have hne : x.id ≠ 2 * (t : Int) + 1 := by rcases hx with hx | hx; exact hne1 x hx; exact hne2 x hx
        refine ⟨j, g', ?_, h2⟩
        rw [List.getElem?_set_ne (by intro e; rw [h2] at hne; simp only at hne; omega), h1]
      intro x hx
      rcases List.mem_append.1 hx with hx | hx
      · exact hold x (.inl hx)
      · rcases List.mem_cons.1 hx with rfl | hx
        · refine ⟨t, (g.1 + (n : Int), g.2.1, g.2.2), List.getElem?_set_self (List.getElem?_eq_some_iff.1 hg).1, ?_⟩
          rw [hfg]
        · exact hold x (.inr hx)
    · show (l1 ++ _ :: l2).Pairwise _
      rw [List.pairwise_append, List.pairwise_cons] at hpw ⊢
      refine ⟨hpw.1, ⟨fun x hx => hpw.2.1.1 x hx, hpw.2.1.2⟩, fun x hx y hy => ?_⟩
      rcases List.mem_cons.1 hy with rfl | hy
      · exact hpw.2.2 x hx f (List.mem_cons_self ..)
      · exact hpw.2.2 x hx y (List.mem_cons_of_mem _ hy)
    · intro x hx
      have hold : ∀ x, (x ∈ l1 ∨ x ∈ l2) → _ := fun x hx => h.up.fb x (by rw [hq]; rcases hx with hx | hx <;> simp [hx])
      rcases List.mem_append.1 hx with hx | hx
      · exact hold x (.inl hx)
      · rcases List.mem_cons.1 hx with rfl | hx
        · exact ⟨by show -1000 ≤ f.win + n; omega, by show f.win + n ≤ _; omega, hb.2.2.1, hb.2.2.2⟩
        · exact hold x (.inr hx)
    · have := h.ql
      rw [hq] at this
      simpa using this

/-- one piece -/
theorem Inv.next {most c id m : Int} {e : Bool} {F : List F3} {s s' : Sc} {i : Nat} (h : Inv most F s i) (hn : s.next c = (some (id, m, e), s')) :
    ∃ (j : Nat) (gw go : Int) (ge : Bool), F[j]? = some (gw, go, ge) ∧ id = 2 * (j : Int) + 1 ∧ 0 ≤ m ∧ m + 9 ≤ c ∧ m ≤ max most 1 ∧ m ≤ 16777215 ∧ (m = 0 → e = true) ∧ (0 < m → m ≤ gw ∧ m ≤ s.win) ∧ m ≤ go ∧ (e = true → go - m = 0 ∧ ge = true) ∧ s'.win = s.win - m ∧
      (-1000 ≤ gw ∧ gw ≤ 1047575 + 65535 * i ∧ 0 ≤ go ∧ go ≤ 1048575) ∧
      Inv most (if e = true then F.set j (0, 0, false) else F.set j (gw - m, go - m, ge)) s' i := by
  obtain ⟨c9, l1, f, l2, hq, -, hr, rfl, hm, he, hpos, rfl⟩ := Sc.next_some hn
  have hf : f ∈ s.q := by rw [hq]; simp
  obtain ⟨j, ⟨gw, go, ge⟩, hg, hfg⟩ := h.q f hf
  obtain ⟨b1, b2, b3, b4⟩ := h.fb f hf
  have hfr := h.fr
  have hw0 := h.w0
  have hpw := h.pw
  rw [hq] at hpw
  have hj := (List.getElem?_eq_some_iff.1 hg).1
  have e1 : f.win = gw := by rw [hfg]
  have e2 : f.wait = go := by rw [hfg]
  have e3 : f.fin = ge := by rw [hfg]
  have e4 : f.id = 2 * (j : Int) + 1 := by rw [hfg]
  have hcase : (0 < f.wait ∧ 1 ≤ m ∧ m ≤ f.wait ∧ m ≤ f.win ∧ m ≤ s.win ∧ m ≤ s.frame ∧ m + 9 ≤ c) ∨ (f.wait = 0 ∧ f.fin = true ∧ m = 0) := by
    by_cases h0 : 0 < f.wait
    · left
      have := hpos h0
      unfold Sc.amount at hm
      rw [if_pos h0] at hm
      omega
    · right
      have : f.wait = 0 := by omega
      unfold Fl.ready at hr
      unfold Sc.amount at hm
      rw [if_neg h0] at hm
      simp [this] at hr
      exact ⟨this, hr, hm⟩
  have hlast : e = true → f.fin = true ∧ f.wait - m = 0 := by
    intro h1
    rw [he] at h1
    unfold Fl.last at h1
    simpa using h1
  refine ⟨j, gw, go, ge, hg, e4, by omega, by omega, by omega, by omega, ?_, by omega, by omega, ?_, rfl, by omega, ?_⟩
  · intro h0
    rcases hcase with hc | ⟨c1, c2, c3⟩
    · omega
    · rw [he]
      unfold Fl.last
      rw [c2, c1, h0]
      rfl
  · intro h1
    obtain ⟨k1, k2⟩ := hlast h1
    exact ⟨by omega, by rw [← e3, k1]⟩
  · have hold : ∀ y : F3, ∀ x ∈ l1 ++ l2, ∃ (j' : Nat) (g' : F3), (F.set j y)[j']? = some g' ∧ x = ⟨2 * (j' : Int) + 1, g'.1, g'.2.1, g'.2.2⟩ := by
      intro y x hx
      have hx' := List.mem_append.1 hx
      obtain ⟨j', g', h1, h2⟩ := h.q x (by rw [hq]; rcases hx' with hx | hx <;> simp [hx])
      have hp := List.pairwise_append.1 hpw
      have hne : x.id ≠ f.id := by
        rcases hx' with hx | hx
        · exact hp.2.2 x hx f (List.mem_cons_self ..)
        · exact fun e => (List.pairwise_cons.1 hp.2.1).1 x hx e.symm
      refine ⟨j', g', ?_, h2⟩
      rw [List.getElem?_set_ne (by intro e; rw [h2, e4] at hne; simp only at hne; omega), h1]
    have hpw2 : (l1 ++ l2).Pairwise (fun f g : Fl => f.id ≠ g.id) := by
      refine hpw.sublist ?_
      exact List.Sublist.append (List.Sublist.refl _) (List.sublist_cons_self _ _)
    have hql := h.ql
    rw [hq] at hql
    simp only [List.length_append, List.length_cons] at hql
    have hfb : ∀ x ∈ l1 ++ l2, -1000 ≤ x.win ∧ x.win ≤ 1047575 + 65535 * i ∧ 0 ≤ x.wait ∧ x.wait ≤ 1048575 := by
      intro x hx
      exact h.fb x (by rw [hq]; rcases List.mem_append.1 hx with hx | hx <;> simp [hx])
    rw [← he]
    by_cases hee : e = true
    · rw [if_pos hee, if_pos hee]
      simp only [List.append_nil]
      exact ⟨hold _, hpw2, by simpa using h.len, hfb, by show 0 ≤ s.win - m; omega, by have := h.w1; show s.win - m ≤ _; omega, h.fr, h.ct, by show (l1 ++ l2).length ≤ 30; rw [List.length_append]; omega⟩
    · rw [if_neg hee, if_neg hee]
      refine ⟨?_, ?_, by simpa using h.len, ?_, by show 0 ≤ s.win - m; omega, by have := h.w1; show s.win - m ≤ _; omega, h.fr, h.ct, by show (l1 ++ l2 ++ [f.less m]).length ≤ 30; simp only [List.length_append, List.length_singleton]; omega⟩
      · intro x hx
        rcases List.mem_append.1 hx with hx | hx
        · exact hold _ x hx
        · rw [List.mem_singleton.1 hx]
          exact ⟨j, _, List.getElem?_set_self hj, by unfold Fl.less; rw [hfg]⟩
      · show (l1 ++ l2 ++ [f.less m]).Pairwise _
        rw [List.pairwise_append]
        refine ⟨hpw2, List.pairwise_singleton _ _, ?_⟩
        intro x hx y hy
        rw [List.mem_singleton.1 hy]
        have hp := List.pairwise_append.1 hpw
        rcases List.mem_append.1 hx with hx | hx
        · exact hp.2.2 x hx f (List.mem_cons_self ..)
        · exact fun e => (List.pairwise_cons.1 hp.2.1).1 x hx e.symm
      · intro x hx
        rcases List.mem_append.1 hx with hx | hx
        · exact hfb x hx
        · rw [List.mem_singleton.1 hx]
          have : m = 0 ∨ 1 ≤ m := by omega
          exact ⟨by show -1000 ≤ f.win - m; omega, by show f.win - m ≤ _; omega, by show 0 ≤ f.wait - m; omega, by show f.wait - m ≤ _; omega⟩
end Go.Proofs.Ytbekaeahedkeoaa.schedWindows
