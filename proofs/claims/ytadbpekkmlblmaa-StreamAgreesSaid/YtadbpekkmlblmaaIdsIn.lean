
/-
  What is so of the streams of a connection at any time.
-/
import Derived.Test.YtadbpekkmlblmaaIds
namespace Go.Proofs.Ytadbpekkmlblmaa
open Go.RowKit Go.Sl

/-- is a number one that the other end opens? -/
def IdS.their (s : IdS) (x : Int) : Bool := (x % 2 == 1) == s.server

/-- what is so behind k steps -/
structure IdS.In (s : IdS) (k : Nat) : Prop where
  len : s.act.length ≤ k
  most0 : 0 ≤ s.most
  most1 : s.most ≤ 9223372036854775807
  lim0 : 0 ≤ s.limit
  lim1 : s.limit ≤ 9223372036854775807
  next0 : 1 ≤ s.next
  next1 : s.next ≤ 2147483649
  last0 : 0 ≤ s.last
  last1 : s.last ≤ 2147483647
  nodup : s.act.Nodup
  pos : ∀ x ∈ s.act, 1 ≤ x
  their : ∀ x ∈ s.act, s.their x = true → x ≤ s.last
  ours : ∀ x ∈ s.act, s.their x = false → x < s.next
  cnt : s.theirs = s.act.countP s.their
  par : s.their s.next = false
  parL : 0 < s.last → s.their s.last = true

namespace IdS
variable {s : IdS} {k : Nat} {id : Int}

theorem In.ok (h : s.In k) : s.Ok k where
  len := h.len
  th0 := by rw [h.cnt]; omega
  th1 := by rw [h.cnt]; have := List.countP_le_length (p := s.their) (l := s.act); have := h.len; omega
  most0 := h.most0
  most1 := h.most1
  lim0 := h.lim0
  lim1 := h.lim1
  next0 := h.next0
  next1 := h.next1
  last0 := h.last0
  last1 := h.last1
  nodup := h.nodup

theorem In.mono {j : Nat} (h : s.In k) (hj : k ≤ j) : s.In j := { h with len := Nat.le_trans h.len hj }

theorem new_in (sv : Bool) (m : Int) (h1 : -9223372036854775808 ≤ m) (h2 : m ≤ 9223372036854775807) : (newIdS sv m).In 0 := by
  refine ⟨by simp [newIdS], by simp only [newIdS]; omega, by simp only [newIdS]; omega, by simp [newIdS], by simp [newIdS], ?_, ?_, by simp [newIdS], by simp [newIdS], by simp [newIdS], by simp [newIdS], by simp [newIdS], by simp [newIdS], by simp [newIdS], ?_, by simp [newIdS]⟩
  · cases sv <;> simp [newIdS]
  · cases sv <;> simp [newIdS]
  · cases sv <;> simp [newIdS, their]

theorem cls_one (s : IdS) (id : Int) : s.cls id = 1 ↔ 1 ≤ id ∧ id ≤ 2147483647 ∧ s.their id = true ∧ s.last < id := by
  unfold cls their
  by_cases h1 : id < 1 ∨ 2147483647 < id
  · rw [if_pos h1]; constructor
    · intro h; cases h
    · intro h; omega
  · rw [if_neg h1]
    by_cases h2 : (id % 2 == 1) = s.server
    · rw [if_pos h2]
      by_cases h3 : s.last < id
      · rw [if_pos h3]; simp [h2]; omega
      · rw [if_neg h3]; simp; omega
    · rw [if_neg h2]
      by_cases h3 : s.next ≤ id
      · rw [if_pos h3]; simp [h2]
      · rw [if_neg h3]; simp [h2]

theorem In.fresh (h : s.In k) (hl : s.last < id) (ht : s.their id = true) : id ∉ s.act := fun hm => by
  have := h.their id hm ht
  omega
theorem In.freshN (h : s.In k) : s.next ∉ s.act := fun hm => by
  have := h.ours _ hm h.par
  omega

theorem In.open (h : s.In k) (id : Int) : (s.opened id).1.In (k + 1) := by
  unfold opened
  by_cases hc : s.cls id = 1
  · rw [if_pos hc]
    obtain ⟨a1, a2, a3, a4⟩ := (cls_one s id).1 hc
    by_cases hm : s.most ≤ s.theirs
    · rw [if_pos hm]
      exact { len := Nat.le_succ_of_le h.len, most0 := h.most0, most1 := h.most1, lim0 := h.lim0, lim1 := h.lim1, next0 := h.next0, next1 := h.next1,
              last0 := by show 0 ≤ id; omega, last1 := a2, nodup := h.nodup, pos := h.pos,
              their := fun x hx ht => by have := h.their x hx ht; show x ≤ id; omega,
              ours := h.ours, cnt := h.cnt, par := h.par, parL := fun _ => a3 }
    · rw [if_neg hm]
      have hf := h.fresh a4 a3
      simp only [if_neg hf]
      exact { len := by have := h.len; simp only [List.length_cons]; omega, most0 := h.most0, most1 := h.most1, lim0 := h.lim0, lim1 := h.lim1, next0 := h.next0, next1 := h.next1,
              last0 := by show 0 ≤ id; omega, last1 := a2, nodup := List.nodup_cons.2 ⟨hf, h.nodup⟩,
              pos := fun x hx => by
                rcases List.mem_cons.1 hx with rfl | hx
                · exact a1
                · exact h.pos x hx,
              their := fun x hx ht => by
                show x ≤ id
                rcases List.mem_cons.1 hx with rfl | hx
                · exact Int.le_refl _
                · have := h.their x hx ht; omega,
              ours := fun x hx ht => by
                rcases List.mem_cons.1 hx with rfl | hx
                · have : s.their x = false := ht
                  rw [a3] at this; cases this
                · exact h.ours x hx ht,
              cnt := by
                show s.theirs + 1 = ((List.countP s.their (id :: s.act) : Nat) : Int)
                rw [List.countP_cons_of_pos a3, h.cnt]; rfl,
              par := h.par, parL := fun _ => a3 }
  · rw [if_neg hc]
    exact h.mono (Nat.le_succ k)

theorem their_two (s : IdS) (x : Int) : s.their (x + 2) = s.their x := by
  unfold their
  have : (x + 2) % 2 = x % 2 := by omega
  rw [this]

theorem In.next (h : s.In k) : s.nexted.1.In (k + 1) := by
  unfold nexted
  by_cases h1 : s.limit ≤ s.act.length - s.theirs
  · rw [if_pos h1]; exact h.mono (Nat.le_succ k)
  · rw [if_neg h1]
    by_cases h2 : 2147483647 < s.next
    · rw [if_pos h2]; exact h.mono (Nat.le_succ k)
    · rw [if_neg h2]
      have hf := h.freshN
      simp only [if_neg hf]
      exact { len := by have := h.len; simp only [List.length_cons]; omega, most0 := h.most0, most1 := h.most1, lim0 := h.lim0, lim1 := h.lim1,
              next0 := by have := h.next0; show 1 ≤ s.next + 2; omega, next1 := by show s.next + 2 ≤ _; omega,
              last0 := h.last0, last1 := h.last1, nodup := List.nodup_cons.2 ⟨hf, h.nodup⟩,
              pos := fun x hx => by
                rcases List.mem_cons.1 hx with rfl | hx
                · exact h.next0
                · exact h.pos x hx,
              their := fun x hx ht => by
                rcases List.mem_cons.1 hx with rfl | hx
                · have : s.their s.next = true := ht
                  rw [h.par] at this; cases this
                · exact h.their x hx ht,
              ours := fun x hx ht => by
                show x < s.next + 2
                rcases List.mem_cons.1 hx with rfl | hx
                · omega
                · have := h.ours x hx ht; omega,
              cnt := by
                show s.theirs = ((List.countP s.their (s.next :: s.act) : Nat) : Int)
                rw [List.countP_cons_of_neg (by rw [h.par]; decide), h.cnt],
              par := by show s.their (s.next + 2) = false; rw [their_two]; exact h.par, parL := h.parL }

theorem countP_erase' {p : Int → Bool} {x : Int} : ∀ {l : List Int}, x ∈ l → l.countP p = (l.erase x).countP p + if p x then 1 else 0
  | y :: l, h => by
    by_cases e : y = x
    · subst e; rw [List.erase_cons_head, List.countP_cons]
    · rw [List.erase_cons_tail (by simpa using e), List.countP_cons, List.countP_cons]
      have h' : x ∈ l := by rcases List.mem_cons.1 h with rfl | h; exact absurd rfl e; exact h
      have := countP_erase' (p := p) h'
      omega

theorem In.close (h : s.In k) (id : Int) : (s.closed id).1.In k := by
  unfold closed
  by_cases hm : id ∈ s.act
  · rw [if_pos hm]
    have hsub : ∀ x, x ∈ s.act.erase id → x ∈ s.act := fun x => List.mem_of_mem_erase
    have hc := countP_erase' (p := s.their) hm
    have h0 := h.cnt
    exact { len := by have := List.length_erase_of_mem hm; have := h.len; show (s.act.erase id).length ≤ k; omega,
            most0 := h.most0, most1 := h.most1, lim0 := h.lim0, lim1 := h.lim1, next0 := h.next0, next1 := h.next1, last0 := h.last0, last1 := h.last1,
            nodup := h.nodup.erase id, pos := fun x hx => h.pos x (hsub x hx), their := fun x hx => h.their x (hsub x hx), ours := fun x hx => h.ours x (hsub x hx),
            cnt := by
              show (if (id % 2 == 1) = s.server then s.theirs - 1 else s.theirs) = ((List.countP s.their (s.act.erase id) : Nat) : Int)
              by_cases e : (id % 2 == 1) = s.server
              · have : s.their id = true := by simpa [IdS.their] using e
                rw [this] at hc
                rw [if_pos e]
                simp at hc
                omega
              · have : s.their id = false := by simpa [IdS.their] using e
                rw [this] at hc
                rw [if_neg e]
                simp at hc
                omega,
            par := h.par, parL := h.parL }
  · rw [if_neg hm]; exact h

theorem In.setMost (h : s.In k) {n : Int} (h1 : -9223372036854775808 ≤ n) (h2 : n ≤ 9223372036854775807) : ({ s with most := max n 0 } : IdS).In k :=
  { h with most0 := by show 0 ≤ max n 0; omega, most1 := by show max n 0 ≤ _; omega, their := h.their, ours := h.ours, cnt := h.cnt, par := h.par, parL := h.parL }
theorem In.setLimit (h : s.In k) {n : Int} (h1 : -9223372036854775808 ≤ n) (h2 : n ≤ 9223372036854775807) : ({ s with limit := max n 0 } : IdS).In k :=
  { h with lim0 := by show 0 ≤ max n 0; omega, lim1 := by show max n 0 ≤ _; omega, their := h.their, ours := h.ours, cnt := h.cnt, par := h.par, parL := h.parL }

/-- a number of theirs up to the last one is past -/
theorem cls_past (h1 : 1 ≤ id) (h2 : id ≤ s.last) (h3 : s.last ≤ 2147483647) (ht : s.their id = true) : s.cls id = 2 := by
  have ht' : (id % 2 == 1) = s.server := by simpa [their] using ht
  unfold cls
  rw [if_neg (by omega), if_pos ht', if_neg (by omega)]
theorem cls_ours (h1 : 1 ≤ id) (h2 : id ≤ 2147483647) (ht : s.their id = false) : s.cls id = if s.next ≤ id then 3 else 4 := by
  have ht' : ¬ (id % 2 == 1) = s.server := by simpa [their] using ht
  unfold cls
  rw [if_neg (by omega), if_neg ht']
theorem opened_no (h : ¬ s.cls id = 1) : s.opened id = (s, [.bool true, .int .u32 1, .int .i64 0]) := by unfold opened; rw [if_neg h]
theorem opened_full (h : s.cls id = 1) (hm : s.most ≤ s.theirs) : s.opened id = ({ s with last := id }, [.bool true, .int .u32 7, .int .i64 id]) := by unfold opened; rw [if_pos h, if_pos hm]
theorem opened_yes (h : s.cls id = 1) (hm : ¬ s.most ≤ s.theirs) (hf : id ∉ s.act) : s.opened id = ({ s with last := id, act := id :: s.act, theirs := s.theirs + 1 }, [.bool false, .int .u32 0, .int .i64 0]) := by
  unfold opened; rw [if_pos h, if_neg hm, if_neg hf]
theorem nexted_full (h : s.limit ≤ s.act.length - s.theirs) : s.nexted = (s, 0, 5) := by unfold nexted; rw [if_pos h]
theorem nexted_out (h : ¬ s.limit ≤ s.act.length - s.theirs) (h2 : 2147483647 < s.next) : s.nexted = (s, 0, 8) := by unfold nexted; rw [if_neg h, if_pos h2]
theorem nexted_yes (h : ¬ s.limit ≤ s.act.length - s.theirs) (h2 : ¬ 2147483647 < s.next) (hf : s.next ∉ s.act) : s.nexted = ({ s with next := s.next + 2, act := s.next :: s.act }, s.next, 0) := by
  unfold nexted; rw [if_neg h, if_neg h2, if_neg hf]
theorem opened_fst (s : IdS) (id : Int) : (s.opened id).1.server = s.server ∧ (s.opened id).1.most = s.most ∧ (s.opened id).1.limit = s.limit ∧ (s.opened id).1.next = s.next ∧ (s.opened id).1.last = if s.cls id = 1 then id else s.last := by
  unfold opened
  by_cases h : s.cls id = 1
  · rw [if_pos h, if_pos h]
    by_cases hm : s.most ≤ s.theirs
    · rw [if_pos hm]; exact ⟨rfl, rfl, rfl, rfl, rfl⟩
    · rw [if_neg hm]; exact ⟨rfl, rfl, rfl, rfl, rfl⟩
  · rw [if_neg h, if_neg h]; exact ⟨rfl, rfl, rfl, rfl, rfl⟩
theorem closed_fst (s : IdS) (id : Int) : (s.closed id).1.server = s.server ∧ (s.closed id).1.most = s.most ∧ (s.closed id).1.limit = s.limit ∧ (s.closed id).1.next = s.next ∧ (s.closed id).1.last = s.last := by
  unfold closed
  by_cases h : id ∈ s.act
  · rw [if_pos h]; exact ⟨rfl, rfl, rfl, rfl, rfl⟩
  · rw [if_neg h]; exact ⟨rfl, rfl, rfl, rfl, rfl⟩
end IdS

section
variable {B w : World} {R : Assn} {a : Nat} {s s' : IdS}
theorem classE {id r : Int} (h : Own B (idsA a s * R) w) (i1 : -9223372036854775808 ≤ id) (i2 : id ≤ 9223372036854775807) (hr : s.cls id = r) :
    Calls Try.prog 14 #[.pointer (some ⟨a, 0, none⟩), .int .i64 id] w fun e w' => e = .returned (.int .i64 r) ∧ Own B (idsA a s * R) w' := by
  have := classI h i1 i2; rw [hr] at this; exact this
theorem closeE {id r : Int} {n : Nat} (h : Own B (idsA a s * R) w) (ok : s.Ok n) (hn : n ≤ 1000000) (hpos : id ∈ s.act → 1 ≤ id) (i1 : -9223372036854775808 ≤ id) (i2 : id ≤ 9223372036854775807) (e : s.closed id = (s', r)) :
    Calls Try.prog 17 #[.pointer (some ⟨a, 0, none⟩), .int .i64 id] w fun e w' => e = .returned (.int .i64 r) ∧ Own B (idsA a s' * R) w' := by
  have := closeI h ok hn hpos i1 i2; rw [e] at this; exact this
theorem lastE {r : Int} (h : Own B (idsA a s * R) w) (hr : s.last = r) : Calls Try.prog 18 #[.pointer (some ⟨a, 0, none⟩)] w fun e w' => e = .returned (.int .i64 r) ∧ Own B (idsA a s * R) w' := by
  have := lastI h; rw [hr] at this; exact this
end
end Go.Proofs.Ytadbpekkmlblmaa
