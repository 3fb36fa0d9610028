




/-
  Floats of sixty-four bits by their words: sums of weights, the place of a draw among them, and who is picked.
  Condition: none (plain lemmas).
-/
import Ieee.Arith
import Derived.Laws.FloatArith
namespace Go.Fl
open Ieee

theorem pow52 : double.binade = 2 ^ 52 := rfl
theorem least : double.leastPlace = -1074 := by decide
theorem infR : double.infRung = 2047 * 2 ^ 52 := by decide
theorem signW : double.signWeight = 2 ^ 63 := by decide

/-- the word of no sign and this rung, read: a number whose size in units of the least place is bounded -/
theorem read_pos {x N : Nat} (hN : 1 ≤ N) (h1 : x ≤ N * 2 ^ 52) (h2 : N < 2047) : ∃ m p : Nat, double.read x = .number false m ((p : Int) - 1074) ∧ m * 2 ^ p ≤ 2 ^ (N + 51) ∧ x = p * 2 ^ 52 + m ∧ m < 2 ^ 53 ∧ (2 ^ 52 ≤ m ∨ p = 0) := by
  have hx : x < 2 ^ 63 := by
    have : N * 2 ^ 52 ≤ 2047 * 2 ^ 52 := Nat.mul_le_mul_right _ (by omega)
    omega
  have e1 : x / double.signWeight % 2 = 0 := by rw [signW, Nat.div_eq_of_lt hx]
  have e2 : x % double.signWeight = x := by rw [signW, Nat.mod_eq_of_lt hx]
  unfold Format.read
  rw [e1, e2]
  by_cases h : x < double.binade
  · refine ⟨x, 0, ?_, ?_, by omega, by rw [pow52] at h; omega, .inr rfl⟩
    · rw [if_pos h, least]
      rfl
    · rw [pow52] at h
      have : 2 ^ 52 ≤ 2 ^ (N + 51) := Nat.pow_le_pow_right (by omega) (by omega)
      omega
  · have hr : x < double.infRung := by
      rw [infR]
      have : N * 2 ^ 52 ≤ 2046 * 2 ^ 52 := Nat.mul_le_mul_right _ (by omega)
      omega
    have hf0 := Nat.mod_lt x (show 0 < 2 ^ 52 by decide)
    refine ⟨2 ^ 52 + x % 2 ^ 52, x / 2 ^ 52 - 1, ?_, ?_, by rw [pow52] at h; omega, by omega, .inl (by omega)⟩
    · rw [if_neg h, if_pos hr, least, pow52]
      simp only [show (0 == 1) = false from rfl]
      congr 1
    · rw [pow52] at h
      have hq1 : 1 ≤ x / 2 ^ 52 := (Nat.le_div_iff_mul_le (by decide)).2 (by omega)
      have hq2 : x / 2 ^ 52 ≤ N := by
        have := Nat.div_le_div_right (c := 2 ^ 52) h1
        rwa [Nat.mul_div_cancel _ (by decide)] at this
      have hf := Nat.mod_lt x (show 0 < 2 ^ 52 by decide)
      have hd := Nat.div_add_mod x (2 ^ 52)
      obtain ⟨q, hq⟩ : ∃ q, x / 2 ^ 52 = q + 1 := ⟨x / 2 ^ 52 - 1, by omega⟩
      rw [hq] at hq2 hd ⊢
      rw [Nat.add_sub_cancel]
      by_cases he : q + 1 = N
      · have : x % 2 ^ 52 = 0 := by
          rw [he] at hd
          rw [Nat.mul_comm] at hd
          omega
        rw [this, Nat.add_zero, ← Nat.pow_add, ← he]
        exact Nat.pow_le_pow_right (by omega) (by omega)
      · have h3 : (2 ^ 52 + x % 2 ^ 52) * 2 ^ q ≤ 2 ^ 53 * 2 ^ q := Nat.mul_le_mul_right _ (by omega)
        rw [← Nat.pow_add] at h3
        exact Nat.le_trans h3 (Nat.pow_le_pow_right (by omega) (by omega))

/-- what is cut is of at most fifty-three digits -/
theorem cut_le (n drop : Nat) (h : n.log2 ≤ drop + 52) : Toward.even.cut false n drop ≤ 2 ^ 53 := by
  unfold Toward.cut
  dsimp only
  have hn : n < 2 ^ (n.log2 + 1) := Nat.lt_log2_self
  have hl : n / 1 <<< min drop (n.log2 + 2) < 2 ^ 53 := by
    rw [Nat.one_shiftLeft, Nat.div_lt_iff_lt_mul (Nat.two_pow_pos _), ← Nat.pow_add]
    exact Nat.lt_of_lt_of_le hn (Nat.pow_le_pow_right (by omega) (by omega))
  have : ∀ b : Bool, b.toNat ≤ 1 := by decide
  have := this (decide (1 <<< min drop (n.log2 + 2) < 2 * (n % 1 <<< min drop (n.log2 + 2))) || (1 <<< min drop (n.log2 + 2) == 2 * (n % 1 <<< min drop (n.log2 + 2)) && n / 1 <<< min drop (n.log2 + 2) % 2 == 1))
  omega

theorem log2_shl {m : Nat} (hm : m ≠ 0) (k : Nat) : (m <<< k).log2 = m.log2 + k := by
  rw [Nat.shiftLeft_eq]
  have h2 : m * 2 ^ k ≠ 0 := Nat.mul_ne_zero hm (by have := Nat.two_pow_pos k; omega)
  apply Nat.le_antisymm
  · have : m * 2 ^ k < 2 ^ (m.log2 + k + 1) := by
      have := Nat.mul_lt_mul_of_pos_right (Nat.lt_log2_self (n := m)) (Nat.two_pow_pos k)
      rwa [← Nat.pow_add, show m.log2 + 1 + k = m.log2 + k + 1 by omega] at this
    have := (Nat.log2_lt h2).2 this
    omega
  · rw [Nat.le_log2 h2, Nat.pow_add]
    exact Nat.mul_le_mul_right _ (Nat.log2_self_le hm)

/-- a number that is not too great is written as a number -/
theorem nearest_le {m : Nat} {p : Int} {K : Nat} (hK : 53 ≤ K) (h : p + (m.log2 : Int) + 1074 ≤ K) : double.nearest false m p ≤ (K - 50) * 2 ^ 52 := by
  unfold Format.nearest
  by_cases hm : m = 0
  · simp [hm, Format.word]
  · simp only [hm, if_false, least, Format.word, Bool.false_eq_true, pow52, show double.fractionBits = 52 from rfl]
    generalize hlast : max (p + (m.log2 : Int) - 52) (-1074) = last
    have h1 : p + (m.log2 : Int) - 52 ≤ last := by omega
    have h2 : -1074 ≤ last := by omega
    have h3 : last + 1074 ≤ K - 52 := by omega
    have hc : Toward.even.cut false (m <<< (p - last).toNat) (last - p).toNat ≤ 2 ^ 53 := by
      apply cut_le
      rw [log2_shl hm]
      omega
    have h4 : (last - -1074).toNat ≤ K - 52 := by omega
    have h5 := Nat.mul_le_mul_right (2 ^ 52) h4
    refine Nat.le_trans (Nat.min_le_left _ _) ?_
    have e : (K - 50) * 2 ^ 52 = (K - 52) * 2 ^ 52 + 2 ^ 53 := by
      obtain ⟨k, rfl⟩ : ∃ k, K = k + 52 := ⟨K - 52, by omega⟩
      rw [Nat.add_sub_cancel, show k + 52 - 50 = k + 2 by omega, Nat.add_mul]
    rw [e]
    exact Nat.add_le_add h5 hc

theorem log2_le_of {m p K : Nat} (h : m * 2 ^ p ≤ 2 ^ K) : m.log2 + p ≤ K ∨ m = 0 := by
  by_cases hm : m = 0
  · exact .inr hm
  · left
    have h1 := Nat.mul_le_mul_right (2 ^ p) (Nat.log2_self_le hm)
    rw [← Nat.pow_add] at h1
    exact (Nat.pow_le_pow_iff_right (by omega)).1 (Nat.le_trans h1 h)

theorem read_cases (x : Nat) : (∃ (s : Bool) (m p : Nat), double.read x = .number s m ((p : Int) - 1074) ∧ (m = 0 → p = 0)) ∨ (∃ s, double.read x = .infinity s) ∨ ∃ s t, double.read x = .nan s t := by
  unfold Format.read
  rw [least]
  dsimp only
  split
  · exact .inl ⟨_, _, 0, rfl, fun _ => rfl⟩
  · split
    · refine .inl ⟨x / double.signWeight % 2 == 1, double.binade + x % double.signWeight % double.binade, x % double.signWeight / double.binade - 1, ?_, fun h => ?_⟩
      · congr 1
      · rw [pow52] at h
        omega
    · split
      · exact .inr (.inl ⟨_, rfl⟩)
      · exact .inr (.inr ⟨_, _, rfl⟩)

def ord (x y : Nat) : Option Ordering := FloatKind.f64.format.order x y
theorem ord_eq (x y : Nat) : ord x y = (double.read x).order (double.read y) := rfl
/-- 1e9; 2^53 -/
def G9 : Nat := 0x41CDCD6500000000
def C53 : Nat := 0x4340000000000000
theorem read0 : double.read 0 = .number false 0 (((0 : Nat) : Int) - 1074) := by decide
theorem readG : double.read G9 = .number false 8388608000000000 (((1051 : Nat) : Int) - 1074) := by decide
theorem readC : double.read C53 = .number false (2 ^ 52) 1 := by decide

theorem sub_min (p q : Nat) : ((p : Int) - 1074 - min ((p : Int) - 1074) ((q : Int) - 1074)).toNat = p - min p q := by omega
theorem order_num (s t : Bool) (m n p q : Nat) : (Datum.number s m ((p : Int) - 1074)).order (.number t n ((q : Int) - 1074)) = some (compare (signed s m (p - min p q)) (signed t n (q - min p q))) := by
  simp only [Datum.order, sub_min]
  rw [show ((q : Int) - 1074 - min ((p : Int) - 1074) ((q : Int) - 1074)).toNat = q - min p q by omega]

theorem cmp_self (i : Int) : compare i i = .eq := by simp
theorem ord_self (x : Nat) : ord x x = some .eq ∨ ∃ s t, double.read x = .nan s t := by
  rw [ord_eq]
  rcases read_cases x with ⟨s, m, p, e, -⟩ | ⟨s, e⟩ | h
  · left; rw [e, order_num, Nat.min_self]; simp
  · left; rw [e]; simp [Datum.order]
  · exact .inr h

def okW (x : Nat) : Bool := (ord x 0 == some .gt || ord x 0 == some .eq) && (ord x G9 == some .lt || ord x G9 == some .eq)

/-- what the program asks of a weight is what the document asks -/
theorem okW_not (x : Nat) : (ord x x != some .eq || ord x 0 == some .lt || ord x G9 == some .gt) = !okW x := by
  unfold okW
  rcases ord_self x with h | ⟨s, t, e⟩
  · rw [h]
    have n0 : ∀ c, (∃ s, double.read c = .infinity s) ∨ (∃ (s : Bool) (m p : Nat), double.read c = .number s m ((p : Int) - 1074)) → ord x c ≠ none := by
      intro c hc
      rw [ord_eq] at h ⊢
      rcases read_cases x with ⟨s, m, p, e, -⟩ | ⟨s, e⟩ | ⟨s, t, e⟩
      · rcases hc with ⟨_, ec⟩ | ⟨_, _, _, ec⟩ <;> rw [e, ec] <;> simp [Datum.order]
      · rcases hc with ⟨_, ec⟩ | ⟨_, _, _, ec⟩ <;> rw [e, ec] <;> simp [Datum.order]
      · rw [e] at h; cases h
    have h0 := n0 0 (.inr ⟨_, _, _, read0⟩)
    have hG := n0 G9 (.inr ⟨_, _, _, readG⟩)
    cases e0 : ord x 0 with
    | none => exact absurd e0 h0
    | some a => cases eG : ord x G9 with
      | none => exact absurd eG hG
      | some b => cases a <;> cases b <;> rfl
  · have h1 : ∀ c, ord x c = none := fun c => by rw [ord_eq, e]; rfl
    simp [h1]

theorem signed_pos (m k : Nat) : signed false m k = ((m * 2 ^ k : Nat) : Int) := by simp [signed, Nat.shiftLeft_eq]
theorem signed_neg (m k : Nat) : signed true m k = -((m * 2 ^ k : Nat) : Int) := by simp [signed, Nat.shiftLeft_eq]

theorem mul_pow (E K : Nat) (h : K = 53 + E) : 8388608000000000 * 2 ^ E ≤ 2 ^ K := by
  rw [h, Nat.pow_add]
  exact Nat.mul_le_mul_right _ (by decide)
theorem pow_mono {a b : Nat} (h : a ≤ b) : (2 : Nat) ^ a ≤ 2 ^ b := Nat.pow_le_pow_right (by omega) h
theorem okW_read {y : Nat} (h : okW y = true) : ∃ (t : Bool) (m p : Nat), double.read y = .number t m ((p : Int) - 1074) ∧ (t = false ∨ m = 0) ∧ m * 2 ^ p ≤ 2 ^ 1104 ∧ (m = 0 → p = 0) := by
  unfold okW at h
  rw [Bool.and_eq_true] at h
  obtain ⟨h0, hG⟩ := h
  rw [ord_eq, read0] at h0
  rw [ord_eq, readG] at hG
  rcases read_cases y with ⟨s, m, p, e, he0⟩ | ⟨s, e⟩ | ⟨s, t, e⟩
  · rw [e, order_num] at h0 hG
    have hs : s = false ∨ m = 0 := by
      cases s with
      | false => exact .inl rfl
      | true =>
        right
        rw [signed_neg, signed_pos] at h0
        have : ¬ (-((m * 2 ^ (p - min p 0) : Nat) : Int) < ((0 * 2 ^ (0 - min p 0) : Nat) : Int)) := by
          intro hlt
          rw [Int.compare_eq_lt.2 hlt] at h0
          simp at h0
        have h2 := Nat.two_pow_pos (p - min p 0)
        have h3 : m * 2 ^ (p - min p 0) = 0 := by omega
        rcases Nat.mul_eq_zero.1 h3 with h | h
        · exact h
        · omega
    refine ⟨s, m, p, e, hs, ?_, he0⟩
    rcases hs with rfl | rfl
    · rw [signed_pos, signed_pos] at hG
      have h1 : ¬ (((8388608000000000 * 2 ^ (1051 - min p 1051) : Nat) : Int) < ((m * 2 ^ (p - min p 1051) : Nat) : Int)) := by
        intro hlt
        rw [Int.compare_eq_gt.2 hlt] at hG
        simp at hG
      have h2 : m * 2 ^ (p - min p 1051) ≤ 8388608000000000 * 2 ^ (1051 - min p 1051) := by omega
      have h3 := Nat.mul_le_mul_right (2 ^ (min p 1051)) h2
      rw [Nat.mul_assoc, ← Nat.pow_add, Nat.mul_assoc, ← Nat.pow_add, Nat.sub_add_cancel (Nat.min_le_left _ _), Nat.sub_add_cancel (Nat.min_le_right _ _)] at h3
      refine Nat.le_trans h3 ?_
      exact mul_pow 1051 1104 rfl
    · rw [Nat.zero_mul]
      exact Nat.zero_le _
  · rw [e] at h0 hG
    cases s
    · simp [Datum.order] at hG
    · simp [Datum.order] at h0
  · rw [e] at h0
    simp [Datum.order] at h0

/-- a word without a sign, of at most so many binades -/
def fits (N x : Nat) : Prop := x ≤ N * 2 ^ 52

theorem add_some {x y N : Nat} (hN : 1104 ≤ N) (hN2 : N < 2000) (hx : fits N x) (hy : okW y = true) : ∃ r, double.add x y = some r ∧ fits (N + 2) r := by
  obtain ⟨m, p, ex, bx, -, -, -⟩ := read_pos (by omega) hx (by omega)
  obtain ⟨t, n, q, ey, ht, byy, -⟩ := okW_read hy
  unfold Format.add
  rw [ex, ey]
  simp only [Datum.sum, Option.map_some]
  have e1 : ((p : Int) - 1074 - min ((p : Int) - 1074) ((q : Int) - 1074)).toNat = p - min p q := by omega
  have e2 : ((q : Int) - 1074 - min ((p : Int) - 1074) ((q : Int) - 1074)).toNat = q - min p q := by omega
  have e3 : min ((p : Int) - 1074) ((q : Int) - 1074) = ((min p q : Nat) : Int) - 1074 := by omega
  rw [e1, e2, e3]
  have e4 : signed t n (q - min p q) = ((n * 2 ^ (q - min p q) : Nat) : Int) := by
    rcases ht with rfl | rfl
    · exact signed_pos _ _
    · cases t <;> simp [signed]
  rw [e4, signed_pos]
  generalize hk : m * 2 ^ (p - min p q) + n * 2 ^ (q - min p q) = k
  have e5 : ((m * 2 ^ (p - min p q) : Nat) : Int) + ((n * 2 ^ (q - min p q) : Nat) : Int) = (k : Int) := by omega
  rw [e5]
  have e6 : (if (k : Int) = 0 then false && t else decide ((k : Int) < 0)) = false := by
    split
    · rfl
    · simp
  rw [e6, Int.natAbs_natCast]
  refine ⟨_, rfl, ?_⟩
  have hb : k * 2 ^ (min p q) ≤ 2 ^ (N + 52) := by
    rw [← hk, Nat.add_mul, Nat.mul_assoc, ← Nat.pow_add, Nat.mul_assoc, ← Nat.pow_add, Nat.sub_add_cancel (Nat.min_le_left _ _), Nat.sub_add_cancel (Nat.min_le_right _ _)]
    have h1 := pow_mono (show 1104 ≤ N + 51 by omega)
    rw [show N + 52 = (N + 51) + 1 by omega, Nat.pow_succ]
    omega
  rcases log2_le_of hb with h | h
  · exact nearest_le (K := N + 52) (by omega) (by omega)
  · rw [h]
    simp [Format.write, Format.nearest, Format.word, fits]

theorem cut_exact (m p : Nat) : Toward.even.cut false (m * 2 ^ p) p = m := by
  by_cases hm : m = 0
  · subst hm
    unfold Toward.cut
    simp [Nat.one_shiftLeft]
  · have hl : (m * 2 ^ p).log2 = m.log2 + p := by rw [← Nat.shiftLeft_eq]; exact log2_shl hm p
    unfold Toward.cut
    dsimp only
    rw [hl, Nat.min_eq_left (by omega), Nat.one_shiftLeft, Nat.mul_div_cancel _ (Nat.two_pow_pos p), Nat.mul_mod_left]
    have := Nat.two_pow_pos p
    simp

theorem nearest_back {x m p : Nat} (h1 : x = p * 2 ^ 52 + m) (h2 : m < 2 ^ 53) (h3 : 2 ^ 52 ≤ m ∨ p = 0) (hi : x ≤ 2047 * 2 ^ 52) : double.nearest false (m * 2 ^ p) (-1074) = x := by
  unfold Format.nearest
  by_cases hm : m = 0
  · subst hm
    have : p = 0 := by omega
    subst this
    simp only [Nat.zero_mul, if_true, Format.word, Bool.false_eq_true, if_false]
    omega
  · have hm2 : ¬ (m * 2 ^ p = 0) := by
      have := Nat.two_pow_pos p
      rw [Nat.mul_eq_zero]
      omega
    have hl : (m * 2 ^ p).log2 = m.log2 + p := by rw [← Nat.shiftLeft_eq]; exact log2_shl hm p
    have hl2 : m.log2 < 53 := (Nat.log2_lt hm).2 h2
    have hl3 : m.log2 = 52 ∨ p = 0 := by
      rcases h3 with h | h
      · left
        have := (Nat.le_log2 hm).2 h
        omega
      · exact .inr h
    rw [if_neg hm2, hl, least, show double.fractionBits = 52 from rfl]
    dsimp only
    have hlast : max (-1074 + ((m.log2 + p : Nat) : Int) - 52) (-1074) = (p : Int) - 1074 := by omega
    have hlast' : max (-1074 + ((m.log2 + p : Nat) : Int) - ((52 : Nat) : Int)) (-1074) = (p : Int) - 1074 := by omega
    rw [hlast', show (-1074 - ((p : Int) - 1074)).toNat = 0 by omega, show ((p : Int) - 1074 - -1074).toNat = p by omega, Nat.shiftLeft_zero, cut_exact, pow52, ← h1, infR, Nat.min_eq_left hi]
    simp [Format.word]

theorem add_zero {x y N : Nat} (hN : 1 ≤ N) (hN2 : N < 2047) (hx : fits N x) (hy : okW y = true) (h0 : (ord y 0 == some .gt) = false) : double.add x y = some x := by
  have hN3 : x ≤ 2047 * 2 ^ 52 := Nat.le_trans hx (Nat.mul_le_mul_right _ (by omega))
  obtain ⟨m, p, ex, bx, e1, e2, e3⟩ := read_pos hN hx hN2
  obtain ⟨t, n, q, ey, ht, byy, hnq⟩ := okW_read hy
  have hn : n = 0 := by
    rcases ht with rfl | h
    · rw [ord_eq, ey, read0, order_num, signed_pos, signed_pos] at h0
      have : ¬ (((0 * 2 ^ (0 - min q 0) : Nat) : Int) < ((n * 2 ^ (q - min q 0) : Nat) : Int)) := by
        intro hlt
        rw [Int.compare_eq_gt.2 hlt] at h0
        simp at h0
      have h2 := Nat.two_pow_pos (q - min q 0)
      have h3 : n * 2 ^ (q - min q 0) = 0 := by omega
      rcases Nat.mul_eq_zero.1 h3 with h | h
      · exact h
      · omega
    · exact h
  have hq := hnq hn
  subst hn hq
  unfold Format.add
  rw [ex, ey]
  simp only [Datum.sum, Option.map_some]
  rw [show ((p : Int) - 1074 - min ((p : Int) - 1074) (((0 : Nat) : Int) - 1074)).toNat = p by omega, show min ((p : Int) - 1074) (((0 : Nat) : Int) - 1074) = -1074 by omega, signed_pos]
  rw [show signed t 0 ((((0 : Nat) : Int) - 1074 - -1074).toNat) = 0 by cases t <;> simp [signed], Int.add_zero]
  rw [show (if ((m * 2 ^ p : Nat) : Int) = 0 then false && t else decide (((m * 2 ^ p : Nat) : Int) < 0)) = false by
    split
    · rfl
    · simp only [decide_eq_false_iff_not]; omega]
  rw [Int.natAbs_natCast]
  exact congrArg some (nearest_back e1 e2 e3 hN3)

/-- the place of a draw among the sums -/
theorem div_some (d : Nat) (hd : d < 2 ^ 53) : ∃ r, double.div (double.nearest false d 0) C53 = some r ∧ fits 1100 r := by
  have h0 : fits 1077 (double.nearest false d 0) := by
    by_cases h : d = 0
    · subst h; simp [fits, Format.nearest, Format.word]
    · refine nearest_le (K := 1127) (by omega) ?_
      have := (Nat.log2_lt h).2 hd
      omega
  obtain ⟨m, p, ex, bx, hpp, hm, hz⟩ := read_pos (by omega) h0 (by omega)
  unfold Format.div
  rw [ex, readC]
  simp only [Datum.quotient]
  rw [if_neg (by decide)]
  refine ⟨_, rfl, ?_⟩
  refine nearest_le (K := 1150) (by omega) ?_
  generalize double.fractionBits + 2 + (2 ^ 52 : Nat).log2 - m.log2 = more
  have hb : ∀ b : Bool, b.toNat ≤ 1 := by decide
  have hb := hb (m <<< more % 2 ^ 52 != 0)
  by_cases h : m = 0
  · subst h
    have : p ≤ 1100 := by
      rcases hz with h | h <;> omega
    simp
    omega
  · have h1 : m * 2 ^ more < 2 ^ (m.log2 + more + 1) := by
      have := Nat.mul_lt_mul_of_pos_right (Nat.lt_log2_self (n := m)) (Nat.two_pow_pos more)
      rwa [← Nat.pow_add, show m.log2 + 1 + more = m.log2 + more + 1 by omega] at this
    have h2 : m <<< more / 2 ^ 52 ≤ m * 2 ^ more := by rw [Nat.shiftLeft_eq]; exact Nat.div_le_self _ _
    have h3 : 2 * (m <<< more / 2 ^ 52) + (m <<< more % 2 ^ 52 != 0).toNat < 2 ^ (m.log2 + more + 2) := by
      have := Nat.pow_succ (n := 2) (m := m.log2 + more + 1)
      generalize (2 : Nat) ^ (m.log2 + more + 1) = z1 at h1 this
      rw [show m.log2 + more + 2 = m.log2 + more + 1 + 1 by omega, this]
      generalize m <<< more / 2 ^ 52 = z2 at h2 ⊢
      generalize (m <<< more % 2 ^ 52 != 0).toNat = z3 at hb ⊢
      generalize m * 2 ^ more = z4 at h1 h2
      omega
    have h4 : (2 * (m <<< more / 2 ^ 52) + (m <<< more % 2 ^ 52 != 0).toNat).log2 ≤ m.log2 + more + 1 := by
      by_cases h0 : 2 * (m <<< more / 2 ^ 52) + (m <<< more % 2 ^ 52 != 0).toNat = 0
      · rw [h0]; simp
      · have := (Nat.log2_lt h0).2 h3
        omega
    have h5 : m.log2 + p ≤ 1128 := by
      rcases log2_le_of bx with h | h <;> omega
    generalize (2 * (m <<< more / 2 ^ 52) + (m <<< more % 2 ^ 52 != 0).toNat).log2 = q at h4 ⊢
    omega

theorem mul_some {x y N M : Nat} (hN : 1 ≤ N) (hM : 1 ≤ M) (hNM : N + M < 3000) (hN2 : N < 2000) (hM2 : M < 2000) (hx : fits N x) (hy : fits M y) : ∃ r, double.mul x y = some r ∧ fits 2030 r := by
  obtain ⟨m, p, ex, bx, -, -, hz⟩ := read_pos hN hx (by omega)
  obtain ⟨n, q, ey, byy, -, -, hz'⟩ := read_pos hM hy (by omega)
  unfold Format.mul
  rw [ex, ey]
  simp only [Datum.product, Option.map_some]
  refine ⟨_, rfl, ?_⟩
  have e : ∀ k, double.nearest (false ^^ false) k ((p : Int) - 1074 + ((q : Int) - 1074)) = double.nearest false k ((p : Int) - 1074 + ((q : Int) - 1074)) := fun _ => rfl
  unfold Format.write
  simp only [e]
  by_cases h : m * n = 0
  · rw [h]; simp [Format.nearest, Format.word, fits]
  · have hm : m ≠ 0 := fun h' => h (by rw [h', Nat.zero_mul])
    have hn : n ≠ 0 := fun h' => h (by rw [h', Nat.mul_zero])
    have h1 : m.log2 + p ≤ N + 51 := by
      rcases log2_le_of bx with h | h
      · exact h
      · exact absurd h hm
    have h2 : n.log2 + q ≤ M + 51 := by
      rcases log2_le_of byy with h | h
      · exact h
      · exact absurd h hn
    have h3 : (m * n).log2 ≤ m.log2 + n.log2 + 1 := by
      have h4 : m * n < 2 ^ (m.log2 + 1) * 2 ^ (n.log2 + 1) := Nat.mul_lt_mul'' Nat.lt_log2_self Nat.lt_log2_self
      rw [← Nat.pow_add] at h4
      have := (Nat.log2_lt h).2 h4
      omega
    refine nearest_le (K := 2080) (by omega) ?_
    omega

/-- nothing is less than nothing -/
theorem ord_zero {x N : Nat} (hN : 1 ≤ N) (hN2 : N < 2047) (hx : fits N x) : (ord 0 x == some .gt) = false := by
  obtain ⟨m, p, ex, -, -, -, -⟩ := read_pos hN hx hN2
  rw [ord_eq, read0, ex, order_num, signed_pos, signed_pos]
  have : ¬ compare (((0 * 2 ^ (0 - min 0 p) : Nat) : Int)) ((m * 2 ^ (p - min 0 p) : Nat) : Int) = .gt := by
    rw [Int.compare_eq_gt]
    omega
  simpa using this

/-! ### weights, and places among them -/

def addF (s w : Nat) : Nat := (double.add s w).getD 0
def sumF (l : List Nat) : Nat := l.foldl addF 0
def pos (w : Nat) : Bool := ord w 0 == some .gt
def weighR (l : List Nat) : Bool := decide (1 ≤ l.length) && decide (l.length ≤ 64) && l.all okW && l.any pos
/-- a draw's place -/
def placeF (d t : Nat) : Nat := (double.mul ((double.div (double.nearest false (d / 2048) 0) C53).getD 0) t).getD 0
def over (s x : Nat) : Bool := ord s x == some .gt
/-- the first one whose sum is over x; else the last one that has weight -/
def pickL (x : Nat) : Nat → Nat → Nat → List Nat → Nat
  | _, _, last, [] => last
  | s, i, last, w :: l => if over (addF s w) x then i else pickL x (addF s w) (i + 1) (if pos w then i else last) l
def pickR (l : List Nat) (draw : Nat) : Nat := pickL (placeF draw (sumF l)) 0 0 0 l

theorem sum_fits : ∀ (l : List Nat) {s N : Nat}, fits N s → 1104 ≤ N → N + 2 * l.length < 2000 → l.all okW = true → fits (N + 2 * l.length) (l.foldl addF s)
  | [], _, _, h, _, _, _ => h
  | w :: l, s, N, h, h1, h2, h3 => by
    rw [List.all_cons, Bool.and_eq_true] at h3
    rw [List.length_cons] at h2 ⊢
    obtain ⟨r, e, hr⟩ := add_some h1 (by omega) h h3.1
    have := sum_fits l (s := addF s w) (N := N + 2) (by unfold addF; rw [e]; exact hr) (by omega) (by omega) h3.2
    rw [List.foldl_cons]
    rwa [show N + 2 * (l.length + 1) = N + 2 + 2 * l.length by omega]
theorem zero_fits (N : Nat) : fits N 0 := Nat.zero_le _

/-- a sum goes on -/
theorem add_sum {l : List Nat} {w : Nat} (hl : l.length < 64) (h : l.all okW = true) (hw : okW w = true) : double.add (sumF l) w = some (addF (sumF l) w) := by
  have h1 := sum_fits l (N := 1104) (zero_fits _) (by omega) (by omega) h
  obtain ⟨r, e, _⟩ := add_some (by omega) (by omega) h1 hw
  unfold addF
  rw [show l.foldl addF 0 = sumF l from rfl] at e
  rw [e]
  rfl
theorem sum_snoc (l : List Nat) (w : Nat) : sumF (l ++ [w]) = addF (sumF l) w := by simp [sumF]

theorem place_run {d : Nat} (hd : d < 2 ^ 64) {l : List Nat} (h : weighR l = true) : ∃ q, double.div (double.nearest false (d / 2048) 0) C53 = some q ∧ double.mul q (sumF l) = some (placeF d (sumF l)) ∧ fits 2030 (placeF d (sumF l)) := by
  unfold weighR at h
  simp only [Bool.and_eq_true, decide_eq_true_eq] at h
  obtain ⟨⟨⟨_, h1⟩, h2⟩, _⟩ := h
  obtain ⟨q, hq, fq⟩ := div_some (d / 2048) (by omega)
  have hs := sum_fits l (N := 1104) (zero_fits _) (by omega) (by omega) h2
  obtain ⟨r, hr, fr⟩ := mul_some (by omega) (by omega) (by omega) (by omega) (by omega) fq hs
  have e : placeF d (sumF l) = r := by
    unfold placeF
    rw [hq]
    show (double.mul q (l.foldl addF 0)).getD 0 = r
    rw [hr]
    rfl
  exact ⟨q, hq, by rw [e]; exact hr, by rw [e]; exact fr⟩

theorem pickL_lt (x : Nat) : ∀ (l : List Nat) (s i last : Nat), last < i + l.length ∨ (l = [] ∧ last ≤ i) → pickL x s i last l < i + l.length ∨ (l = [] ∧ pickL x s i last l = last)
  | [], s, i, last, _ => .inr ⟨rfl, rfl⟩
  | w :: l, s, i, last, h => by
    left
    unfold pickL
    rw [List.length_cons]
    split
    · omega
    · have h0 : last < i + (l.length + 1) := by
        rcases h with h | ⟨h, _⟩
        · exact h
        · cases h
      have h1 : (if pos w = true then i else last) < i + 1 + l.length := by split <;> omega
      rcases pickL_lt x l (addF s w) (i + 1) _ (.inl h1) with h2 | ⟨rfl, h2⟩
      · omega
      · rw [h2]
        simp at h1 ⊢
        omega
theorem pick_lt {l : List Nat} (h : weighR l = true) (d : Nat) : pickR l d < l.length := by
  unfold weighR at h
  simp only [Bool.and_eq_true, decide_eq_true_eq] at h
  obtain ⟨⟨⟨h1, _⟩, _⟩, _⟩ := h
  unfold pickR
  rcases pickL_lt (placeF d (sumF l)) l 0 0 0 (.inl (by omega)) with h | ⟨rfl, _⟩
  · omega
  · simp at h1

/-- who is picked has weight -/
theorem pickL_pos {x : Nat} (hx : fits 2030 x) (L : List Nat) (hall : L.all okW = true) (hlen : L.length ≤ 64) : ∀ (l : List Nat) (s i last : Nat), L.drop i = l → i ≤ L.length → s = sumF (L.take i) → over s x = false → ((∃ k, k < i ∧ (L[k]?.map pos) = some true) → (L[last]?.map pos) = some true) → L.any pos = true →
    (L[pickL x s i last l]?.map pos) = some true
  | [], s, i, last, hd, hi, hs, ho, hk, ha => by
    unfold pickL
    refine hk ?_
    have : i = L.length := by
      have := congrArg List.length hd
      simp at this
      omega
    obtain ⟨w, hw, hp⟩ := List.any_eq_true.1 ha
    obtain ⟨k, hk1, rfl⟩ := List.mem_iff_getElem.1 hw
    exact ⟨k, by omega, by rw [List.getElem?_eq_getElem hk1]; simp [hp]⟩
  | w :: l, s, i, last, hd, hi, hs, ho, hk, ha => by
    have hw : L[i]? = some w := by
      have := congrArg (·[0]?) hd
      simpa using this
    have hi2 := (List.getElem?_eq_some_iff.1 hw).1
    have hok : okW w = true := List.all_eq_true.1 hall w (List.mem_of_getElem? hw)
    have htake : L.take (i + 1) = L.take i ++ [w] := by rw [List.take_add_one, hw]; rfl
    have hsum : addF s w = sumF (L.take (i + 1)) := by rw [htake, sum_snoc, hs]
    unfold pickL
    split
    · rename_i h
      rw [hw]
      simp only [Option.map_some, Option.some.injEq]
      cases hp : pos w with
      | true => rfl
      | false =>
        exfalso
        have hfit : fits (1104 + 2 * (L.take i).length) s := by
          rw [hs]
          exact sum_fits (L.take i) (zero_fits _) (by omega) (by simp; omega) (by
            rw [List.all_eq_true] at hall ⊢
            exact fun y hy => hall y (List.mem_of_mem_take hy))
        have hle : (L.take i).length ≤ 64 := by simp; omega
        have := add_zero (by omega) (by omega) hfit hok (by simpa [pos] using hp)
        unfold addF at h
        rw [this] at h
        simp only [Option.getD_some] at h
        rw [h] at ho
        cases ho
    · rename_i h
      refine pickL_pos hx L hall hlen l (addF s w) (i + 1) _ ?_ (by omega) hsum (by simpa using h) ?_ ha
      · rw [← List.drop_drop, hd]
        rfl
      · rintro ⟨k, hk1, hk2⟩
        by_cases hp : pos w = true
        · rw [if_pos hp, hw]
          simpa using hp
        · rw [if_neg hp]
          refine hk ⟨k, ?_, hk2⟩
          have : k ≠ i := by
            rintro rfl
            rw [hw] at hk2
            exact hp (by simpa using hk2)
          omega
theorem pick_pos {l : List Nat} (h : weighR l = true) {d : Nat} (hd : d < 2 ^ 64) : (l[pickR l d]?.map pos) = some true := by
  obtain ⟨_, _, _, hf⟩ := place_run hd h
  unfold weighR at h
  simp only [Bool.and_eq_true, decide_eq_true_eq] at h
  obtain ⟨⟨⟨h1, h2⟩, h3⟩, h4⟩ := h
  exact pickL_pos hf l h3 h2 l 0 0 0 rfl (Nat.zero_le _) rfl (ord_zero (by omega) (by omega) hf) (fun ⟨k, hk, _⟩ => by omega) h4
end Go.Fl
