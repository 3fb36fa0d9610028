

/-
  FieldsLengths: a number's digits.
-/
import Derived.Test.YtikngjdljdofkaaDoorFmLen
namespace Go.Proofs.YtikngjdljdofkaaDoor.fieldsLengths
open Go.RowKit Go.Sl Go.ChangeShapes

theorem decT_more : ∀ (f n : Nat), n < 10 ^ (f + 1) → decT (f + 2) n = decT (f + 1) n := by
  intro f
  induction f with
  | zero =>
    intro n h
    have : n < 10 := by simpa using h
    unfold decT
    rw [if_pos this, if_pos this]
  | succ f ih =>
    intro n h
    unfold decT
    split
    · rfl
    · rw [ih (n / 10) (by rw [Nat.pow_succ] at h; omega)]
def preT (m : Nat) : Txt := if m = 0 then [] else decT 9 m
theorem preT_step {m : Nat} (h0 : 0 < m) (h : m < 1000000000) : preT m = preT (m / 10) ++ [digC (m % 10)] := by
  unfold preT
  rw [if_neg (by omega)]
  by_cases h1 : m < 10
  · rw [if_pos (by omega)]
    show decT (8 + 1) m = _
    unfold decT
    rw [if_pos h1, Nat.mod_eq_of_lt h1]
    rfl
  · rw [if_neg (by omega)]
    show decT (8 + 1) m = _
    conv => lhs; unfold decT
    rw [if_neg h1, show decT 9 (m / 10) = decT 8 (m / 10) from decT_more 7 _ (by simp; omega)]
theorem buildU (c : UInt8) (w : World) : (Instr.buildSlice 35 1 #[(0, .int .u8 (c.toNat : Int))]).run Tryd.prog w = .ok (.slice (some ⟨w.heap.size, 0, none⟩) 1 1) (w.alloc (.cells (bs [c]).toArray 5)) := by kernel_rfl

def strN : Value → Nat
  | .string b => if b.size = 0 then 1 else 0
  | _ => 0

theorem strN_cons (c : UInt8) (t : Txt) : strN (str (c :: t)) = 0 := by simp [strN, ByteArray.size]
theorem preT_pos {m : Nat} (h : 0 < m) : 1 ≤ (preT m).length := by
  unfold preT
  rw [if_neg (by omega)]
  exact decT_pos 8 m
theorem dig_next {n i r q : Nat} {t : Txt} (hn : n < 1000000000) (hi : i ≤ n) (hr : r = i % 10) (hq : q = i / 10) (h : (i = n ∧ t = []) ∨ (t ≠ [] ∧ decT 9 n = preT i ++ t)) (h0 : 0 < i ∨ t = []) :
    (digC r :: t ≠ [] ∧ decT 9 n = preT q ++ digC r :: t) := by
  refine ⟨by simp, ?_⟩
  subst hr hq
  rcases h with ⟨rfl, rfl⟩ | ⟨h1, h2⟩
  · by_cases hz : i = 0
    · subst hz; rfl
    · have := preT_step (m := i) (by omega) hn
      rw [← this]
      unfold preT
      rw [if_neg hz]
  · have hi0 : 0 < i := h0.resolve_right h1
    rw [h2, preT_step hi0 (by omega)]
    simp
theorem dig_len {n i : Nat} {t : Txt} (h : (i = n ∧ t = []) ∨ (t ≠ [] ∧ decT 9 n = preT i ++ t)) (h0 : 0 < i ∨ t = []) : t.length + 1 ≤ 9 := by
  rcases h with ⟨rfl, rfl⟩ | ⟨h1, h2⟩
  · simp
  · have hp := preT_pos (h0.resolve_right h1)
    have := decT_len 9 n
    rw [h2, List.length_append] at this
    omega
theorem dig_done {n i : Nat} {t : Txt} (h : (i = n ∧ t = []) ∨ (t ≠ [] ∧ decT 9 n = preT i ++ t)) (hi : i ≤ 0) (ht : t ≠ []) : decT 9 n = t := by
  obtain rfl : i = 0 := by omega
  rcases h with ⟨_, h⟩ | ⟨_, h⟩
  · exact absurd h ht
  · exact h

set_option maxHeartbeats 16000000 in
set_option maxRecDepth 100000 in
theorem digitsW {B w : World} {R : Assn} {n k : Nat} (hn : n < 1000000000) (hk : k ≤ 3) (h : Own B R w) : Calls Tryd.prog 16 #[.int .i64 n, .int .i64 k] w fun e w' => e = .returned (str (numT n k)) ∧ Own B R w' := by
  go_enter Tryd.func16, Tryd.ntmps16
  go_wp2_with fail
  go_loopw [0, 5] (fun m s wr => ∃ (i : Nat) (t : Txt), m = .int .i64 i ∧ s = str t ∧ i ≤ n ∧ t.length ≤ 9 ∧ Hid ((i = n ∧ t = []) ∨ (t ≠ [] ∧ decT 9 n = preT i ++ t)) ∧ Own B R wr) (fun m s _ => 2 * (intOf m).toNat + strN s)
  case atStart => exact ⟨n, [], rfl, rfl, Nat.le_refl _, by simp, Lib.hid (.inl ⟨rfl, rfl⟩), h⟩
  case round =>
    clear h
    obtain ⟨i, t, rfl, rfl, hi, ht, HI, G⟩ := hrel
    obtain ⟨r, hr, hr10, HRD⟩ : ∃ r : Nat, (i : Int).tmod 10 = (r : Int) ∧ r < 10 ∧ Hid (r = i % 10) := ⟨i % 10, rfl, Nat.mod_lt _ (by decide), Lib.hid rfl⟩
    obtain ⟨q, hq, hqi, HQD⟩ : ∃ q : Nat, (i : Int).tdiv 10 = (q : Int) ∧ q ≤ i ∧ Hid (q = i / 10) := ⟨i / 10, rfl, Nat.div_le_self _ _, Lib.hid rfl⟩
    have hcr : 48 + (r : Int) = ((digC r).toNat : Int) := by rw [digC_nat hr10]; omega
    by_cases hi0 : 0 < i
    · have y1 : decide ((0 : Int) < (i : Int)) = true := by simp; omega
      have y2 : decide (0 < i) = true := by simp; omega
      have y3 : decide ((i : Int) > 0) = true := y1
      go_wp2_with (first
        | ((with_reducible refine at_build ?_); refine hold ?_)
        | fail)
      have HX : Hid (0 < i ∨ t = []) := Lib.hid (.inl hi0)
      unfold Held
      refine wpu_val rfl (exec_buildT _ rfl (by kernel_rfl) (buildU (digC r) _)) ?_
      have G1 := own_new_sl (n := 1) (sz := 1) G (bs [digC r]) 5 rfl (by decide)
      clear G
      generalize wr.heap.size = z at G1 ⊢
      generalize wr.alloc _ = w1 at G1 ⊢
      go_frame
      go_wp2_with (first
        | ((with_reducible refine at_convert ?_); refine wpu_str G1 rfl rfl rfl rfl ?_; go_frame)
        | ((with_reducible refine at_addS ?_); refine wpu_addS (l := [digC r]) (m := t) (r := digC r :: t) rfl rfl rfl rfl rfl (by simp; omega) ?_; go_frame)
        | fail)
      have HNX := Lib.hid (dig_next hn hi HRD.out HQD.out HI.out HX.out)
      have hlx := dig_len HI.out HX.out
      have hqx := HQD.out
      go_roundw
      case rel => exact ⟨q, digC r :: t, rfl, rfl, by omega, by simp; omega, Lib.hid (.inr HNX.out), G1.right⟩
      case measure => rw [strN_cons]; simp [intOf] <;> omega
    · have hi1 : i ≤ 0 := by omega
      have y1 : decide ((0 : Int) < (i : Int)) = false := by simp; omega
      have y2 : decide (0 < i) = false := by simp; omega
      have y3 : decide ((i : Int) > 0) = false := y1
      clear hi0
      by_cases hte : t = []
      · have y4 : decide (t = []) = true := decide_eq_true hte
        have HX : Hid (0 < i ∨ t = []) := Lib.hid (.inr hte)
        have HTE := Lib.hid hte
        clear hte
        go_wp2_with (first
          | ((with_reducible refine at_eqS ?_); refine wpu_eqS (l := t) rfl (by kernel_rfl) rfl rfl y4 ?_; go_frame)
          | ((with_reducible refine at_build ?_); refine hold ?_)
          | fail)
        unfold Held
        refine wpu_val rfl (exec_buildT _ rfl (by kernel_rfl) (buildU (digC r) _)) ?_
        have G1 := own_new_sl (n := 1) (sz := 1) G (bs [digC r]) 5 rfl (by decide)
        clear G
        generalize wr.heap.size = z at G1 ⊢
        generalize wr.alloc _ = w1 at G1 ⊢
        go_frame
        go_wp2_with (first
          | ((with_reducible refine at_convert ?_); refine wpu_str G1 rfl rfl rfl rfl ?_; go_frame)
          | ((with_reducible refine at_addS ?_); refine wpu_addS (l := [digC r]) (m := t) (r := digC r :: t) rfl rfl rfl rfl rfl (by simp; omega) ?_; go_frame)
          | fail)
        have HNX := Lib.hid (dig_next hn hi HRD.out HQD.out HI.out HX.out)
        have hlx := dig_len HI.out HX.out
        have hqx := HQD.out
        go_roundw
        case rel => exact ⟨q, digC r :: t, rfl, rfl, by omega, by simp; omega, Lib.hid (.inr HNX.out), G1.right⟩
        case measure =>
          rw [strN_cons, show strN (str t) = 1 by rw [HTE.out]; rfl]
          simp [intOf] <;> omega
      · have y4 : decide (t = []) = false := decide_eq_false hte
        have HDN := Lib.hid (dig_done HI.out hi1 hte)
        clear hte
        go_wp2_with (first
          | ((with_reducible refine at_eqS ?_); refine wpu_eqS (l := t) rfl (by kernel_rfl) rfl rfl y4 ?_; go_frame)
          | fail)
        go_loopw [5, 6] (fun s j wr => ∃ m : Nat, s = str (nought m ++ t) ∧ j = .int .i64 m ∧ m ≤ k ∧ Own B R wr) (fun _ j _ => k - (intOf j).toNat)
        case atStart => exact ⟨0, rfl, rfl, Nat.zero_le _, G⟩
        case round =>
          clear G
          obtain ⟨m, rfl, rfl, hm, G⟩ := hrel
          by_cases hmk : m < k
          · have HNM : Hid ([48] ++ (nought m ++ t) = nought (m + 1) ++ t) := Lib.hid rfl
            have hnl : (nought m ++ t).length ≤ 100 := by simp [nought]; omega
            go_wp2_with (first
              | ((with_reducible refine at_addS ?_); refine wpu_addS (l := [48]) (m := nought m ++ t) (r := nought (m + 1) ++ t) rfl rfl rfl rfl rfl (by show 1 + _ ≤ _; omega) ?_; go_frame)
              | fail)
            go_roundw
            case rel => exact ⟨m + 1, rfl, by go_num, by omega, G⟩
            case measure => simp [intOf] <;> omega
          · go_wp2_with fail
            go_ret
            refine ⟨?_, G⟩
            unfold numT
            rw [HDN.out, show k = m by omega]
            rfl
end Go.Proofs.YtikngjdljdofkaaDoor.fieldsLengths
