

/-
  Package fields: numbers.
-/
import Derived.Test.YtnjldofiogbolaaDoorFm
namespace Go.Proofs.YtnjldofiogbolaaDoor
open Go.RowKit Go.Sl Go.ChangeShapes

theorem bs_at {l : Txt} {j : Nat} {c : UInt8} (h : l[j]? = some c) : (bs l)[j]? = some (.int .u8 (c.toNat : Int)) := by simp [bs, h, byteV]
theorem numR_take {s : Txt} {j : Nat} {c : UInt8} (h : s[j]? = some c) : numR (s.take (j + 1)) = numR (s.take j) * 10 + (c.toNat - 48) := by
  rw [List.take_add_one, h]
  exact numR_snoc _ _
theorem numR_small {s : Txt} (hl : s.length ≤ 15) (hd : s.all digit = true) : numR s ≤ 999999999999999 := by
  have h1 := numR_lt s.length s rfl hd
  have h2 : 10 ^ s.length ≤ 10 ^ 15 := Nat.pow_le_pow_right (by decide) hl
  have h3 : (10 : Nat) ^ 15 = 1000000000000000 := by decide
  omega

set_option maxHeartbeats 8000000 in
set_option maxRecDepth 100000 in
theorem atoiI {B w : World} {A : Assn} {s : Txt} (h0 : 1 ≤ s.length) (h15 : s.length ≤ 15) (hd : s.all digit = true) (h : Own B A w) :
    Calls Tryd.prog 48 #[str s] w fun e w' => e = .returned (.tuple #[.int .i64 (numR s), .nilIface]) ∧ Own B A w' := by
  obtain ⟨c0, hc0⟩ : ∃ c, s[0]? = some c := ⟨s[0], List.getElem?_eq_getElem _⟩
  have d0 := digit_le (List.all_eq_true.1 hd c0 (List.mem_of_getElem? hc0))
  have HC0 := Lib.hid hc0
  have a1 : ((c0.toNat : Int) == 45) = false := by simp; omega
  have a2 : (c0.toNat == 45) = false := by simp; omega
  have a3 : ((c0.toNat : Int) == 43) = false := by simp; omega
  have a4 : (c0.toNat == 43) = false := by simp; omega
  have HD := Lib.hid hd
  have l1 : decide ((s.length : Int) < 19) = true := by simp; omega
  have l2 : decide (s.length < 19) = true := by simp; omega
  have l3 : decide ((0 : Int) < (s.length : Int)) = true := by simp; omega
  have l4 : decide (0 < s.length) = true := by simp; omega
  have HR := Lib.hid (numR_small h15 hd)
  clear hc0 d0 hd
  go_enter Tryd.func48, Tryd.ntmps48
  go_wp2_with (first
    | ((with_reducible refine at_strAt ?_); refine wpu_strAt (i := 0) rfl (by kernel_rfl) rfl rfl rfl HC0.out ?_; go_frame)
    | ((with_reducible refine at_convert ?_); refine wpu_toBytes h rfl (by kernel_rfl) rfl (by unfold maxLen; omega) ?_; clear h; intro v w G; obtain ⟨ao, ac, rfl, j1, j2⟩ := G.hdr v; go_frame)
    | fail)
  unfold maxLen at j2
  go_loopw [6, 8, 49] (fun n _ i wr => ∃ j m : Nat, i = .int .i64 j ∧ j ≤ s.length ∧ n = .int .i64 m ∧ Hid (numR (s.take j) = m) ∧ m ≤ 999999999999999 ∧ Own B (sl 1 (.slice ao s.length ac) s.length (bs s) * A) wr) (fun _ _ i _ => s.length - (intOf i).toNat)
  case atStart => exact ⟨0, 0, rfl, Nat.zero_le _, rfl, Lib.hid rfl, by omega, G⟩
  case round =>
    clear G
    obtain ⟨j, m, rfl, hj, rfl, HM, hm, G⟩ := hrel
    by_cases hjn : j < s.length
    · obtain ⟨c, hc⟩ : ∃ c, s[j]? = some c := ⟨s[j], List.getElem?_eq_getElem hjn⟩
      obtain ⟨ad, rfl⟩ := rd_some (G.rd (.slice ao s.length ac) _ G) (by omega)
      have HC := Lib.hid (bs_at hc)
      obtain ⟨d1, d2⟩ := digit_le (List.all_eq_true.1 HD.out c (List.mem_of_getElem? hc))
      obtain ⟨d, hdd⟩ : ∃ d : Nat, c.toNat - 48 = d := ⟨_, rfl⟩
      have hsub : (c.toNat : Int) - 48 = (d : Int) := by omega
      have d9 : d ≤ 9 := by omega
      have HM2 : Hid (numR (s.take (j + 1)) = m * 10 + d) := Lib.hid (by rw [numR_take hc, HM.out, hdd])
      have hm2 : m * 10 + d ≤ 999999999999999 := by
        have := numR_small (s := s.take (j + 1)) (by simp; omega) (List.all_eq_true.2 fun x hx => List.all_eq_true.1 HD.out x (List.mem_of_mem_take hx))
        rw [HM2.out] at this
        exact this
      have y1 : decide ((9 : Int) < (d : Int)) = false := by simp; omega
      have y2 : decide (9 < d) = false := by simp; omega
      clear hc
      go_wp2_with (first
        | ((with_reducible refine at_load ?_); refine wpu_loadC (k := j) (G.rd (.slice (some ad) s.length ac) _ G) HC.out rfl (by kernel_rfl) rfl ?_; go_frame)
        | fail)
      go_roundw
      case rel => exact ⟨j + 1, m * 10 + d, by go_num, by omega, by go_num, HM2, hm2, G⟩
      case measure => simp [intOf] <;> omega
    · have HM2 : Hid (numR s = m) := Lib.hid (by have := HM.out; rwa [List.take_of_length_le (by omega)] at this)
      go_wp2_with (first
        | ((with_reducible refine at_strAt ?_); refine wpu_strAt (i := 0) rfl (by kernel_rfl) rfl rfl rfl HC0.out ?_; go_frame)
        | fail)
      try simp only [Exit.inBlock, Exit.then]
      refine bodyPost_ret (results2 rfl (by first | exact resT rfl | exact resB G rfl (by rfl) | exact resO G rfl rfl) (by first | exact resT rfl | exact resB G rfl (by rfl) | exact resO G rfl rfl)) rfl ?_
      exact ⟨by rw [HM2.out], G.right⟩

set_option maxHeartbeats 8000000 in
set_option maxRecDepth 100000 in
theorem atoiC {B w : World} {A : Assn} {s : Txt} (h0 : 1 ≤ s.length) (h15 : s.length ≤ 15) (hd : s.all digit = true) (h : Own B A w) :
    Calls Tryd.prog 36 #[str s] w fun e w' => e = .returned (.tuple #[.int .i64 (numR s), .nilIface]) ∧ Own B A w' := by
  have hc := atoiI h0 h15 hd h
  go_enter Tryd.func36, Tryd.ntmps36
  go_wp2_with fail
  refine Calls.mono hc ?_
  clear h hc; rintro e w ⟨rfl, G⟩
  go_wp2_with fail
  try simp only [Exit.inBlock, Exit.then]
  refine bodyPost_ret (results2 rfl (by first | exact resT rfl | exact resB G rfl (by rfl) | exact resO G rfl rfl) (by first | exact resT rfl | exact resB G rfl (by rfl) | exact resO G rfl rfl)) rfl ?_
  exact ⟨rfl, G⟩
end Go.Proofs.YtnjldofiogbolaaDoor
