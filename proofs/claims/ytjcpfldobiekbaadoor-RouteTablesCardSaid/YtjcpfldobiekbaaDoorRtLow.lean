




/-
  Small letters, in package route and in its document's answer; who stands there twice.
-/
import Derived.Test.YtjcpfldobiekbaaDoorRtMay
namespace Go.Proofs.YtjcpfldobiekbaaDoor
open Go.RowKit Go.Sl Go.ChangeShapes Go.Fl



set_option maxHeartbeats 8000000 in
set_option maxRecDepth 100000 in
theorem small16C {B w : World} {A : Assn} {p : Txt} (hp : p.length ≤ 140737488351232) (h : Own B A w) :
    Calls Tryd.prog 51 #[str p] w fun e w' => e = .returned (str (smallL p)) ∧ Own B A w' := by
  go_enter Tryd.func51, Tryd.ntmps51
  go_wp2_with (first
    | ((with_reducible refine at_convert ?_); refine wpu_toBytes h rfl rfl rfl (by unfold maxLen; omega) ?_; clear h; intro v w G; obtain ⟨ao, ac, rfl, j1, j2⟩ := G.hdr v; go_frame)
    | fail)
  go_loopw [4] (fun i wr => ∃ j : Nat, i = .int .i64 j ∧ j ≤ p.length ∧ Own B (sl 1 (.slice ao p.length ac) p.length (bs (mixL j p)) * A) wr) (fun i _ => p.length - (intOf i).toNat)
  case atStart => exact ⟨0, rfl, Nat.zero_le _, G⟩
  case round =>
    clear G
    unfold maxLen at j2
    obtain ⟨j, rfl, hj, G⟩ := hrel
    by_cases hjn : j < p.length
    · obtain ⟨c, hc⟩ : ∃ c, p[j]? = some c := ⟨p[j], List.getElem?_eq_getElem hjn⟩
      obtain ⟨ad, rfl⟩ := rd_some (G.rd (.slice ao p.length ac) _ G) (by omega)
      have HV := Lib.hid (bs_at (mix_at hc))
      by_cases hu : 65 ≤ c.toNat ∧ c.toNat ≤ 90
      · obtain ⟨s1, s2⟩ := small_or hu.1 hu.2
        have HS := Lib.hid s2
        have HM := Lib.hid (mix_set hc)
        obtain ⟨u1, u2⟩ := hu
        have y1 : decide ((65 : Int) ≤ (c.toNat : Int)) = true := by simp; omega
        have y2 : decide ((c.toNat : Int) ≤ 90) = true := by simp; omega
        have y3 : decide (65 ≤ c.toNat) = true := by simp; omega
        have y4 : decide (c.toNat ≤ 90) = true := by simp; omega
        clear s2 hc
        as_aux_lemma =>
        go_wp2_with (first
          | ((with_reducible refine at_load ?_); refine wpu_loadC (k := j) (G.rd (.slice (some ad) p.length ac) _ G) HV.out rfl (by kernel_rfl) rfl ?_; go_frame)
          | ((with_reducible refine at_store ?_); refine wpu_store1 (s := ad) (n := p.length) (cap := ac) (k := j) G rfl rfl rfl rfl rfl hjn ?_; clear G; intro w G; go_frame)
          | fail)
        rw [HS.out] at G
        rw [bs_set, HM.out] at G
        go_roundw
        case rel => exact ⟨j + 1, by go_num, by omega, G⟩
        case measure => simp [intOf] <;> omega
      · have HID := Lib.hid (mix_skip hc (small_id hu))
        by_cases h65 : 65 ≤ c.toNat
        · have y1 : decide ((65 : Int) ≤ (c.toNat : Int)) = true := by simp; omega
          have y2 : decide ((c.toNat : Int) ≤ 90) = false := by simp; omega
          have y3 : decide (65 ≤ c.toNat) = true := by simp; omega
          have y4 : decide (c.toNat ≤ 90) = false := by simp; omega
          clear hc hu
          as_aux_lemma =>
          go_wp2_with (first
            | ((with_reducible refine at_load ?_); refine wpu_loadC (k := j) (G.rd (.slice (some ad) p.length ac) _ G) HV.out rfl (by kernel_rfl) rfl ?_; go_frame)
            | fail)
          rw [← HID.out] at G
          go_roundw
          case rel => exact ⟨j + 1, by go_num, by omega, G⟩
          case measure => simp [intOf] <;> omega
        · have y1 : decide ((65 : Int) ≤ (c.toNat : Int)) = false := by simp; omega
          have y3 : decide (65 ≤ c.toNat) = false := by simp; omega
          clear hc hu
          as_aux_lemma =>
          go_wp2_with (first
            | ((with_reducible refine at_load ?_); refine wpu_loadC (k := j) (G.rd (.slice (some ad) p.length ac) _ G) HV.out rfl (by kernel_rfl) rfl ?_; go_frame)
            | fail)
          rw [← HID.out] at G
          go_roundw
          case rel => exact ⟨j + 1, by go_num, by omega, G⟩
          case measure => simp [intOf] <;> omega
    · as_aux_lemma =>
      obtain rfl : j = p.length := by omega
      rw [mix_end] at G
      have hsl : (smallL p).length = p.length := by simp [smallL]
      have G2 : Own B (sl 1 (.slice ao (smallL p).length ac) (smallL p).length (bs (smallL p)) * A) wr := by rw [hsl]; exact G
      clear G
      have G := G2
      clear G2
      rw [← hsl]
      clear hsl
      go_wp2_with (first
        | ((with_reducible refine at_convert ?_); refine wpu_strR (G.rd (.slice ao (smallL p).length ac) _ G) rfl rfl rfl ?_; go_frame)
        | fail)
      go_ret
      exact ⟨rfl, G.right⟩

theorem low_eq {c : UInt8} (h1 : 65 ≤ c.toNat) (h2 : c.toNat ≤ 90) : (c.toNat : Int) + 97 - 65 = ((smallC c).toNat : Int) := by
  have := (small_or h1 h2).2
  omega

set_option maxHeartbeats 8000000 in
set_option maxRecDepth 100000 in
theorem lowC {B w : World} {A : Assn} {p : Txt} (hp : p.length ≤ 140737488351232) (h : Own B A w) :
    Calls Tryd.prog 21 #[str p] w fun e w' => e = .returned (str (smallL p)) ∧ Own B A w' := by
  go_enter Tryd.func21, Tryd.ntmps21
  go_wp2_with (first
    | ((with_reducible refine at_convert ?_); refine wpu_toBytes h rfl rfl rfl (by unfold maxLen; omega) ?_; clear h; intro v w G; obtain ⟨ao, ac, rfl, j1, j2⟩ := G.hdr v; go_frame)
    | fail)
  go_loopw [4, 5, 10] (fun _ _ i wr => ∃ j : Nat, i = .int .i64 j ∧ j ≤ p.length ∧ Own B (sl 1 (.slice ao p.length ac) p.length (bs (mixL j p)) * A) wr) (fun _ _ i _ => p.length - (intOf i).toNat)
  case atStart => exact ⟨0, rfl, Nat.zero_le _, G⟩
  case round =>
    clear G
    unfold maxLen at j2
    obtain ⟨j, rfl, hj, G⟩ := hrel
    by_cases hjn : j < p.length
    · obtain ⟨c, hc⟩ : ∃ c, p[j]? = some c := ⟨p[j], List.getElem?_eq_getElem hjn⟩
      obtain ⟨ad, rfl⟩ := rd_some (G.rd (.slice ao p.length ac) _ G) (by omega)
      have HV := Lib.hid (bs_at (mix_at hc))
      by_cases hu : 65 ≤ c.toNat ∧ c.toNat ≤ 90
      · have HS := Lib.hid (low_eq hu.1 hu.2)
        have HM := Lib.hid (mix_set hc)
        obtain ⟨u1, u2⟩ := hu
        have y1 : decide ((65 : Int) ≤ (c.toNat : Int)) = true := by simp; omega
        have y2 : decide ((c.toNat : Int) ≤ 90) = true := by simp; omega
        have y3 : decide (65 ≤ c.toNat) = true := by simp; omega
        have y4 : decide (c.toNat ≤ 90) = true := by simp; omega
        clear hc
        go_wp2_with (first
          | ((with_reducible refine at_load ?_); refine wpu_loadC (k := j) (G.rd (.slice (some ad) p.length ac) _ G) HV.out rfl (by kernel_rfl) rfl ?_; go_frame)
          | ((with_reducible refine at_store ?_); refine wpu_store1 (s := ad) (n := p.length) (cap := ac) (k := j) G rfl rfl rfl rfl rfl hjn ?_; clear G; intro w G; go_frame)
          | fail)
        rw [HS.out, bs_set, HM.out] at G
        go_roundw
        case rel => exact ⟨j + 1, by go_num, by omega, G⟩
        case measure => simp [intOf] <;> omega
      · have HID := Lib.hid (mix_skip hc (small_id hu))
        by_cases h65 : 65 ≤ c.toNat
        · have y1 : decide ((65 : Int) ≤ (c.toNat : Int)) = true := by simp; omega
          have y2 : decide ((c.toNat : Int) ≤ 90) = false := by simp; omega
          have y3 : decide (65 ≤ c.toNat) = true := by simp; omega
          have y4 : decide (c.toNat ≤ 90) = false := by simp; omega
          clear hc hu
          as_aux_lemma =>
          go_wp2_with (first
            | ((with_reducible refine at_load ?_); refine wpu_loadC (k := j) (G.rd (.slice (some ad) p.length ac) _ G) HV.out rfl (by kernel_rfl) rfl ?_; go_frame)
            | fail)
          rw [← HID.out] at G
          go_roundw
          case rel => exact ⟨j + 1, by go_num, by omega, G⟩
          case measure => simp [intOf] <;> omega
        · have y1 : decide ((65 : Int) ≤ (c.toNat : Int)) = false := by simp; omega
          have y3 : decide (65 ≤ c.toNat) = false := by simp; omega
          clear hc hu
          as_aux_lemma =>
          go_wp2_with (first
            | ((with_reducible refine at_load ?_); refine wpu_loadC (k := j) (G.rd (.slice (some ad) p.length ac) _ G) HV.out rfl (by kernel_rfl) rfl ?_; go_frame)
            | fail)
          rw [← HID.out] at G
          go_roundw
          case rel => exact ⟨j + 1, by go_num, by omega, G⟩
          case measure => simp [intOf] <;> omega
    · obtain rfl : j = p.length := by omega
      rw [mix_end] at G
      have hsl : (smallL p).length = p.length := by simp [smallL]
      have G2 : Own B (sl 1 (.slice ao (smallL p).length ac) (smallL p).length (bs (smallL p)) * A) wr := by rw [hsl]; exact G
      clear G
      have G := G2
      clear G2
      rw [← hsl]
      clear hsl
      go_wp2_with (first
        | ((with_reducible refine at_convert ?_); refine wpu_strR (G.rd (.slice ao (smallL p).length ac) _ G) rfl rfl rfl ?_; go_frame)
        | fail)
      go_ret
      exact ⟨rfl, G.right⟩

/-! ### the list behind what was seen -/
theorem new_stop {seen l : List Txt} {j : Nat} {x : Txt} (h : l[j]? = some x) (hx : x = [] ∨ x ∈ seen) : newR seen (l.drop j) = none := by
  have e : l.drop j = x :: l.drop (j + 1) := by
    obtain ⟨hj1, hj2⟩ := List.getElem?_eq_some_iff.1 h
    rw [← hj2, List.getElem_cons_drop]
  rw [e]
  unfold newR
  rw [if_pos hx]
theorem new_go {seen l : List Txt} {j : Nat} {x : Txt} (h : l[j]? = some x) (hx : ¬ (x = [] ∨ x ∈ seen)) : newR seen (l.drop j) = newR (seen ++ [x]) (l.drop (j + 1)) := by
  have e : l.drop j = x :: l.drop (j + 1) := by
    obtain ⟨hj1, hj2⟩ := List.getElem?_eq_some_iff.1 h
    rw [← hj2, List.getElem_cons_drop]
  rw [e]
  conv => lhs; unfold newR
  rw [if_neg hx]
theorem new_end {seen l : List Txt} : newR seen (l.drop l.length) = some seen := by rw [List.drop_length]; rfl
end Go.Proofs.YtjcpfldobiekbaaDoor
