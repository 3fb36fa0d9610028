
/-
  Package match: small letters.
-/
import Derived.Test.YtndlfieignhjjaaDoorMt3
import Derived.Test.YtndlfieignhjjaaDoorStrB
namespace Go.Proofs.YtndlfieignhjjaaDoor
open Go.RowKit Go.Sl Go.ChangeShapes

def mixL (j : Nat) (l : Txt) : Txt := smallL (l.take j) ++ l.drop j
theorem mix_len (j : Nat) (l : Txt) : (mixL j l).length = l.length := by unfold mixL smallL; simp; omega
theorem mix_zero (l : Txt) : mixL 0 l = l := rfl
theorem mix_end (l : Txt) : mixL l.length l = smallL l := by unfold mixL; simp
theorem mix_at {l : Txt} {j : Nat} {c : UInt8} (h : l[j]? = some c) : (mixL j l)[j]? = some c := by
  have hj := (List.getElem?_eq_some_iff.1 h).1
  unfold mixL
  rw [List.getElem?_append_right (by simp [smallL]; omega), List.getElem?_drop]
  rw [← h]
  congr 1
  simp [smallL]
  omega
theorem mix_succ {l : Txt} {j : Nat} {c : UInt8} (h : l[j]? = some c) : mixL (j + 1) l = smallL (l.take j) ++ smallC c :: l.drop (j + 1) := by
  unfold mixL
  rw [List.take_add_one, h]
  simp [smallL]
theorem mix_here {l : Txt} {j : Nat} {c : UInt8} (h : l[j]? = some c) : mixL j l = smallL (l.take j) ++ c :: l.drop (j + 1) := by
  have hj := (List.getElem?_eq_some_iff.1 h)
  unfold mixL
  rw [List.drop_eq_getElem_cons hj.1, hj.2]
theorem mix_set {l : Txt} {j : Nat} {c : UInt8} (h : l[j]? = some c) : (mixL j l).set j (smallC c) = mixL (j + 1) l := by
  have hj := (List.getElem?_eq_some_iff.1 h).1
  rw [mix_here h, mix_succ h]
  have hl : (smallL (l.take j)).length = j := by simp [smallL]; omega
  rw [List.set_append_right _ _ (by omega), hl, Nat.sub_self]
  rfl
theorem mix_skip {l : Txt} {j : Nat} {c : UInt8} (h : l[j]? = some c) (hc : smallC c = c) : mixL (j + 1) l = mixL j l := by
  rw [mix_here h, mix_succ h, hc]
theorem bs_set (l : Txt) (j : Nat) (c : UInt8) : (bs l).set j (.int .u8 (c.toNat : Int)) = bs (l.set j c) := by simp [bs, byteV, List.map_set]
theorem bs_at {l : Txt} {j : Nat} {c : UInt8} (h : l[j]? = some c) : (bs l)[j]? = some (.int .u8 (c.toNat : Int)) := by simp [bs, h, byteV]

theorem small_or {c : UInt8} (h1 : 65 ≤ c.toNat) (h2 : c.toNat ≤ 90) : bits .or .u8 (c.toNat : Int) 32 = ((smallC c).toNat : Int) ∧ (c.toNat : Int) + 32 = ((smallC c).toNat : Int) := by
  have key : ∀ n : Fin 26, bits .or .u8 (((65 + n.val : Nat)) : Int) 32 = ((smallC (UInt8.ofNat (65 + n.val))).toNat : Int) ∧ (((65 + n.val : Nat)) : Int) + 32 = ((smallC (UInt8.ofNat (65 + n.val))).toNat : Int) := by decide
  have := key ⟨c.toNat - 65, by omega⟩
  simp only [show 65 + (c.toNat - 65) = c.toNat by omega] at this
  rwa [UInt8.ofNat_toNat] at this
theorem small_id {c : UInt8} (h : ¬ (65 ≤ c.toNat ∧ c.toNat ≤ 90)) : smallC c = c := by
  unfold smallC
  rw [if_neg]
  intro ⟨a, b⟩
  exact h ⟨UInt8.le_iff_toNat_le.1 a, UInt8.le_iff_toNat_le.1 b⟩



set_option maxHeartbeats 8000000 in
set_option maxRecDepth 100000 in
theorem smallMC {B w : World} {A : Assn} {p : Txt} (hp : p.length ≤ 1000000) (h : Own B A w) :
    Calls Tryd.prog 36 #[str p] w fun e w' => e = .returned (str (smallL p)) ∧ Own B A w' := by
  go_enter Tryd.func36, Tryd.ntmps36
  go_wp2_with (first
    | ((with_reducible refine at_convert ?_); refine wpu_toBytes h rfl rfl rfl (by unfold maxLen; omega) ?_; clear h; intro v w G; obtain ⟨ao, ac, rfl, j1, j2⟩ := G.hdr v; go_frame)
    | fail)
  go_loopw [10] (fun i wr => ∃ j : Nat, i = .int .i64 j ∧ j ≤ p.length ∧ Own B (sl 1 (.slice ao p.length ac) p.length (bs (mixL j p)) * A) wr) (fun i _ => p.length - (intOf i).toNat)
  case atStart => exact ⟨0, rfl, Nat.zero_le _, G⟩
  case round =>
    clear G
    unfold maxLen at j2
    obtain ⟨j, rfl, hj, G⟩ := hrel
    by_cases hjn : j < p.length
    · obtain ⟨c, hc⟩ : ∃ c, p[j]? = some c := ⟨p[j], List.getElem?_eq_getElem hjn⟩
      obtain ⟨ad, rfl⟩ := rd_some (G.rd (.slice ao p.length ac) _ G) (by omega)
      have HV := Lib.hid (bs_at (mix_at hc))
      by_cases hu : 65 ≤ c.toNat ∧ c.toNat ≤ 90
      · obtain ⟨s1, s2⟩ := small_or hu.1 hu.2
        have HS := Lib.hid s2
        have HM := Lib.hid (mix_set hc)
        obtain ⟨u1, u2⟩ := hu
        have y1 : decide ((65 : Int) ≤ (c.toNat : Int)) = true := by simp; omega
        have y2 : decide ((c.toNat : Int) ≤ 90) = true := by simp; omega
        have y3 : decide (65 ≤ c.toNat) = true := by simp; omega
        have y4 : decide (c.toNat ≤ 90) = true := by simp; omega
        clear s2 hc
        as_aux_lemma =>
        go_wp2_with (first
          | ((with_reducible refine at_load ?_); refine wpu_loadC (k := j) (G.rd (.slice (some ad) p.length ac) _ G) HV.out rfl (by kernel_rfl) rfl ?_; go_frame)
          | ((with_reducible refine at_store ?_); refine wpu_store1 (s := ad) (n := p.length) (cap := ac) (k := j) G rfl rfl rfl rfl rfl hjn ?_; clear G; intro w G; go_frame)
          | fail)
        skip
        rw [bs_set, HM.out] at G
        go_roundw
        case rel => exact ⟨j + 1, by go_num, by omega, G⟩
        case measure => simp [intOf] <;> omega
      · have HID := Lib.hid (mix_skip hc (small_id hu))
        by_cases h65 : 65 ≤ c.toNat
        · have y1 : decide ((65 : Int) ≤ (c.toNat : Int)) = true := by simp; omega
          have y2 : decide ((c.toNat : Int) ≤ 90) = false := by simp; omega
          have y3 : decide (65 ≤ c.toNat) = true := by simp; omega
          have y4 : decide (c.toNat ≤ 90) = false := by simp; omega
          clear hc hu
          as_aux_lemma =>
          go_wp2_with (first
            | ((with_reducible refine at_load ?_); refine wpu_loadC (k := j) (G.rd (.slice (some ad) p.length ac) _ G) HV.out rfl (by kernel_rfl) rfl ?_; go_frame)
            | fail)
          rw [← HID.out] at G
          go_roundw
          case rel => exact ⟨j + 1, by go_num, by omega, G⟩
          case measure => simp [intOf] <;> omega
        · have y1 : decide ((65 : Int) ≤ (c.toNat : Int)) = false := by simp; omega
          have y3 : decide (65 ≤ c.toNat) = false := by simp; omega
          clear hc hu
          as_aux_lemma =>
          go_wp2_with (first
            | ((with_reducible refine at_load ?_); refine wpu_loadC (k := j) (G.rd (.slice (some ad) p.length ac) _ G) HV.out rfl (by kernel_rfl) rfl ?_; go_frame)
            | fail)
          rw [← HID.out] at G
          go_roundw
          case rel => exact ⟨j + 1, by go_num, by omega, G⟩
          case measure => simp [intOf] <;> omega
    · as_aux_lemma =>
      obtain rfl : j = p.length := by omega
      rw [mix_end] at G
      have hsl : (smallL p).length = p.length := by simp [smallL]
      have G2 : Own B (sl 1 (.slice ao (smallL p).length ac) (smallL p).length (bs (smallL p)) * A) wr := by rw [hsl]; exact G
      clear G
      have G := G2
      clear G2
      rw [← hsl]
      clear hsl
      go_wp2_with (first
        | ((with_reducible refine at_convert ?_); refine wpu_strR (G.rd (.slice ao (smallL p).length ac) _ G) rfl rfl rfl ?_; go_frame)
        | fail)
      go_ret
      exact ⟨rfl, G.right⟩

set_option maxHeartbeats 8000000 in
set_option maxRecDepth 100000 in
theorem smallRefC {B w : World} {A : Assn} {p : Txt} (hp : p.length ≤ 1000000) (h : Own B A w) :
    Calls Tryd.prog 39 #[str p] w fun e w' => e = .returned (str (smallL p)) ∧ Own B A w' := by
  go_enter Tryd.func39, Tryd.ntmps39
  go_wp2_with (first
    | ((with_reducible refine at_convert ?_); refine wpu_toBytes h rfl rfl rfl (by unfold maxLen; omega) ?_; clear h; intro v w G; obtain ⟨ao, ac, rfl, j1, j2⟩ := G.hdr v; go_frame)
    | fail)
  go_loopw [4] (fun i wr => ∃ j : Nat, i = .int .i64 j ∧ j ≤ p.length ∧ Own B (sl 1 (.slice ao p.length ac) p.length (bs (mixL j p)) * A) wr) (fun i _ => p.length - (intOf i).toNat)
  case atStart => exact ⟨0, rfl, Nat.zero_le _, G⟩
  case round =>
    clear G
    unfold maxLen at j2
    obtain ⟨j, rfl, hj, G⟩ := hrel
    by_cases hjn : j < p.length
    · obtain ⟨c, hc⟩ : ∃ c, p[j]? = some c := ⟨p[j], List.getElem?_eq_getElem hjn⟩
      obtain ⟨ad, rfl⟩ := rd_some (G.rd (.slice ao p.length ac) _ G) (by omega)
      have HV := Lib.hid (bs_at (mix_at hc))
      by_cases hu : 65 ≤ c.toNat ∧ c.toNat ≤ 90
      · obtain ⟨s1, s2⟩ := small_or hu.1 hu.2
        have HS := Lib.hid s2
        have HM := Lib.hid (mix_set hc)
        obtain ⟨u1, u2⟩ := hu
        have y1 : decide ((65 : Int) ≤ (c.toNat : Int)) = true := by simp; omega
        have y2 : decide ((c.toNat : Int) ≤ 90) = true := by simp; omega
        have y3 : decide (65 ≤ c.toNat) = true := by simp; omega
        have y4 : decide (c.toNat ≤ 90) = true := by simp; omega
        clear s2 hc
        as_aux_lemma =>
        go_wp2_with (first
          | ((with_reducible refine at_load ?_); refine wpu_loadC (k := j) (G.rd (.slice (some ad) p.length ac) _ G) HV.out rfl (by kernel_rfl) rfl ?_; go_frame)
          | ((with_reducible refine at_store ?_); refine wpu_store1 (s := ad) (n := p.length) (cap := ac) (k := j) G rfl rfl rfl rfl rfl hjn ?_; clear G; intro w G; go_frame)
          | fail)
        rw [HS.out] at G
        rw [bs_set, HM.out] at G
        go_roundw
        case rel => exact ⟨j + 1, by go_num, by omega, G⟩
        case measure => simp [intOf] <;> omega
      · have HID := Lib.hid (mix_skip hc (small_id hu))
        by_cases h65 : 65 ≤ c.toNat
        · have y1 : decide ((65 : Int) ≤ (c.toNat : Int)) = true := by simp; omega
          have y2 : decide ((c.toNat : Int) ≤ 90) = false := by simp; omega
          have y3 : decide (65 ≤ c.toNat) = true := by simp; omega
          have y4 : decide (c.toNat ≤ 90) = false := by simp; omega
          clear hc hu
          as_aux_lemma =>
          go_wp2_with (first
            | ((with_reducible refine at_load ?_); refine wpu_loadC (k := j) (G.rd (.slice (some ad) p.length ac) _ G) HV.out rfl (by kernel_rfl) rfl ?_; go_frame)
            | fail)
          rw [← HID.out] at G
          go_roundw
          case rel => exact ⟨j + 1, by go_num, by omega, G⟩
          case measure => simp [intOf] <;> omega
        · have y1 : decide ((65 : Int) ≤ (c.toNat : Int)) = false := by simp; omega
          have y3 : decide (65 ≤ c.toNat) = false := by simp; omega
          clear hc hu
          as_aux_lemma =>
          go_wp2_with (first
            | ((with_reducible refine at_load ?_); refine wpu_loadC (k := j) (G.rd (.slice (some ad) p.length ac) _ G) HV.out rfl (by kernel_rfl) rfl ?_; go_frame)
            | fail)
          rw [← HID.out] at G
          go_roundw
          case rel => exact ⟨j + 1, by go_num, by omega, G⟩
          case measure => simp [intOf] <;> omega
    · as_aux_lemma =>
      obtain rfl : j = p.length := by omega
      rw [mix_end] at G
      have hsl : (smallL p).length = p.length := by simp [smallL]
      have G2 : Own B (sl 1 (.slice ao (smallL p).length ac) (smallL p).length (bs (smallL p)) * A) wr := by rw [hsl]; exact G
      clear G
      have G := G2
      clear G2
      rw [← hsl]
      clear hsl
      go_wp2_with (first
        | ((with_reducible refine at_convert ?_); refine wpu_strR (G.rd (.slice ao (smallL p).length ac) _ G) rfl rfl rfl ?_; go_frame)
        | fail)
      go_ret
      exact ⟨rfl, G.right⟩
end Go.Proofs.YtndlfieignhjjaaDoor
