
/-
  Package match: large letters.
-/
import Derived.Test.YtndlfieignhjjaaDoorMtLet
import Derived.Test.YtndlfieignhjjaaDoorMtPl2
namespace Go.Proofs.YtndlfieignhjjaaDoor
open Go.RowKit Go.Sl Go.ChangeShapes

theorem large_sub {c : UInt8} (h1 : 97 ≤ c.toNat) (h2 : c.toNat ≤ 122) : (c.toNat : Int) - 32 = ((largeC c).toNat : Int) := by
  have key : ∀ n : Fin 26, (((97 + n.val : Nat)) : Int) - 32 = ((largeC (UInt8.ofNat (97 + n.val))).toNat : Int) := by decide
  have := key ⟨c.toNat - 97, by omega⟩
  simp only [show 97 + (c.toNat - 97) = c.toNat by omega] at this
  rwa [UInt8.ofNat_toNat] at this
theorem large_id {c : UInt8} (h : ¬ (97 ≤ c.toNat ∧ c.toNat ≤ 122)) : largeC c = c := by
  unfold largeC
  rw [if_neg]
  intro ⟨a, b⟩
  exact h ⟨UInt8.le_iff_toNat_le.1 a, UInt8.le_iff_toNat_le.1 b⟩
theorem mixF_skip {f : UInt8 → UInt8} {l : Txt} {j : Nat} {c : UInt8} (h : l[j]? = some c) (hc : f c = c) : mixF f (j + 1) l = mixF f j l := by
  rw [mixF_here h]
  unfold mixF
  rw [List.take_add_one, h]
  simp [hc]


set_option maxHeartbeats 8000000 in
set_option maxRecDepth 100000 in
theorem largeLC {B w : World} {A : Assn} {p : Txt} (hp : p.length ≤ 1000000) (h : Own B A w) :
    Calls Tryd.prog 21 #[str p] w fun e w' => e = .returned (str (largeL p)) ∧ Own B A w' := by
  go_enter Tryd.func21, Tryd.ntmps21
  go_wp2_with (first
    | ((with_reducible refine at_convert ?_); refine wpu_toBytes h rfl rfl rfl (by unfold maxLen; omega) ?_; clear h; intro v w G; obtain ⟨ao, ac, rfl, j1, j2⟩ := G.hdr v; go_frame)
    | fail)
  go_loopw [4] (fun i wr => ∃ j : Nat, i = .int .i64 j ∧ j ≤ p.length ∧ Own B (sl 1 (.slice ao p.length ac) p.length (bs (mixF largeC j p)) * A) wr) (fun i _ => p.length - (intOf i).toNat)
  case atStart => exact ⟨0, rfl, Nat.zero_le _, G⟩
  case round =>
    clear G
    unfold maxLen at j2
    obtain ⟨j, rfl, hj, G⟩ := hrel
    by_cases hjn : j < p.length
    · obtain ⟨c, hc⟩ : ∃ c, p[j]? = some c := ⟨p[j], List.getElem?_eq_getElem hjn⟩
      obtain ⟨ad, rfl⟩ := rd_some (G.rd (.slice ao p.length ac) _ G) (by omega)
      have HV := Lib.hid (bs_at (mixF_at (f := largeC) hc))
      by_cases hu : 97 ≤ c.toNat ∧ c.toNat ≤ 122
      · have HS := Lib.hid (large_sub hu.1 hu.2)
        have HM := Lib.hid (mixF_set (f := largeC) hc)
        obtain ⟨u1, u2⟩ := hu
        have y1 : decide ((97 : Int) ≤ (c.toNat : Int)) = true := by simp; omega
        have y2 : decide ((c.toNat : Int) ≤ 122) = true := by simp; omega
        have y3 : decide (97 ≤ c.toNat) = true := by simp; omega
        have y4 : decide (c.toNat ≤ 122) = true := by simp; omega
        clear hc
        as_aux_lemma =>
        go_wp2_with (first
          | ((with_reducible refine at_load ?_); refine wpu_loadC (k := j) (G.rd (.slice (some ad) p.length ac) _ G) HV.out rfl (by kernel_rfl) rfl ?_; go_frame)
          | ((with_reducible refine at_store ?_); refine wpu_store1 (s := ad) (n := p.length) (cap := ac) (k := j) G rfl rfl rfl rfl rfl hjn ?_; clear G; intro w G; go_frame)
          | fail)
        rw [HS.out, bs_set, HM.out] at G
        go_roundw
        case rel => exact ⟨j + 1, by go_num, by omega, G⟩
        case measure => simp [intOf] <;> omega
      · have HID := Lib.hid (mixF_skip hc (large_id hu))
        by_cases h97 : 97 ≤ c.toNat
        · have y1 : decide ((97 : Int) ≤ (c.toNat : Int)) = true := by simp; omega
          have y2 : decide ((c.toNat : Int) ≤ 122) = false := by simp; omega
          have y3 : decide (97 ≤ c.toNat) = true := by simp; omega
          have y4 : decide (c.toNat ≤ 122) = false := by simp; omega
          clear hc hu
          as_aux_lemma =>
          go_wp2_with (first
            | ((with_reducible refine at_load ?_); refine wpu_loadC (k := j) (G.rd (.slice (some ad) p.length ac) _ G) HV.out rfl (by kernel_rfl) rfl ?_; go_frame)
            | fail)
          rw [← HID.out] at G
          go_roundw
          case rel => exact ⟨j + 1, by go_num, by omega, G⟩
          case measure => simp [intOf] <;> omega
        · have y1 : decide ((97 : Int) ≤ (c.toNat : Int)) = false := by simp; omega
          have y3 : decide (97 ≤ c.toNat) = false := by simp; omega
          clear hc hu
          as_aux_lemma =>
          go_wp2_with (first
            | ((with_reducible refine at_load ?_); refine wpu_loadC (k := j) (G.rd (.slice (some ad) p.length ac) _ G) HV.out rfl (by kernel_rfl) rfl ?_; go_frame)
            | fail)
          rw [← HID.out] at G
          go_roundw
          case rel => exact ⟨j + 1, by go_num, by omega, G⟩
          case measure => simp [intOf] <;> omega
    · as_aux_lemma =>
      obtain rfl : j = p.length := by omega
      rw [mixF_end] at G
      have hsl : (p.map largeC).length = p.length := by simp
      have G2 : Own B (sl 1 (.slice ao (p.map largeC).length ac) (p.map largeC).length (bs (p.map largeC)) * A) wr := by rw [hsl]; exact G
      clear G
      have G := G2
      clear G2
      rw [← hsl]
      clear hsl
      go_wp2_with (first
        | ((with_reducible refine at_convert ?_); refine wpu_strR (G.rd (.slice ao (p.map largeC).length ac) _ G) rfl rfl rfl ?_; go_frame)
        | fail)
      go_ret
      exact ⟨rfl, G.right⟩
end Go.Proofs.YtndlfieignhjjaaDoor
