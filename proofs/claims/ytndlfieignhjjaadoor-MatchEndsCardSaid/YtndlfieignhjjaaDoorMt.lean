
/-
  Package match: what its functions, and the document's, do.
-/
import Derived.Test.YtndlfieignhjjaaDoorShelf
import Derived.Test.YtndlfieignhjjaaDoorMtP
import Derived.Test.YtndlfieignhjjaaDoorStr
import Derived.Test.YtndlfieignhjjaaDoorFlds
namespace Go.Proofs.YtndlfieignhjjaaDoor
open Go.RowKit Go.Sl Go.ChangeShapes

theorem beq_u8 {c d : UInt8} (h : c ≠ d) : ((c.toNat : Int) == (d.toNat : Int)) = false ∧ (c.toNat == d.toNat) = false := by
  have : c.toNat ≠ d.toNat := fun e => h (UInt8.toNat_inj.1 e)
  constructor
  · simp
    omega
  · simp [this]

/-- strings.Cut at one octet -/
theorem cut_one (p : Txt) (c : UInt8) : (Lib.indexByte p c = -1 ∧ p.takeWhile (· != c) = p) ∨ ∃ i : Nat, i < p.length ∧ Lib.indexByte p c = i ∧ p.takeWhile (· != c) = p.take i := by
  induction p with
  | nil => exact .inl ⟨rfl, rfl⟩
  | cons x p ih =>
    by_cases hx : x = c
    · subst hx
      exact .inr ⟨0, by simp, by unfold Lib.indexByte; simp, by simp⟩
    · have hb : (x == c) = false := by simp [hx]
      rw [List.takeWhile_cons_of_pos (by simp [hx])]
      rcases ih with ⟨h1, h2⟩ | ⟨i, h0, h1, h2⟩
      · exact .inl ⟨by unfold Lib.indexByte; simp [hb, h1], by rw [h2]⟩
      · refine .inr ⟨i + 1, by simp; omega, ?_, by rw [h2]; rfl⟩
        unfold Lib.indexByte
        rw [hb, h1]
        have : ((i : Int) == -1) = false := by simp <;> omega
        simp [this]

set_option maxHeartbeats 4000000 in
set_option maxRecDepth 100000 in
theorem cutLiteC {B w : World} {A : Assn} {p : Txt} (hp : p.length ≤ 1000000) (h : Own B A w) :
    Calls Tryd.prog 55 #[str p, str [63]] w fun e w' => ∃ r b, e = .returned (.tuple #[str (bareL p), str r, .bool b]) ∧ Own B A w' := by
  obtain ⟨ix, hix⟩ : ∃ ix, Lib.indexByte p 63 = ix := ⟨_, rfl⟩
  have HIX := Lib.hid hix
  rcases cut_one p 63 with ⟨h1, h2⟩ | ⟨i, h0, h1, h2⟩
  · have hb : Hid (bareL p = p) := Lib.hid h2
    rw [hix] at h1
    subst h1
    clear hix h2
    go_enter Tryd.func55, Tryd.ntmps55
    go_wp2_with (first
      | (go_at_call 63; refine Calls.mono (Tryd.stringslite_Index_one ⟨p.toArray⟩ 63 _) ?_; rintro e w ⟨rfl, rfl⟩; rw [show Lib.indexByte (ByteArray.mk p.toArray).data.toList 63 = _ from HIX.out])
      | fail)
    try simp only [Exit.inBlock, Exit.then]
    refine bodyPost_ret (results3 rfl (by first | exact resT rfl | exact resB G rfl (by rfl) | exact resO G rfl rfl) (by first | exact resT rfl | exact resB G rfl (by rfl) | exact resO G rfl rfl) (by first | exact resT rfl | exact resB G rfl (by rfl) | exact resO G rfl rfl)) rfl ?_
    exact ⟨_, _, by rw [hb.out], h⟩
  · have hb : Hid (bareL p = p.take i) := Lib.hid h2
    rw [hix] at h1
    subst h1
    clear hix h2
    go_enter Tryd.func55, Tryd.ntmps55
    go_wp2_with (first
      | (go_at_call 63; refine Calls.mono (Tryd.stringslite_Index_one ⟨p.toArray⟩ 63 _) ?_; rintro e w ⟨rfl, rfl⟩; rw [show Lib.indexByte (ByteArray.mk p.toArray).data.toList 63 = _ from HIX.out])
      | fail)
    refine wp_region_calm (C := Own _ _) (by kernel_rfl) (by kernel_rfl) (own_drew h) ?_
    intro ι W hne hW hs
    repeat (first
      | ((with_reducible refine atq_sliceAny ?_); first
        | (refine wpq_strH (j := i) rfl rfl rfl rfl rfl (by omega) ?_; go_frame)
        | (refine wpq_strL (i := i + 1) rfl rfl rfl rfl (by omega) (by omega) ?_; go_frame))
      | go_big_quiet_step (fail))
    refine wpQuiet_nil ?_
    intro i'
    have G := hW i'
    generalize W i' = wg at G ⊢
    clear hs hW hne
    go_wp2_with fail
    try simp only [Exit.inBlock, Exit.then]
    refine bodyPost_ret (results3 rfl (by first | exact resT rfl | exact resB G rfl (by rfl) | exact resO G rfl rfl) (by first | exact resT rfl | exact resB G rfl (by rfl) | exact resO G rfl rfl) (by first | exact resT rfl | exact resB G rfl (by rfl) | exact resO G rfl rfl)) rfl ?_
    exact ⟨_, _, by rw [hb.out], G⟩

set_option maxHeartbeats 4000000 in
set_option maxRecDepth 100000 in
theorem bareC {B w : World} {A : Assn} {p : Txt} (hp : p.length ≤ 1000000) (h : Own B A w) :
    Calls Tryd.prog 29 #[str p] w fun e w' => e = .returned (str (bareL p)) ∧ Own B A w' := by
  go_enter Tryd.func29, Tryd.ntmps29
  go_wp2_with fail
  have hc : Calls Tryd.prog 48 #[str p, str [63]] w fun e w' => ∃ r b, e = .returned (.tuple #[str (bareL p), str r, .bool b]) ∧ Own B A w' := by
    go_enter Tryd.func48, Tryd.ntmps48
    go_wp2_with fail
    refine Calls.mono (cutLiteC hp h) ?_
    rintro e w ⟨r, b, rfl, h⟩
    go_wp2_with fail
    try simp only [Exit.inBlock, Exit.then]
    refine bodyPost_ret (results3 rfl (by first | exact resT rfl | exact resB G rfl (by rfl) | exact resO G rfl rfl) (by first | exact resT rfl | exact resB G rfl (by rfl) | exact resO G rfl rfl) (by first | exact resT rfl | exact resB G rfl (by rfl) | exact resO G rfl rfl)) rfl ?_
    exact ⟨_, _, rfl, h⟩
  refine Calls.mono hc ?_
  clear hc h
  rintro e w ⟨r, b, rfl, h⟩
  go_wp2_with fail
  go_ret
  exact ⟨rfl, h⟩

set_option maxHeartbeats 4000000 in
set_option maxRecDepth 100000 in
theorem bareRefC {B w : World} {A : Assn} {p : Txt} (hp : p.length ≤ 1000000) (h : Own B A w) :
    Calls Tryd.prog 31 #[str p] w fun e w' => e = .returned (str (bareL p)) ∧ Own B A w' := by
  go_enter Tryd.func31, Tryd.ntmps31
  go_wp2_with fail
  go_loopw [3] (fun i wr => ∃ j : Nat, i = .int .i64 j ∧ j ≤ p.length ∧ Hid (∀ k : Nat, k < j → p[k]? ≠ some 63) ∧ Own B A wr) (fun i _ => p.length - (intOf i).toNat)
  case atStart => exact ⟨0, rfl, Nat.zero_le _, Lib.hid (fun k hk => by cases hk), h⟩
  case round =>
    clear h
    obtain ⟨j, rfl, hj, HA, G⟩ := hrel
    by_cases hjn : j < p.length
    · obtain ⟨c, hc⟩ : ∃ c, p[j]? = some c := ⟨p[j], List.getElem?_eq_getElem hjn⟩
      have HC := Lib.hid hc
      by_cases h63 : c = 63
      · have hb := bare_hit HA.out (by rw [hc, h63])
        have HB := Lib.hid hb
        subst h63
        clear hc hb
        as_aux_lemma =>
        go_wp2_with (first
          | ((with_reducible refine at_strAt ?_); refine wpu_strAt (i := j) (c := 63) rfl rfl rfl rfl rfl HC.out ?_; go_frame)
          | ((with_reducible refine at_sliceAny ?_); refine wpu_strH (j := j) rfl rfl rfl rfl rfl (by omega) ?_; go_frame)
          | fail)
        go_ret
        exact ⟨by rw [HB.out]; rfl, G⟩
      · have z1 := beq_u8 h63
        have z2 : ((c.toNat : Int) == 63) = false := z1.1
        have z3 : (c.toNat == 63) = false := z1.2
        clear z1
        as_aux_lemma =>
        go_wp2_with (first
          | ((with_reducible refine at_strAt ?_); refine wpu_strAt (i := j) rfl rfl rfl rfl rfl HC.out ?_; go_frame)
          | fail)
        go_roundw
        case rel => exact ⟨j + 1, by go_num, by omega, Lib.hid (fun k hk => by
          by_cases e : k = j
          · subst e
            rw [hc]
            exact fun e => h63 (Option.some.inj e)
          · exact HA.out k (by omega)), G⟩
        case measure => simp [intOf] <;> omega
    · as_aux_lemma =>
      have hb : bareL p = p := bare_all fun k hk => HA.out k (by have := (List.getElem?_eq_some_iff.1 hk).1; omega) hk
      go_wp2_with fail
      go_ret
      exact ⟨by rw [hb]; rfl, G⟩
end Go.Proofs.YtndlfieignhjjaaDoor
