
/-
  Package match: a path, a call.
-/
import Derived.Test.YtndlfieignhjjaaDoorMt
namespace Go.Proofs.YtndlfieignhjjaaDoor
open Go.RowKit Go.Sl Go.ChangeShapes

section
variable {P : Program} {w : World} {ops : Array Oper} {Q : Exit → Act → World → Prop} {rest : List Oper} {a : Act} {x y : Operand} {d : Option Tmp} {ty T' : TypeId} {pos : String} {after : Array Edge} {g : Option (Nat × Bool)} {o : Oper} {l m : Txt}
theorem at_eqS (h : wpList P ops Q (⟨d, .binOp .eql 9 x y T', ty, pos, after, g⟩ :: rest) a w) : wpList P ops Q (⟨d, .binOp .eql 9 x y T', ty, pos, after, g⟩ :: rest) a w := h
theorem wpu_eqS (ho : o.op = .binOp .eql 9 x y T') (hw : Region.wanted o (yielded ops a.tmps) = true) (hx : evalO a x = some (str l)) (hy : evalO a y = some (str m)) {b : Bool} (hb : decide (l = m) = b) (kk : wpList Tryd.prog ops Q rest (a.put o.dst (.bool b)) w) : wpList Tryd.prog ops Q (o :: rest) a w := by
  subst hb
  exact wpu_val hw (exec_strEq ho hx hy) kk
end

theorem hasPrefixC (s p : Txt) (w : World) : Calls Tryd.prog 37 #[str s, str p] w fun e w' => e = .returned (.bool (p.isPrefixOf s)) ∧ w' = w := Tryd.strings_HasPrefix ⟨s.toArray⟩ ⟨p.toArray⟩ w
theorem hasSuffixC (s p : Txt) (w : World) (hs : s.length ≤ 9223372036854775807) : Calls Tryd.prog 32 #[str s, str p] w fun e w' => e = .returned (.bool (p.isSuffixOf s)) ∧ w' = w := Tryd.strings_HasSuffix ⟨s.toArray⟩ ⟨p.toArray⟩ w (by rw [str_size]; exact hs)
theorem cutPrefixC (s p : Txt) (w : World) : Calls Tryd.prog 28 #[str s, str p] w fun e w' => e = .returned (.tuple #[str (if p.isPrefixOf s = true then s.drop p.length else s), .bool (p.isPrefixOf s)]) ∧ w' = w := Tryd.strings_CutPrefix ⟨s.toArray⟩ ⟨p.toArray⟩ w
theorem lastIndexC (s : Txt) (c : UInt8) (w : World) (hs : s.length ≤ 1000000) : Calls Tryd.prog 30 #[str s, .int .u8 (c.toNat : Int)] w fun e w' => e = .returned (.int .i64 (lastI c s)) ∧ w' = w := by
  rw [← lastIndexByte_eq]
  exact Tryd.strings_LastIndexByte ⟨s.toArray⟩ c.toNat (by rw [str_size]; omega) w

set_option maxHeartbeats 4000000 in
set_option maxRecDepth 100000 in
theorem beginsC {s t : Txt} (hs : s.length ≤ 1000000) (ht : t.length ≤ 1000000) (w : World) : Calls Tryd.prog 33 #[str s, str t] w fun e w' => e = .returned (.bool (t.isPrefixOf s)) ∧ w' = w := by
  have HE := Lib.hid (Lib.hasPrefix_of_take s t)
  go_enter Tryd.func33, Tryd.ntmps33
  by_cases hl : t.length ≤ s.length
  · go_wp2_with (first
      | ((with_reducible refine at_sliceAny ?_); refine wpu_strH (j := t.length) rfl rfl rfl rfl rfl (by omega) ?_; go_frame)
      | ((with_reducible refine at_eqS ?_); refine wpu_eqS rfl rfl rfl rfl rfl ?_; go_frame)
      | fail)
    go_ret
    refine ⟨?_, rfl⟩
    have := HE.out
    unfold Lib.hasPrefix at this
    rw [← this]
    simp [hl]
    rw [Bool.eq_iff_iff]
    simp
  · go_wp2_with fail
    go_ret
    refine ⟨?_, rfl⟩
    have := HE.out
    unfold Lib.hasPrefix at this
    rw [← this]
    simp [hl]

set_option maxHeartbeats 4000000 in
set_option maxRecDepth 100000 in
theorem endsC {s t : Txt} (hs : s.length ≤ 1000000) (ht : t.length ≤ 1000000) (w : World) : Calls Tryd.prog 34 #[str s, str t] w fun e w' => e = .returned (.bool (t.isSuffixOf s)) ∧ w' = w := by
  have HE := Lib.hid (Lib.hasSuffix_of_drop s t)
  go_enter Tryd.func34, Tryd.ntmps34
  by_cases hl : t.length ≤ s.length
  · go_wp2_with (first
      | ((with_reducible refine at_sliceAny ?_); refine wpu_strL (i := s.length - t.length) rfl rfl rfl rfl (by omega) (by omega) ?_; go_frame)
      | ((with_reducible refine at_eqS ?_); refine wpu_eqS rfl rfl rfl rfl rfl ?_; go_frame)
      | fail)
    go_ret
    refine ⟨?_, rfl⟩
    have := HE.out
    unfold Lib.hasSuffix at this
    rw [← this]
    simp [hl]
    rw [Bool.eq_iff_iff]
    simp
  · go_wp2_with fail
    go_ret
    refine ⟨?_, rfl⟩
    have := HE.out
    unfold Lib.hasSuffix at this
    rw [← this]
    simp [hl]

theorem how4 (h : Int) : h = 0 ∨ h = 1 ∨ h = 2 ∨ (h ≠ 0 ∧ h ≠ 1 ∧ h ≠ 2 ∧ (h == 0) = false ∧ (h == 1) = false ∧ (h == 2) = false) := by
  by_cases h0 : h = 0
  · exact .inl h0
  by_cases h1 : h = 1
  · exact .inr (.inl h1)
  by_cases h2 : h = 2
  · exact .inr (.inr (.inl h2))
  exact .inr (.inr (.inr ⟨h0, h1, h2, by simp [h0], by simp [h1], by simp [h2]⟩))

/-- what a prefix asks -/
def below (want b : Txt) : Bool := want.isPrefixOf b && (decide (b.length = want.length) || decide (want = []) || ([47] : Txt).isSuffixOf want || decide (b[want.length]? = some 47))
theorem path_two (want p : Txt) : pathR 2 want p = below want (bareL p) := rfl
theorem drop_nil_iff {want b : Txt} (h : want.isPrefixOf b = true) : (b.drop want.length = [] ↔ b.length = want.length) := by
  have := (List.isPrefixOf_iff_prefix.1 h).length_le
  rw [List.drop_eq_nil_iff]
  omega


set_option maxHeartbeats 8000000 in
set_option maxRecDepth 100000 in
theorem pathC {B w : World} {A : Assn} {how : Int} {want p : Txt} (hw : want.length ≤ 1000000) (hp : p.length ≤ 1000000) (h : Own B A w) :
    Calls Tryd.prog 16 #[.int .i64 how, str want, str p] w fun e w' => e = .returned (.bool (pathR how want p)) ∧ Own B A w' := by
  have hbl := bare_len p
  rcases how4 how with rfl | rfl | rfl | ⟨h0, h1, h2, z0, z1, z2⟩
  · go_enter Tryd.func16, Tryd.ntmps16
    go_wp2_with fail
    refine Calls.mono (bareC hp h) ?_
    clear h; rintro e w ⟨rfl, h⟩
    go_wp2_with fail
    go_ret
    exact ⟨rfl, h⟩
  · go_enter Tryd.func16, Tryd.ntmps16
    go_wp2_with fail
    refine Calls.mono (bareC hp h) ?_
    clear h; rintro e w ⟨rfl, h⟩
    go_wp2_with (first
      | ((with_reducible refine at_eqS ?_); refine wpu_eqS rfl (by kernel_rfl) rfl rfl (by first | assumption | rfl) ?_; go_frame)
      | fail)
    go_ret
    exact ⟨rfl, h⟩
  · rw [path_two]
    have hcall := bareC hp h
    obtain ⟨b, hb⟩ : ∃ b, bareL p = b := ⟨_, rfl⟩
    rw [hb] at hbl hcall ⊢
    clear hb
    go_enter Tryd.func16, Tryd.ntmps16
    go_wp2_with fail
    refine Calls.mono hcall ?_
    clear h hcall; rintro e w ⟨rfl, h⟩
    by_cases hpre : want.isPrefixOf b = true
    · have e0 := drop_nil_iff hpre
      obtain ⟨r, hr⟩ : ∃ r, b.drop want.length = r := ⟨_, rfl⟩
      have HCUT : Hid (∀ w, Calls Tryd.prog 28 #[str b, str want] w fun e w' => e = .returned (.tuple #[str r, .bool true]) ∧ w' = w) := Lib.hid fun w => by
        have := cutPrefixC b want w
        rwa [if_pos hpre, hr, hpre] at this
      rw [hr] at e0
      have HR := Lib.hid hr
      have HP := Lib.hid hpre
      have E0 := Lib.hid e0
      clear hr hpre e0
      by_cases g1 : r = []
      · have y1 : decide (r = []) = true := by simp [g1]
        have HB : Hid (below want b = true) := Lib.hid (by unfold below; rw [HP.out]; simp [E0.out.1 g1])
        clear g1
        as_aux_lemma =>
        go_wp2_with (first
          | (go_at_call 28; refine Calls.mono (HCUT.out _) ?_; rintro e w ⟨rfl, rfl⟩)
          | ((with_reducible refine at_eqS ?_); refine wpu_eqS rfl (by kernel_rfl) rfl rfl (by first | assumption | rfl) ?_; go_frame)
          | fail)
        go_ret
        exact ⟨by rw [HB.out]; rfl, h⟩
      · have y1 : decide (r = []) = false := by simp [g1]
        by_cases g2 : want = []
        · have y2 : decide (want = []) = true := by simp [g2]
          have HB : Hid (below want b = true) := Lib.hid (by unfold below; rw [HP.out]; simp [g2])
          clear g1 g2
          as_aux_lemma =>
          go_wp2_with (first
            | (go_at_call 28; refine Calls.mono (HCUT.out _) ?_; rintro e w ⟨rfl, rfl⟩)
            | ((with_reducible refine at_eqS ?_); refine wpu_eqS rfl (by kernel_rfl) rfl rfl (by first | assumption | rfl) ?_; go_frame)
            | fail)
          go_ret
          exact ⟨by rw [HB.out]; rfl, h⟩
        · have y2 : decide (want = []) = false := by simp [g2]
          obtain ⟨sf, hsf⟩ : ∃ sf, ([47] : Txt).isSuffixOf want = sf := ⟨_, rfl⟩
          have HSF := Lib.hid hsf
          obtain ⟨c, hc⟩ : ∃ c, r[0]? = some c := ⟨r[0]'(List.length_pos_iff.2 g1), List.getElem?_eq_getElem _⟩
          have HC := Lib.hid hc
          have hcb : b[want.length]? = some c := by
            rw [← HR.out, List.getElem?_drop] at hc
            simpa using hc
          have hlen : ¬ b.length = want.length := fun e => g1 (E0.out.2 e)
          by_cases g3 : c = 47
          · subst g3
            have HB : Hid (below want b = true) := Lib.hid (by unfold below; rw [HP.out, hcb]; simp)
            clear g1 g2 hsf hc hcb hlen
            cases sf
            · as_aux_lemma =>
              go_wp2_with (first
                | (go_at_call 28; refine Calls.mono (HCUT.out _) ?_; rintro e w ⟨rfl, rfl⟩)
                | (go_at_call 32; refine Calls.mono (hasSuffixC want [47] _ (by omega)) ?_; rintro e w ⟨rfl, rfl⟩; rw [HSF.out])
                | ((with_reducible refine at_strAt ?_); refine wpu_strAt (i := 0) (c := 47) rfl (by kernel_rfl) rfl rfl rfl HC.out ?_; go_frame)
                | ((with_reducible refine at_eqS ?_); refine wpu_eqS rfl (by kernel_rfl) rfl rfl (by first | assumption | rfl) ?_; go_frame)
                | fail)
              go_ret
              exact ⟨by rw [HB.out]; rfl, h⟩
            · as_aux_lemma =>
              go_wp2_with (first
                | (go_at_call 28; refine Calls.mono (HCUT.out _) ?_; rintro e w ⟨rfl, rfl⟩)
                | (go_at_call 32; refine Calls.mono (hasSuffixC want [47] _ (by omega)) ?_; rintro e w ⟨rfl, rfl⟩; rw [HSF.out])
                | ((with_reducible refine at_eqS ?_); refine wpu_eqS rfl (by kernel_rfl) rfl rfl (by first | assumption | rfl) ?_; go_frame)
                | fail)
              go_ret
              exact ⟨by rw [HB.out]; rfl, h⟩
          · obtain ⟨k1, k2⟩ := beq_u8 g3
            have k3 : ((c.toNat : Int) == 47) = false := k1
            have k4 : (c.toNat == 47) = false := k2
            have HB : Hid (below want b = sf) := Lib.hid (by
              unfold below
              rw [HP.out, hcb, hsf]
              simp [hlen, g2, g3])
            clear g1 g2 g3 hsf hc hcb hlen k1 k2
            cases sf
            · as_aux_lemma =>
              go_wp2_with (first
                | (go_at_call 28; refine Calls.mono (HCUT.out _) ?_; rintro e w ⟨rfl, rfl⟩)
                | (go_at_call 32; refine Calls.mono (hasSuffixC want [47] _ (by omega)) ?_; rintro e w ⟨rfl, rfl⟩; rw [HSF.out])
                | ((with_reducible refine at_strAt ?_); refine wpu_strAt (i := 0) (c := c) rfl (by kernel_rfl) rfl rfl rfl HC.out ?_; go_frame)
                | ((with_reducible refine at_eqS ?_); refine wpu_eqS rfl (by kernel_rfl) rfl rfl (by first | assumption | rfl) ?_; go_frame)
                | fail)
              go_ret
              exact ⟨by rw [HB.out]; rfl, h⟩
            · as_aux_lemma =>
              go_wp2_with (first
                | (go_at_call 28; refine Calls.mono (HCUT.out _) ?_; rintro e w ⟨rfl, rfl⟩)
                | (go_at_call 32; refine Calls.mono (hasSuffixC want [47] _ (by omega)) ?_; rintro e w ⟨rfl, rfl⟩; rw [HSF.out])
                | ((with_reducible refine at_eqS ?_); refine wpu_eqS rfl (by kernel_rfl) rfl rfl (by first | assumption | rfl) ?_; go_frame)
                | fail)
              go_ret
              exact ⟨by rw [HB.out]; rfl, h⟩
    · have hpre' : want.isPrefixOf b = false := by cases hx : want.isPrefixOf b; rfl; exact absurd hx hpre
      have HCUT : Hid (∀ w, Calls Tryd.prog 28 #[str b, str want] w fun e w' => e = .returned (.tuple #[str b, .bool false]) ∧ w' = w) := Lib.hid fun w => by
        have := cutPrefixC b want w
        rwa [if_neg hpre, hpre'] at this
      have HB : Hid (below want b = false) := Lib.hid (by unfold below; rw [hpre']; rfl)
      have HP := Lib.hid hpre'
      clear hpre hpre'
      as_aux_lemma =>
      go_wp2_with (first
        | (go_at_call 28; refine Calls.mono (HCUT.out _) ?_; rintro e w ⟨rfl, rfl⟩)
        | ((with_reducible refine at_eqS ?_); refine wpu_eqS rfl (by kernel_rfl) rfl rfl (by first | assumption | rfl) ?_; go_frame)
        | fail)
      go_ret
      exact ⟨by rw [HB.out]; rfl, h⟩
  · go_enter Tryd.func16, Tryd.ntmps16
    go_wp2_with fail
    refine Calls.mono (bareC hp h) ?_
    clear h; rintro e w ⟨rfl, h⟩
    go_wp2_with fail
    go_ret
    exact ⟨by simp [pathR, h0, h1, h2], h⟩
end Go.Proofs.YtndlfieignhjjaaDoor
