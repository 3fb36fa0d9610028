




/-
  Package match: what its functions, and the document's, do.
  Package match: a path, a call.
  Package match: the document's path; calls.
  Package match: small letters.
  Package match: names.
  Package match: hosts.
-/
import Derived.Test.YtjcpfldobiekbaaDoorShelf
import Derived.Test.YtjcpfldobiekbaaDoorMtP
import Derived.Test.YtjcpfldobiekbaaDoorStr
import Derived.Test.YtjcpfldobiekbaaDoorFlds
import Derived.Test.YtjcpfldobiekbaaDoorStrB
import Derived.Shelf.Strings.SlTrimAscii
namespace Go.Proofs.YtjcpfldobiekbaaDoor
open Go.RowKit Go.Sl Go.ChangeShapes

theorem beq_u8 {c d : UInt8} (h : c ≠ d) : ((c.toNat : Int) == (d.toNat : Int)) = false ∧ (c.toNat == d.toNat) = false := by
  have : c.toNat ≠ d.toNat := fun e => h (UInt8.toNat_inj.1 e)
  constructor
  · simp
    omega
  · simp [this]

/-- strings.Cut at one octet -/
theorem cut_one (p : Txt) (c : UInt8) : (Lib.indexByte p c = -1 ∧ p.takeWhile (· != c) = p) ∨ ∃ i : Nat, i < p.length ∧ Lib.indexByte p c = i ∧ p.takeWhile (· != c) = p.take i := by
  induction p with
  | nil => exact .inl ⟨rfl, rfl⟩
  | cons x p ih =>
    by_cases hx : x = c
    · subst hx
      exact .inr ⟨0, by simp, by unfold Lib.indexByte; simp, by simp⟩
    · have hb : (x == c) = false := by simp [hx]
      rw [List.takeWhile_cons_of_pos (by simp [hx])]
      rcases ih with ⟨h1, h2⟩ | ⟨i, h0, h1, h2⟩
      · exact .inl ⟨by unfold Lib.indexByte; simp [hb, h1], by rw [h2]⟩
      · refine .inr ⟨i + 1, by simp; omega, ?_, by rw [h2]; rfl⟩
        unfold Lib.indexByte
        rw [hb, h1]
        have : ((i : Int) == -1) = false := by simp <;> omega
        simp [this]

set_option maxHeartbeats 4000000 in
set_option maxRecDepth 100000 in
theorem cutLiteC {B w : World} {A : Assn} {p : Txt} (hp : p.length ≤ 140737488351232) (h : Own B A w) :
    Calls Tryd.prog 86 #[str p, str [63]] w fun e w' => ∃ r b, e = .returned (.tuple #[str (bareL p), str r, .bool b]) ∧ Own B A w' := by
  obtain ⟨ix, hix⟩ : ∃ ix, Lib.indexByte p 63 = ix := ⟨_, rfl⟩
  have HIX := Lib.hid hix
  rcases cut_one p 63 with ⟨h1, h2⟩ | ⟨i, h0, h1, h2⟩
  · have hb : Hid (bareL p = p) := Lib.hid h2
    rw [hix] at h1
    subst h1
    clear hix h2
    go_enter Tryd.func86, Tryd.ntmps86
    go_wp2_with (first
      | (go_at_call 91; refine Calls.mono (Tryd.stringslite_Index_one ⟨p.toArray⟩ 63 _) ?_; rintro e w ⟨rfl, rfl⟩; rw [show Lib.indexByte (ByteArray.mk p.toArray).data.toList 63 = _ from HIX.out])
      | fail)
    try simp only [Exit.inBlock, Exit.then]
    refine bodyPost_ret (results3 rfl (by first | exact resT rfl | exact resB G rfl (by rfl) | exact resO G rfl rfl) (by first | exact resT rfl | exact resB G rfl (by rfl) | exact resO G rfl rfl) (by first | exact resT rfl | exact resB G rfl (by rfl) | exact resO G rfl rfl)) rfl ?_
    exact ⟨_, _, by rw [hb.out], h⟩
  · have hb : Hid (bareL p = p.take i) := Lib.hid h2
    rw [hix] at h1
    subst h1
    clear hix h2
    go_enter Tryd.func86, Tryd.ntmps86
    go_wp2_with (first
      | (go_at_call 91; refine Calls.mono (Tryd.stringslite_Index_one ⟨p.toArray⟩ 63 _) ?_; rintro e w ⟨rfl, rfl⟩; rw [show Lib.indexByte (ByteArray.mk p.toArray).data.toList 63 = _ from HIX.out])
      | fail)
    refine wp_region_calm (C := Own _ _) (by kernel_rfl) (by kernel_rfl) (own_drew h) ?_
    intro ι W hne hW hs
    repeat (first
      | ((with_reducible refine atq_sliceAny ?_); first
        | (refine wpq_strH (j := i) rfl rfl rfl rfl rfl (by omega) ?_; go_frame)
        | (refine wpq_strL (i := i + 1) rfl rfl rfl rfl (by omega) (by omega) ?_; go_frame))
      | go_big_quiet_step (fail))
    refine wpQuiet_nil ?_
    intro i'
    have G := hW i'
    generalize W i' = wg at G ⊢
    clear hs hW hne
    go_wp2_with fail
    try simp only [Exit.inBlock, Exit.then]
    refine bodyPost_ret (results3 rfl (by first | exact resT rfl | exact resB G rfl (by rfl) | exact resO G rfl rfl) (by first | exact resT rfl | exact resB G rfl (by rfl) | exact resO G rfl rfl) (by first | exact resT rfl | exact resB G rfl (by rfl) | exact resO G rfl rfl)) rfl ?_
    exact ⟨_, _, by rw [hb.out], G⟩

set_option maxHeartbeats 4000000 in
set_option maxRecDepth 100000 in
theorem bareC {B w : World} {A : Assn} {p : Txt} (hp : p.length ≤ 140737488351232) (h : Own B A w) :
    Calls Tryd.prog 60 #[str p] w fun e w' => e = .returned (str (bareL p)) ∧ Own B A w' := by
  go_enter Tryd.func60, Tryd.ntmps60
  go_wp2_with fail
  have hc : Calls Tryd.prog 73 #[str p, str [63]] w fun e w' => ∃ r b, e = .returned (.tuple #[str (bareL p), str r, .bool b]) ∧ Own B A w' := by
    go_enter Tryd.func73, Tryd.ntmps73
    go_wp2_with fail
    refine Calls.mono (cutLiteC hp h) ?_
    rintro e w ⟨r, b, rfl, h⟩
    go_wp2_with fail
    try simp only [Exit.inBlock, Exit.then]
    refine bodyPost_ret (results3 rfl (by first | exact resT rfl | exact resB G rfl (by rfl) | exact resO G rfl rfl) (by first | exact resT rfl | exact resB G rfl (by rfl) | exact resO G rfl rfl) (by first | exact resT rfl | exact resB G rfl (by rfl) | exact resO G rfl rfl)) rfl ?_
    exact ⟨_, _, rfl, h⟩
  refine Calls.mono hc ?_
  clear hc h
  rintro e w ⟨r, b, rfl, h⟩
  go_wp2_with fail
  go_ret
  exact ⟨rfl, h⟩

end Go.Proofs.YtjcpfldobiekbaaDoor

namespace Go.Proofs.YtjcpfldobiekbaaDoor
open Go.RowKit Go.Sl Go.ChangeShapes

section
variable {P : Program} {w : World} {ops : Array Oper} {Q : Exit → Act → World → Prop} {rest : List Oper} {a : Act} {x y : Operand} {d : Option Tmp} {ty T' : TypeId} {pos : String} {after : Array Edge} {g : Option (Nat × Bool)} {o : Oper} {l m : Txt}
theorem at_eqS (h : wpList P ops Q (⟨d, .binOp .eql 9 x y T', ty, pos, after, g⟩ :: rest) a w) : wpList P ops Q (⟨d, .binOp .eql 9 x y T', ty, pos, after, g⟩ :: rest) a w := h
theorem wpu_eqS (ho : o.op = .binOp .eql 9 x y T') (hw : Region.wanted o (yielded ops a.tmps) = true) (hx : evalO a x = some (str l)) (hy : evalO a y = some (str m)) {b : Bool} (hb : decide (l = m) = b) (kk : wpList Tryd.prog ops Q rest (a.put o.dst (.bool b)) w) : wpList Tryd.prog ops Q (o :: rest) a w := by
  subst hb
  exact wpu_val hw (exec_strEq ho hx hy) kk
end

theorem hasPrefixC (s p : Txt) (w : World) : Calls Tryd.prog 58 #[str s, str p] w fun e w' => e = .returned (.bool (p.isPrefixOf s)) ∧ w' = w := Tryd.strings_HasPrefix ⟨s.toArray⟩ ⟨p.toArray⟩ w
theorem hasSuffixC (s p : Txt) (w : World) (hs : s.length ≤ 9223372036854775807) : Calls Tryd.prog 59 #[str s, str p] w fun e w' => e = .returned (.bool (p.isSuffixOf s)) ∧ w' = w := Tryd.strings_HasSuffix ⟨s.toArray⟩ ⟨p.toArray⟩ w (by rw [str_size]; exact hs)
theorem cutPrefixC (s p : Txt) (w : World) : Calls Tryd.prog 57 #[str s, str p] w fun e w' => e = .returned (.tuple #[str (if p.isPrefixOf s = true then s.drop p.length else s), .bool (p.isPrefixOf s)]) ∧ w' = w := Tryd.strings_CutPrefix ⟨s.toArray⟩ ⟨p.toArray⟩ w
theorem lastIndexC (s : Txt) (c : UInt8) (w : World) (hs : s.length ≤ 140737488351232) : Calls Tryd.prog 64 #[str s, .int .u8 (c.toNat : Int)] w fun e w' => e = .returned (.int .i64 (lastI c s)) ∧ w' = w := by
  rw [← lastIndexByte_eq]
  exact Tryd.strings_LastIndexByte ⟨s.toArray⟩ c.toNat (by rw [str_size]; omega) w

theorem how4 (h : Int) : h = 0 ∨ h = 1 ∨ h = 2 ∨ (h ≠ 0 ∧ h ≠ 1 ∧ h ≠ 2 ∧ (h == 0) = false ∧ (h == 1) = false ∧ (h == 2) = false) := by
  by_cases h0 : h = 0
  · exact .inl h0
  by_cases h1 : h = 1
  · exact .inr (.inl h1)
  by_cases h2 : h = 2
  · exact .inr (.inr (.inl h2))
  exact .inr (.inr (.inr ⟨h0, h1, h2, by simp [h0], by simp [h1], by simp [h2]⟩))

/-- what a prefix asks -/
def below (want b : Txt) : Bool := want.isPrefixOf b && (decide (b.length = want.length) || decide (want = []) || ([47] : Txt).isSuffixOf want || decide (b[want.length]? = some 47))
theorem path_two (want p : Txt) : pathR 2 want p = below want (bareL p) := rfl
theorem drop_nil_iff {want b : Txt} (h : want.isPrefixOf b = true) : (b.drop want.length = [] ↔ b.length = want.length) := by
  have := (List.isPrefixOf_iff_prefix.1 h).length_le
  rw [List.drop_eq_nil_iff]
  omega


set_option maxHeartbeats 8000000 in
set_option maxRecDepth 100000 in
theorem pathC {B w : World} {A : Assn} {how : Int} {want p : Txt} (hw : want.length ≤ 140737488351232) (hp : p.length ≤ 140737488351232) (h : Own B A w) :
    Calls Tryd.prog 39 #[.int .i64 how, str want, str p] w fun e w' => e = .returned (.bool (pathR how want p)) ∧ Own B A w' := by
  have hbl := bare_len p
  rcases how4 how with rfl | rfl | rfl | ⟨h0, h1, h2, z0, z1, z2⟩
  · go_enter Tryd.func39, Tryd.ntmps39
    go_wp2_with fail
    refine Calls.mono (bareC hp h) ?_
    clear h; rintro e w ⟨rfl, h⟩
    go_wp2_with fail
    go_ret
    exact ⟨rfl, h⟩
  · go_enter Tryd.func39, Tryd.ntmps39
    go_wp2_with fail
    refine Calls.mono (bareC hp h) ?_
    clear h; rintro e w ⟨rfl, h⟩
    go_wp2_with (first
      | ((with_reducible refine at_eqS ?_); refine wpu_eqS rfl (by kernel_rfl) rfl rfl (by first | assumption | rfl) ?_; go_frame)
      | fail)
    go_ret
    exact ⟨rfl, h⟩
  · rw [path_two]
    have hcall := bareC hp h
    obtain ⟨b, hb⟩ : ∃ b, bareL p = b := ⟨_, rfl⟩
    rw [hb] at hbl hcall ⊢
    clear hb
    go_enter Tryd.func39, Tryd.ntmps39
    go_wp2_with fail
    refine Calls.mono hcall ?_
    clear h hcall; rintro e w ⟨rfl, h⟩
    by_cases hpre : want.isPrefixOf b = true
    · have e0 := drop_nil_iff hpre
      obtain ⟨r, hr⟩ : ∃ r, b.drop want.length = r := ⟨_, rfl⟩
      have HCUT : Hid (∀ w, Calls Tryd.prog 57 #[str b, str want] w fun e w' => e = .returned (.tuple #[str r, .bool true]) ∧ w' = w) := Lib.hid fun w => by
        have := cutPrefixC b want w
        rwa [if_pos hpre, hr, hpre] at this
      rw [hr] at e0
      have HR := Lib.hid hr
      have HP := Lib.hid hpre
      have E0 := Lib.hid e0
      clear hr hpre e0
      by_cases g1 : r = []
      · have y1 : decide (r = []) = true := by simp [g1]
        have HB : Hid (below want b = true) := Lib.hid (by unfold below; rw [HP.out]; simp [E0.out.1 g1])
        clear g1
        as_aux_lemma =>
        go_wp2_with (first
          | (go_at_call 57; refine Calls.mono (HCUT.out _) ?_; rintro e w ⟨rfl, rfl⟩)
          | ((with_reducible refine at_eqS ?_); refine wpu_eqS rfl (by kernel_rfl) rfl rfl (by first | assumption | rfl) ?_; go_frame)
          | fail)
        go_ret
        exact ⟨by rw [HB.out]; rfl, h⟩
      · have y1 : decide (r = []) = false := by simp [g1]
        by_cases g2 : want = []
        · have y2 : decide (want = []) = true := by simp [g2]
          have HB : Hid (below want b = true) := Lib.hid (by unfold below; rw [HP.out]; simp [g2])
          clear g1 g2
          as_aux_lemma =>
          go_wp2_with (first
            | (go_at_call 57; refine Calls.mono (HCUT.out _) ?_; rintro e w ⟨rfl, rfl⟩)
            | ((with_reducible refine at_eqS ?_); refine wpu_eqS rfl (by kernel_rfl) rfl rfl (by first | assumption | rfl) ?_; go_frame)
            | fail)
          go_ret
          exact ⟨by rw [HB.out]; rfl, h⟩
        · have y2 : decide (want = []) = false := by simp [g2]
          obtain ⟨sf, hsf⟩ : ∃ sf, ([47] : Txt).isSuffixOf want = sf := ⟨_, rfl⟩
          have HSF := Lib.hid hsf
          obtain ⟨c, hc⟩ : ∃ c, r[0]? = some c := ⟨r[0]'(List.length_pos_iff.2 g1), List.getElem?_eq_getElem _⟩
          have HC := Lib.hid hc
          have hcb : b[want.length]? = some c := by
            rw [← HR.out, List.getElem?_drop] at hc
            simpa using hc
          have hlen : ¬ b.length = want.length := fun e => g1 (E0.out.2 e)
          by_cases g3 : c = 47
          · subst g3
            have HB : Hid (below want b = true) := Lib.hid (by unfold below; rw [HP.out, hcb]; simp)
            clear g1 g2 hsf hc hcb hlen
            cases sf
            · as_aux_lemma =>
              go_wp2_with (first
                | (go_at_call 57; refine Calls.mono (HCUT.out _) ?_; rintro e w ⟨rfl, rfl⟩)
                | (go_at_call 59; refine Calls.mono (hasSuffixC want [47] _ (by omega)) ?_; rintro e w ⟨rfl, rfl⟩; rw [HSF.out])
                | ((with_reducible refine at_strAt ?_); refine wpu_strAt (i := 0) (c := 47) rfl (by kernel_rfl) rfl rfl rfl HC.out ?_; go_frame)
                | ((with_reducible refine at_eqS ?_); refine wpu_eqS rfl (by kernel_rfl) rfl rfl (by first | assumption | rfl) ?_; go_frame)
                | fail)
              go_ret
              exact ⟨by rw [HB.out]; rfl, h⟩
            · as_aux_lemma =>
              go_wp2_with (first
                | (go_at_call 57; refine Calls.mono (HCUT.out _) ?_; rintro e w ⟨rfl, rfl⟩)
                | (go_at_call 59; refine Calls.mono (hasSuffixC want [47] _ (by omega)) ?_; rintro e w ⟨rfl, rfl⟩; rw [HSF.out])
                | ((with_reducible refine at_eqS ?_); refine wpu_eqS rfl (by kernel_rfl) rfl rfl (by first | assumption | rfl) ?_; go_frame)
                | fail)
              go_ret
              exact ⟨by rw [HB.out]; rfl, h⟩
          · obtain ⟨k1, k2⟩ := beq_u8 g3
            have k3 : ((c.toNat : Int) == 47) = false := k1
            have k4 : (c.toNat == 47) = false := k2
            have HB : Hid (below want b = sf) := Lib.hid (by
              unfold below
              rw [HP.out, hcb, hsf]
              simp [hlen, g2, g3])
            clear g1 g2 g3 hsf hc hcb hlen k1 k2
            cases sf
            · as_aux_lemma =>
              go_wp2_with (first
                | (go_at_call 57; refine Calls.mono (HCUT.out _) ?_; rintro e w ⟨rfl, rfl⟩)
                | (go_at_call 59; refine Calls.mono (hasSuffixC want [47] _ (by omega)) ?_; rintro e w ⟨rfl, rfl⟩; rw [HSF.out])
                | ((with_reducible refine at_strAt ?_); refine wpu_strAt (i := 0) (c := c) rfl (by kernel_rfl) rfl rfl rfl HC.out ?_; go_frame)
                | ((with_reducible refine at_eqS ?_); refine wpu_eqS rfl (by kernel_rfl) rfl rfl (by first | assumption | rfl) ?_; go_frame)
                | fail)
              go_ret
              exact ⟨by rw [HB.out]; rfl, h⟩
            · as_aux_lemma =>
              go_wp2_with (first
                | (go_at_call 57; refine Calls.mono (HCUT.out _) ?_; rintro e w ⟨rfl, rfl⟩)
                | (go_at_call 59; refine Calls.mono (hasSuffixC want [47] _ (by omega)) ?_; rintro e w ⟨rfl, rfl⟩; rw [HSF.out])
                | ((with_reducible refine at_eqS ?_); refine wpu_eqS rfl (by kernel_rfl) rfl rfl (by first | assumption | rfl) ?_; go_frame)
                | fail)
              go_ret
              exact ⟨by rw [HB.out]; rfl, h⟩
    · have hpre' : want.isPrefixOf b = false := by cases hx : want.isPrefixOf b; rfl; exact absurd hx hpre
      have HCUT : Hid (∀ w, Calls Tryd.prog 57 #[str b, str want] w fun e w' => e = .returned (.tuple #[str b, .bool false]) ∧ w' = w) := Lib.hid fun w => by
        have := cutPrefixC b want w
        rwa [if_neg hpre, hpre'] at this
      have HB : Hid (below want b = false) := Lib.hid (by unfold below; rw [hpre']; rfl)
      have HP := Lib.hid hpre'
      clear hpre hpre'
      as_aux_lemma =>
      go_wp2_with (first
        | (go_at_call 57; refine Calls.mono (HCUT.out _) ?_; rintro e w ⟨rfl, rfl⟩)
        | ((with_reducible refine at_eqS ?_); refine wpu_eqS rfl (by kernel_rfl) rfl rfl (by first | assumption | rfl) ?_; go_frame)
        | fail)
      go_ret
      exact ⟨by rw [HB.out]; rfl, h⟩
  · go_enter Tryd.func39, Tryd.ntmps39
    go_wp2_with fail
    refine Calls.mono (bareC hp h) ?_
    clear h; rintro e w ⟨rfl, h⟩
    go_wp2_with fail
    go_ret
    exact ⟨by simp [pathR, h0, h1, h2], h⟩
end Go.Proofs.YtjcpfldobiekbaaDoor

namespace Go.Proofs.YtjcpfldobiekbaaDoor
open Go.RowKit Go.Sl Go.ChangeShapes



/-! ### calls -/

def callV : Option (Txt × Txt) → Value
  | some (s, m) => .tuple #[str s, str m, .bool true]
  | none => .tuple #[str [], str [], .bool false]

def callB (b : Txt) : Option (Txt × Txt) :=
  match b with
  | [] => none
  | x :: q => if x = 47 then
      match lastAt 47 q with
      | some i => if 1 ≤ i ∧ i + 1 ≠ q.length then some (q.take i, q.drop (i + 1)) else none
      | none => none
    else none
theorem call_bare (p : Txt) : callR p = callB (bareL p) := rfl


set_option maxHeartbeats 8000000 in
set_option maxRecDepth 100000 in
theorem callC {B w : World} {A : Assn} {p : Txt} (hp : p.length ≤ 140737488351232) (h : Own B A w) :
    Calls Tryd.prog 41 #[str p] w fun e w' => e = .returned (callV (callR p)) ∧ Own B A w' := by
  have hbl := bare_len p
  rw [call_bare]
  have hcall := bareC hp h
  obtain ⟨b, hb⟩ : ∃ b, bareL p = b := ⟨_, rfl⟩
  rw [hb] at hbl hcall ⊢
  clear hb
  go_enter Tryd.func41, Tryd.ntmps41
  go_wp2_with fail
  refine Calls.mono hcall ?_
  clear h hcall; rintro e w ⟨rfl, h⟩
  by_cases hpre : ([47] : Txt).isPrefixOf b = true
  · obtain ⟨q, rfl⟩ : ∃ q, b = 47 :: q := by
      cases b with
      | nil => simp at hpre
      | cons x q =>
        have : x = 47 := by simp at hpre; exact hpre.symm
        exact ⟨q, by rw [this]⟩
    simp only [List.length_cons] at hbl
    have HCUT : Hid (∀ w, Calls Tryd.prog 57 #[str (47 :: q), str [47]] w fun e w' => e = .returned (.tuple #[str q, .bool true]) ∧ w' = w) := Lib.hid fun w => by
      have := cutPrefixC (47 :: q) [47] w
      rwa [if_pos hpre, hpre] at this
    have HLI0 := fun w => lastIndexC q 47 w (by omega)
    clear hpre
    rcases lastAt_spec 47 q with ⟨k1, _⟩ | ⟨i, k1, k2, _⟩
    · have HB : Hid (callB (47 :: q) = none) := Lib.hid (by unfold callB; simp [k1])
      have HLI : Hid (∀ w, Calls Tryd.prog 64 #[str q, .int .u8 47] w fun e w' => e = .returned (.int .i64 (-1)) ∧ w' = w) := Lib.hid fun w => by
        have := HLI0 w
        unfold lastI at this
        rw [k1] at this
        exact this
      clear HLI0 k1
      skip
      as_aux_lemma =>
      go_wp2_with (first
        | (go_at_call 57; refine Calls.mono (HCUT.out _) ?_; rintro e w ⟨rfl, rfl⟩)
        | (go_at_call 64; refine Calls.mono (HLI.out _) ?_; rintro e w ⟨rfl, rfl⟩)
        | fail)
      try simp only [Exit.inBlock, Exit.then]
      refine bodyPost_ret (results3 rfl (by first | exact resT rfl | exact resB G rfl (by rfl) | exact resO G rfl rfl) (by first | exact resT rfl | exact resB G rfl (by rfl) | exact resO G rfl rfl) (by first | exact resT rfl | exact resB G rfl (by rfl) | exact resO G rfl rfl)) rfl ?_
      exact ⟨by rw [HB.out]; rfl, h⟩
    · have hi := lastAt_lt k1
      have HLI : Hid (∀ w, Calls Tryd.prog 64 #[str q, .int .u8 47] w fun e w' => e = .returned (.int .i64 (i : Int)) ∧ w' = w) := Lib.hid fun w => by
        have := HLI0 w
        unfold lastI at this
        rw [k1] at this
        exact this
      clear HLI0
      by_cases g1 : 1 ≤ i
      · by_cases g2 : i + 1 = q.length
        · have HB : Hid (callB (47 :: q) = none) := Lib.hid (by unfold callB; simp [k1, g2])
          have y1 : ((i : Int) == (q.length : Int) - 1) = true := by simp; omega
          have y2 : decide ((i : Int) < 1) = false := by simp; omega
          clear k1 k2 g2
          skip
          as_aux_lemma =>
          go_wp2_with (first
            | (go_at_call 57; refine Calls.mono (HCUT.out _) ?_; rintro e w ⟨rfl, rfl⟩)
            | (go_at_call 64; refine Calls.mono (HLI.out _) ?_; rintro e w ⟨rfl, rfl⟩)
            | fail)
          try simp only [Exit.inBlock, Exit.then]
          refine bodyPost_ret (results3 rfl (by first | exact resT rfl | exact resB G rfl (by rfl) | exact resO G rfl rfl) (by first | exact resT rfl | exact resB G rfl (by rfl) | exact resO G rfl rfl) (by first | exact resT rfl | exact resB G rfl (by rfl) | exact resO G rfl rfl)) rfl ?_
          exact ⟨by rw [HB.out]; rfl, h⟩
        · have HB : Hid (callB (47 :: q) = some (q.take i, q.drop (i + 1))) := Lib.hid (by unfold callB; simp [k1, g1, g2])
          have y1 : ((i : Int) == (q.length : Int) - 1) = false := by simp; omega
          have y2 : decide ((i : Int) < 1) = false := by simp; omega
          clear k1 k2 g2
          as_aux_lemma =>
          go_wp2_with (first
            | (go_at_call 57; refine Calls.mono (HCUT.out _) ?_; rintro e w ⟨rfl, rfl⟩)
            | (go_at_call 64; refine Calls.mono (HLI.out _) ?_; rintro e w ⟨rfl, rfl⟩)
            | fail)
          refine wp_region_calm (C := Own _ _) (by kernel_rfl) (by kernel_rfl) (own_drew h) ?_
          intro ι W hne hW hs
          repeat (first
            | ((with_reducible refine atq_sliceAny ?_); first
              | (refine wpq_strH (j := i) rfl rfl rfl rfl rfl (by omega) ?_; go_frame)
              | (refine wpq_strL (i := i + 1) rfl rfl rfl rfl (by omega) (by omega) ?_; go_frame))
            | go_big_quiet_step (fail))
          refine wpQuiet_nil ?_
          intro i'
          have G := hW i'
          generalize W i' = wg at G ⊢
          clear hs hW hne
          go_wp2_with fail
          try simp only [Exit.inBlock, Exit.then]
          refine bodyPost_ret (results3 rfl (by first | exact resT rfl | exact resB G rfl (by rfl) | exact resO G rfl rfl) (by first | exact resT rfl | exact resB G rfl (by rfl) | exact resO G rfl rfl) (by first | exact resT rfl | exact resB G rfl (by rfl) | exact resO G rfl rfl)) rfl ?_
          exact ⟨by rw [HB.out]; rfl, G⟩
      · have HB : Hid (callB (47 :: q) = none) := Lib.hid (by unfold callB; simp [k1, g1])
        obtain rfl : i = 0 := by omega
        clear k1 k2
        skip
        as_aux_lemma =>
        go_wp2_with (first
          | (go_at_call 57; refine Calls.mono (HCUT.out _) ?_; rintro e w ⟨rfl, rfl⟩)
          | (go_at_call 64; refine Calls.mono (HLI.out _) ?_; rintro e w ⟨rfl, rfl⟩)
          | fail)
        try simp only [Exit.inBlock, Exit.then]
        refine bodyPost_ret (results3 rfl (by first | exact resT rfl | exact resB G rfl (by rfl) | exact resO G rfl rfl) (by first | exact resT rfl | exact resB G rfl (by rfl) | exact resO G rfl rfl) (by first | exact resT rfl | exact resB G rfl (by rfl) | exact resO G rfl rfl)) rfl ?_
        exact ⟨by rw [HB.out]; rfl, h⟩
  · have hpre' : ([47] : Txt).isPrefixOf b = false := by cases hx : ([47] : Txt).isPrefixOf b; rfl; exact absurd hx hpre
    have HCUT : Hid (∀ w, Calls Tryd.prog 57 #[str b, str [47]] w fun e w' => e = .returned (.tuple #[str b, .bool false]) ∧ w' = w) := Lib.hid fun w => by
      have := cutPrefixC b [47] w
      rwa [if_neg hpre, hpre'] at this
    have HLI : Hid (∀ w, Calls Tryd.prog 64 #[str b, .int .u8 47] w fun e w' => e = .returned (.int .i64 (lastI 47 b)) ∧ w' = w) := Lib.hid fun w => lastIndexC b 47 w (by omega)
    have HB : Hid (callB b = none) := Lib.hid (by
      unfold callB
      cases b with
      | nil => rfl
      | cons x q =>
        have : x ≠ 47 := fun e => hpre (by simp [e])
        simp [this])
    clear hpre hpre'
    skip
    as_aux_lemma =>
    go_wp2_with (first
      | (go_at_call 57; refine Calls.mono (HCUT.out _) ?_; rintro e w ⟨rfl, rfl⟩)
      | (go_at_call 64; refine Calls.mono (HLI.out _) ?_; rintro e w ⟨rfl, rfl⟩)
      | fail)
    try simp only [Exit.inBlock, Exit.then]
    refine bodyPost_ret (results3 rfl (by first | exact resT rfl | exact resB G rfl (by rfl) | exact resO G rfl rfl) (by first | exact resT rfl | exact resB G rfl (by rfl) | exact resO G rfl rfl) (by first | exact resT rfl | exact resB G rfl (by rfl) | exact resO G rfl rfl)) rfl ?_
    exact ⟨by rw [HB.out]; rfl, h⟩
end Go.Proofs.YtjcpfldobiekbaaDoor

namespace Go.Proofs.YtjcpfldobiekbaaDoor
open Go.RowKit Go.Sl Go.ChangeShapes

def mixL (j : Nat) (l : Txt) : Txt := smallL (l.take j) ++ l.drop j
theorem mix_len (j : Nat) (l : Txt) : (mixL j l).length = l.length := by unfold mixL smallL; simp; omega
theorem mix_zero (l : Txt) : mixL 0 l = l := rfl
theorem mix_end (l : Txt) : mixL l.length l = smallL l := by unfold mixL; simp
theorem mix_at {l : Txt} {j : Nat} {c : UInt8} (h : l[j]? = some c) : (mixL j l)[j]? = some c := by
  have hj := (List.getElem?_eq_some_iff.1 h).1
  unfold mixL
  rw [List.getElem?_append_right (by simp [smallL]; omega), List.getElem?_drop]
  rw [← h]
  congr 1
  simp [smallL]
  omega
theorem mix_succ {l : Txt} {j : Nat} {c : UInt8} (h : l[j]? = some c) : mixL (j + 1) l = smallL (l.take j) ++ smallC c :: l.drop (j + 1) := by
  unfold mixL
  rw [List.take_add_one, h]
  simp [smallL]
theorem mix_here {l : Txt} {j : Nat} {c : UInt8} (h : l[j]? = some c) : mixL j l = smallL (l.take j) ++ c :: l.drop (j + 1) := by
  have hj := (List.getElem?_eq_some_iff.1 h)
  unfold mixL
  rw [List.drop_eq_getElem_cons hj.1, hj.2]
theorem mix_set {l : Txt} {j : Nat} {c : UInt8} (h : l[j]? = some c) : (mixL j l).set j (smallC c) = mixL (j + 1) l := by
  have hj := (List.getElem?_eq_some_iff.1 h).1
  rw [mix_here h, mix_succ h]
  have hl : (smallL (l.take j)).length = j := by simp [smallL]; omega
  rw [List.set_append_right _ _ (by omega), hl, Nat.sub_self]
  rfl
theorem mix_skip {l : Txt} {j : Nat} {c : UInt8} (h : l[j]? = some c) (hc : smallC c = c) : mixL (j + 1) l = mixL j l := by
  rw [mix_here h, mix_succ h, hc]
theorem bs_set (l : Txt) (j : Nat) (c : UInt8) : (bs l).set j (.int .u8 (c.toNat : Int)) = bs (l.set j c) := by simp [bs, byteV, List.map_set]
theorem bs_at {l : Txt} {j : Nat} {c : UInt8} (h : l[j]? = some c) : (bs l)[j]? = some (.int .u8 (c.toNat : Int)) := by simp [bs, h, byteV]

theorem small_or {c : UInt8} (h1 : 65 ≤ c.toNat) (h2 : c.toNat ≤ 90) : bits .or .u8 (c.toNat : Int) 32 = ((smallC c).toNat : Int) ∧ (c.toNat : Int) + 32 = ((smallC c).toNat : Int) := by
  have key : ∀ n : Fin 26, bits .or .u8 (((65 + n.val : Nat)) : Int) 32 = ((smallC (UInt8.ofNat (65 + n.val))).toNat : Int) ∧ (((65 + n.val : Nat)) : Int) + 32 = ((smallC (UInt8.ofNat (65 + n.val))).toNat : Int) := by decide
  have := key ⟨c.toNat - 65, by omega⟩
  simp only [show 65 + (c.toNat - 65) = c.toNat by omega] at this
  rwa [UInt8.ofNat_toNat] at this
theorem small_id {c : UInt8} (h : ¬ (65 ≤ c.toNat ∧ c.toNat ≤ 90)) : smallC c = c := by
  unfold smallC
  rw [if_neg]
  intro ⟨a, b⟩
  exact h ⟨UInt8.le_iff_toNat_le.1 a, UInt8.le_iff_toNat_le.1 b⟩



set_option maxHeartbeats 8000000 in
set_option maxRecDepth 100000 in
theorem smallMC {B w : World} {A : Assn} {p : Txt} (hp : p.length ≤ 140737488351232) (h : Own B A w) :
    Calls Tryd.prog 56 #[str p] w fun e w' => e = .returned (str (smallL p)) ∧ Own B A w' := by
  go_enter Tryd.func56, Tryd.ntmps56
  go_wp2_with (first
    | ((with_reducible refine at_convert ?_); refine wpu_toBytes h rfl rfl rfl (by unfold maxLen; omega) ?_; clear h; intro v w G; obtain ⟨ao, ac, rfl, j1, j2⟩ := G.hdr v; go_frame)
    | fail)
  go_loopw [10] (fun i wr => ∃ j : Nat, i = .int .i64 j ∧ j ≤ p.length ∧ Own B (sl 1 (.slice ao p.length ac) p.length (bs (mixL j p)) * A) wr) (fun i _ => p.length - (intOf i).toNat)
  case atStart => exact ⟨0, rfl, Nat.zero_le _, G⟩
  case round =>
    clear G
    unfold maxLen at j2
    obtain ⟨j, rfl, hj, G⟩ := hrel
    by_cases hjn : j < p.length
    · obtain ⟨c, hc⟩ : ∃ c, p[j]? = some c := ⟨p[j], List.getElem?_eq_getElem hjn⟩
      obtain ⟨ad, rfl⟩ := rd_some (G.rd (.slice ao p.length ac) _ G) (by omega)
      have HV := Lib.hid (bs_at (mix_at hc))
      by_cases hu : 65 ≤ c.toNat ∧ c.toNat ≤ 90
      · obtain ⟨s1, s2⟩ := small_or hu.1 hu.2
        have HS := Lib.hid s2
        have HM := Lib.hid (mix_set hc)
        obtain ⟨u1, u2⟩ := hu
        have y1 : decide ((65 : Int) ≤ (c.toNat : Int)) = true := by simp; omega
        have y2 : decide ((c.toNat : Int) ≤ 90) = true := by simp; omega
        have y3 : decide (65 ≤ c.toNat) = true := by simp; omega
        have y4 : decide (c.toNat ≤ 90) = true := by simp; omega
        clear s2 hc
        as_aux_lemma =>
        go_wp2_with (first
          | ((with_reducible refine at_load ?_); refine wpu_loadC (k := j) (G.rd (.slice (some ad) p.length ac) _ G) HV.out rfl (by kernel_rfl) rfl ?_; go_frame)
          | ((with_reducible refine at_store ?_); refine wpu_store1 (s := ad) (n := p.length) (cap := ac) (k := j) G rfl rfl rfl rfl rfl hjn ?_; clear G; intro w G; go_frame)
          | fail)
        skip
        rw [bs_set, HM.out] at G
        go_roundw
        case rel => exact ⟨j + 1, by go_num, by omega, G⟩
        case measure => simp [intOf] <;> omega
      · have HID := Lib.hid (mix_skip hc (small_id hu))
        by_cases h65 : 65 ≤ c.toNat
        · have y1 : decide ((65 : Int) ≤ (c.toNat : Int)) = true := by simp; omega
          have y2 : decide ((c.toNat : Int) ≤ 90) = false := by simp; omega
          have y3 : decide (65 ≤ c.toNat) = true := by simp; omega
          have y4 : decide (c.toNat ≤ 90) = false := by simp; omega
          clear hc hu
          as_aux_lemma =>
          go_wp2_with (first
            | ((with_reducible refine at_load ?_); refine wpu_loadC (k := j) (G.rd (.slice (some ad) p.length ac) _ G) HV.out rfl (by kernel_rfl) rfl ?_; go_frame)
            | fail)
          rw [← HID.out] at G
          go_roundw
          case rel => exact ⟨j + 1, by go_num, by omega, G⟩
          case measure => simp [intOf] <;> omega
        · have y1 : decide ((65 : Int) ≤ (c.toNat : Int)) = false := by simp; omega
          have y3 : decide (65 ≤ c.toNat) = false := by simp; omega
          clear hc hu
          as_aux_lemma =>
          go_wp2_with (first
            | ((with_reducible refine at_load ?_); refine wpu_loadC (k := j) (G.rd (.slice (some ad) p.length ac) _ G) HV.out rfl (by kernel_rfl) rfl ?_; go_frame)
            | fail)
          rw [← HID.out] at G
          go_roundw
          case rel => exact ⟨j + 1, by go_num, by omega, G⟩
          case measure => simp [intOf] <;> omega
    · as_aux_lemma =>
      obtain rfl : j = p.length := by omega
      rw [mix_end] at G
      have hsl : (smallL p).length = p.length := by simp [smallL]
      have G2 : Own B (sl 1 (.slice ao (smallL p).length ac) (smallL p).length (bs (smallL p)) * A) wr := by rw [hsl]; exact G
      clear G
      have G := G2
      clear G2
      rw [← hsl]
      clear hsl
      go_wp2_with (first
        | ((with_reducible refine at_convert ?_); refine wpu_strR (G.rd (.slice ao (smallL p).length ac) _ G) rfl rfl rfl ?_; go_frame)
        | fail)
      go_ret
      exact ⟨rfl, G.right⟩

end Go.Proofs.YtjcpfldobiekbaaDoor

namespace Go.Proofs.YtjcpfldobiekbaaDoor
open Go.RowKit Go.Sl Go.ChangeShapes


def digitsL : Txt := [48, 49, 50, 51, 52, 53, 54, 55, 56, 57]
set_option maxRecDepth 100000 in
theorem digit_mem (c : UInt8) : digitsL.contains c = digit c := by
  have key : ∀ n : Fin 256, digitsL.contains (UInt8.ofNat n.val) = digit (UInt8.ofNat n.val) := by decide
  have := key ⟨c.toNat, c.toNat_lt⟩
  rwa [UInt8.ofNat_toNat] at this
theorem trim_nil (l : Txt) : Lib.trimS l digitsL = [] ↔ l.all digit = true := by
  have e : (fun c => digitsL.contains c) = digit := funext digit_mem
  unfold Lib.trimS Lib.trimLeftS Lib.trimRightS
  rw [e]
  constructor
  · intro h
    rw [List.all_eq_true]
    intro c hc
    cases hd : digit c with
    | true => rfl
    | false =>
      exfalso
      have h1 : c ∈ l.reverse.dropWhile digit := by
        have hsplit := List.takeWhile_append_dropWhile (p := digit) (l := l.reverse)
        have : c ∈ l.reverse := List.mem_reverse.2 hc
        rw [← hsplit] at this
        rcases List.mem_append.1 this with g | g
        · have : (l.reverse.takeWhile digit).all digit = true := by
            generalize l.reverse = m
            induction m with
            | nil => rfl
            | cons x m ih =>
              rw [List.takeWhile_cons]
              split
              · rename_i hx; rw [List.all_cons, hx, ih]; rfl
              · rfl
          rw [List.all_eq_true.1 this c g] at hd
          cases hd
        · exact g
      have h2 : c ∈ ((l.reverse.dropWhile digit).reverse).dropWhile digit := by
        have hsplit := List.takeWhile_append_dropWhile (p := digit) (l := (l.reverse.dropWhile digit).reverse)
        have : c ∈ (l.reverse.dropWhile digit).reverse := List.mem_reverse.2 h1
        rw [← hsplit] at this
        rcases List.mem_append.1 this with g | g
        · have : (((l.reverse.dropWhile digit).reverse).takeWhile digit).all digit = true := by
            generalize (l.reverse.dropWhile digit).reverse = m
            induction m with
            | nil => rfl
            | cons x m ih =>
              rw [List.takeWhile_cons]
              split
              · rename_i hx; rw [List.all_cons, hx, ih]; rfl
              · rfl
          rw [List.all_eq_true.1 this c g] at hd
          cases hd
        · exact g
      rw [h] at h2
      cases h2
  · intro h
    have hr : ∀ c ∈ l.reverse, digit c = true := fun c hc => List.all_eq_true.1 h c (List.mem_reverse.1 hc)
    have hd : l.reverse.dropWhile digit = [] := by
      revert hr
      generalize l.reverse = m
      intro hr
      induction m with
      | nil => rfl
      | cons x m ih =>
        rw [List.dropWhile_cons_of_pos (hr x (List.mem_cons_self ..))]
        exact ih fun c hc => hr c (List.mem_cons_of_mem _ hc)
    rw [hd]
    rfl

theorem own_kept {B w w' : World} {A : Assn} (h : Own B A w) (hb : Below w.heap.size w w') : Own B A w' := by
  refine h.keep (h.1.trans ⟨hb.os, hb.tape, hb.output, hb.size, fun k hk => hb.block k (Nat.lt_of_lt_of_le hk h.1.size)⟩) fun b o hbo => ?_
  rw [hb.block b (Array.getElem?_eq_some_iff.1 hbo).1]
  exact hbo

theorem trimC {B w : World} {A : Assn} {s : Txt} (hs : s.length ≤ 140737488351232) (h : Own B A w) :
    Calls Tryd.prog 69 #[str s, str digitsL] w fun e w' => e = .returned (str (Lib.trimS s digitsL)) ∧ Own B A w' := by
  have hc := Any.strings_Trim_laid Tryd.lays160 (by kernel_rfl) ⟨s.toArray⟩ ⟨digitsL.toArray⟩ w (by rw [str_size]; omega) (by decide) (by
    intro j b hj
    have hm : b ∈ digitsL := List.mem_of_getElem? hj
    have : digit b = true := by rw [← digit_mem]; simpa using hm
    unfold digit at this
    simp at this
    have := UInt8.le_iff_toNat_le.1 this.2
    have e : (57 : UInt8).toNat = 57 := rfl
    omega)
  refine Calls.mono hc ?_
  rintro e w' ⟨rfl, hb⟩
  exact ⟨rfl, own_kept h hb⟩

set_option maxHeartbeats 8000000 in
set_option maxRecDepth 100000 in
theorem nameC {B w : World} {A : Assn} {p : Txt} (hp : p.length ≤ 140737488351232) (h : Own B A w) :
    Calls Tryd.prog 55 #[str p] w fun e w' => e = .returned (str (nameL p)) ∧ Own B A w' := by
  have HLI0 := fun w => lastIndexC p 58 w hp
  go_enter Tryd.func55, Tryd.ntmps55
  rcases lastAt_spec 58 p with ⟨k1, _⟩ | ⟨i, k1, k2, _⟩
  · have HB : Hid (nameL p = smallL p) := Lib.hid (by unfold nameL; rw [k1])
    have HLI : Hid (∀ w, Calls Tryd.prog 64 #[str p, .int .u8 58] w fun e w' => e = .returned (.int .i64 (-1)) ∧ w' = w) := Lib.hid fun w => by
      have := HLI0 w
      unfold lastI at this
      rw [k1] at this
      exact this
    clear HLI0 k1
    go_wp2_with (first
      | (go_at_call 64; refine Calls.mono (HLI.out _) ?_; rintro e w ⟨rfl, rfl⟩)
      | fail)
    refine Calls.mono (smallMC hp h) ?_
    clear h; rintro e w ⟨rfl, h⟩
    go_wp2_with fail
    go_ret
    exact ⟨by rw [HB.out]; rfl, h⟩
  · have hi := lastAt_lt k1
    have HLI : Hid (∀ w, Calls Tryd.prog 64 #[str p, .int .u8 58] w fun e w' => e = .returned (.int .i64 (i : Int)) ∧ w' = w) := Lib.hid fun w => by
      have := HLI0 w
      unfold lastI at this
      rw [k1] at this
      exact this
    clear HLI0
    by_cases g1 : i + 1 < p.length
    · have y1 : decide ((i : Int) < (p.length : Int) - 1) = true := by simp; omega
      have hdl : (p.drop (i + 1)).length ≤ 140737488351232 := by simp; omega
      have htl : (p.take i).length ≤ 140737488351232 := by simp; omega
      obtain ⟨tr, htr⟩ : ∃ tr, Lib.trimS (p.drop (i + 1)) digitsL = tr := ⟨_, rfl⟩
      have HTR := Lib.hid htr
      have HALL : Hid (tr = [] ↔ (p.drop (i + 1)).all digit = true) := Lib.hid (by rw [← htr]; exact trim_nil _)
      by_cases g2 : tr = []
      · have HB : Hid (nameL p = smallL (p.take i)) := Lib.hid (by unfold nameL; rw [k1]; simp [g1, HALL.out.1 g2])
        have y2 : decide (tr = []) = true := by simp [g2]
        clear k1 k2 htr g2
        as_aux_lemma =>
        go_wp2_with (first
          | (go_at_call 64; refine Calls.mono (HLI.out _) ?_; rintro e w ⟨rfl, rfl⟩)
          | (go_at_call 69; refine Calls.mono (trimC hdl h) ?_; clear h; rintro e w ⟨rfl, h⟩; rw [HTR.out])
          | ((with_reducible refine at_sliceAny ?_); first
            | (refine wpu_strL (i := i + 1) rfl (by kernel_rfl) rfl rfl (by omega) (by omega) ?_; go_frame)
            | (refine wpu_strH (j := i) rfl (by kernel_rfl) rfl rfl rfl (by omega) ?_; go_frame))
          | ((with_reducible refine at_eqS ?_); refine wpu_eqS rfl (by kernel_rfl) rfl rfl (by first | assumption | rfl) ?_; go_frame)
          | fail)
        refine Calls.mono (smallMC htl h) ?_
        clear h; rintro e w ⟨rfl, h⟩
        go_wp2_with fail
        go_ret
        exact ⟨by rw [HB.out]; rfl, h⟩
      · have HB : Hid (nameL p = smallL p) := Lib.hid (by
          have : ¬ (p.drop (i + 1)).all digit = true := fun e => g2 (HALL.out.2 e)
          unfold nameL
          rw [k1]
          simp only [this]
          simp)
        have y2 : decide (tr = []) = false := by simp [g2]
        clear k1 k2 htr g2
        as_aux_lemma =>
        go_wp2_with (first
          | (go_at_call 64; refine Calls.mono (HLI.out _) ?_; rintro e w ⟨rfl, rfl⟩)
          | (go_at_call 69; refine Calls.mono (trimC hdl h) ?_; clear h; rintro e w ⟨rfl, h⟩; rw [HTR.out])
          | ((with_reducible refine at_sliceAny ?_); refine wpu_strL (i := i + 1) rfl (by kernel_rfl) rfl rfl (by omega) (by omega) ?_; go_frame)
          | ((with_reducible refine at_eqS ?_); refine wpu_eqS rfl (by kernel_rfl) rfl rfl (by first | assumption | rfl) ?_; go_frame)
          | fail)
        refine Calls.mono (smallMC hp h) ?_
        clear h; rintro e w ⟨rfl, h⟩
        go_wp2_with fail
        go_ret
        exact ⟨by rw [HB.out]; rfl, h⟩
    · have y1 : decide ((i : Int) < (p.length : Int) - 1) = false := by simp; omega
      have HB : Hid (nameL p = smallL p) := Lib.hid (by unfold nameL; rw [k1]; simp [g1])
      clear k1 k2
      as_aux_lemma =>
      go_wp2_with (first
        | (go_at_call 64; refine Calls.mono (HLI.out _) ?_; rintro e w ⟨rfl, rfl⟩)
        | fail)
      refine Calls.mono (smallMC hp h) ?_
      clear h; rintro e w ⟨rfl, h⟩
      go_wp2_with fail
      go_ret
      exact ⟨by rw [HB.out]; rfl, h⟩


end Go.Proofs.YtjcpfldobiekbaaDoor

namespace Go.Proofs.YtjcpfldobiekbaaDoor
open Go.RowKit Go.Sl Go.ChangeShapes

section
variable {w : World} {ops : Array Oper} {Q : Exit → Act → World → Prop} {P : Program} {rest : List Oper} {a : Act} {x y : Operand} {d : Option Tmp} {ty T' : TypeId} {pos : String} {after : Array Edge} {g : Option (Nat × Bool)} {o : Oper} {l m : Txt}
theorem exec_strNe {T : TypeId} (ho : o.op = .binOp .neq T x y T') (hx : evalO a x = some (str l)) (hy : evalO a y = some (str m)) [_hT : TyStr P T] : (execOp a.eval o).run P w = .ok (.value (.bool (!decide (l = m)))) w := by
  unfold execOp
  rw [ho]
  simp only [evalO_eq hx, evalO_eq hy]
  simp [eqGuard, binOp_string_neq]
  rw [Bool.eq_iff_iff]
  simp
theorem at_neS (h : wpList P ops Q (⟨d, .binOp .neq 9 x y T', ty, pos, after, g⟩ :: rest) a w) : wpList P ops Q (⟨d, .binOp .neq 9 x y T', ty, pos, after, g⟩ :: rest) a w := h
theorem wpu_neS (ho : o.op = .binOp .neq 9 x y T') (hw : Region.wanted o (yielded ops a.tmps) = true) (hx : evalO a x = some (str l)) (hy : evalO a y = some (str m)) {b : Bool} (hb : decide (l = m) = b) (kk : wpList Tryd.prog ops Q rest (a.put o.dst (.bool (!b))) w) : wpList Tryd.prog ops Q (o :: rest) a w := by
  subst hb
  exact wpu_val hw (exec_strNe ho hx hy) kk
end

def hostB (p n : Txt) : Int :=
  if p = [42] then 1
  else if ([42, 46] : Txt).isPrefixOf p = true then (if p.tail.isSuffixOf n = true ∧ n ≠ p.tail then 1 + p.length else 0)
  else if p = n then 1000 + p.length
  else 0
theorem host_small (pat auth : Txt) : hostR pat auth = hostB (smallL pat) (nameL auth) := by
  unfold hostR hostB
  have : (smallL pat).length = pat.length := by simp [smallL]
  rw [this]
theorem name_len (s : Txt) : (nameL s).length ≤ s.length := by
  unfold nameL
  split
  · split
    · simp [smallL]; omega
    · simp [smallL]
  · simp [smallL]



set_option maxHeartbeats 8000000 in
set_option maxRecDepth 100000 in
theorem hostC {B w : World} {A : Assn} {pat auth : Txt} (hp : pat.length ≤ 140737488351232) (ha : auth.length ≤ 140737488351232) (h : Own B A w) :
    Calls Tryd.prog 38 #[str pat, str auth] w fun e w' => e = .returned (.int .i64 (hostR pat auth)) ∧ Own B A w' := by
  have hn1 : (nameL auth).length ≤ 140737488351232 := Nat.le_trans (name_len auth) ha
  have hp1 : (smallL pat).length ≤ 140737488351232 := by simp [smallL]; omega
  have hc1 := nameC ha h
  have hc2 := fun {w} (h : Own B A w) => smallMC hp h
  rw [host_small]
  obtain ⟨n, hn⟩ : ∃ n, nameL auth = n := ⟨_, rfl⟩
  obtain ⟨p, hpp⟩ : ∃ p, smallL pat = p := ⟨_, rfl⟩
  rw [hn] at hc1 hn1 ⊢
  simp only [hpp] at hc2 hp1 ⊢
  have HC2 : Hid (∀ w, Own B A w → Calls Tryd.prog 56 #[str pat] w fun e w' => e = .returned (str p) ∧ Own B A w') := Lib.hid fun w h => hc2 h
  clear hn hpp hc2
  go_enter Tryd.func38, Tryd.ntmps38
  go_wp2_with fail
  refine Calls.mono hc1 ?_
  clear hc1 h; rintro e w ⟨rfl, h⟩
  go_wp2_with fail
  refine Calls.mono (HC2.out _ h) ?_
  clear HC2 h; rintro e w ⟨rfl, h⟩
  by_cases e1 : p = [42]
  · subst e1
    have HB : Hid (hostB [42] n = 1) := Lib.hid rfl
    have HCUT : Hid (∀ w, Calls Tryd.prog 57 #[str [42], str [42]] w fun e w' => e = .returned (.tuple #[str [], .bool true]) ∧ w' = w) := Lib.hid fun w => cutPrefixC [42] [42] w
    have HPRE := Lib.hid (hasPrefixC [] [46])
    have HSUF := HPRE
    skip
    as_aux_lemma =>
    go_wp2_with (first
      | (go_at_call 57; refine Calls.mono (HCUT.out _) ?_; rintro e w ⟨rfl, rfl⟩)
      | (go_at_call 58; refine Calls.mono (HPRE.out _) ?_; rintro e w ⟨rfl, rfl⟩)
      | (go_at_call 59; refine Calls.mono (HSUF.out _) ?_; rintro e w ⟨rfl, rfl⟩)
      | ((with_reducible refine at_eqS ?_); refine wpu_eqS rfl (by kernel_rfl) rfl rfl (by first | assumption | rfl) ?_; go_frame)
      | ((with_reducible refine at_neS ?_); refine wpu_neS rfl (by kernel_rfl) rfl rfl (by first | assumption | rfl) ?_; go_frame)
      | fail)
    go_ret
    exact ⟨by rw [HB.out]; rfl, h⟩
  · have y1 : decide (p = [42]) = false := by simp [e1]
    by_cases e2 : ([42] : Txt).isPrefixOf p = true
    · obtain ⟨t, rfl⟩ : ∃ t, p = 42 :: t := by
        cases p with
        | nil => simp at e2
        | cons x q =>
          have : x = 42 := by simp at e2; exact e2.symm
          exact ⟨q, by rw [this]⟩
      have HCUT : Hid (∀ w, Calls Tryd.prog 57 #[str (42 :: t), str [42]] w fun e w' => e = .returned (.tuple #[str t, .bool true]) ∧ w' = w) := Lib.hid fun w => by
        have := cutPrefixC (42 :: t) [42] w
        rwa [if_pos e2, e2] at this
      simp only [List.length_cons] at hp1
      obtain ⟨pr, hpr⟩ : ∃ pr, ([46] : Txt).isPrefixOf t = pr := ⟨_, rfl⟩
      have HPRE : Hid (∀ w, Calls Tryd.prog 58 #[str t, str [46]] w fun e w' => e = .returned (.bool pr) ∧ w' = w) := Lib.hid fun w => by
        have := hasPrefixC t [46] w
        rwa [hpr] at this
      have e3 : ([42, 46] : Txt).isPrefixOf (42 :: t) = pr := by rw [← hpr]; simp [List.isPrefixOf]
      cases pr
      · have HSUF := HPRE
        by_cases e4 : 42 :: t = n
        · have y4 : decide (42 :: t = n) = true := by simp [e4]
          have HB : Hid (hostB (42 :: t) n = 1000 + ((t.length : Int) + 1)) := Lib.hid (by
            unfold hostB
            rw [if_neg e1, e3, if_neg (by simp), if_pos e4]
            simp)
          clear e1 e2 e3 e4 hpr
          skip
          as_aux_lemma =>
          go_wp2_with (first
            | (go_at_call 57; refine Calls.mono (HCUT.out _) ?_; rintro e w ⟨rfl, rfl⟩)
            | (go_at_call 58; refine Calls.mono (HPRE.out _) ?_; rintro e w ⟨rfl, rfl⟩)
            | (go_at_call 59; refine Calls.mono (HSUF.out _) ?_; rintro e w ⟨rfl, rfl⟩)
            | ((with_reducible refine at_eqS ?_); refine wpu_eqS rfl (by kernel_rfl) rfl rfl (by first | assumption | rfl) ?_; go_frame)
            | ((with_reducible refine at_neS ?_); refine wpu_neS rfl (by kernel_rfl) rfl rfl (by first | assumption | rfl) ?_; go_frame)
            | fail)
          go_ret
          exact ⟨by rw [HB.out]; rfl, h⟩
        · have y4 : decide (42 :: t = n) = false := by simp [e4]
          have HB : Hid (hostB (42 :: t) n = 0) := Lib.hid (by
            unfold hostB
            rw [if_neg e1, e3, if_neg (by simp), if_neg e4])
          clear e1 e2 e3 e4 hpr
          skip
          as_aux_lemma =>
          go_wp2_with (first
            | (go_at_call 57; refine Calls.mono (HCUT.out _) ?_; rintro e w ⟨rfl, rfl⟩)
            | (go_at_call 58; refine Calls.mono (HPRE.out _) ?_; rintro e w ⟨rfl, rfl⟩)
            | (go_at_call 59; refine Calls.mono (HSUF.out _) ?_; rintro e w ⟨rfl, rfl⟩)
            | ((with_reducible refine at_eqS ?_); refine wpu_eqS rfl (by kernel_rfl) rfl rfl (by first | assumption | rfl) ?_; go_frame)
            | ((with_reducible refine at_neS ?_); refine wpu_neS rfl (by kernel_rfl) rfl rfl (by first | assumption | rfl) ?_; go_frame)
            | fail)
          go_ret
          exact ⟨by rw [HB.out]; rfl, h⟩
      · obtain ⟨sf, hsf⟩ : ∃ sf, t.isSuffixOf n = sf := ⟨_, rfl⟩
        have HSUF : Hid (∀ w, Calls Tryd.prog 59 #[str n, str t] w fun e w' => e = .returned (.bool sf) ∧ w' = w) := Lib.hid fun w => by
          have := hasSuffixC n t w (by omega)
          rwa [hsf] at this
        cases sf
        · have HB : Hid (hostB (42 :: t) n = 0) := Lib.hid (by
            unfold hostB
            rw [if_neg e1, e3, if_pos rfl]
            exact if_neg fun e => by have := e.1; rw [show (42 :: t).tail = t from rfl, hsf] at this; cases this)
          clear e1 e2 e3 hpr hsf
          skip
          as_aux_lemma =>
          go_wp2_with (first
            | (go_at_call 57; refine Calls.mono (HCUT.out _) ?_; rintro e w ⟨rfl, rfl⟩)
            | (go_at_call 58; refine Calls.mono (HPRE.out _) ?_; rintro e w ⟨rfl, rfl⟩)
            | (go_at_call 59; refine Calls.mono (HSUF.out _) ?_; rintro e w ⟨rfl, rfl⟩)
            | ((with_reducible refine at_eqS ?_); refine wpu_eqS rfl (by kernel_rfl) rfl rfl (by first | assumption | rfl) ?_; go_frame)
            | ((with_reducible refine at_neS ?_); refine wpu_neS rfl (by kernel_rfl) rfl rfl (by first | assumption | rfl) ?_; go_frame)
            | fail)
          go_ret
          exact ⟨by rw [HB.out]; rfl, h⟩
        · by_cases e4 : n = t
          · have y4 : decide (n = t) = true := by simp [e4]
            have HB : Hid (hostB (42 :: t) n = 0) := Lib.hid (by
              unfold hostB
              rw [if_neg e1, e3, if_pos rfl]
              simp [e4])
            clear e1 e2 e3 e4 hpr hsf
            skip
            as_aux_lemma =>
            go_wp2_with (first
              | (go_at_call 57; refine Calls.mono (HCUT.out _) ?_; rintro e w ⟨rfl, rfl⟩)
              | (go_at_call 58; refine Calls.mono (HPRE.out _) ?_; rintro e w ⟨rfl, rfl⟩)
              | (go_at_call 59; refine Calls.mono (HSUF.out _) ?_; rintro e w ⟨rfl, rfl⟩)
              | ((with_reducible refine at_eqS ?_); refine wpu_eqS rfl (by kernel_rfl) rfl rfl (by first | assumption | rfl) ?_; go_frame)
              | ((with_reducible refine at_neS ?_); refine wpu_neS rfl (by kernel_rfl) rfl rfl (by first | assumption | rfl) ?_; go_frame)
              | fail)
            go_ret
            exact ⟨by rw [HB.out]; rfl, h⟩
          · have y4 : decide (n = t) = false := by simp [e4]
            have HB : Hid (hostB (42 :: t) n = 1 + ((t.length : Int) + 1)) := Lib.hid (by
              unfold hostB
              rw [if_neg e1, e3, if_pos rfl]
              exact (if_pos ⟨hsf, e4⟩).trans (by simp))
            clear e1 e2 e3 e4 hpr hsf
            skip
            as_aux_lemma =>
            go_wp2_with (first
              | (go_at_call 57; refine Calls.mono (HCUT.out _) ?_; rintro e w ⟨rfl, rfl⟩)
              | (go_at_call 58; refine Calls.mono (HPRE.out _) ?_; rintro e w ⟨rfl, rfl⟩)
              | (go_at_call 59; refine Calls.mono (HSUF.out _) ?_; rintro e w ⟨rfl, rfl⟩)
              | ((with_reducible refine at_eqS ?_); refine wpu_eqS rfl (by kernel_rfl) rfl rfl (by first | assumption | rfl) ?_; go_frame)
              | ((with_reducible refine at_neS ?_); refine wpu_neS rfl (by kernel_rfl) rfl rfl (by first | assumption | rfl) ?_; go_frame)
              | fail)
            go_ret
            exact ⟨by rw [HB.out]; rfl, h⟩
    · have e2' : ([42] : Txt).isPrefixOf p = false := by cases hx : ([42] : Txt).isPrefixOf p; rfl; exact absurd hx e2
      have HCUT : Hid (∀ w, Calls Tryd.prog 57 #[str p, str [42]] w fun e w' => e = .returned (.tuple #[str p, .bool false]) ∧ w' = w) := Lib.hid fun w => by
        have := cutPrefixC p [42] w
        rwa [if_neg e2, e2'] at this
      have HPRE := HCUT
      have HSUF := HCUT
      have e3 : ¬ ([42, 46] : Txt).isPrefixOf p = true := by
        intro e
        cases p with
        | nil => simp at e
        | cons x q =>
          simp [List.isPrefixOf] at e e2
          exact e2 e.1
      by_cases e4 : p = n
      · have y4 : decide (p = n) = true := by simp [e4]
        have HB : Hid (hostB p n = 1000 + (p.length : Int)) := Lib.hid (by
          unfold hostB
          rw [if_neg e1, if_neg e3, if_pos e4])
        clear e1 e2 e2' e3 e4
        skip
        as_aux_lemma =>
        go_wp2_with (first
          | (go_at_call 57; refine Calls.mono (HCUT.out _) ?_; rintro e w ⟨rfl, rfl⟩)
          | (go_at_call 58; refine Calls.mono (HPRE.out _) ?_; rintro e w ⟨rfl, rfl⟩)
          | (go_at_call 59; refine Calls.mono (HSUF.out _) ?_; rintro e w ⟨rfl, rfl⟩)
          | ((with_reducible refine at_eqS ?_); refine wpu_eqS rfl (by kernel_rfl) rfl rfl (by first | assumption | rfl) ?_; go_frame)
          | ((with_reducible refine at_neS ?_); refine wpu_neS rfl (by kernel_rfl) rfl rfl (by first | assumption | rfl) ?_; go_frame)
          | fail)
        go_ret
        exact ⟨by rw [HB.out]; rfl, h⟩
      · have y4 : decide (p = n) = false := by simp [e4]
        have HB : Hid (hostB p n = 0) := Lib.hid (by
          unfold hostB
          rw [if_neg e1, if_neg e3, if_neg e4])
        clear e1 e2 e2' e3 e4
        skip
        as_aux_lemma =>
        go_wp2_with (first
          | (go_at_call 57; refine Calls.mono (HCUT.out _) ?_; rintro e w ⟨rfl, rfl⟩)
          | (go_at_call 58; refine Calls.mono (HPRE.out _) ?_; rintro e w ⟨rfl, rfl⟩)
          | (go_at_call 59; refine Calls.mono (HSUF.out _) ?_; rintro e w ⟨rfl, rfl⟩)
          | ((with_reducible refine at_eqS ?_); refine wpu_eqS rfl (by kernel_rfl) rfl rfl (by first | assumption | rfl) ?_; go_frame)
          | ((with_reducible refine at_neS ?_); refine wpu_neS rfl (by kernel_rfl) rfl rfl (by first | assumption | rfl) ?_; go_frame)
          | fail)
        go_ret
        exact ⟨by rw [HB.out]; rfl, h⟩


end Go.Proofs.YtjcpfldobiekbaaDoor
