
/-
  Package match: the document's path; calls.
-/
import Derived.Test.YtndlfieignhjjaaDoorMt2
namespace Go.Proofs.YtndlfieignhjjaaDoor
open Go.RowKit Go.Sl Go.ChangeShapes



set_option maxHeartbeats 8000000 in
set_option maxRecDepth 100000 in
theorem pathRefC {B w : World} {A : Assn} {how : Int} {want p : Txt} (hw : want.length ≤ 1000000) (hp : p.length ≤ 1000000) (h : Own B A w) :
    Calls Tryd.prog 17 #[.int .i64 how, str want, str p] w fun e w' => e = .returned (.bool (pathR how want p)) ∧ Own B A w' := by
  have hbl := bare_len p
  rcases how4 how with rfl | rfl | rfl | ⟨h0, h1, h2, z0, z1, z2⟩
  · go_enter Tryd.func17, Tryd.ntmps17
    go_wp2_with fail
    refine Calls.mono (bareRefC hp h) ?_
    clear h; rintro e w ⟨rfl, h⟩
    go_wp2_with fail
    go_ret
    exact ⟨rfl, h⟩
  · go_enter Tryd.func17, Tryd.ntmps17
    go_wp2_with fail
    refine Calls.mono (bareRefC hp h) ?_
    clear h; rintro e w ⟨rfl, h⟩
    go_wp2_with (first
      | ((with_reducible refine at_eqS ?_); refine wpu_eqS rfl (by kernel_rfl) rfl rfl (by first | assumption | rfl) ?_; go_frame)
      | fail)
    go_ret
    exact ⟨rfl, h⟩
  · rw [path_two]
    have hcall := bareRefC hp h
    obtain ⟨b, hb⟩ : ∃ b, bareL p = b := ⟨_, rfl⟩
    rw [hb] at hbl hcall ⊢
    clear hb
    go_enter Tryd.func17, Tryd.ntmps17
    go_wp2_with fail
    refine Calls.mono hcall ?_
    clear h hcall; rintro e w ⟨rfl, h⟩
    obtain ⟨pre, hpre⟩ : ∃ pre, want.isPrefixOf b = pre := ⟨_, rfl⟩
    have HCUT : Hid (∀ w, Calls Tryd.prog 33 #[str b, str want] w fun e w' => e = .returned (.bool pre) ∧ w' = w) := Lib.hid fun w => by
      have := beginsC (s := b) (t := want) (by omega) hw w
      rwa [hpre] at this
    cases pre
    · have HB : Hid (below want b = false) := Lib.hid (by unfold below; rw [hpre]; rfl)
      clear hpre
      as_aux_lemma =>
      go_wp2_with (first
        | (go_at_call 33; refine Calls.mono (HCUT.out _) ?_; rintro e w ⟨rfl, rfl⟩)
        | ((with_reducible refine at_eqS ?_); refine wpu_eqS rfl (by kernel_rfl) rfl rfl (by first | assumption | rfl) ?_; go_frame)
        | fail)
      go_ret
      exact ⟨by rw [HB.out]; rfl, h⟩
    · obtain ⟨sf, hsf⟩ : ∃ sf, ([47] : Txt).isSuffixOf want = sf := ⟨_, rfl⟩
      have HSF : Hid (∀ w, Calls Tryd.prog 34 #[str want, str [47]] w fun e w' => e = .returned (.bool sf) ∧ w' = w) := Lib.hid fun w => by
        have := endsC (s := want) (t := [47]) hw (by decide) w
        rwa [hsf] at this
      have hle := (List.isPrefixOf_iff_prefix.1 hpre).length_le
      by_cases g2 : want = []
      · have y2 : decide (want = []) = true := by simp [g2]
        have HB : Hid (below want b = true) := Lib.hid (by unfold below; rw [hpre]; simp [g2])
        have HC : Hid ((some (47 : UInt8)) = some 47) := Lib.hid rfl
        clear g2 hpre hsf
        as_aux_lemma =>
        go_wp2_with (first
          | (go_at_call 33; refine Calls.mono (HCUT.out _) ?_; rintro e w ⟨rfl, rfl⟩)
          | ((with_reducible refine at_eqS ?_); refine wpu_eqS rfl (by kernel_rfl) rfl rfl (by first | assumption | rfl) ?_; go_frame)
          | fail)
        go_ret
        exact ⟨by rw [HB.out]; rfl, h⟩
      · have y2 : decide (want = []) = false := by simp [g2]
        by_cases g1 : b.length = want.length
        · have y1 : ((b.length : Int) == (want.length : Int)) = true := by simp [g1]
          have y3 : (b.length == want.length) = true := by simp [g1]
          have HB : Hid (below want b = true) := Lib.hid (by unfold below; rw [hpre]; simp [g1])
          clear g1 g2 hpre hsf
          as_aux_lemma =>
          go_wp2_with (first
            | (go_at_call 33; refine Calls.mono (HCUT.out _) ?_; rintro e w ⟨rfl, rfl⟩)
            | ((with_reducible refine at_eqS ?_); refine wpu_eqS rfl (by kernel_rfl) rfl rfl (by first | assumption | rfl) ?_; go_frame)
            | fail)
          go_ret
          exact ⟨by rw [HB.out]; rfl, h⟩
        · have y1 : ((b.length : Int) == (want.length : Int)) = false := by simp; omega
          have y3 : (b.length == want.length) = false := by simp [g1]
          have hlt : want.length < b.length := by omega
          obtain ⟨c, hc⟩ : ∃ c, b[want.length]? = some c := ⟨b[want.length]'hlt, List.getElem?_eq_getElem _⟩
          have HC := Lib.hid hc
          by_cases g3 : c = 47
          · subst g3
            have HB : Hid (below want b = true) := Lib.hid (by unfold below; rw [hpre, hc]; simp)
            clear g1 g2 hpre hsf hc
            cases sf
            · skip
              as_aux_lemma =>
              go_wp2_with (first
                | (go_at_call 33; refine Calls.mono (HCUT.out _) ?_; rintro e w ⟨rfl, rfl⟩)
                | (go_at_call 34; refine Calls.mono (HSF.out _) ?_; rintro e w ⟨rfl, rfl⟩)
                | ((with_reducible refine at_strAt ?_); refine wpu_strAt (i := want.length) (c := 47) rfl (by kernel_rfl) rfl rfl rfl HC.out ?_; go_frame)
                | ((with_reducible refine at_eqS ?_); refine wpu_eqS rfl (by kernel_rfl) rfl rfl (by first | assumption | rfl) ?_; go_frame)
                | fail)
              go_ret
              exact ⟨by rw [HB.out]; rfl, h⟩
            · skip
              as_aux_lemma =>
              go_wp2_with (first
                | (go_at_call 33; refine Calls.mono (HCUT.out _) ?_; rintro e w ⟨rfl, rfl⟩)
                | (go_at_call 34; refine Calls.mono (HSF.out _) ?_; rintro e w ⟨rfl, rfl⟩)
                | ((with_reducible refine at_strAt ?_); refine wpu_strAt (i := want.length) (c := 47) rfl (by kernel_rfl) rfl rfl rfl HC.out ?_; go_frame)
                | ((with_reducible refine at_eqS ?_); refine wpu_eqS rfl (by kernel_rfl) rfl rfl (by first | assumption | rfl) ?_; go_frame)
                | fail)
              go_ret
              exact ⟨by rw [HB.out]; rfl, h⟩
          · obtain ⟨k1, k2⟩ := beq_u8 g3
            have k3 : ((c.toNat : Int) == 47) = false := k1
            have k4 : (c.toNat == 47) = false := k2
            have HB : Hid (below want b = sf) := Lib.hid (by
              unfold below
              rw [hpre, hc, hsf]
              simp [g1, g2, g3])
            clear g1 g2 g3 hsf hc hpre k1 k2
            cases sf
            · skip
              as_aux_lemma =>
              go_wp2_with (first
                | (go_at_call 33; refine Calls.mono (HCUT.out _) ?_; rintro e w ⟨rfl, rfl⟩)
                | (go_at_call 34; refine Calls.mono (HSF.out _) ?_; rintro e w ⟨rfl, rfl⟩)
                | ((with_reducible refine at_strAt ?_); refine wpu_strAt (i := want.length) (c := c) rfl (by kernel_rfl) rfl rfl rfl HC.out ?_; go_frame)
                | ((with_reducible refine at_eqS ?_); refine wpu_eqS rfl (by kernel_rfl) rfl rfl (by first | assumption | rfl) ?_; go_frame)
                | fail)
              go_ret
              exact ⟨by rw [HB.out]; rfl, h⟩
            · skip
              as_aux_lemma =>
              go_wp2_with (first
                | (go_at_call 33; refine Calls.mono (HCUT.out _) ?_; rintro e w ⟨rfl, rfl⟩)
                | (go_at_call 34; refine Calls.mono (HSF.out _) ?_; rintro e w ⟨rfl, rfl⟩)
                | ((with_reducible refine at_strAt ?_); refine wpu_strAt (i := want.length) (c := c) rfl (by kernel_rfl) rfl rfl rfl HC.out ?_; go_frame)
                | ((with_reducible refine at_eqS ?_); refine wpu_eqS rfl (by kernel_rfl) rfl rfl (by first | assumption | rfl) ?_; go_frame)
                | fail)
              go_ret
              exact ⟨by rw [HB.out]; rfl, h⟩
  · go_enter Tryd.func17, Tryd.ntmps17
    go_wp2_with fail
    refine Calls.mono (bareRefC hp h) ?_
    clear h; rintro e w ⟨rfl, h⟩
    go_wp2_with fail
    go_ret
    exact ⟨by simp [pathR, h0, h1, h2], h⟩

/-! ### calls -/

def callV : Option (Txt × Txt) → Value
  | some (s, m) => .tuple #[str s, str m, .bool true]
  | none => .tuple #[str [], str [], .bool false]

def callB (b : Txt) : Option (Txt × Txt) :=
  match b with
  | [] => none
  | x :: q => if x = 47 then
      match lastAt 47 q with
      | some i => if 1 ≤ i ∧ i + 1 ≠ q.length then some (q.take i, q.drop (i + 1)) else none
      | none => none
    else none
theorem call_bare (p : Txt) : callR p = callB (bareL p) := rfl


set_option maxHeartbeats 8000000 in
set_option maxRecDepth 100000 in
theorem callC {B w : World} {A : Assn} {p : Txt} (hp : p.length ≤ 1000000) (h : Own B A w) :
    Calls Tryd.prog 14 #[str p] w fun e w' => e = .returned (callV (callR p)) ∧ Own B A w' := by
  have hbl := bare_len p
  rw [call_bare]
  have hcall := bareC hp h
  obtain ⟨b, hb⟩ : ∃ b, bareL p = b := ⟨_, rfl⟩
  rw [hb] at hbl hcall ⊢
  clear hb
  go_enter Tryd.func14, Tryd.ntmps14
  go_wp2_with fail
  refine Calls.mono hcall ?_
  clear h hcall; rintro e w ⟨rfl, h⟩
  by_cases hpre : ([47] : Txt).isPrefixOf b = true
  · obtain ⟨q, rfl⟩ : ∃ q, b = 47 :: q := by
      cases b with
      | nil => simp at hpre
      | cons x q =>
        have : x = 47 := by simp at hpre; exact hpre.symm
        exact ⟨q, by rw [this]⟩
    simp only [List.length_cons] at hbl
    have HCUT : Hid (∀ w, Calls Tryd.prog 28 #[str (47 :: q), str [47]] w fun e w' => e = .returned (.tuple #[str q, .bool true]) ∧ w' = w) := Lib.hid fun w => by
      have := cutPrefixC (47 :: q) [47] w
      rwa [if_pos hpre, hpre] at this
    have HLI0 := fun w => lastIndexC q 47 w (by omega)
    clear hpre
    rcases lastAt_spec 47 q with ⟨k1, _⟩ | ⟨i, k1, k2, _⟩
    · have HB : Hid (callB (47 :: q) = none) := Lib.hid (by unfold callB; simp [k1])
      have HLI : Hid (∀ w, Calls Tryd.prog 30 #[str q, .int .u8 47] w fun e w' => e = .returned (.int .i64 (-1)) ∧ w' = w) := Lib.hid fun w => by
        have := HLI0 w
        unfold lastI at this
        rw [k1] at this
        exact this
      clear HLI0 k1
      skip
      as_aux_lemma =>
      go_wp2_with (first
        | (go_at_call 28; refine Calls.mono (HCUT.out _) ?_; rintro e w ⟨rfl, rfl⟩)
        | (go_at_call 30; refine Calls.mono (HLI.out _) ?_; rintro e w ⟨rfl, rfl⟩)
        | fail)
      try simp only [Exit.inBlock, Exit.then]
      refine bodyPost_ret (results3 rfl (by first | exact resT rfl | exact resB G rfl (by rfl) | exact resO G rfl rfl) (by first | exact resT rfl | exact resB G rfl (by rfl) | exact resO G rfl rfl) (by first | exact resT rfl | exact resB G rfl (by rfl) | exact resO G rfl rfl)) rfl ?_
      exact ⟨by rw [HB.out]; rfl, h⟩
    · have hi := lastAt_lt k1
      have HLI : Hid (∀ w, Calls Tryd.prog 30 #[str q, .int .u8 47] w fun e w' => e = .returned (.int .i64 (i : Int)) ∧ w' = w) := Lib.hid fun w => by
        have := HLI0 w
        unfold lastI at this
        rw [k1] at this
        exact this
      clear HLI0
      by_cases g1 : 1 ≤ i
      · by_cases g2 : i + 1 = q.length
        · have HB : Hid (callB (47 :: q) = none) := Lib.hid (by unfold callB; simp [k1, g2])
          have y1 : ((i : Int) == (q.length : Int) - 1) = true := by simp; omega
          have y2 : decide ((i : Int) < 1) = false := by simp; omega
          clear k1 k2 g2
          skip
          as_aux_lemma =>
          go_wp2_with (first
            | (go_at_call 28; refine Calls.mono (HCUT.out _) ?_; rintro e w ⟨rfl, rfl⟩)
            | (go_at_call 30; refine Calls.mono (HLI.out _) ?_; rintro e w ⟨rfl, rfl⟩)
            | fail)
          try simp only [Exit.inBlock, Exit.then]
          refine bodyPost_ret (results3 rfl (by first | exact resT rfl | exact resB G rfl (by rfl) | exact resO G rfl rfl) (by first | exact resT rfl | exact resB G rfl (by rfl) | exact resO G rfl rfl) (by first | exact resT rfl | exact resB G rfl (by rfl) | exact resO G rfl rfl)) rfl ?_
          exact ⟨by rw [HB.out]; rfl, h⟩
        · have HB : Hid (callB (47 :: q) = some (q.take i, q.drop (i + 1))) := Lib.hid (by unfold callB; simp [k1, g1, g2])
          have y1 : ((i : Int) == (q.length : Int) - 1) = false := by simp; omega
          have y2 : decide ((i : Int) < 1) = false := by simp; omega
          clear k1 k2 g2
          as_aux_lemma =>
          go_wp2_with (first
            | (go_at_call 28; refine Calls.mono (HCUT.out _) ?_; rintro e w ⟨rfl, rfl⟩)
            | (go_at_call 30; refine Calls.mono (HLI.out _) ?_; rintro e w ⟨rfl, rfl⟩)
            | fail)
          refine wp_region_calm (C := Own _ _) (by kernel_rfl) (by kernel_rfl) (own_drew h) ?_
          intro ι W hne hW hs
          repeat (first
            | ((with_reducible refine atq_sliceAny ?_); first
              | (refine wpq_strH (j := i) rfl rfl rfl rfl rfl (by omega) ?_; go_frame)
              | (refine wpq_strL (i := i + 1) rfl rfl rfl rfl (by omega) (by omega) ?_; go_frame))
            | go_big_quiet_step (fail))
          refine wpQuiet_nil ?_
          intro i'
          have G := hW i'
          generalize W i' = wg at G ⊢
          clear hs hW hne
          go_wp2_with fail
          try simp only [Exit.inBlock, Exit.then]
          refine bodyPost_ret (results3 rfl (by first | exact resT rfl | exact resB G rfl (by rfl) | exact resO G rfl rfl) (by first | exact resT rfl | exact resB G rfl (by rfl) | exact resO G rfl rfl) (by first | exact resT rfl | exact resB G rfl (by rfl) | exact resO G rfl rfl)) rfl ?_
          exact ⟨by rw [HB.out]; rfl, G⟩
      · have HB : Hid (callB (47 :: q) = none) := Lib.hid (by unfold callB; simp [k1, g1])
        obtain rfl : i = 0 := by omega
        clear k1 k2
        skip
        as_aux_lemma =>
        go_wp2_with (first
          | (go_at_call 28; refine Calls.mono (HCUT.out _) ?_; rintro e w ⟨rfl, rfl⟩)
          | (go_at_call 30; refine Calls.mono (HLI.out _) ?_; rintro e w ⟨rfl, rfl⟩)
          | fail)
        try simp only [Exit.inBlock, Exit.then]
        refine bodyPost_ret (results3 rfl (by first | exact resT rfl | exact resB G rfl (by rfl) | exact resO G rfl rfl) (by first | exact resT rfl | exact resB G rfl (by rfl) | exact resO G rfl rfl) (by first | exact resT rfl | exact resB G rfl (by rfl) | exact resO G rfl rfl)) rfl ?_
        exact ⟨by rw [HB.out]; rfl, h⟩
  · have hpre' : ([47] : Txt).isPrefixOf b = false := by cases hx : ([47] : Txt).isPrefixOf b; rfl; exact absurd hx hpre
    have HCUT : Hid (∀ w, Calls Tryd.prog 28 #[str b, str [47]] w fun e w' => e = .returned (.tuple #[str b, .bool false]) ∧ w' = w) := Lib.hid fun w => by
      have := cutPrefixC b [47] w
      rwa [if_neg hpre, hpre'] at this
    have HLI : Hid (∀ w, Calls Tryd.prog 30 #[str b, .int .u8 47] w fun e w' => e = .returned (.int .i64 (lastI 47 b)) ∧ w' = w) := Lib.hid fun w => lastIndexC b 47 w (by omega)
    have HB : Hid (callB b = none) := Lib.hid (by
      unfold callB
      cases b with
      | nil => rfl
      | cons x q =>
        have : x ≠ 47 := fun e => hpre (by simp [e])
        simp [this])
    clear hpre hpre'
    skip
    as_aux_lemma =>
    go_wp2_with (first
      | (go_at_call 28; refine Calls.mono (HCUT.out _) ?_; rintro e w ⟨rfl, rfl⟩)
      | (go_at_call 30; refine Calls.mono (HLI.out _) ?_; rintro e w ⟨rfl, rfl⟩)
      | fail)
    try simp only [Exit.inBlock, Exit.then]
    refine bodyPost_ret (results3 rfl (by first | exact resT rfl | exact resB G rfl (by rfl) | exact resO G rfl rfl) (by first | exact resT rfl | exact resB G rfl (by rfl) | exact resO G rfl rfl) (by first | exact resT rfl | exact resB G rfl (by rfl) | exact resO G rfl rfl)) rfl ?_
    exact ⟨by rw [HB.out]; rfl, h⟩
end Go.Proofs.YtndlfieignhjjaaDoor
