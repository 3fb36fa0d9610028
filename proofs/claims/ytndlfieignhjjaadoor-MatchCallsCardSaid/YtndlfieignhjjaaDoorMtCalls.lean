
/-
  MatchCalls: a path of a service and a method is a call of them.
-/
import Derived.Test.YtndlfieignhjjaaDoorMtLet
import Derived.Test.YtndlfieignhjjaaDoorLawD
import Derived.Test.YtndlfieignhjjaaDoorTie
import Derived.Test.YtndlfieignhjjaaDoorCards
import Derived.SevenTiedAt
namespace Go.Proofs.YtndlfieignhjjaaDoor.matchCalls
open Go.RowKit Go.Sl Go.ChangeShapes


set_option maxHeartbeats 8000000 in
set_option maxRecDepth 100000 in
theorem callsW {w0 : World} {l1 l2 l3 : Txt} (h1 : l1.length ≤ 9223372036854775807) (h2 : l2.length ≤ 9223372036854775807) (h3 : l3.length ≤ 9223372036854775807) : Calls Tryd.prog 8 #[str l1, str l2, str l3] w0 fun e w' => e = .returned (.bool true) ∧ Below w0.heap.size w0 w' := by
  have G := own_begin w0
  have k1 := letters_len l1
  have k2 := letters_len l2
  have k3 := cutT_len l3
  have q1 := letters_plain l1
  have q2 := letters_plain l2
  obtain ⟨ls, hls⟩ : ∃ x, lettersL l1 = x := ⟨_, rfl⟩
  obtain ⟨lm, hlm⟩ : ∃ x, lettersL l2 = x := ⟨_, rfl⟩
  obtain ⟨more, hmo⟩ : ∃ x, cutT l3 = x := ⟨_, rfl⟩
  rw [hls] at k1 q1
  rw [hlm] at k2 q2
  rw [hmo] at k3
  have HLS := Lib.hid hls
  have HLM := Lib.hid hlm
  have HMO := Lib.hid hmo
  clear hls hlm hmo
  obtain ⟨s, hs⟩ : ∃ s, [120] ++ ls = s := ⟨_, rfl⟩
  obtain ⟨m, hm⟩ : ∃ m, lm ++ [121] = m := ⟨_, rfl⟩
  have s63 : ∀ c ∈ s, c ≠ 63 := by
    intro c hc
    rw [← hs] at hc
    rcases List.mem_append.1 hc with g | g
    · rw [List.mem_singleton.1 g]; decide
    · exact (plain_ne (q1 c g)).2.1
  have m63 : ∀ c ∈ m, c ≠ 47 ∧ c ≠ 63 := by
    intro c hc
    rw [← hm] at hc
    rcases List.mem_append.1 hc with g | g
    · exact ⟨(plain_ne (q2 c g)).1, (plain_ne (q2 c g)).2.1⟩
    · rw [List.mem_singleton.1 g]; decide
  have s1 : s ≠ [] := by rw [← hs]; simp
  have m1 : m ≠ [] := by rw [← hm]; simp
  have n1 : s.length ≤ 2001 := by rw [← hs]; simp; omega
  have n2 : m.length ≤ 2001 := by rw [← hm]; simp; omega
  have ES := Lib.hid hs
  have EM := Lib.hid hm
  clear hs hm q1 q2
  obtain ⟨a1, ha1⟩ : ∃ x, [47] ++ s = x := ⟨_, rfl⟩
  obtain ⟨a2, ha2⟩ : ∃ x, a1 ++ [47] = x := ⟨_, rfl⟩
  obtain ⟨a3, ha3⟩ : ∃ x, a2 ++ m = x := ⟨_, rfl⟩
  obtain ⟨a4, ha4⟩ : ∃ x, a3 ++ [63] = x := ⟨_, rfl⟩
  obtain ⟨a5, ha5⟩ : ∃ x, a4 ++ more = x := ⟨_, rfl⟩
  obtain ⟨b4, hb4⟩ : ∃ x, a3 ++ [47] = x := ⟨_, rfl⟩
  obtain ⟨c3, hc3⟩ : ∃ x, a2 ++ s = x := ⟨_, rfl⟩
  obtain ⟨c4, hc4⟩ : ∃ x, c3 ++ [47] = x := ⟨_, rfl⟩
  obtain ⟨c5, hc5⟩ : ∃ x, c4 ++ m = x := ⟨_, rfl⟩
  obtain ⟨d1, hd1⟩ : ∃ x, s ++ [47] = x := ⟨_, rfl⟩
  obtain ⟨d2, hd2⟩ : ∃ x, d1 ++ s = x := ⟨_, rfl⟩
  have L1 : a1.length ≤ 2002 := by rw [← ha1]; simp; omega
  have L2 : a2.length ≤ 2003 := by rw [← ha2]; simp; omega
  have L3 : a3.length ≤ 4004 := by rw [← ha3]; simp; omega
  have L4 : a4.length ≤ 4005 := by rw [← ha4]; simp; omega
  have L5 : a5.length ≤ 1000000 := by rw [← ha5]; simp; omega
  have L6 : b4.length ≤ 1000000 := by rw [← hb4]; simp; omega
  have L7 : c3.length ≤ 4004 := by rw [← hc3]; simp; omega
  have L8 : c4.length ≤ 4005 := by rw [← hc4]; simp; omega
  have L9 : c5.length ≤ 1000000 := by rw [← hc5]; simp; omega
  have L10 : d1.length ≤ 2002 := by rw [← hd1]; simp; omega
  have T1 : callR a5 = some (s, m) := by
    have e : a5 = 47 :: (s ++ 47 :: (m ++ 63 :: more)) := by rw [← ha5, ← ha4, ← ha3, ← ha2, ← ha1]; simp
    rw [e]
    exact call_mid s63 m63 s1 m1 (.inr ⟨_, rfl⟩)
  have T2 : callR b4 = none := by
    have e : b4 = 47 :: ((s ++ 47 :: m) ++ [47]) := by rw [← hb4, ← ha3, ← ha2, ← ha1]; simp
    rw [e]
    refine call_end ?_
    intro c hc
    simp only [List.mem_append, List.mem_cons] at hc
    rcases hc with g | rfl | g
    · exact s63 c g
    · decide
    · exact (m63 c g).2
  have T3 : callR c5 = some (d2, m) := by
    have e : c5 = 47 :: (d2 ++ 47 :: (m ++ [])) := by rw [← hc5, ← hc4, ← hc3, ← ha2, ← ha1, ← hd2, ← hd1]; simp
    rw [e]
    refine call_mid ?_ m63 ?_ m1 (.inl rfl)
    · intro c hc
      rw [← hd2, ← hd1] at hc
      simp only [List.mem_append, List.mem_singleton] at hc
      rcases hc with (g | rfl) | g
      · exact s63 c g
      · decide
      · exact s63 c g
    · rw [← hd2]
      intro e
      exact s1 (List.append_eq_nil_iff.1 e).2
  have e1 := Lib.hid ha1
  have e2 := Lib.hid ha2
  have e3 := Lib.hid ha3
  have e4 := Lib.hid ha4
  have e5 := Lib.hid ha5
  have e6 := Lib.hid hb4
  have e7 := Lib.hid hc3
  have e8 := Lib.hid hc4
  have e9 := Lib.hid hc5
  have e10 := Lib.hid hd1
  have e11 := Lib.hid hd2
  clear ha1 ha2 ha3 ha4 ha5 hb4 hc3 hc4 hc5 hd1 hd2 s63 m63 s1 m1
  have C1 : Hid (∀ w, Own w0 emp w → Calls Tryd.prog 14 #[str a5] w fun e w' => e = .returned (.tuple #[str s, str m, .bool true]) ∧ Own w0 emp w') := Lib.hid fun w h => by have := callC L5 h; rwa [T1] at this
  have C2 : Hid (∀ w, Own w0 emp w → Calls Tryd.prog 14 #[str b4] w fun e w' => e = .returned (.tuple #[str [], str [], .bool false]) ∧ Own w0 emp w') := Lib.hid fun w h => by have := callC L6 h; rwa [T2] at this
  have C3 : Hid (∀ w, Own w0 emp w → Calls Tryd.prog 14 #[str c5] w fun e w' => e = .returned (.tuple #[str d2, str m, .bool true]) ∧ Own w0 emp w') := Lib.hid fun w h => by have := callC L9 h; rwa [T3] at this
  clear T1 T2 T3
  go_enter Tryd.func8, Tryd.ntmps8
  go_wp2_with fail
  refine Calls.mono (shownMt G) ?_
  clear G; rintro e w ⟨rfl, G⟩
  go_wp2_with fail
  refine Calls.mono (lettersC h1 G) ?_
  clear G; rintro e w ⟨rfl, G⟩
  rw [HLS.out]
  go_wp2_with (first
    | ((with_reducible refine at_addS ?_); first
      | (refine wpu_addS (r := s) rfl (by kernel_rfl) rfl rfl ES.out (by first | omega | (simp; omega)) ?_; go_frame)
      | (refine wpu_addS (r := m) rfl (by kernel_rfl) rfl rfl EM.out (by first | omega | (simp; omega)) ?_; go_frame)
      | (refine wpu_addS (r := a1) rfl (by kernel_rfl) rfl rfl e1.out (by first | omega | (simp; omega)) ?_; go_frame)
      | (refine wpu_addS (r := a2) rfl (by kernel_rfl) rfl rfl e2.out (by first | omega | (simp; omega)) ?_; go_frame)
      | (refine wpu_addS (r := a3) rfl (by kernel_rfl) rfl rfl e3.out (by first | omega | (simp; omega)) ?_; go_frame)
      | (refine wpu_addS (r := a4) rfl (by kernel_rfl) rfl rfl e4.out (by first | omega | (simp; omega)) ?_; go_frame)
      | (refine wpu_addS (r := a5) rfl (by kernel_rfl) rfl rfl e5.out (by first | omega | (simp; omega)) ?_; go_frame)
      | (refine wpu_addS (r := b4) rfl (by kernel_rfl) rfl rfl e6.out (by first | omega | (simp; omega)) ?_; go_frame)
      | (refine wpu_addS (r := c3) rfl (by kernel_rfl) rfl rfl e7.out (by first | omega | (simp; omega)) ?_; go_frame)
      | (refine wpu_addS (r := c4) rfl (by kernel_rfl) rfl rfl e8.out (by first | omega | (simp; omega)) ?_; go_frame)
      | (refine wpu_addS (r := c5) rfl (by kernel_rfl) rfl rfl e9.out (by first | omega | (simp; omega)) ?_; go_frame)
      | (refine wpu_addS (r := d1) rfl (by kernel_rfl) rfl rfl e10.out (by first | omega | (simp; omega)) ?_; go_frame)
      | (refine wpu_addS (r := d2) rfl (by kernel_rfl) rfl rfl e11.out (by first | omega | (simp; omega)) ?_; go_frame))
    | fail)
  refine Calls.mono (lettersC h2 G) ?_
  clear G; rintro e w ⟨rfl, G⟩
  rw [HLM.out]
  go_wp2_with (first
    | ((with_reducible refine at_addS ?_); first
      | (refine wpu_addS (r := s) rfl (by kernel_rfl) rfl rfl ES.out (by first | omega | (simp; omega)) ?_; go_frame)
      | (refine wpu_addS (r := m) rfl (by kernel_rfl) rfl rfl EM.out (by first | omega | (simp; omega)) ?_; go_frame)
      | (refine wpu_addS (r := a1) rfl (by kernel_rfl) rfl rfl e1.out (by first | omega | (simp; omega)) ?_; go_frame)
      | (refine wpu_addS (r := a2) rfl (by kernel_rfl) rfl rfl e2.out (by first | omega | (simp; omega)) ?_; go_frame)
      | (refine wpu_addS (r := a3) rfl (by kernel_rfl) rfl rfl e3.out (by first | omega | (simp; omega)) ?_; go_frame)
      | (refine wpu_addS (r := a4) rfl (by kernel_rfl) rfl rfl e4.out (by first | omega | (simp; omega)) ?_; go_frame)
      | (refine wpu_addS (r := a5) rfl (by kernel_rfl) rfl rfl e5.out (by first | omega | (simp; omega)) ?_; go_frame)
      | (refine wpu_addS (r := b4) rfl (by kernel_rfl) rfl rfl e6.out (by first | omega | (simp; omega)) ?_; go_frame)
      | (refine wpu_addS (r := c3) rfl (by kernel_rfl) rfl rfl e7.out (by first | omega | (simp; omega)) ?_; go_frame)
      | (refine wpu_addS (r := c4) rfl (by kernel_rfl) rfl rfl e8.out (by first | omega | (simp; omega)) ?_; go_frame)
      | (refine wpu_addS (r := c5) rfl (by kernel_rfl) rfl rfl e9.out (by first | omega | (simp; omega)) ?_; go_frame)
      | (refine wpu_addS (r := d1) rfl (by kernel_rfl) rfl rfl e10.out (by first | omega | (simp; omega)) ?_; go_frame)
      | (refine wpu_addS (r := d2) rfl (by kernel_rfl) rfl rfl e11.out (by first | omega | (simp; omega)) ?_; go_frame))
    | fail)
  refine Calls.mono (cutC h3 G) ?_
  clear G; rintro e w ⟨rfl, G⟩
  rw [HMO.out]
  go_wp2_with (first
    | ((with_reducible refine at_addS ?_); first
      | (refine wpu_addS (r := s) rfl (by kernel_rfl) rfl rfl ES.out (by first | omega | (simp; omega)) ?_; go_frame)
      | (refine wpu_addS (r := m) rfl (by kernel_rfl) rfl rfl EM.out (by first | omega | (simp; omega)) ?_; go_frame)
      | (refine wpu_addS (r := a1) rfl (by kernel_rfl) rfl rfl e1.out (by first | omega | (simp; omega)) ?_; go_frame)
      | (refine wpu_addS (r := a2) rfl (by kernel_rfl) rfl rfl e2.out (by first | omega | (simp; omega)) ?_; go_frame)
      | (refine wpu_addS (r := a3) rfl (by kernel_rfl) rfl rfl e3.out (by first | omega | (simp; omega)) ?_; go_frame)
      | (refine wpu_addS (r := a4) rfl (by kernel_rfl) rfl rfl e4.out (by first | omega | (simp; omega)) ?_; go_frame)
      | (refine wpu_addS (r := a5) rfl (by kernel_rfl) rfl rfl e5.out (by first | omega | (simp; omega)) ?_; go_frame)
      | (refine wpu_addS (r := b4) rfl (by kernel_rfl) rfl rfl e6.out (by first | omega | (simp; omega)) ?_; go_frame)
      | (refine wpu_addS (r := c3) rfl (by kernel_rfl) rfl rfl e7.out (by first | omega | (simp; omega)) ?_; go_frame)
      | (refine wpu_addS (r := c4) rfl (by kernel_rfl) rfl rfl e8.out (by first | omega | (simp; omega)) ?_; go_frame)
      | (refine wpu_addS (r := c5) rfl (by kernel_rfl) rfl rfl e9.out (by first | omega | (simp; omega)) ?_; go_frame)
      | (refine wpu_addS (r := d1) rfl (by kernel_rfl) rfl rfl e10.out (by first | omega | (simp; omega)) ?_; go_frame)
      | (refine wpu_addS (r := d2) rfl (by kernel_rfl) rfl rfl e11.out (by first | omega | (simp; omega)) ?_; go_frame))
    | (go_at_call 14; first
      | ((with_reducible refine Calls.mono (C1.out _ G) ?_); clear G; rintro e w ⟨rfl, G⟩)
      | ((with_reducible refine Calls.mono (C2.out _ G) ?_); clear G; rintro e w ⟨rfl, G⟩)
      | ((with_reducible refine Calls.mono (C3.out _ G) ?_); clear G; rintro e w ⟨rfl, G⟩))
    | ((with_reducible refine at_eqS ?_); refine wpu_eqS (b := true) rfl (by kernel_rfl) rfl rfl (by simp) ?_; go_frame)
    | fail)
  go_ret
  exact ⟨rfl, G.below⟩

theorem contract {H : Type} {enc : TypeId × Value → H} {W : World} {vs : List Value} {ds : List (DataW H)}
    (hA : Args enc Tryd.prog W [9, 9, 9] vs ds) (hsz : (DataW.weightsEach Tryd.prog [9, 9, 9] ds).all (· ≤ reachBytes) = true) (hL : laidMetH Tryd.prog Rows.matchCallsRow.laid W) :
    Calls Tryd.prog 8 vs.toArray W fun e W' => e = .returned (.bool true) ∧ Below W.heap.size W W' := by
  obtain ⟨v0, _, d0, _, rfl, rfl, h0, hA⟩ := args_cons hA
  obtain ⟨v1, _, d1, _, rfl, rfl, h1, hA⟩ := args_cons hA
  obtain ⟨v2, _, d2, _, rfl, rfl, h2, hA⟩ := args_cons hA
  obtain ⟨rfl, rfl⟩ := args_nil hA
  obtain ⟨l1, rfl, k1, -⟩ := arg_string Tryd.underlying9 h0
  obtain ⟨l2, rfl, k2, -⟩ := arg_string Tryd.underlying9 h1
  obtain ⟨l3, rfl, k3, -⟩ := arg_string Tryd.underlying9 h2
  unfold maxLen at k1 k2 k3
  exact callsW (by omega) (by omega) (by omega)


theorem spec {H : Type} : ∀ ds : List (DataW H), ds.length = 3 → Rows.matchCallsSpec.fn H ds = { results := [.lit (.bool true)], args := ds }
  | [_, _, _], _ => rfl
  | [], h => by cases h
  | [_], h => by cases h
  | [_, _], h => by cases h
  | _ :: _ :: _ :: _ :: _, h => by simp at h
theorem door_met (os : Os) (args : Array Value) : laidMetH Tryd.prog Rows.matchCallsRow.laid ((World.setRow (World.doorLaid Tryd.prog 19 os) (Tryd.prog.globalNamed "unicode/utf8.first").get! (Go.Pinned.utf8FirstZ.map fun z : Nat => Value.int .u8 (z : Int)).toArray).forCall (fun _ _ => 0) ⟨#[], args, []⟩).memory :=
  laidMetH_of_parts3 (fuel := 8) (laidMet_of_run' 8 (by kernel_rfl) (by kernel_rfl)) (by kernel_rfl) (by kernel_rfl)
set_option maxRecDepth 100000 in
theorem lifted (os : Os) (started : os.Started) (H : Type) (enc : TypeId × Value → H) :
    ReturnsInHanded {} Tryd.checked os 8 .any (fun w args => (Rows.matchCallsSpec.pre enc Tryd.prog Tryd.f8 Rows.matchCallsRow.domain false w args ∧ laidMetH Tryd.prog Rows.matchCallsRow.laid w) ∧ sizedMet enc Tryd.prog Tryd.f8 (OpenSpec.ofChange Rows.matchCallsSpec) false w args)
      (Rows.matchCallsSpec.post enc Tryd.prog Tryd.f8 false true false false) :=
  lifted_of_law_laid (C := Tryd.checked) (fn := Tryd.f8) (s := Rows.matchCallsSpec) (tb := 4) (by kernel_rfl) started (by kernel_rfl) Tryd.func8
    (ChangeSpec.witness_shaped (enc := enc) (C := Tryd.checked) (os := os) (X := fun w _ => laidMetH Tryd.prog Rows.matchCallsRow.laid w) false (World.setRow (World.doorLaid Tryd.prog 19 os) (Tryd.prog.globalNamed "unicode/utf8.first").get! (Go.Pinned.utf8FirstZ.map fun z : Nat => Value.int .u8 (z : Int)).toArray) #[.string ⟨#[]⟩, .string ⟨#[]⟩, .string ⟨#[]⟩] 8 rfl (World.shaped_of_RefB (by kernel_rfl) (by kernel_rfl)) (by kernel_rfl) (by kernel_rfl) (by kernel_rfl) (door_met os _))
    rfl spec (by kernel_rfl) Tryd.underlying4 (by kernel_rfl) (by kernel_rfl) (fun _ _ _ h1 h2 h3 => contract h1 h2 h3)

theorem holds : Rows.MatchCallsSaid :=
  OpenClaim.holds_of_wide 8 Tryd.f8 rfl rfl rfl rfl rfl rfl rfl ⟨rfl, rfl, rfl, rfl, rfl⟩ rfl rfl rfl rfl rfl (by kernel_rfl) Tryd.func8 (by kernel_rfl)
    (of_decide_eq_true (by kernel_rfl)) (by unfold Func.isWrapper; first | (rw [if_pos (by decide +kernel)]; kernel_rfl) | (rw [if_neg (by decide +kernel)]; exact ⟨rfl, rfl⟩))
    (fun os started H enc _ => lifted os started H enc)

theorem proved : Rows.MatchCallsCardSaid :=
  Claim7.holds_tied_plain_at .later [] [.data, .pinned] true (true, "f900cad1524d6485163f1f119ee05e345095a2ecf467c548b528305676b6aa51") false
    holds (fun _ h => by cases h) (by kernel_rfl) (fun _ h => by cases h) matchCalls_row_tie rfl ⟨rfl, rfl⟩ (by kernel_rfl) rfl
    (fun f fn hf hfn => by
      obtain rfl : f = 8 := Option.some.inj ((show Tryd.prog.funcNamed "flume/flumelaw15.MatchCalls" = some 8 by kernel_rfl).symm.trans hf) |>.symm
      obtain rfl : fn = Tryd.f8 := (Option.some.inj (Tryd.func8.symm.trans hfn)).symm
      exact ⟨by kernel_rfl, fun j t ht => by
        rw [Tryd.params8] at ht
        have hm : t ∈ [9, 9, 9] := by simpa using Array.mem_of_getElem? ht
        have hall : ([9, 9, 9].all fun u => !Tryd.prog.wantsStandIn u) = true := by kernel_rfl
        exact (show Tryd.prog.wantsStandIn t = false by simpa using List.all_eq_true.1 hall t hm)⟩)
    (by kernel_rfl)
end Go.Proofs.YtndlfieignhjjaaDoor.matchCalls
