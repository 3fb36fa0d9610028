
/-
  MatchBelow: what is below a prefix is, and what an exact path asks, a prefix does, too.
-/
import Derived.Test.YtndlfieignhjjaaDoorMt8
import Derived.Test.YtndlfieignhjjaaDoorStrAdd
import Derived.Test.YtndlfieignhjjaaDoorMtPl
import Derived.Test.YtndlfieignhjjaaDoorLawD
import Derived.Test.YtndlfieignhjjaaDoorTie
import Derived.Test.YtndlfieignhjjaaDoorCards
import Derived.SevenTiedAt
namespace Go.Proofs.YtndlfieignhjjaaDoor.matchBelow
open Go.RowKit Go.Sl Go.ChangeShapes

set_option maxHeartbeats 8000000 in
set_option maxRecDepth 100000 in
theorem belowW {w0 : World} {l1 l2 l3 : Txt} (h1 : l1.length ≤ 9223372036854775807) (h2 : l2.length ≤ 9223372036854775807) (h3 : l3.length ≤ 9223372036854775807) : Calls Tryd.prog 5 #[str l1, str l2, str l3] w0 fun e w' => e = .returned (.bool true) ∧ Below w0.heap.size w0 w' := by
  have G := own_begin w0
  have k1 := cutT_len l1
  have k2 := cutT_len l2
  have k3 := cutT_len l3
  obtain ⟨want, hw⟩ : ∃ x, cutT l1 = x := ⟨_, rfl⟩
  obtain ⟨more, hm⟩ : ∃ x, cutT l2 = x := ⟨_, rfl⟩
  obtain ⟨p, hp⟩ : ∃ x, cutT l3 = x := ⟨_, rfl⟩
  rw [hw] at k1
  rw [hm] at k2
  rw [hp] at k3
  have HW := Lib.hid hw
  have HM := Lib.hid hm
  have HP := Lib.hid hp
  clear hw hm hp
  have k4 : want.length ≤ 1000000 := by omega
  have k5 : p.length ≤ 1000000 := by omega
  go_enter Tryd.func5, Tryd.ntmps5
  go_wp2_with fail
  refine Calls.mono (shownMt G) ?_
  clear G; rintro e w ⟨rfl, G⟩
  go_wp2_with fail
  refine Calls.mono (cutC h1 G) ?_
  clear G; rintro e w ⟨rfl, G⟩
  rw [HW.out]
  go_wp2_with fail
  refine Calls.mono (cutC h2 G) ?_
  clear G; rintro e w ⟨rfl, G⟩
  rw [HM.out]
  go_wp2_with fail
  refine Calls.mono (cutC h3 G) ?_
  clear G; rintro e w ⟨rfl, G⟩
  rw [HP.out]
  clear HW HM HP
  go_wp2_with fail
  go_loopw [8] (fun i wr => ∃ j : Nat, i = .int .i64 j ∧ j ≤ want.length ∧ Hid (∀ k : Nat, k < j → want[k]? ≠ some 63) ∧ Own w0 emp wr) (fun i _ => want.length - (intOf i).toNat)
  case atStart => exact ⟨0, rfl, Nat.zero_le _, Lib.hid (fun k hk => by cases hk), G⟩
  case round =>
    clear G
    obtain ⟨j, rfl, hj, HA, G⟩ := hrel
    by_cases hjn : j < want.length
    · obtain ⟨c, hc⟩ : ∃ c, want[j]? = some c := ⟨want[j], List.getElem?_eq_getElem hjn⟩
      have HC := Lib.hid hc
      by_cases h63 : c = 63
      · subst h63
        clear hc
        as_aux_lemma =>
        go_wp2_with (first
          | ((with_reducible refine at_strAt ?_); refine wpu_strAt (i := j) (c := 63) rfl rfl rfl rfl rfl HC.out ?_; go_frame)
          | fail)
        go_ret
        exact ⟨rfl, G.below⟩
      · obtain ⟨z1, z2⟩ := beq_u8 h63
        have z3 : ((c.toNat : Int) == 63) = false := z1
        have z4 : (c.toNat == 63) = false := z2
        have HA2 : Hid (∀ k : Nat, k < j + 1 → want[k]? ≠ some 63) := Lib.hid (fun k hk => by
          by_cases e : k = j
          · subst e
            rw [hc]
            exact fun e => h63 (Option.some.inj e)
          · exact HA.out k (by omega))
        clear hc h63 z1 z2
        as_aux_lemma =>
        go_wp2_with (first
          | ((with_reducible refine at_strAt ?_); refine wpu_strAt (i := j) rfl rfl rfl rfl rfl HC.out ?_; go_frame)
          | fail)
        go_roundw
        case rel => exact ⟨j + 1, by go_num, by omega, HA2, G⟩
        case measure => simp [intOf] <;> omega
    · have hno : ∀ c ∈ want, c ≠ 63 := no63 fun k hk => HA.out k (by have := (List.getElem?_eq_some_iff.1 hk).1; omega) hk
      obtain ⟨r1, hr1⟩ : ∃ r, pathR 1 want p = r := ⟨_, rfl⟩
      obtain ⟨r2, hr2⟩ : ∃ r, pathR 2 want p = r := ⟨_, rfl⟩
      have H12 : Hid (r1 = true → r2 = true) := Lib.hid fun h => by rw [← hr2]; exact below5 (by rw [hr1, h])
      obtain ⟨t1, ht1⟩ : ∃ t, want ++ 63 :: more = t := ⟨_, rfl⟩
      obtain ⟨t2, ht2⟩ : ∃ t, want ++ 47 :: more = t := ⟨_, rfl⟩
      obtain ⟨t3, ht3⟩ : ∃ t, p ++ 63 :: more = t := ⟨_, rfl⟩
      have e1 : Hid ((want ++ [63]) ++ more = t1) := Lib.hid (by rw [← ht1]; simp)
      have e2 : Hid ((want ++ [47]) ++ more = t2) := Lib.hid (by rw [← ht2]; simp)
      have e3 : Hid ((p ++ [63]) ++ more = t3) := Lib.hid (by rw [← ht3]; simp)
      have n1 : t1.length ≤ 1000000 := by rw [← ht1]; simp; omega
      have n2 : t2.length ≤ 1000000 := by rw [← ht2]; simp; omega
      have n3 : t3.length ≤ 1000000 := by rw [← ht3]; simp; omega
      have p1 : pathR 1 want t1 = true := by rw [← ht1]; exact below1 hno
      have p2 : pathR 2 want t2 = true := by rw [← ht2]; exact below2 hno
      have p3 : pathR 2 want t3 = r2 := by rw [← ht3, below4]; exact hr2
      have C1 : Hid (∀ w, Own w0 emp w → Calls Tryd.prog 16 #[.int .i64 1, str want, str p] w fun e w' => e = .returned (.bool r1) ∧ Own w0 emp w') := Lib.hid fun w h => by have := pathC (how := 1) k4 k5 h; rwa [hr1] at this
      have C2 : Hid (∀ w, Own w0 emp w → Calls Tryd.prog 16 #[.int .i64 1, str want, str t1] w fun e w' => e = .returned (.bool true) ∧ Own w0 emp w') := Lib.hid fun w h => by have := pathC (how := 1) k4 n1 h; rwa [p1] at this
      have C3 : Hid (∀ w, Own w0 emp w → Calls Tryd.prog 16 #[.int .i64 2, str want, str t2] w fun e w' => e = .returned (.bool true) ∧ Own w0 emp w') := Lib.hid fun w h => by have := pathC (how := 2) k4 n2 h; rwa [p2] at this
      have C4 : Hid (∀ w, Own w0 emp w → Calls Tryd.prog 16 #[.int .i64 2, str [], str p] w fun e w' => e = .returned (.bool true) ∧ Own w0 emp w') := Lib.hid fun w h => by have := pathC (how := 2) (want := []) (by decide) k5 h; rwa [below3] at this
      have C5 : Hid (∀ w, Own w0 emp w → Calls Tryd.prog 16 #[.int .i64 0, str want, str p] w fun e w' => e = .returned (.bool true) ∧ Own w0 emp w') := Lib.hid fun w h => pathC (how := 0) k4 k5 h
      have C6 : Hid (∀ w, Own w0 emp w → Calls Tryd.prog 16 #[.int .i64 2, str want, str t3] w fun e w' => e = .returned (.bool r2) ∧ Own w0 emp w') := Lib.hid fun w h => by have := pathC (how := 2) k4 n3 h; rwa [p3] at this
      have C7 : Hid (∀ w, Own w0 emp w → Calls Tryd.prog 16 #[.int .i64 2, str want, str p] w fun e w' => e = .returned (.bool r2) ∧ Own w0 emp w') := Lib.hid fun w h => by have := pathC (how := 2) k4 k5 h; rwa [hr2] at this
      clear hno hr1 hr2 ht1 ht2 ht3 p1 p2 p3 HA
      have q1 : (want ++ [63]).length ≤ 2001 := by simp; omega
      have q2 : (want ++ [47]).length ≤ 2001 := by simp; omega
      have q3 : (p ++ [63]).length ≤ 2001 := by simp; omega
      as_aux_lemma =>
      go_wp2_with (first
        | ((with_reducible refine at_addS ?_); first
          | (refine wpu_addS (r := t1) rfl (by kernel_rfl) rfl rfl e1.out (by omega) ?_; go_frame)
          | (refine wpu_addS (r := t2) rfl (by kernel_rfl) rfl rfl e2.out (by omega) ?_; go_frame)
          | (refine wpu_addS (r := t3) rfl (by kernel_rfl) rfl rfl e3.out (by omega) ?_; go_frame)
          | (refine wpu_addS rfl (by kernel_rfl) rfl rfl rfl (by simp; omega) ?_; go_frame))
        | (go_at_call 16; first
          | ((with_reducible refine Calls.mono (C1.out _ G) ?_); clear G; rintro e w ⟨rfl, G⟩)
          | ((with_reducible refine Calls.mono (C2.out _ G) ?_); clear G; rintro e w ⟨rfl, G⟩)
          | ((with_reducible refine Calls.mono (C3.out _ G) ?_); clear G; rintro e w ⟨rfl, G⟩)
          | ((with_reducible refine Calls.mono (C4.out _ G) ?_); clear G; rintro e w ⟨rfl, G⟩)
          | ((with_reducible refine Calls.mono (C5.out _ G) ?_); clear G; rintro e w ⟨rfl, G⟩)
          | ((with_reducible refine Calls.mono (C6.out _ G) ?_); clear G; rintro e w ⟨rfl, G⟩)
          | ((with_reducible refine Calls.mono (C7.out _ G) ?_); clear G; rintro e w ⟨rfl, G⟩))
        | fail)
      all_goals
        go_ret
        refine ⟨?_, G.below⟩
        have h := H12.out
        cases r1 <;> cases r2 <;> first | rfl | simp_all

theorem contract {H : Type} {enc : TypeId × Value → H} {W : World} {vs : List Value} {ds : List (DataW H)}
    (hA : Args enc Tryd.prog W [9, 9, 9] vs ds) (hsz : (DataW.weightsEach Tryd.prog [9, 9, 9] ds).all (· ≤ reachBytes) = true) (hL : laidMetH Tryd.prog Rows.matchBelowRow.laid W) :
    Calls Tryd.prog 5 vs.toArray W fun e W' => e = .returned (.bool true) ∧ Below W.heap.size W W' := by
  obtain ⟨v0, _, d0, _, rfl, rfl, h0, hA⟩ := args_cons hA
  obtain ⟨v1, _, d1, _, rfl, rfl, h1, hA⟩ := args_cons hA
  obtain ⟨v2, _, d2, _, rfl, rfl, h2, hA⟩ := args_cons hA
  obtain ⟨rfl, rfl⟩ := args_nil hA
  obtain ⟨l1, rfl, k1, -⟩ := arg_string Tryd.underlying9 h0
  obtain ⟨l2, rfl, k2, -⟩ := arg_string Tryd.underlying9 h1
  obtain ⟨l3, rfl, k3, -⟩ := arg_string Tryd.underlying9 h2
  unfold maxLen at k1 k2 k3
  exact belowW (by omega) (by omega) (by omega)


theorem spec {H : Type} : ∀ ds : List (DataW H), ds.length = 3 → Rows.matchBelowSpec.fn H ds = { results := [.lit (.bool true)], args := ds }
  | [_, _, _], _ => rfl
  | [], h => by cases h
  | [_], h => by cases h
  | [_, _], h => by cases h
  | _ :: _ :: _ :: _ :: _, h => by simp at h
theorem door_met (os : Os) (args : Array Value) : laidMetH Tryd.prog Rows.matchBelowRow.laid ((World.setRow (World.doorLaid Tryd.prog 19 os) (Tryd.prog.globalNamed "unicode/utf8.first").get! (Go.Pinned.utf8FirstZ.map fun z : Nat => Value.int .u8 (z : Int)).toArray).forCall (fun _ _ => 0) ⟨#[], args, []⟩).memory :=
  laidMetH_of_parts3 (fuel := 8) (laidMet_of_run' 8 (by kernel_rfl) (by kernel_rfl)) (by kernel_rfl) (by kernel_rfl)
set_option maxRecDepth 100000 in
theorem lifted (os : Os) (started : os.Started) (H : Type) (enc : TypeId × Value → H) :
    ReturnsInHanded {} Tryd.checked os 5 .any (fun w args => (Rows.matchBelowSpec.pre enc Tryd.prog Tryd.f5 Rows.matchBelowRow.domain false w args ∧ laidMetH Tryd.prog Rows.matchBelowRow.laid w) ∧ sizedMet enc Tryd.prog Tryd.f5 (OpenSpec.ofChange Rows.matchBelowSpec) false w args)
      (Rows.matchBelowSpec.post enc Tryd.prog Tryd.f5 false true false false) :=
  lifted_of_law_laid (C := Tryd.checked) (fn := Tryd.f5) (s := Rows.matchBelowSpec) (tb := 4) (by kernel_rfl) started (by kernel_rfl) Tryd.func5
    (ChangeSpec.witness_shaped (enc := enc) (C := Tryd.checked) (os := os) (X := fun w _ => laidMetH Tryd.prog Rows.matchBelowRow.laid w) false (World.setRow (World.doorLaid Tryd.prog 19 os) (Tryd.prog.globalNamed "unicode/utf8.first").get! (Go.Pinned.utf8FirstZ.map fun z : Nat => Value.int .u8 (z : Int)).toArray) #[.string ⟨#[]⟩, .string ⟨#[]⟩, .string ⟨#[]⟩] 8 rfl (World.shaped_of_RefB (by kernel_rfl) (by kernel_rfl)) (by kernel_rfl) (by kernel_rfl) (by kernel_rfl) (door_met os _))
    rfl spec (by kernel_rfl) Tryd.underlying4 (by kernel_rfl) (by kernel_rfl) (fun _ _ _ h1 h2 h3 => contract h1 h2 h3)

theorem holds : Rows.MatchBelowSaid :=
  OpenClaim.holds_of_wide 5 Tryd.f5 rfl rfl rfl rfl rfl rfl rfl ⟨rfl, rfl, rfl, rfl, rfl⟩ rfl rfl rfl rfl rfl (by kernel_rfl) Tryd.func5 (by kernel_rfl)
    (of_decide_eq_true (by kernel_rfl)) (by unfold Func.isWrapper; first | (rw [if_pos (by decide +kernel)]; kernel_rfl) | (rw [if_neg (by decide +kernel)]; exact ⟨rfl, rfl⟩))
    (fun os started H enc _ => lifted os started H enc)

theorem proved : Rows.MatchBelowCardSaid :=
  Claim7.holds_tied_plain_at .later [] [.data, .pinned] true (true, "f900cad1524d6485163f1f119ee05e345095a2ecf467c548b528305676b6aa51") false
    holds (fun _ h => by cases h) (by kernel_rfl) (fun _ h => by cases h) matchBelow_row_tie rfl ⟨rfl, rfl⟩ (by kernel_rfl) rfl
    (fun f fn hf hfn => by
      obtain rfl : f = 5 := Option.some.inj ((show Tryd.prog.funcNamed "flume/flumelaw15.MatchBelow" = some 5 by kernel_rfl).symm.trans hf) |>.symm
      obtain rfl : fn = Tryd.f5 := (Option.some.inj (Tryd.func5.symm.trans hfn)).symm
      exact ⟨by kernel_rfl, fun j t ht => by
        rw [Tryd.params5] at ht
        have hm : t ∈ [9, 9, 9] := by simpa using Array.mem_of_getElem? ht
        have hall : ([9, 9, 9].all fun u => !Tryd.prog.wantsStandIn u) = true := by kernel_rfl
        exact (show Tryd.prog.wantsStandIn t = false by simpa using List.all_eq_true.1 hall t hm)⟩)
    (by kernel_rfl)
end Go.Proofs.YtndlfieignhjjaaDoor.matchBelow
