
/-
  MatchWilds: a star stands for one byte or more ahead of a point.
-/
import Derived.Test.YtndlfieignhjjaaDoorMtLet
import Derived.Test.YtndlfieignhjjaaDoorMtPl2
import Derived.Test.YtndlfieignhjjaaDoorLawD
import Derived.Test.YtndlfieignhjjaaDoorTie
import Derived.Test.YtndlfieignhjjaaDoorCards
import Derived.SevenTiedAt
namespace Go.Proofs.YtndlfieignhjjaaDoor.matchWilds
open Go.RowKit Go.Sl Go.ChangeShapes



set_option maxHeartbeats 8000000 in
set_option maxRecDepth 100000 in
theorem wildsW {w0 : World} {l1 l2 l3 : Txt} (h1 : l1.length ≤ 9223372036854775807) (h2 : l2.length ≤ 9223372036854775807) (h3 : l3.length ≤ 9223372036854775807) : Calls Tryd.prog 7 #[str l1, str l2, str l3] w0 fun e w' => e = .returned (.bool true) ∧ Below w0.heap.size w0 w' := by
  have G := own_begin w0
  have k1 := letters_len l1
  have k2 := letters_len l2
  have k3 := letters_len l3
  have oa := Ok.plain (letters_plain l1)
  have ob := Ok.plain (letters_plain l2)
  have oc := Ok.plain (letters_plain l3)
  obtain ⟨a, ha⟩ : ∃ x, lettersL l1 = x := ⟨_, rfl⟩
  obtain ⟨b, hb⟩ : ∃ x, lettersL l2 = x := ⟨_, rfl⟩
  obtain ⟨c, hc⟩ : ∃ x, lettersL l3 = x := ⟨_, rfl⟩
  rw [ha] at k1 oa
  rw [hb] at k2 ob
  rw [hc] at k3 oc
  have HA := Lib.hid ha
  have HB := Lib.hid hb
  have HC := Lib.hid hc
  clear ha hb hc
  obtain ⟨x1, hx1⟩ : ∃ x, [42, 46] ++ a = x := ⟨_, rfl⟩
  obtain ⟨y1, hy1⟩ : ∃ x, b ++ [46] = x := ⟨_, rfl⟩
  obtain ⟨y2, hy2⟩ : ∃ x, y1 ++ a = x := ⟨_, rfl⟩
  obtain ⟨z1, hz1⟩ : ∃ x, [42, 46] ++ c = x := ⟨_, rfl⟩
  obtain ⟨z2, hz2⟩ : ∃ x, z1 ++ [46] = x := ⟨_, rfl⟩
  obtain ⟨z3, hz3⟩ : ∃ x, z2 ++ a = x := ⟨_, rfl⟩
  obtain ⟨y3, hy3⟩ : ∃ x, y1 ++ c = x := ⟨_, rfl⟩
  obtain ⟨y4, hy4⟩ : ∃ x, y3 ++ [46] = x := ⟨_, rfl⟩
  obtain ⟨y5, hy5⟩ : ∃ x, y4 ++ a = x := ⟨_, rfl⟩
  have L1 : x1.length ≤ 1000000 := by rw [← hx1]; simp; omega
  have L2 : y1.length ≤ 2001 := by rw [← hy1]; simp; omega
  have L3 : y2.length ≤ 1000000 := by rw [← hy2]; simp; omega
  have L4 : z1.length ≤ 2002 := by rw [← hz1]; simp; omega
  have L5 : z2.length ≤ 2003 := by rw [← hz2]; simp; omega
  have L6 : z3.length ≤ 1000000 := by rw [← hz3]; simp; omega
  have L7 : y3.length ≤ 4001 := by rw [← hy3]; simp; omega
  have L8 : y4.length ≤ 4002 := by rw [← hy4]; simp; omega
  have L9 : y5.length ≤ 1000000 := by rw [← hy5]; simp; omega
  have ola : Ok (c ++ 46 :: a) := oc.app (Ok.app Ok.dot oa)
  have obc : Ok (b ++ 46 :: c) := ob.app (Ok.app Ok.dot oc)
  have oba : Ok (b ++ 46 :: a) := ob.app (Ok.app Ok.dot oa)
  have V1 : hostR x1 y2 = if b ≠ [] then 3 + (a.length : Int) else 0 := by
    have e1 : x1 = 42 :: 46 :: a := by rw [← hx1]; rfl
    have e2 : y2 = b ++ 46 :: a := by rw [← hy2, ← hy1]; simp
    rw [e1, e2]
    exact host_wild oa ob
  have V2 : hostR z3 y5 = if b ≠ [] then 3 + ((c ++ 46 :: a).length : Int) else 0 := by
    have e1 : z3 = 42 :: 46 :: (c ++ 46 :: a) := by rw [← hz3, ← hz2, ← hz1]; simp
    have e2 : y5 = b ++ 46 :: (c ++ 46 :: a) := by rw [← hy5, ← hy4, ← hy3, ← hy1]; simp
    rw [e1, e2]
    exact host_wild ola ob
  have V3 : hostR x1 y5 = 3 + (a.length : Int) := by
    have e1 : x1 = 42 :: 46 :: a := by rw [← hx1]; rfl
    have e2 : y5 = (b ++ 46 :: c) ++ 46 :: a := by rw [← hy5, ← hy4, ← hy3, ← hy1]; simp
    rw [e1, e2, host_wild oa obc, if_pos (by simp)]
  have V4 : hostR y2 y2 = 1000 + (y2.length : Int) := by
    have e2 : y2 = b ++ 46 :: a := by rw [← hy2, ← hy1]; simp
    rw [e2, host_same oba oba, if_pos rfl]
  have hl2 : y2.length = b.length + 1 + a.length := by rw [← hy2, ← hy1]; simp; omega
  have hl3 : (c ++ 46 :: a).length = c.length + 1 + a.length := by simp; omega
  have e1 := Lib.hid hx1
  have e2 := Lib.hid hy1
  have e3 := Lib.hid hy2
  have e4 := Lib.hid hz1
  have e5 := Lib.hid hz2
  have e6 := Lib.hid hz3
  have e7 := Lib.hid hy3
  have e8 := Lib.hid hy4
  have e9 := Lib.hid hy5
  clear hx1 hy1 hy2 hz1 hz2 hz3 hy3 hy4 hy5 oa ob oc ola obc oba
  obtain ⟨ex, hex⟩ : ∃ x : Int, 1000 + (y2.length : Int) = x := ⟨_, rfl⟩
  rw [hex] at V4
  have C3 : Hid (∀ w, Own w0 emp w → Calls Tryd.prog 18 #[str x1, str y5] w fun e w' => e = .returned (.int .i64 (3 + (a.length : Int))) ∧ Own w0 emp w') := Lib.hid fun w h => by have := hostC L1 L9 h; rwa [V3] at this
  have C4 : Hid (∀ w, Own w0 emp w → Calls Tryd.prog 18 #[str y2, str y2] w fun e w' => e = .returned (.int .i64 ex) ∧ Own w0 emp w') := Lib.hid fun w h => by have := hostC L3 L3 h; rwa [V4] at this
  go_enter Tryd.func7, Tryd.ntmps7
  go_wp2_with fail
  refine Calls.mono (shownMt G) ?_
  clear G; rintro e w ⟨rfl, G⟩
  go_wp2_with fail
  refine Calls.mono (lettersC h1 G) ?_
  clear G; rintro e w ⟨rfl, G⟩
  rw [HA.out]
  go_wp2_with fail
  refine Calls.mono (lettersC h2 G) ?_
  clear G; rintro e w ⟨rfl, G⟩
  rw [HB.out]
  go_wp2_with fail
  refine Calls.mono (lettersC h3 G) ?_
  clear G; rintro e w ⟨rfl, G⟩
  rw [HC.out]
  clear HA HB HC V3 V4
  have w2 : decide ((1000 : Int) < ex) = true := by simp; omega
  by_cases hbn : b = []
  · have hb0 : decide (b = []) = true := by simp [hbn]
    rw [if_neg (by simpa using hbn)] at V1 V2
    have C1 : Hid (∀ w, Own w0 emp w → Calls Tryd.prog 18 #[str x1, str y2] w fun e w' => e = .returned (.int .i64 0) ∧ Own w0 emp w') := Lib.hid fun w h => by have := hostC L1 L3 h; rwa [V1] at this
    have C2 : Hid (∀ w, Own w0 emp w → Calls Tryd.prog 18 #[str z3, str y5] w fun e w' => e = .returned (.int .i64 0) ∧ Own w0 emp w') := Lib.hid fun w h => by have := hostC L6 L9 h; rwa [V2] at this
    have w1 : decide ((0 : Int) < ex) = true := by simp; omega
    clear V1 V2 hbn hex hl2 hl3
    as_aux_lemma =>
    go_wp2_with (first
      | ((with_reducible refine at_addS ?_); first
        | (refine wpu_addS (r := x1) rfl (by kernel_rfl) rfl rfl e1.out (by first | omega | (simp; omega)) ?_; go_frame)
        | (refine wpu_addS (r := y1) rfl (by kernel_rfl) rfl rfl e2.out (by first | omega | (simp; omega)) ?_; go_frame)
        | (refine wpu_addS (r := y2) rfl (by kernel_rfl) rfl rfl e3.out (by first | omega | (simp; omega)) ?_; go_frame)
        | (refine wpu_addS (r := z1) rfl (by kernel_rfl) rfl rfl e4.out (by first | omega | (simp; omega)) ?_; go_frame)
        | (refine wpu_addS (r := z2) rfl (by kernel_rfl) rfl rfl e5.out (by first | omega | (simp; omega)) ?_; go_frame)
        | (refine wpu_addS (r := z3) rfl (by kernel_rfl) rfl rfl e6.out (by first | omega | (simp; omega)) ?_; go_frame)
        | (refine wpu_addS (r := y3) rfl (by kernel_rfl) rfl rfl e7.out (by first | omega | (simp; omega)) ?_; go_frame)
        | (refine wpu_addS (r := y4) rfl (by kernel_rfl) rfl rfl e8.out (by first | omega | (simp; omega)) ?_; go_frame)
        | (refine wpu_addS (r := y5) rfl (by kernel_rfl) rfl rfl e9.out (by first | omega | (simp; omega)) ?_; go_frame))
      | (go_at_call 18; first
        | ((with_reducible refine Calls.mono (C1.out _ G) ?_); clear G; rintro e w ⟨rfl, G⟩)
        | ((with_reducible refine Calls.mono (C2.out _ G) ?_); clear G; rintro e w ⟨rfl, G⟩)
        | ((with_reducible refine Calls.mono (C3.out _ G) ?_); clear G; rintro e w ⟨rfl, G⟩)
        | ((with_reducible refine Calls.mono (C4.out _ G) ?_); clear G; rintro e w ⟨rfl, G⟩))
      | ((with_reducible refine at_eqS ?_); refine wpu_eqS rfl (by kernel_rfl) rfl rfl hb0 ?_; go_frame)
      | ((with_reducible refine at_neS ?_); refine wpu_neS rfl (by kernel_rfl) rfl rfl hb0 ?_; go_frame)
      | fail)
    go_ret
    exact ⟨rfl, G.below⟩
  · have hb0 : decide (b = []) = false := by simp [hbn]
    rw [if_pos hbn] at V1 V2
    obtain ⟨lg, hlg⟩ : ∃ x : Int, 3 + ((c ++ 46 :: a).length : Int) = x := ⟨_, rfl⟩
    rw [hlg] at V2
    have C1 : Hid (∀ w, Own w0 emp w → Calls Tryd.prog 18 #[str x1, str y2] w fun e w' => e = .returned (.int .i64 (3 + (a.length : Int))) ∧ Own w0 emp w') := Lib.hid fun w h => by have := hostC L1 L3 h; rwa [V1] at this
    have C2 : Hid (∀ w, Own w0 emp w → Calls Tryd.prog 18 #[str z3, str y5] w fun e w' => e = .returned (.int .i64 lg) ∧ Own w0 emp w') := Lib.hid fun w h => by have := hostC L6 L9 h; rwa [V2] at this
    have w1 : decide (3 + (a.length : Int) < ex) = true := by simp; omega
    have w3 : decide (3 + (a.length : Int) < lg) = true := by rw [← hlg, hl3]; simp; omega
    clear V1 V2 hbn hex hlg hl2 hl3
    as_aux_lemma =>
    go_wp2_with (first
      | ((with_reducible refine at_addS ?_); first
        | (refine wpu_addS (r := x1) rfl (by kernel_rfl) rfl rfl e1.out (by first | omega | (simp; omega)) ?_; go_frame)
        | (refine wpu_addS (r := y1) rfl (by kernel_rfl) rfl rfl e2.out (by first | omega | (simp; omega)) ?_; go_frame)
        | (refine wpu_addS (r := y2) rfl (by kernel_rfl) rfl rfl e3.out (by first | omega | (simp; omega)) ?_; go_frame)
        | (refine wpu_addS (r := z1) rfl (by kernel_rfl) rfl rfl e4.out (by first | omega | (simp; omega)) ?_; go_frame)
        | (refine wpu_addS (r := z2) rfl (by kernel_rfl) rfl rfl e5.out (by first | omega | (simp; omega)) ?_; go_frame)
        | (refine wpu_addS (r := z3) rfl (by kernel_rfl) rfl rfl e6.out (by first | omega | (simp; omega)) ?_; go_frame)
        | (refine wpu_addS (r := y3) rfl (by kernel_rfl) rfl rfl e7.out (by first | omega | (simp; omega)) ?_; go_frame)
        | (refine wpu_addS (r := y4) rfl (by kernel_rfl) rfl rfl e8.out (by first | omega | (simp; omega)) ?_; go_frame)
        | (refine wpu_addS (r := y5) rfl (by kernel_rfl) rfl rfl e9.out (by first | omega | (simp; omega)) ?_; go_frame))
      | (go_at_call 18; first
        | ((with_reducible refine Calls.mono (C1.out _ G) ?_); clear G; rintro e w ⟨rfl, G⟩)
        | ((with_reducible refine Calls.mono (C2.out _ G) ?_); clear G; rintro e w ⟨rfl, G⟩)
        | ((with_reducible refine Calls.mono (C3.out _ G) ?_); clear G; rintro e w ⟨rfl, G⟩)
        | ((with_reducible refine Calls.mono (C4.out _ G) ?_); clear G; rintro e w ⟨rfl, G⟩))
      | ((with_reducible refine at_eqS ?_); refine wpu_eqS rfl (by kernel_rfl) rfl rfl hb0 ?_; go_frame)
      | ((with_reducible refine at_neS ?_); refine wpu_neS rfl (by kernel_rfl) rfl rfl hb0 ?_; go_frame)
      | fail)
    go_ret
    exact ⟨rfl, G.below⟩

theorem contract {H : Type} {enc : TypeId × Value → H} {W : World} {vs : List Value} {ds : List (DataW H)}
    (hA : Args enc Tryd.prog W [9, 9, 9] vs ds) (hsz : (DataW.weightsEach Tryd.prog [9, 9, 9] ds).all (· ≤ reachBytes) = true) (hL : laidMetH Tryd.prog Rows.matchWildsRow.laid W) :
    Calls Tryd.prog 7 vs.toArray W fun e W' => e = .returned (.bool true) ∧ Below W.heap.size W W' := by
  obtain ⟨v0, _, d0, _, rfl, rfl, h0, hA⟩ := args_cons hA
  obtain ⟨v1, _, d1, _, rfl, rfl, h1, hA⟩ := args_cons hA
  obtain ⟨v2, _, d2, _, rfl, rfl, h2, hA⟩ := args_cons hA
  obtain ⟨rfl, rfl⟩ := args_nil hA
  obtain ⟨l1, rfl, k1, -⟩ := arg_string Tryd.underlying9 h0
  obtain ⟨l2, rfl, k2, -⟩ := arg_string Tryd.underlying9 h1
  obtain ⟨l3, rfl, k3, -⟩ := arg_string Tryd.underlying9 h2
  unfold maxLen at k1 k2 k3
  exact wildsW (by omega) (by omega) (by omega)


theorem spec {H : Type} : ∀ ds : List (DataW H), ds.length = 3 → Rows.matchWildsSpec.fn H ds = { results := [.lit (.bool true)], args := ds }
  | [_, _, _], _ => rfl
  | [], h => by cases h
  | [_], h => by cases h
  | [_, _], h => by cases h
  | _ :: _ :: _ :: _ :: _, h => by simp at h
theorem door_met (os : Os) (args : Array Value) : laidMetH Tryd.prog Rows.matchWildsRow.laid ((World.setRow (World.doorLaid Tryd.prog 19 os) (Tryd.prog.globalNamed "unicode/utf8.first").get! (Go.Pinned.utf8FirstZ.map fun z : Nat => Value.int .u8 (z : Int)).toArray).forCall (fun _ _ => 0) ⟨#[], args, []⟩).memory :=
  laidMetH_of_parts3 (fuel := 8) (laidMet_of_run' 8 (by kernel_rfl) (by kernel_rfl)) (by kernel_rfl) (by kernel_rfl)
set_option maxRecDepth 100000 in
theorem lifted (os : Os) (started : os.Started) (H : Type) (enc : TypeId × Value → H) :
    ReturnsInHanded {} Tryd.checked os 7 .any (fun w args => (Rows.matchWildsSpec.pre enc Tryd.prog Tryd.f7 Rows.matchWildsRow.domain false w args ∧ laidMetH Tryd.prog Rows.matchWildsRow.laid w) ∧ sizedMet enc Tryd.prog Tryd.f7 (OpenSpec.ofChange Rows.matchWildsSpec) false w args)
      (Rows.matchWildsSpec.post enc Tryd.prog Tryd.f7 false true false false) :=
  lifted_of_law_laid (C := Tryd.checked) (fn := Tryd.f7) (s := Rows.matchWildsSpec) (tb := 4) (by kernel_rfl) started (by kernel_rfl) Tryd.func7
    (ChangeSpec.witness_shaped (enc := enc) (C := Tryd.checked) (os := os) (X := fun w _ => laidMetH Tryd.prog Rows.matchWildsRow.laid w) false (World.setRow (World.doorLaid Tryd.prog 19 os) (Tryd.prog.globalNamed "unicode/utf8.first").get! (Go.Pinned.utf8FirstZ.map fun z : Nat => Value.int .u8 (z : Int)).toArray) #[.string ⟨#[]⟩, .string ⟨#[]⟩, .string ⟨#[]⟩] 8 rfl (World.shaped_of_RefB (by kernel_rfl) (by kernel_rfl)) (by kernel_rfl) (by kernel_rfl) (by kernel_rfl) (door_met os _))
    rfl spec (by kernel_rfl) Tryd.underlying4 (by kernel_rfl) (by kernel_rfl) (fun _ _ _ h1 h2 h3 => contract h1 h2 h3)

theorem holds : Rows.MatchWildsSaid :=
  OpenClaim.holds_of_wide 7 Tryd.f7 rfl rfl rfl rfl rfl rfl rfl ⟨rfl, rfl, rfl, rfl, rfl⟩ rfl rfl rfl rfl rfl (by kernel_rfl) Tryd.func7 (by kernel_rfl)
    (of_decide_eq_true (by kernel_rfl)) (by unfold Func.isWrapper; first | (rw [if_pos (by decide +kernel)]; kernel_rfl) | (rw [if_neg (by decide +kernel)]; exact ⟨rfl, rfl⟩))
    (fun os started H enc _ => lifted os started H enc)

theorem proved : Rows.MatchWildsCardSaid :=
  Claim7.holds_tied_plain_at .later [] [.data, .pinned] true (true, "f900cad1524d6485163f1f119ee05e345095a2ecf467c548b528305676b6aa51") false
    holds (fun _ h => by cases h) (by kernel_rfl) (fun _ h => by cases h) matchWilds_row_tie rfl ⟨rfl, rfl⟩ (by kernel_rfl) rfl
    (fun f fn hf hfn => by
      obtain rfl : f = 7 := Option.some.inj ((show Tryd.prog.funcNamed "flume/flumelaw15.MatchWilds" = some 7 by kernel_rfl).symm.trans hf) |>.symm
      obtain rfl : fn = Tryd.f7 := (Option.some.inj (Tryd.func7.symm.trans hfn)).symm
      exact ⟨by kernel_rfl, fun j t ht => by
        rw [Tryd.params7] at ht
        have hm : t ∈ [9, 9, 9] := by simpa using Array.mem_of_getElem? ht
        have hall : ([9, 9, 9].all fun u => !Tryd.prog.wantsStandIn u) = true := by kernel_rfl
        exact (show Tryd.prog.wantsStandIn t = false by simpa using List.all_eq_true.1 hall t hm)⟩)
    (by kernel_rfl)
end Go.Proofs.YtndlfieignhjjaaDoor.matchWilds
