
/-
  MatchHosts: a pattern is so near to an authority.
-/
import Derived.Test.YtndlfieignhjjaaDoorMt8
import Derived.Test.YtndlfieignhjjaaDoorLawD
import Derived.Test.YtndlfieignhjjaaDoorTie
import Derived.Test.YtndlfieignhjjaaDoorCards
import Derived.SevenTiedAt
namespace Go.Proofs.YtndlfieignhjjaaDoor.matchHosts
open Go.RowKit Go.Sl Go.ChangeShapes

set_option maxHeartbeats 8000000 in
set_option maxRecDepth 100000 in
theorem hostsW {w0 : World} {l1 l2 : Txt} (h1 : l1.length ≤ 9223372036854775807) (h2 : l2.length ≤ 9223372036854775807) : Calls Tryd.prog 4 #[str l1, str l2] w0 fun e w' => e = .returned (.bool true) ∧ Below w0.heap.size w0 w' := by
  have G := own_begin w0
  have k1 := cutT_len l1
  have k2 := cutT_len l2
  obtain ⟨p, hp⟩ : ∃ x, cutT l1 = x := ⟨_, rfl⟩
  obtain ⟨a, ha⟩ : ∃ x, cutT l2 = x := ⟨_, rfl⟩
  rw [hp] at k1
  rw [ha] at k2
  have HP := Lib.hid hp
  have HA := Lib.hid ha
  clear hp ha
  have k3 : p.length ≤ 1000000 := by omega
  have k4 : a.length ≤ 1000000 := by omega
  obtain ⟨r, hr⟩ : ∃ r, hostR p a = r := ⟨_, rfl⟩
  have HR := Lib.hid hr
  clear hr
  go_enter Tryd.func4, Tryd.ntmps4
  go_wp2_with fail
  refine Calls.mono (shownMt G) ?_
  clear G; rintro e w ⟨rfl, G⟩
  go_wp2_with fail
  refine Calls.mono (cutC h1 G) ?_
  clear G; rintro e w ⟨rfl, G⟩
  rw [HP.out]
  go_wp2_with fail
  refine Calls.mono (cutC h2 G) ?_
  clear G; rintro e w ⟨rfl, G⟩
  rw [HA.out]
  go_wp2_with (first
    | (go_at_call 18; refine Calls.mono (hostC k3 k4 G) ?_; clear G; rintro e w ⟨rfl, G⟩; rw [HR.out])
    | (go_at_call 19; refine Calls.mono (hostRefC k3 k4 G) ?_; clear G; rintro e w ⟨rfl, G⟩; rw [HR.out])
    | fail)
  go_ret
  exact ⟨by simp, G.below⟩

theorem contract {H : Type} {enc : TypeId × Value → H} {W : World} {vs : List Value} {ds : List (DataW H)}
    (hA : Args enc Tryd.prog W [9, 9] vs ds) (hsz : (DataW.weightsEach Tryd.prog [9, 9] ds).all (· ≤ reachBytes) = true) (hL : laidMetH Tryd.prog Rows.matchHostsRow.laid W) :
    Calls Tryd.prog 4 vs.toArray W fun e W' => e = .returned (.bool true) ∧ Below W.heap.size W W' := by
  obtain ⟨v0, _, d0, _, rfl, rfl, h0, hA⟩ := args_cons hA
  obtain ⟨v1, _, d1, _, rfl, rfl, h1, hA⟩ := args_cons hA
  obtain ⟨rfl, rfl⟩ := args_nil hA
  obtain ⟨l1, rfl, k1, -⟩ := arg_string Tryd.underlying9 h0
  obtain ⟨l2, rfl, k2, -⟩ := arg_string Tryd.underlying9 h1
  unfold maxLen at k1 k2
  exact hostsW (by omega) (by omega)


theorem spec {H : Type} : ∀ ds : List (DataW H), ds.length = 2 → Rows.matchHostsSpec.fn H ds = { results := [.lit (.bool true)], args := ds }
  | [_, _], _ => rfl
  | [], h => by cases h
  | [_], h => by cases h
  | _ :: _ :: _ :: _, h => by simp at h
theorem door_met (os : Os) (args : Array Value) : laidMetH Tryd.prog Rows.matchHostsRow.laid ((World.setRow (World.doorLaid Tryd.prog 19 os) (Tryd.prog.globalNamed "unicode/utf8.first").get! (Go.Pinned.utf8FirstZ.map fun z : Nat => Value.int .u8 (z : Int)).toArray).forCall (fun _ _ => 0) ⟨#[], args, []⟩).memory :=
  laidMetH_of_parts3 (fuel := 8) (laidMet_of_run' 8 (by kernel_rfl) (by kernel_rfl)) (by kernel_rfl) (by kernel_rfl)
set_option maxRecDepth 100000 in
theorem lifted (os : Os) (started : os.Started) (H : Type) (enc : TypeId × Value → H) :
    ReturnsInHanded {} Tryd.checked os 4 .any (fun w args => (Rows.matchHostsSpec.pre enc Tryd.prog Tryd.f4 Rows.matchHostsRow.domain false w args ∧ laidMetH Tryd.prog Rows.matchHostsRow.laid w) ∧ sizedMet enc Tryd.prog Tryd.f4 (OpenSpec.ofChange Rows.matchHostsSpec) false w args)
      (Rows.matchHostsSpec.post enc Tryd.prog Tryd.f4 false true false false) :=
  lifted_of_law_laid (C := Tryd.checked) (fn := Tryd.f4) (s := Rows.matchHostsSpec) (tb := 4) (by kernel_rfl) started (by kernel_rfl) Tryd.func4
    (ChangeSpec.witness_shaped (enc := enc) (C := Tryd.checked) (os := os) (X := fun w _ => laidMetH Tryd.prog Rows.matchHostsRow.laid w) false (World.setRow (World.doorLaid Tryd.prog 19 os) (Tryd.prog.globalNamed "unicode/utf8.first").get! (Go.Pinned.utf8FirstZ.map fun z : Nat => Value.int .u8 (z : Int)).toArray) #[.string ⟨#[]⟩, .string ⟨#[]⟩] 8 rfl (World.shaped_of_RefB (by kernel_rfl) (by kernel_rfl)) (by kernel_rfl) (by kernel_rfl) (by kernel_rfl) (door_met os _))
    rfl spec (by kernel_rfl) Tryd.underlying4 (by kernel_rfl) (by kernel_rfl) (fun _ _ _ h1 h2 h3 => contract h1 h2 h3)

theorem holds : Rows.MatchHostsSaid :=
  OpenClaim.holds_of_wide 4 Tryd.f4 rfl rfl rfl rfl rfl rfl rfl ⟨rfl, rfl, rfl, rfl, rfl⟩ rfl rfl rfl rfl rfl (by kernel_rfl) Tryd.func4 (by kernel_rfl)
    (of_decide_eq_true (by kernel_rfl)) (by unfold Func.isWrapper; first | (rw [if_pos (by decide +kernel)]; kernel_rfl) | (rw [if_neg (by decide +kernel)]; exact ⟨rfl, rfl⟩))
    (fun os started H enc _ => lifted os started H enc)

theorem proved : Rows.MatchHostsCardSaid :=
  Claim7.holds_tied_plain_at .later [] [.data, .pinned] true (true, "f900cad1524d6485163f1f119ee05e345095a2ecf467c548b528305676b6aa51") false
    holds (fun _ h => by cases h) (by kernel_rfl) (fun _ h => by cases h) matchHosts_row_tie rfl ⟨rfl, rfl⟩ (by kernel_rfl) rfl
    (fun f fn hf hfn => by
      obtain rfl : f = 4 := Option.some.inj ((show Tryd.prog.funcNamed "flume/flumelaw15.MatchHosts" = some 4 by kernel_rfl).symm.trans hf) |>.symm
      obtain rfl : fn = Tryd.f4 := (Option.some.inj (Tryd.func4.symm.trans hfn)).symm
      exact ⟨by kernel_rfl, fun j t ht => by
        rw [Tryd.params4] at ht
        have hm : t ∈ [9, 9] := by simpa using Array.mem_of_getElem? ht
        have hall : ([9, 9].all fun u => !Tryd.prog.wantsStandIn u) = true := by kernel_rfl
        exact (show Tryd.prog.wantsStandIn t = false by simpa using List.all_eq_true.1 hall t hm)⟩)
    (by kernel_rfl)
end Go.Proofs.YtndlfieignhjjaaDoor.matchHosts
