
/-
  MatchFields: fields are as they are asked, or not.
-/
import Derived.Test.YtndlfieignhjjaaDoorMtRef
import Derived.Test.YtndlfieignhjjaaDoorMtArg
import Derived.Test.YtndlfieignhjjaaDoorLawD
import Derived.Test.YtndlfieignhjjaaDoorTie
import Derived.Test.YtndlfieignhjjaaDoorCards
import Derived.SevenTiedAt
namespace Go.Proofs.YtndlfieignhjjaaDoor.matchFields
open Go.RowKit Go.Sl Go.ChangeShapes

set_option maxHeartbeats 8000000 in
set_option maxRecDepth 100000 in
theorem fieldsW {w0 : World} {v u : Value} {M0 : List Mr} {F0 : List Fd} (hm : rd w0 4 v M0.length (mrs M0)) (hf : rd w0 3 u F0.length (fds F0)) (hms0 : ∀ m ∈ M0, m.value.length ≤ 9223372036854775807) (hlen0 : ∀ f ∈ F0, f.2.1.length ≤ 9223372036854775807) :
    Calls Tryd.prog 11 #[v, u] w0 fun e w' => e = .returned (.bool true) ∧ Below w0.heap.size w0 w' := by
  have G := own_begin w0
  obtain ⟨mo, mc, rfl, i1, i2, -⟩ := id hm
  obtain ⟨fo, fc, rfl, j1, j2, -⟩ := id hf
  unfold maxLen at i2 j2
  obtain ⟨k, k0, k1, k2⟩ : ∃ k : Nat, min (M0.length : Int) 50 = (k : Int) ∧ k ≤ M0.length ∧ k ≤ 50 := ⟨min M0.length 50, by omega, by omega, by omega⟩
  obtain ⟨l, l0, l1, l2⟩ : ∃ k : Nat, min (F0.length : Int) 100 = (k : Int) ∧ k ≤ F0.length ∧ k ≤ 100 := ⟨min F0.length 100, by omega, by omega, by omega⟩
  have hm1 := mrs_take hm rfl k1
  have hf1 := fds_take hf rfl l1
  have hms : ∀ m ∈ M0.take k, m.value.length ≤ 9223372036854775807 := fun m h => hms0 m (List.mem_of_mem_take h)
  have hlen : ∀ m ∈ F0.take l, m.2.1.length ≤ 9223372036854775807 := fun m h => hlen0 m (List.mem_of_mem_take h)
  obtain ⟨M, hM⟩ : ∃ M, M0.take k = M := ⟨_, rfl⟩
  obtain ⟨F, hF⟩ : ∃ F, F0.take l = F := ⟨_, rfl⟩
  have e1 : M.length = k := by rw [← hM]; simp; omega
  have e2 : F.length = l := by rw [← hF]; simp; omega
  rw [hM] at hm1 hms
  rw [hF] at hf1 hlen
  have hl : ∀ A w, Own w0 A w → rd w 4 (.slice mo k mc) M.length (mrs M) := fun A w h => hm1.old h
  have hu : ∀ A w, Own w0 A w → rd w 3 (.slice fo l fc) F.length (fds F) := fun A w h => hf1.old h
  clear hm hf hM hF hms0 hlen0 hm1 hf1
  subst e1 e2
  go_enter Tryd.func11, Tryd.ntmps11
  go_wp2_with fail
  refine Calls.mono (shownMt G) ?_
  clear G; rintro e w ⟨rfl, G⟩
  go_wp2_with fail
  go_loopw [6] (fun i wr => ∃ j : Nat, i = .int .i64 j ∧ j ≤ M.length ∧ Own w0 emp wr) (fun i _ => M.length - (intOf i).toNat)
  case atStart => exact ⟨0, rfl, Nat.zero_le _, G⟩
  case round =>
    clear G
    obtain ⟨j, rfl, hj, G⟩ := hrel
    by_cases hjn : j < M.length
    · obtain ⟨m, hm⟩ : ∃ m, M[j]? = some m := ⟨M[j], List.getElem?_eq_getElem hjn⟩
      obtain ⟨ad, rfl⟩ := rd_some (hl _ _ G) (by omega)
      have HF := Lib.hid (mrs_at hm)
      have hml := hms m (List.mem_of_getElem? hm)
      obtain ⟨r, hr⟩ : ∃ r, fieldR m F = r := ⟨_, rfl⟩
      have HR := Lib.hid hr
      clear hm hr
      go_wp2_with fail
      refine wp_region_mix [0, 0, 0, 0, 0, 1, 0, 0, 0, 0, 0, 1, 0] (Own w0 _) (by kernel_rfl) (by kernel_rfl) (own_drew G) ?_
      refine mix_calm 5 ((own_drew G)) (by rfl) (by rfl) ?_
      intro ι W hne hW
      dsimp only [List.take, List.drop]
      repeat (first | ((with_reducible refine atq_load ?_); refine wpq_loadE (k := j) (fun i => hl _ _ (hW i)) HF.out rfl (by kernel_rfl) rfl rfl ?_; go_frame) | ((with_reducible refine atq_load ?_); first | (refine wpq_load hW rfl rfl rfl rfl ?_; go_frame) | (refine wpq_loadB hW rfl rfl rfl (by rfl) ?_; go_frame)) | go_big_quiet_step (fail))
      refine wpQuiet_nil ?_
      clear  hW hne W ι
      refine mix_loud rfl (fun K hK => ?_)
      go_wp2_with fail
      refine Calls.mono (fieldC hlen (own_drew G) (hu _)) ?_
      clear G; rintro e w ⟨rfl, G⟩
      rw [HR.out]
      refine hK _ _ ⟨G, ?_⟩
      clear hK
      try go_frame
      refine mix_calm 5 (G) (by rfl) (by rfl) ?_
      intro ι W hne hW
      dsimp only [List.take, List.drop]
      repeat (first | ((with_reducible refine atq_load ?_); refine wpq_loadE (k := j) (fun i => hl _ _ (hW i)) HF.out rfl (by kernel_rfl) rfl rfl ?_; go_frame) | ((with_reducible refine atq_load ?_); first | (refine wpq_load hW rfl rfl rfl rfl ?_; go_frame) | (refine wpq_loadB hW rfl rfl rfl (by rfl) ?_; go_frame)) | go_big_quiet_step (fail))
      refine wpQuiet_nil ?_
      clear  hW hne W ι
      refine mix_loud rfl (fun K hK => ?_)
      go_wp2_with fail
      refine Calls.mono (fieldRefC hml hlen G (hu _)) ?_
      clear G; rintro e w ⟨rfl, G⟩
      rw [HR.out]
      refine hK _ _ ⟨G, ?_⟩
      clear hK
      try go_frame
      refine mix_calm 1 (G) (by rfl) (by rfl) ?_
      intro ι W hne hW
      dsimp only [List.take, List.drop]
      repeat (first | ((with_reducible refine atq_load ?_); first | (refine wpq_load hW rfl rfl rfl rfl ?_; go_frame) | (refine wpq_loadB hW rfl rfl rfl (by rfl) ?_; go_frame) | (refine wpq_loadS hW rfl rfl rfl (by rfl) ?_; simp only [List.drop_succ_cons, List.drop_zero, List.take_succ_cons, List.take_zero]; go_frame)) | (fail) | go_big_quiet_step (fail))
      refine wpQuiet_nil ?_
      clear  hW hne W ι
      refine mix_nil ?_
      cases r
      · go_wp2_with fail
        go_roundw
        case rel => exact ⟨j + 1, by go_num, by omega, G⟩
        case measure => simp [intOf] <;> omega
      · go_wp2_with fail
        go_roundw
        case rel => exact ⟨j + 1, by go_num, by omega, G⟩
        case measure => simp [intOf] <;> omega
    · obtain ⟨a, ha⟩ : ∃ a, (M.all fun m => fieldR m F) = a := ⟨_, rfl⟩
      obtain ⟨g, hg⟩ : ∃ g, grpcR F = g := ⟨_, rfl⟩
      have HA := Lib.hid ha
      have HG := Lib.hid hg
      clear ha hg
      go_wp2_with (first
        | (go_at_call 23; refine Calls.mono (fieldsC hlen G (hu _) (hl _)) ?_; clear G; rintro e w ⟨rfl, G⟩; rw [HA.out])
        | (go_at_call 25; refine Calls.mono (fieldsRefC hms hlen G (hu _) (hl _)) ?_; clear G; rintro e w ⟨rfl, G⟩; rw [HA.out])
        | (go_at_call 26; refine Calls.mono (grpcC G (hu _)) ?_; clear G; rintro e w ⟨rfl, G⟩; rw [HG.out])
        | (go_at_call 27; refine Calls.mono (grpcRefC hlen G (hu _)) ?_; clear G; rintro e w ⟨rfl, G⟩; rw [HG.out])
        | fail)
      go_ret
      exact ⟨by simp, G.below⟩

theorem contract {H : Type} {enc : TypeId × Value → H} {W : World} {vs : List Value} {ds : List (DataW H)}
    (hA : Args enc Tryd.prog W [40, 33] vs ds) (hsz : (DataW.weightsEach Tryd.prog [40, 33] ds).all (· ≤ reachBytes) = true) (hL : laidMetH Tryd.prog Rows.matchFieldsRow.laid W) :
    Calls Tryd.prog 11 vs.toArray W fun e W' => e = .returned (.bool true) ∧ Below W.heap.size W W' := by
  obtain ⟨v0, _, d0, _, rfl, rfl, h0, hA⟩ := args_cons hA
  obtain ⟨v1, _, d1, _, rfl, rfl, h1, hA⟩ := args_cons hA
  obtain ⟨rfl, rfl⟩ := args_nil hA
  obtain ⟨M, hm, km⟩ := mrs_in h0
  obtain ⟨F, hf, kf⟩ := fds_in h1
  unfold maxLen at km kf
  exact fieldsW hm hf (fun m h => (km m h).2.1) (fun f h => (kf f h).2)


theorem spec {H : Type} : ∀ ds : List (DataW H), ds.length = 2 → Rows.matchFieldsSpec.fn H ds = { results := [.lit (.bool true)], args := ds }
  | [_, _], _ => rfl
  | [], h => by cases h
  | [_], h => by cases h
  | _ :: _ :: _ :: _, h => by simp at h
theorem door_met (os : Os) (args : Array Value) : laidMetH Tryd.prog Rows.matchFieldsRow.laid ((World.setRow (World.doorLaid Tryd.prog 19 os) (Tryd.prog.globalNamed "unicode/utf8.first").get! (Go.Pinned.utf8FirstZ.map fun z : Nat => Value.int .u8 (z : Int)).toArray).forCall (fun _ _ => 0) ⟨#[], args, []⟩).memory :=
  laidMetH_of_parts3 (fuel := 8) (laidMet_of_run' 8 (by kernel_rfl) (by kernel_rfl)) (by kernel_rfl) (by kernel_rfl)
set_option maxRecDepth 100000 in
theorem lifted (os : Os) (started : os.Started) (H : Type) (enc : TypeId × Value → H) :
    ReturnsInHanded {} Tryd.checked os 11 .any (fun w args => (Rows.matchFieldsSpec.pre enc Tryd.prog Tryd.f11 Rows.matchFieldsRow.domain false w args ∧ laidMetH Tryd.prog Rows.matchFieldsRow.laid w) ∧ sizedMet enc Tryd.prog Tryd.f11 (OpenSpec.ofChange Rows.matchFieldsSpec) false w args)
      (Rows.matchFieldsSpec.post enc Tryd.prog Tryd.f11 false true false false) :=
  lifted_of_law_laid (C := Tryd.checked) (fn := Tryd.f11) (s := Rows.matchFieldsSpec) (tb := 4) (by kernel_rfl) started (by kernel_rfl) Tryd.func11
    (ChangeSpec.witness_shaped (enc := enc) (C := Tryd.checked) (os := os) (X := fun w _ => laidMetH Tryd.prog Rows.matchFieldsRow.laid w) false (World.setRow (World.doorLaid Tryd.prog 19 os) (Tryd.prog.globalNamed "unicode/utf8.first").get! (Go.Pinned.utf8FirstZ.map fun z : Nat => Value.int .u8 (z : Int)).toArray) #[.slice none 0 0, .slice none 0 0] 8 rfl (World.shaped_of_RefB (by kernel_rfl) (by kernel_rfl)) (by kernel_rfl) (by kernel_rfl) (by kernel_rfl) (door_met os _))
    rfl spec (by kernel_rfl) Tryd.underlying4 (by kernel_rfl) (by kernel_rfl) (fun _ _ _ h1 h2 h3 => contract h1 h2 h3)

theorem holds : Rows.MatchFieldsSaid :=
  OpenClaim.holds_of_wide 11 Tryd.f11 rfl rfl rfl rfl rfl rfl rfl ⟨rfl, rfl, rfl, rfl, rfl⟩ rfl rfl rfl rfl rfl (by kernel_rfl) Tryd.func11 (by kernel_rfl)
    (of_decide_eq_true (by kernel_rfl)) (by unfold Func.isWrapper; first | (rw [if_pos (by decide +kernel)]; kernel_rfl) | (rw [if_neg (by decide +kernel)]; exact ⟨rfl, rfl⟩))
    (fun os started H enc _ => lifted os started H enc)

theorem proved : Rows.MatchFieldsCardSaid :=
  Claim7.holds_tied_plain_at .later [] [.data, .pinned] true (true, "f900cad1524d6485163f1f119ee05e345095a2ecf467c548b528305676b6aa51") false
    holds (fun _ h => by cases h) (by kernel_rfl) (fun _ h => by cases h) matchFields_row_tie rfl ⟨rfl, rfl⟩ (by kernel_rfl) rfl
    (fun f fn hf hfn => by
      obtain rfl : f = 11 := Option.some.inj ((show Tryd.prog.funcNamed "flume/flumelaw15.MatchFields" = some 11 by kernel_rfl).symm.trans hf) |>.symm
      obtain rfl : fn = Tryd.f11 := (Option.some.inj (Tryd.func11.symm.trans hfn)).symm
      exact ⟨by kernel_rfl, fun j t ht => by
        rw [Tryd.params11] at ht
        have hm : t ∈ [40, 33] := by simpa using Array.mem_of_getElem? ht
        have hall : ([40, 33].all fun u => !Tryd.prog.wantsStandIn u) = true := by kernel_rfl
        exact (show Tryd.prog.wantsStandIn t = false by simpa using List.all_eq_true.1 hall t hm)⟩)
    (by kernel_rfl)
end Go.Proofs.YtndlfieignhjjaaDoor.matchFields
