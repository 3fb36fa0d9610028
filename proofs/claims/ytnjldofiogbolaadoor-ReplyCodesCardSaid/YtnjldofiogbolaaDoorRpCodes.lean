
/-
  ReplyCodes: of each code the row of the table, and of no other one.
-/
import Derived.Test.YtnjldofiogbolaaDoorRp2
import Derived.Test.YtnjldofiogbolaaDoorLawD
import Derived.Test.YtnjldofiogbolaaDoorTie
import Derived.Test.YtnjldofiogbolaaDoorCards
import Derived.SevenTiedAt
namespace Go.Proofs.YtnjldofiogbolaaDoor.replyCodes
open Go.RowKit Go.Sl Go.ChangeShapes

set_option maxHeartbeats 4000000 in
set_option maxRecDepth 100000 in
theorem codesW {w0 : World} (hT : Pow10 w0) (c : Int) : Calls Tryd.prog 4 #[.int .u32 c] w0 fun e w' => e = .returned (.bool true) ∧ Below w0.heap.size w0 w' := by
  have G := own_begin w0
  rcases codes5 c with rfl | rfl | rfl | rfl | ⟨h0, h7, h8, h11, b0, b7, b8, b11⟩
  all_goals
    as_aux_lemma =>
    go_enter Tryd.func4, Tryd.ntmps4
    go_wp2_with fail
    refine Calls.mono (shownRp hT G) ?_
    clear G; rintro e w ⟨rfl, G⟩
    go_wp2_with (first
      | (go_at_call 11; refine Calls.mono (backC _ _ _) ?_; rintro e w ⟨rfl, rfl⟩; simp only [backR])
      | fail)
    go_ret
    exact ⟨rfl, G.below⟩

theorem contract {H : Type} {enc : TypeId × Value → H} {W : World} {vs : List Value} {ds : List (DataW H)}
    (hA : Args enc Tryd.prog W [22] vs ds) (hsz : (DataW.weightsEach Tryd.prog [22] ds).all (· ≤ reachBytes) = true) (hL : laidMetH Tryd.prog Rows.replyCodesRow.laid W) :
    Calls Tryd.prog 4 vs.toArray W fun e W' => e = .returned (.bool true) ∧ Below W.heap.size W W' := by
  obtain ⟨v0, _, d0, _, rfl, rfl, h0, hA⟩ := args_cons hA
  obtain ⟨rfl, rfl⟩ := args_nil hA
  obtain ⟨n, rfl, -⟩ := arg_u32 Tryd.underlying22 h0
  exact codesW (pow10_laid hL) n


theorem spec {H : Type} : ∀ ds : List (DataW H), ds.length = 1 → Rows.replyCodesSpec.fn H ds = { results := [.lit (.bool true)], args := ds }
  | [_], _ => rfl
  | [], h => by cases h
  | _ :: _ :: _, h => by simp at h
theorem door_met (os : Os) (args : Array Value) : laidMetH Tryd.prog Rows.replyCodesRow.laid ((World.doorLaid Tryd.prog 72 os).forCall (fun _ _ => 0) ⟨#[], args, []⟩).memory :=
  laidMetH_of_parts3 (fuel := 8) (laidMet_of_run' 8 (by kernel_rfl) (by kernel_rfl)) (by kernel_rfl) (by kernel_rfl)
set_option maxRecDepth 100000 in
theorem lifted (os : Os) (started : os.Started) (H : Type) (enc : TypeId × Value → H) :
    ReturnsInHanded {} Tryd.checked os 4 .any (fun w args => (Rows.replyCodesSpec.pre enc Tryd.prog Tryd.f4 Rows.replyCodesRow.domain false w args ∧ laidMetH Tryd.prog Rows.replyCodesRow.laid w) ∧ sizedMet enc Tryd.prog Tryd.f4 (OpenSpec.ofChange Rows.replyCodesSpec) false w args)
      (Rows.replyCodesSpec.post enc Tryd.prog Tryd.f4 false true false false) :=
  lifted_of_law_laid (C := Tryd.checked) (fn := Tryd.f4) (s := Rows.replyCodesSpec) (tb := 4) (by kernel_rfl) started (by kernel_rfl) Tryd.func4
    (ChangeSpec.witness_shaped (enc := enc) (C := Tryd.checked) (os := os) (X := fun w _ => laidMetH Tryd.prog Rows.replyCodesRow.laid w) false (World.doorLaid Tryd.prog 72 os) #[.int .u32 0] 8 rfl (World.shaped_of_RefB (by kernel_rfl) (by kernel_rfl)) (by kernel_rfl) (by kernel_rfl) (by kernel_rfl) (door_met os _))
    rfl spec (by kernel_rfl) Tryd.underlying4 (by kernel_rfl) (by kernel_rfl) (fun _ _ _ h1 h2 h3 => contract h1 h2 h3)

theorem holds : Rows.ReplyCodesSaid :=
  OpenClaim.holds_of_wide 4 Tryd.f4 rfl rfl rfl rfl rfl rfl rfl ⟨rfl, rfl, rfl, rfl, rfl⟩ rfl rfl rfl rfl rfl (by kernel_rfl) Tryd.func4 (by kernel_rfl)
    (of_decide_eq_true (by kernel_rfl)) (by unfold Func.isWrapper; first | (rw [if_pos (by decide +kernel)]; kernel_rfl) | (rw [if_neg (by decide +kernel)]; exact ⟨rfl, rfl⟩))
    (fun os started H enc _ => lifted os started H enc)

theorem proved : Rows.ReplyCodesCardSaid :=
  Claim7.holds_tied_plain_at .later [] [.data, .data, .data] true (true, "91958e7d5246677641cc4049b7f4c48f57ef06c8a56922628399f975944d2110") true
    holds (fun _ h => by cases h) (by kernel_rfl) (fun _ h => by cases h) replyCodes_row_tie rfl ⟨rfl, rfl⟩ (by kernel_rfl) rfl
    (fun f fn hf hfn => by
      obtain rfl : f = 4 := Option.some.inj ((show Tryd.prog.funcNamed "flume/flumelaw17.ReplyCodes" = some 4 by kernel_rfl).symm.trans hf) |>.symm
      obtain rfl : fn = Tryd.f4 := (Option.some.inj (Tryd.func4.symm.trans hfn)).symm
      exact ⟨by kernel_rfl, fun j t ht => by
        rw [Tryd.params4] at ht
        have hm : t ∈ [22] := by simpa using Array.mem_of_getElem? ht
        have hall : ([22].all fun u => !Tryd.prog.wantsStandIn u) = true := by kernel_rfl
        exact (show Tryd.prog.wantsStandIn t = false by simpa using List.all_eq_true.1 hall t hm)⟩)
    (by kernel_rfl)
end Go.Proofs.YtnjldofiogbolaaDoor.replyCodes
