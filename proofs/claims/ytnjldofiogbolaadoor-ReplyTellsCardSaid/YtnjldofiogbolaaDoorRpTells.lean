
/-
  ReplyTells: a status has an answer, or none, and a code has one on the other side.
-/
import Derived.Test.YtnjldofiogbolaaDoorRp3
import Derived.Test.YtnjldofiogbolaaDoorSameF
import Derived.Test.YtnjldofiogbolaaDoorSlSet
import Derived.Test.YtnjldofiogbolaaDoorLawD
import Derived.Test.YtnjldofiogbolaaDoorTie
import Derived.Test.YtnjldofiogbolaaDoorCards
import Derived.SevenTiedAt
namespace Go.Proofs.YtnjldofiogbolaaDoor.replyTells
open Go.RowKit Go.Sl Go.ChangeShapes

set_option maxHeartbeats 8000000 in
set_option maxRecDepth 100000 in
theorem tellsW {w0 : World} (hT : Pow10 w0) (st : Int) (g : Bool) (c : Int) (b : Bool) : Calls Tryd.prog 3 #[.int .i64 st, .bool g, .int .u32 c, .bool b] w0 fun e w' => e = .returned (.bool true) ∧ Below w0.heap.size w0 w' := by
  have G := own_begin w0
  obtain ⟨br, hbr⟩ : ∃ x, backR c b = x := ⟨_, rfl⟩
  obtain ⟨b1, b2⟩ := br
  obtain ⟨fr, hfr⟩ : ∃ x, forthR c = x := ⟨_, rfl⟩
  have HB1 : Hid ((backR c b).1 = b1) := Lib.hid (by rw [hbr])
  have HB2 : Hid ((backR c b).2 = b2) := Lib.hid (by rw [hbr])
  have HF := Lib.hid hfr
  clear hbr hfr
  obtain ⟨L, hL⟩ : ∃ L, localL st g = L := ⟨_, rfl⟩
  have HL := Lib.hid hL
  clear hL
  go_enter Tryd.func3, Tryd.ntmps3
  go_wp2_with fail
  refine Calls.mono (shownRp hT G) ?_
  clear G; rintro e w ⟨rfl, G⟩
  go_wp2_with fail
  refine Calls.mono (localC hT G) ?_
  clear G; rintro e w ⟨v, rfl, G⟩
  rw [HL.out] at G
  go_wp2_with fail
  refine Calls.mono (refLocalC G) ?_
  clear G; rintro e w ⟨u, rfl, G⟩
  rw [HL.out] at G
  go_wp2_with fail
  refine Calls.mono (sameC (X := L) (Y := L) G (fun w h => h.rd v _ h) (fun w h => h.rd u _ h)) ?_
  clear G; rintro e w ⟨rfl, G⟩
  rw [show decide (L = L) = true by simp]
  obtain ⟨ao, ac, rfl, j1, j2⟩ := G.hdr v
  unfold maxLen at j2
  go_wp2_with fail
  replace G : Own w0 (sl 3 (.slice ao L.length ac) L.length (fds L) * emp) w := G.sub _
  go_loopw [12] (fun i wr => ∃ (j : Nat) (xs : List Value), i = .int .i64 j ∧ j ≤ L.length ∧ Own w0 (sl 3 (.slice ao L.length ac) L.length xs * emp) wr) (fun i _ => L.length - (intOf i).toNat)
  case atStart => exact ⟨0, _, rfl, Nat.zero_le _, G⟩
  case round =>
    clear G
    obtain ⟨j, xs, rfl, hj, G⟩ := hrel
    by_cases hjn : j < L.length
    · as_aux_lemma =>
      obtain ⟨ad, rfl⟩ := rd_some (G.rd (.slice ao L.length ac) _ G) (by omega)
      go_wp2_with (first
        | ((with_reducible refine at_store ?_); refine wpu_storeF (s := ad) (n := L.length) (cap := ac) (k := j) (j := 0) (sz := 3) G rfl rfl rfl rfl rfl (by omega) ?_; clear G; intro w G; go_frame)
        | fail)
      go_roundw
      case rel => exact ⟨j + 1, _, by go_num, by omega, G⟩
      case measure => simp [intOf] <;> omega
    · as_aux_lemma =>
      go_wp2_with fail
      refine Calls.mono (localC hT G) ?_
      clear G; rintro e w ⟨v, rfl, G⟩
      rw [HL.out] at G
      go_wp2_with fail
      refine Calls.mono (refLocalC G) ?_
      clear G; rintro e w ⟨u, rfl, G⟩
      rw [HL.out] at G
      go_wp2_with fail
      refine Calls.mono (sameC (X := L) (Y := L) G (fun w h => h.rd v _ h) (fun w h => h.rd u _ h)) ?_
      clear G; rintro e w ⟨rfl, G⟩
      rw [show decide (L = L) = true by simp]
      go_wp2_with (first
        | (go_at_call 11; refine Calls.mono (backC _ _ _) ?_; rintro e w ⟨rfl, rfl⟩; rw [HB1.out, HB2.out])
        | (go_at_call 12; refine Calls.mono (backRefC _ _ _) ?_; rintro e w ⟨rfl, rfl⟩; rw [HB1.out, HB2.out])
        | (go_at_call 13; refine Calls.mono (forthC _ _) ?_; rintro e w ⟨rfl, rfl⟩; rw [HF.out])
        | (go_at_call 14; refine Calls.mono (forthRefC _ _) ?_; rintro e w ⟨rfl, rfl⟩; rw [HF.out])
        | fail)
      go_ret
      exact ⟨rfl, G.below⟩

theorem contract {H : Type} {enc : TypeId × Value → H} {W : World} {vs : List Value} {ds : List (DataW H)}
    (hA : Args enc Tryd.prog W [3, 4, 22, 4] vs ds) (hsz : (DataW.weightsEach Tryd.prog [3, 4, 22, 4] ds).all (· ≤ reachBytes) = true) (hL : laidMetH Tryd.prog Rows.replyTellsRow.laid W) :
    Calls Tryd.prog 3 vs.toArray W fun e W' => e = .returned (.bool true) ∧ Below W.heap.size W W' := by
  obtain ⟨v0, _, d0, _, rfl, rfl, h0, hA⟩ := args_cons hA
  obtain ⟨v1, _, d1, _, rfl, rfl, h1, hA⟩ := args_cons hA
  obtain ⟨v2, _, d2, _, rfl, rfl, h2, hA⟩ := args_cons hA
  obtain ⟨v3, _, d3, _, rfl, rfl, h3, hA⟩ := args_cons hA
  obtain ⟨rfl, rfl⟩ := args_nil hA
  obtain ⟨st, rfl, -⟩ := arg_i64 Tryd.underlying3 h0
  obtain ⟨g, rfl⟩ := arg_bool Tryd.underlying4 h1
  obtain ⟨n, rfl, -⟩ := arg_u32 Tryd.underlying22 h2
  obtain ⟨b, rfl⟩ := arg_bool Tryd.underlying4 h3
  exact tellsW (pow10_laid hL) st g n b


theorem spec {H : Type} : ∀ ds : List (DataW H), ds.length = 4 → Rows.replyTellsSpec.fn H ds = { results := [.lit (.bool true)], args := ds }
  | [_, _, _, _], _ => rfl
  | [], h => by cases h
  | [_], h => by cases h
  | [_, _], h => by cases h
  | [_, _, _], h => by cases h
  | _ :: _ :: _ :: _ :: _ :: _, h => by simp at h
theorem door_met (os : Os) (args : Array Value) : laidMetH Tryd.prog Rows.replyTellsRow.laid ((World.doorLaid Tryd.prog 72 os).forCall (fun _ _ => 0) ⟨#[], args, []⟩).memory :=
  laidMetH_of_parts3 (fuel := 8) (laidMet_of_run' 8 (by kernel_rfl) (by kernel_rfl)) (by kernel_rfl) (by kernel_rfl)
set_option maxRecDepth 100000 in
theorem lifted (os : Os) (started : os.Started) (H : Type) (enc : TypeId × Value → H) :
    ReturnsInHanded {} Tryd.checked os 3 .any (fun w args => (Rows.replyTellsSpec.pre enc Tryd.prog Tryd.f3 Rows.replyTellsRow.domain false w args ∧ laidMetH Tryd.prog Rows.replyTellsRow.laid w) ∧ sizedMet enc Tryd.prog Tryd.f3 (OpenSpec.ofChange Rows.replyTellsSpec) false w args)
      (Rows.replyTellsSpec.post enc Tryd.prog Tryd.f3 false true false false) :=
  lifted_of_law_laid (C := Tryd.checked) (fn := Tryd.f3) (s := Rows.replyTellsSpec) (tb := 4) (by kernel_rfl) started (by kernel_rfl) Tryd.func3
    (ChangeSpec.witness_shaped (enc := enc) (C := Tryd.checked) (os := os) (X := fun w _ => laidMetH Tryd.prog Rows.replyTellsRow.laid w) false (World.doorLaid Tryd.prog 72 os) #[.int .i64 0, .bool false, .int .u32 0, .bool false] 8 rfl (World.shaped_of_RefB (by kernel_rfl) (by kernel_rfl)) (by kernel_rfl) (by kernel_rfl) (by kernel_rfl) (door_met os _))
    rfl spec (by kernel_rfl) Tryd.underlying4 (by kernel_rfl) (by kernel_rfl) (fun _ _ _ h1 h2 h3 => contract h1 h2 h3)

theorem holds : Rows.ReplyTellsSaid :=
  OpenClaim.holds_of_wide 3 Tryd.f3 rfl rfl rfl rfl rfl rfl rfl ⟨rfl, rfl, rfl, rfl, rfl⟩ rfl rfl rfl rfl rfl (by kernel_rfl) Tryd.func3 (by kernel_rfl)
    (of_decide_eq_true (by kernel_rfl)) (by unfold Func.isWrapper; first | (rw [if_pos (by decide +kernel)]; kernel_rfl) | (rw [if_neg (by decide +kernel)]; exact ⟨rfl, rfl⟩))
    (fun os started H enc _ => lifted os started H enc)

theorem proved : Rows.ReplyTellsCardSaid :=
  Claim7.holds_tied_plain_at .later [] [.data, .data, .data] true (true, "91958e7d5246677641cc4049b7f4c48f57ef06c8a56922628399f975944d2110") true
    holds (fun _ h => by cases h) (by kernel_rfl) (fun _ h => by cases h) replyTells_row_tie rfl ⟨rfl, rfl⟩ (by kernel_rfl) rfl
    (fun f fn hf hfn => by
      obtain rfl : f = 3 := Option.some.inj ((show Tryd.prog.funcNamed "flume/flumelaw17.ReplyTells" = some 3 by kernel_rfl).symm.trans hf) |>.symm
      obtain rfl : fn = Tryd.f3 := (Option.some.inj (Tryd.func3.symm.trans hfn)).symm
      exact ⟨by kernel_rfl, fun j t ht => by
        rw [Tryd.params3] at ht
        have hm : t ∈ [3, 4, 22, 4] := by simpa using Array.mem_of_getElem? ht
        have hall : ([3, 4, 22, 4].all fun u => !Tryd.prog.wantsStandIn u) = true := by kernel_rfl
        exact (show Tryd.prog.wantsStandIn t = false by simpa using List.all_eq_true.1 hall t hm)⟩)
    (by kernel_rfl)
end Go.Proofs.YtnjldofiogbolaaDoor.replyTells
