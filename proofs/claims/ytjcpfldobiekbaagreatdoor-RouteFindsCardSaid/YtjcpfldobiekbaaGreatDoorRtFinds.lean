



/-
  RouteFinds: a snapshot is right, or not, and says where a request goes, or not.
-/
import Derived.Test.YtjcpfldobiekbaaGreatDoorRtSh2
import Derived.Test.YtjcpfldobiekbaaGreatDoorRtFind2
import Derived.Test.YtjcpfldobiekbaaGreatDoorLawD
import Derived.Test.YtjcpfldobiekbaaGreatDoorTie
import Derived.Test.YtjcpfldobiekbaaGreatDoorCards
import Derived.SevenTiedAt
namespace Go.Proofs.YtjcpfldobiekbaaGreatDoor.routeFinds
open Go.RowKit Go.Sl Go.ChangeShapes

theorem findV_is (o : Option (Txt × Int)) : ∃ c n b, findV o = .tuple #[str c, .int .i64 n, .bool b] := by
  cases o with
  | none => exact ⟨_, _, _, rfl⟩
  | some o => exact ⟨_, _, _, rfl⟩

set_option maxHeartbeats 16000000 in
set_option maxRecDepth 100000 in
theorem findsW {w0 : World} {s : Sn} {cs : List Value} {v : Value} {F0 : List Fd} {d : Nat} (hs : rdSn w0 cs s) (ok : s.ok) (hF : rd w0 3 v F0.length (fds F0)) (okF0 : ∀ f ∈ F0, f.1.length ≤ 140737488351232 ∧ f.2.1.length ≤ 140737488351232) (hd : d < 18446744073709551616) :
    Calls Tryz.prog 3 #[.agg cs.toArray, v, .int .u64 (d : Int)] w0 fun e w' => e = .returned (.bool true) ∧ Below w0.heap.size w0 w' := by
  have hs0 := hs
  obtain ⟨vc, vh, xs, rfl, -, -, -⟩ := hs
  obtain ⟨fo, fc, rfl, j1, j2, -⟩ := id hF
  unfold maxLen at j2
  obtain ⟨m, m0, m1, m2⟩ : ∃ k : Nat, min (F0.length : Int) 50 = (k : Int) ∧ k ≤ F0.length ∧ k ≤ 50 := ⟨min F0.length 50, by omega, by omega, by omega⟩
  have hf1 := fds_take hF rfl m1
  have okF : ∀ f ∈ F0.take m, f.2.1.length ≤ 140737488351232 := fun f h => (okF0 f (List.mem_of_mem_take h)).2
  obtain ⟨F, hFF⟩ : ∃ F, F0.take m = F := ⟨_, rfl⟩
  rw [hFF] at hf1 okF
  have hu : ∀ A w, Own w0 A w → rd w 3 (.slice fo m fc) F.length (fds F) := fun A w h => hf1.old h
  have ok2 := cut_ok ok
  have G := own_begin w0
  clear hF hFF okF0 ok hf1
  obtain ⟨S, hS⟩ : ∃ S, cutSn s = S := ⟨_, rfl⟩
  go_enter Tryz.func3, Tryz.ntmps3
  go_wp2_with (first
    | ((with_reducible refine at_alloc ?_); refine wpu_new G ?_; clear G; intro w G)
    | ((with_reducible refine at_drew ?_); refine wpu_drew G ?_; clear G; intro w G)
    | fail)
  refine Calls.mono (shownC G) ?_
  clear G; rintro e w ⟨rfl, G⟩
  go_wp2_with (first
    | ((with_reducible refine at_alloc ?_); refine wpu_new G ?_; clear G; intro w G)
    | ((with_reducible refine at_drew ?_); refine wpu_drew G ?_; clear G; intro w G)
    | ((with_reducible refine at_load ?_); first
      | (refine wpu_load G rfl rfl rfl rfl ?_; go_frame)
      | (refine wpu_loadB G rfl rfl rfl (by rfl) ?_; go_frame)
      | (refine wpu_loadS G rfl rfl rfl (by rfl) ?_; simp only [List.drop_succ_cons, List.drop_zero, List.take_succ_cons, List.take_zero]; go_frame))
    | ((with_reducible refine at_store ?_); first
      | (refine wpu_store G rfl rfl rfl rfl (by first | rfl | assumption | simp [*]) rfl ?_; clear G; intro w G; go_frame)
      | (refine wpu_storeB G rfl rfl rfl rfl (by rfl) (by rfl) (by first | rfl | assumption | simp [*]) ?_; clear G; intro w G; go_frame)
      | (refine wpu_storeS G rfl rfl rfl rfl (by rfl) (by rfl) (by first | rfl | assumption | simp [*]) ?_; clear G; intro w G; go_frame))
    | ((with_reducible refine at_convert ?_); refine wpu_str G rfl rfl rfl rfl ?_; go_frame)
    | ((with_reducible refine at_slice ?_); first
      | (refine wpu_sliceLo rfl rfl rfl rfl (by first | rfl | omega) (by omega) (by omega) ?_; go_frame)
      | (refine wpu_sliceLH rfl rfl rfl rfl rfl (by first | rfl | omega) (by first | rfl | omega) (by omega) (by omega) ?_; go_frame))
    | fail)
  refine Calls.mono (cutC (hs0.old G)) ?_
  rintro e w1 ⟨nc, nh, rfl, G1⟩
  replace G := own_join G G1
  clear G1 hs0
  have o1 : nc.oneCell' = true := by obtain ⟨_, _, _, e0, _, g⟩ := own_snA G; injection e0 with _ e0; injection e0 with e1 _; rw [e1]; exact (own_rd g).one
  have o2 : nh.oneCell' = true := by obtain ⟨_, _, _, e0, _, g⟩ := own_snA G; injection e0 with _ e0; injection e0 with _ e0; injection e0 with e1 _; rw [e1]; exact (own_rd g.right).one
  rw [hS] at G ok2
  have hSv : S.version = s.version := by rw [← hS]; rfl
  clear hS
  obtain ⟨ver, hver⟩ : ∃ v, s.version = v := ⟨_, rfl⟩
  rw [hver] at G hSv ⊢
  clear hver
  obtain ⟨c, n, b, hV⟩ := findV_is (findR S F d)
  obtain ⟨ri, hri⟩ : ∃ b, rightR S = b := ⟨_, rfl⟩
  have HV := Lib.hid hV
  have HRI := Lib.hid hri
  clear hV hri
  go_wp2_with (first
    | ((with_reducible refine at_store ?_); refine wpu_storeB G rfl rfl rfl rfl (by rfl) (by rfl) (by simp only [List.all_cons, o1, o2]; rfl) ?_; clear G; intro w G; go_frame)
    | ((with_reducible refine at_alloc ?_); refine wpu_new G ?_; clear G; intro w G)
    | ((with_reducible refine at_drew ?_); refine wpu_drew G ?_; clear G; intro w G)
    | ((with_reducible refine at_load ?_); first
      | (refine wpu_load G rfl rfl rfl rfl ?_; go_frame)
      | (refine wpu_loadB G rfl rfl rfl (by rfl) ?_; go_frame)
      | (refine wpu_loadS G rfl rfl rfl (by rfl) ?_; simp only [List.drop_succ_cons, List.drop_zero, List.take_succ_cons, List.take_zero]; go_frame))
    | ((with_reducible refine at_store ?_); first
      | (refine wpu_store G rfl rfl rfl rfl (by first | rfl | assumption | simp [*]) rfl ?_; clear G; intro w G; go_frame)
      | (refine wpu_storeB G rfl rfl rfl rfl (by rfl) (by rfl) (by first | rfl | assumption | simp [*]) ?_; clear G; intro w G; go_frame)
      | (refine wpu_storeS G rfl rfl rfl rfl (by rfl) (by rfl) (by first | rfl | assumption | simp [*]) ?_; clear G; intro w G; go_frame))
    | ((with_reducible refine at_convert ?_); refine wpu_str G rfl rfl rfl rfl ?_; go_frame)
    | ((with_reducible refine at_slice ?_); first
      | (refine wpu_sliceLo rfl rfl rfl rfl (by first | rfl | omega) (by omega) (by omega) ?_; go_frame)
      | (refine wpu_sliceLH rfl rfl rfl rfl rfl (by first | rfl | omega) (by first | rfl | omega) (by omega) (by omega) ?_; go_frame))
    | fail)
  have HSN : Hid (∀ A u, Own w0 (snA [.int .i64 ver, nc, nh] S * A) u → rdSn u [.int .i64 ver, nc, nh] S) := Lib.hid (fun A u h => sn_read h)
  refine Calls.mono (findC (s := S) (F := F) (d := d) (HSN.out _ _ (G.pull (snA [.int .i64 ver, nc, nh] S))) ok2 (hu _ _ G) okF hd) ?_
  rintro e w2 ⟨rfl, hb⟩
  replace G := own_kept G hb
  clear hb
  rw [HV.out]
  go_wp2_with (first
    | ((with_reducible refine at_alloc ?_); refine wpu_new G ?_; clear G; intro w G)
    | ((with_reducible refine at_drew ?_); refine wpu_drew G ?_; clear G; intro w G)
    | ((with_reducible refine at_load ?_); first
      | (refine wpu_load G rfl rfl rfl rfl ?_; go_frame)
      | (refine wpu_loadB G rfl rfl rfl (by rfl) ?_; go_frame)
      | (refine wpu_loadS G rfl rfl rfl (by rfl) ?_; simp only [List.drop_succ_cons, List.drop_zero, List.take_succ_cons, List.take_zero]; go_frame))
    | ((with_reducible refine at_store ?_); first
      | (refine wpu_store G rfl rfl rfl rfl (by first | rfl | assumption | simp [*]) rfl ?_; clear G; intro w G; go_frame)
      | (refine wpu_storeB G rfl rfl rfl rfl (by rfl) (by rfl) (by first | rfl | assumption | simp [*]) ?_; clear G; intro w G; go_frame)
      | (refine wpu_storeS G rfl rfl rfl rfl (by rfl) (by rfl) (by first | rfl | assumption | simp [*]) ?_; clear G; intro w G; go_frame))
    | ((with_reducible refine at_convert ?_); refine wpu_str G rfl rfl rfl rfl ?_; go_frame)
    | ((with_reducible refine at_slice ?_); first
      | (refine wpu_sliceLo rfl rfl rfl rfl (by first | rfl | omega) (by omega) (by omega) ?_; go_frame)
      | (refine wpu_sliceLH rfl rfl rfl rfl rfl (by first | rfl | omega) (by first | rfl | omega) (by omega) (by omega) ?_; go_frame))
    | fail)
  refine Calls.mono (findRefC (s := S) (F := F) (d := d) (HSN.out _ _ (G.pull (snA [.int .i64 ver, nc, nh] S))) ok2 (hu _ _ G) okF hd) ?_
  rintro e w2 ⟨rfl, hb⟩
  replace G := own_kept G hb
  clear hb
  rw [HV.out]
  go_wp2_with (first
    | ((with_reducible refine at_alloc ?_); refine wpu_new G ?_; clear G; intro w G)
    | ((with_reducible refine at_drew ?_); refine wpu_drew G ?_; clear G; intro w G)
    | ((with_reducible refine at_load ?_); first
      | (refine wpu_load G rfl rfl rfl rfl ?_; go_frame)
      | (refine wpu_loadB G rfl rfl rfl (by rfl) ?_; go_frame)
      | (refine wpu_loadS G rfl rfl rfl (by rfl) ?_; simp only [List.drop_succ_cons, List.drop_zero, List.take_succ_cons, List.take_zero]; go_frame))
    | ((with_reducible refine at_store ?_); first
      | (refine wpu_store G rfl rfl rfl rfl (by first | rfl | assumption | simp [*]) rfl ?_; clear G; intro w G; go_frame)
      | (refine wpu_storeB G rfl rfl rfl rfl (by rfl) (by rfl) (by first | rfl | assumption | simp [*]) ?_; clear G; intro w G; go_frame)
      | (refine wpu_storeS G rfl rfl rfl rfl (by rfl) (by rfl) (by first | rfl | assumption | simp [*]) ?_; clear G; intro w G; go_frame))
    | ((with_reducible refine at_convert ?_); refine wpu_str G rfl rfl rfl rfl ?_; go_frame)
    | ((with_reducible refine at_slice ?_); first
      | (refine wpu_sliceLo rfl rfl rfl rfl (by first | rfl | omega) (by omega) (by omega) ?_; go_frame)
      | (refine wpu_sliceLH rfl rfl rfl rfl rfl (by first | rfl | omega) (by first | rfl | omega) (by omega) (by omega) ?_; go_frame))
    | fail)
  refine wp_region_mix [3, 3, 0, 1, 0, 1, 3, 3, 3, 3, 3, 3, 3, 3, 3, 3, 3, 3, 3, 3, 3, 3, 3, 3] (Own w0 _) (by kernel_rfl) (by kernel_rfl) (own_drew G) ?_
  refine mix_plain 2 (by rfl) (by rfl) ?_
  intro ι W hne
  dsimp only [List.take, List.drop]
  repeat (go_big_quiet_step (fail))
  refine wpQuiet_nil ?_
  clear hne W ι
  refine mix_calm 1 ((own_drew G)) (by rfl) (by rfl) ?_
  intro ι W hne hW
  dsimp only [List.take, List.drop]
  repeat (first | ((with_reducible refine atq_load ?_); first | (refine wpq_load hW rfl rfl rfl rfl ?_; go_frame) | (refine wpq_loadB hW rfl rfl rfl (by rfl) ?_; go_frame) | (refine wpq_loadS hW rfl rfl rfl (by rfl) ?_; simp only [List.drop_succ_cons, List.drop_zero, List.take_succ_cons, List.take_zero]; go_frame)) | (fail) | go_big_quiet_step (fail))
  refine wpQuiet_nil ?_
  clear  hW hne W ι
  refine mix_loud_g (by kernel_rfl) (fun K hK => ?_)
  go_wp2_with fail
  refine Calls.mono (rightC (s := S) (HSN.out _ _ ((own_drew G).pull (snA [.int .i64 ver, nc, nh] S))) ok2) ?_
  rintro e w3 ⟨rfl, hb⟩
  replace G := own_kept (own_drew G) hb
  clear hb
  rw [HRI.out]
  refine hK _ _ ⟨G, ?_⟩
  clear hK
  try go_frame
  refine mix_calm 1 (G) (by rfl) (by rfl) ?_
  intro ι W hne hW
  dsimp only [List.take, List.drop]
  repeat (first | ((with_reducible refine atq_load ?_); first | (refine wpq_load hW rfl rfl rfl rfl ?_; go_frame) | (refine wpq_loadB hW rfl rfl rfl (by rfl) ?_; go_frame) | (refine wpq_loadS hW rfl rfl rfl (by rfl) ?_; simp only [List.drop_succ_cons, List.drop_zero, List.take_succ_cons, List.take_zero]; go_frame)) | (fail) | go_big_quiet_step (fail))
  refine wpQuiet_nil ?_
  clear  hW hne W ι
  refine mix_loud_g (by kernel_rfl) (fun K hK => ?_)
  go_wp2_with fail
  refine Calls.mono (rightRefC (s := S) (HSN.out _ _ (G.pull (snA [.int .i64 ver, nc, nh] S))) ok2) ?_
  rintro e w4 ⟨rfl, hb⟩
  replace G := own_kept G hb
  clear hb
  rw [HRI.out]
  refine hK _ _ ⟨G, ?_⟩
  clear hK
  try go_frame
  refine mix_plain 18 (by rfl) (by rfl) ?_
  intro ι W hne
  dsimp only [List.take, List.drop]
  repeat (first | ((with_reducible refine atq_eqS ?_); refine wpq_eqS (b := true) rfl (by kernel_rfl) rfl rfl (by simp) ?_; go_frame) | go_big_quiet_step (fail))
  refine wpQuiet_nil ?_
  clear hne W ι
  refine mix_nil ?_
  go_wp2_with fail
  go_ret
  exact ⟨by simp, G.below⟩

theorem contract {H : Type} {enc : TypeId × Value → H} {W : World} {vs : List Value} {ds : List (DataW H)}
    (hA : Args enc Tryz.prog W [25, 26, 27] vs ds) (hsz : (DataW.weightsEach Tryz.prog [25, 26, 27] ds).all (· ≤ reachBytes) = true) (hL : laidMetH Tryz.prog Rows.routeFindsRow.laid W) :
    Calls Tryz.prog 3 vs.toArray W fun e W' => e = .returned (.bool true) ∧ Below W.heap.size W W' := by
  obtain ⟨v0, _, d0, _, rfl, rfl, h0, hA⟩ := args_cons hA
  obtain ⟨v1, _, d1, _, rfl, rfl, h1, hA⟩ := args_cons hA
  obtain ⟨v2, _, d2, _, rfl, rfl, h2, hA⟩ := args_cons hA
  obtain ⟨rfl, rfl⟩ := args_nil hA
  obtain ⟨cs, rfl, hz0⟩ := argz_struct Tryz.underlying25 h0 hsz 0 rfl rfl
  obtain ⟨s, ok, hs, -⟩ := snap_in hz0
  obtain ⟨F, hF, okF⟩ := fsz_in (argz_slice Tryz.underlying26 h1 hsz 1 rfl rfl)
  obtain ⟨d, rfl, hd⟩ := arg_u64 Tryz.underlying27 h2
  exact findsW hs ok hF okF hd





theorem spec {H : Type} : ∀ ds : List (DataW H), ds.length = 3 → Rows.routeFindsSpec.fn H ds = { results := [.lit (.bool true)], args := ds }
  | [_, _, _], _ => rfl
  | [], h => by cases h
  | [_], h => by cases h
  | [_, _], h => by cases h
  | _ :: _ :: _ :: _ :: _, h => by simp at h
theorem door_met (os : Os) (args : Array Value) : laidMetH Tryz.prog Rows.routeFindsRow.laid ((World.setRow (World.doorLaid Tryz.prog 19 os) (Tryz.prog.globalNamed "unicode/utf8.first").get! (Go.Pinned.utf8FirstZ.map fun z : Nat => Value.int .u8 (z : Int)).toArray).forCall (fun _ _ => 0) ⟨#[], args, []⟩).memory :=
  laidMetH_of_parts3 (fuel := 8) (laidMet_of_run' 8 (by kernel_rfl) (by kernel_rfl)) (by kernel_rfl) (by kernel_rfl)
set_option maxRecDepth 100000 in
theorem lifted (os : Os) (started : os.Started) (H : Type) (enc : TypeId × Value → H) :
    ReturnsInHanded {} Tryz.checked os 3 .any (fun w args => (Rows.routeFindsSpec.pre enc Tryz.prog Tryz.f3 Rows.routeFindsRow.domain false w args ∧ laidMetH Tryz.prog Rows.routeFindsRow.laid w) ∧ sizedMet enc Tryz.prog Tryz.f3 (OpenSpec.ofChange Rows.routeFindsSpec) false w args)
      (Rows.routeFindsSpec.post enc Tryz.prog Tryz.f3 false true false false) :=
  lifted_of_law_laid (C := Tryz.checked) (fn := Tryz.f3) (s := Rows.routeFindsSpec) (tb := 4) (by kernel_rfl) started (by kernel_rfl) Tryz.func3
    (ChangeSpec.witness_shaped (enc := enc) (C := Tryz.checked) (os := os) (X := fun w _ => laidMetH Tryz.prog Rows.routeFindsRow.laid w) false (World.setRow (World.doorLaid Tryz.prog 19 os) (Tryz.prog.globalNamed "unicode/utf8.first").get! (Go.Pinned.utf8FirstZ.map fun z : Nat => Value.int .u8 (z : Int)).toArray) #[.agg #[.int .i64 0, .slice none 0 0, .slice none 0 0], .slice none 0 0, .int .u64 0] 8 rfl (World.shaped_of_RefB (by kernel_rfl) (by kernel_rfl)) (by kernel_rfl) (by kernel_rfl) (by kernel_rfl) (door_met os _))
    rfl spec (by kernel_rfl) Tryz.underlying4 (by kernel_rfl) (by kernel_rfl) (fun _ _ _ h1 h2 h3 => contract h1 h2 h3)

theorem holds : Rows.RouteFindsSaid :=
  OpenClaim.holds_of_wide 3 Tryz.f3 rfl rfl rfl rfl rfl rfl rfl ⟨rfl, rfl, rfl, rfl, rfl⟩ rfl rfl rfl rfl rfl (by kernel_rfl) Tryz.func3 (by kernel_rfl)
    (of_decide_eq_true (by kernel_rfl)) (by unfold Func.isWrapper; first | (rw [if_pos (by decide +kernel)]; kernel_rfl) | (rw [if_neg (by decide +kernel)]; exact ⟨rfl, rfl⟩))
    (fun os started H enc _ => lifted os started H enc)

theorem proved : Rows.RouteFindsCardSaid :=
  Claim7.holds_tied_plain_at .later [] [.data, .pinned] true (true, "3e9a09b53cdb5fd82ef94f17ec629a3acb9d8708cbfe8ab5a02125ed5b670614") false
    holds (fun _ h => by cases h) (by kernel_rfl) (fun _ h => by cases h) routeFinds_row_tie rfl ⟨rfl, rfl⟩ (by kernel_rfl) rfl
    (fun f fn hf hfn => by
      obtain rfl : f = 3 := Option.some.inj ((show Tryz.prog.funcNamed "flume/flumelaw16.RouteFinds" = some 3 by kernel_rfl).symm.trans hf) |>.symm
      obtain rfl : fn = Tryz.f3 := (Option.some.inj (Tryz.func3.symm.trans hfn)).symm
      exact ⟨by kernel_rfl, fun j t ht => by
        rw [Tryz.params3] at ht
        have hm : t ∈ [25, 26, 27] := by simpa using Array.mem_of_getElem? ht
        have hall : ([25, 26, 27].all fun u => !Tryz.prog.wantsStandIn u) = true := by kernel_rfl
        exact (show Tryz.prog.wantsStandIn t = false by simpa using List.all_eq_true.1 hall t hm)⟩)
    (by kernel_rfl)
end Go.Proofs.YtjcpfldobiekbaaGreatDoor.routeFinds
