

/-
  FieldsForward: what goes on is right, if it was.
-/
import Derived.Test.YtikngjdljdofkaaDoorFmEnd
import Derived.Test.YtikngjdljdofkaaDoorLawD
import Derived.Test.YtikngjdljdofkaaDoorTie
import Derived.Test.YtikngjdljdofkaaDoorCards
import Derived.SevenTiedAt
namespace Go.Proofs.YtikngjdljdofkaaDoor.fieldsForward
open Go.RowKit Go.Sl Go.ChangeShapes


set_option maxHeartbeats 16000000 in
set_option maxRecDepth 100000 in
theorem fwdW {w0 : World} {v0 : Value} {L0 : List Fd} (h0 : rd w0 3 v0 L0.length (fds L0)) (hv0 : ∀ f ∈ L0, f.1.length ≤ 9223372036854775807 ∧ f.2.1.length ≤ 9223372036854775807) :
    Calls Tryd.prog 9 #[v0] w0 fun e w' => e = .returned (.bool true) ∧ Below w0.heap.size w0 w' := by
  have G := own_begin w0
  go_enter Tryd.func9, Tryd.ntmps9
  go_wp2_with fail
  refine Calls.mono (shownFm G) ?_
  clear G; rintro e w ⟨rfl, G⟩
  go_wp2_with fail
  refine Calls.mono (fewC (L := L0) (n := 200) (by decide) G (fun w h => h0.old h) hv0) ?_
  clear G; rintro e w ⟨v, rfl, G⟩
  obtain ⟨s1, s2⟩ := small_few (L := L0) (n := 200) (by decide)
  generalize fewR L0 200 = L at G s1 s2
  clear h0 hv0
  go_wp2_with fail
  refine Calls.mono (forwardC (L := L) s2 G (fun w h => own_rd h)) ?_
  clear G; rintro e w ⟨u, rfl, G⟩
  obtain ⟨W, hW⟩ : ∃ W, forwardR L = W := ⟨_, rfl⟩
  have HW := Lib.hid hW
  rw [hW] at G
  have r1 : ∀ f ∈ W, f.1.length ≤ 1000000 ∧ f.2.1.length ≤ 1000000 := fun f hf => s1 f (by rw [← hW] at hf; exact (List.mem_filter.1 hf).1)
  have r2 : W.length ≤ 1000 := by rw [← hW]; exact Nat.le_trans (List.length_filter_le _ _) s2
  clear hW
  go_wp2_with fail
  refine Calls.mono (forwardC (L := W) r2 G (fun w h => own_rd h)) ?_
  clear G; rintro e w ⟨x, rfl, G⟩
  rw [show forwardR W = W by rw [← HW.out, forward_again]] at G
  go_wp2_with fail
  refine Calls.mono (sameC (X := W) (Y := W) G (fun w h => own_rd h) (fun w h => own_rd h.right)) ?_
  clear G; rintro e w ⟨rfl, G⟩
  rw [show decide (W = W) = true by simp]
  have hl : ∀ {X : Assn} [Sub (sl 3 v L.length (fds L)) X] (w : World), Own w0 X w → rd w 3 v L.length (fds L) := fun w h => own_rd ((h.sub (sl 3 v L.length (fds L))).eq (star_emp _).symm)
  have hw : ∀ {X : Assn} [Sub (sl 3 u W.length (fds W)) X] (w : World), Own w0 X w → rd w 3 u W.length (fds W) := fun w h => own_rd ((h.sub (sl 3 u W.length (fds W))).eq (star_emp _).symm)
  obtain ⟨m, b, hm, hb, hmb⟩ := msgV_eq (requestR L)
  obtain ⟨n, c, hn, hc, hnc⟩ := msgV_eq (responseR L)
  obtain ⟨m', b', HM', hbb⟩ : ∃ (m' : Msg) (b' : Bool), Hid (msgV (requestR W) = .tuple #[.agg #[str m'.method, str m'.scheme, str m'.authority, str m'.path, .int .i64 m'.status, .int .i64 m'.len], .bool b']) ∧ (b = true → m' = m ∧ b' = true) := by
    cases e : b with
    | true => exact ⟨m, true, Lib.hid (by rw [← HW.out, request_forward (hmb e), ← hmb e, hm, e]), fun _ => ⟨rfl, rfl⟩⟩
    | false => obtain ⟨m', b', h1, -, -⟩ := msgV_eq (requestR W); exact ⟨m', b', Lib.hid h1, fun h => by cases h⟩
  obtain ⟨n', c', HN', hcc⟩ : ∃ (m' : Msg) (b' : Bool), Hid (msgV (responseR W) = .tuple #[.agg #[str m'.method, str m'.scheme, str m'.authority, str m'.path, .int .i64 m'.status, .int .i64 m'.len], .bool b']) ∧ (c = true → m' = n ∧ b' = true) := by
    cases e : c with
    | true => exact ⟨n, true, Lib.hid (by rw [← HW.out, response_forward (hnc e), ← hnc e, hn, e]), fun _ => ⟨rfl, rfl⟩⟩
    | false => obtain ⟨m', b', h1, -, -⟩ := msgV_eq (responseR W); exact ⟨m', b', Lib.hid h1, fun h => by cases h⟩
  have HM := Lib.hid hm
  have HN := Lib.hid hn
  obtain ⟨t, ht⟩ : ∃ t, trailersR L = t := ⟨_, rfl⟩
  obtain ⟨t', ht'⟩ : ∃ t, trailersR W = t := ⟨_, rfl⟩
  have HT := Lib.hid ht
  have HTW := Lib.hid ht'
  have htt : t = true → t' = true := fun e => by rw [← ht', ← HW.out]; exact trailers_forward (ht.trans e)
  obtain ⟨z1, hz1⟩ : ∃ z, sizeR L = z := ⟨_, rfl⟩
  obtain ⟨z2, hz2⟩ : ∃ z, sizeR W = z := ⟨_, rfl⟩
  have hzz : z2 ≤ z1 := by rw [← hz1, ← hz2, ← HW.out]; exact size_forward L
  have HS1 := Lib.hid hz1
  have HS2 := Lib.hid hz2
  have y1 : decide ((z2 : Int) ≤ (z1 : Int)) = true := by simp; omega
  have y2 : decide (z2 ≤ z1) = true := by simp; omega
  clear hm hb hmb hn hc hnc ht ht' hz1 hz2 hzz
  go_wp2_with fail
  refine Calls.mono (requestC (L := L) s1 s2 G hl) ?_
  clear G; rintro e w ⟨rfl, G⟩
  rw [HM.out]
  go_wp2_with (first
    | (go_at_call 13; refine hold ?_)
    | ((with_reducible refine at_alloc ?_); refine wpu_new G ?_; clear G; intro w G)
    | ((with_reducible refine at_drew ?_); refine wpu_drew G ?_; clear G; intro w G)
    | ((with_reducible refine at_load ?_); first
      | (refine wpu_load G rfl rfl rfl rfl ?_; go_frame)
      | (refine wpu_loadB G rfl rfl rfl (by rfl) ?_; go_frame)
      | (refine wpu_loadS G rfl rfl rfl (by rfl) ?_; simp only [List.drop_succ_cons, List.drop_zero, List.take_succ_cons, List.take_zero]; go_frame))
    | ((with_reducible refine at_store ?_); first
      | (refine wpu_store G rfl rfl rfl rfl (by first | rfl | assumption | simp [*]) rfl ?_; clear G; intro w G; go_frame)
      | (refine wpu_storeB G rfl rfl rfl rfl (by rfl) (by rfl) (by first | rfl | assumption | simp [*]) ?_; clear G; intro w G; go_frame)
      | (refine wpu_storeS G rfl rfl rfl rfl (by rfl) (by rfl) (by first | rfl | assumption | simp [*]) ?_; clear G; intro w G; go_frame))
    | ((with_reducible refine at_convert ?_); refine wpu_str G rfl rfl rfl rfl ?_; go_frame)
    | ((with_reducible refine at_slice ?_); first
      | (refine wpu_sliceLo rfl rfl rfl rfl (by first | rfl | omega) (by omega) (by omega) ?_; go_frame)
      | (refine wpu_sliceLH rfl rfl rfl rfl rfl (by first | rfl | omega) (by first | rfl | omega) (by omega) (by omega) ?_; go_frame))
    | fail)
  unfold Held
  refine Calls.mono (requestC (L := W) r1 r2 G hw) ?_
  clear G; rintro e w ⟨rfl, G⟩
  rw [HM'.out]
  go_wp2_with (first
    | (go_at_call 14; refine hold ?_)
    | ((with_reducible refine at_alloc ?_); refine wpu_new G ?_; clear G; intro w G)
    | ((with_reducible refine at_drew ?_); refine wpu_drew G ?_; clear G; intro w G)
    | ((with_reducible refine at_load ?_); first
      | (refine wpu_load G rfl rfl rfl rfl ?_; go_frame)
      | (refine wpu_loadB G rfl rfl rfl (by rfl) ?_; go_frame)
      | (refine wpu_loadS G rfl rfl rfl (by rfl) ?_; simp only [List.drop_succ_cons, List.drop_zero, List.take_succ_cons, List.take_zero]; go_frame))
    | ((with_reducible refine at_store ?_); first
      | (refine wpu_store G rfl rfl rfl rfl (by first | rfl | assumption | simp [*]) rfl ?_; clear G; intro w G; go_frame)
      | (refine wpu_storeB G rfl rfl rfl rfl (by rfl) (by rfl) (by first | rfl | assumption | simp [*]) ?_; clear G; intro w G; go_frame)
      | (refine wpu_storeS G rfl rfl rfl rfl (by rfl) (by rfl) (by first | rfl | assumption | simp [*]) ?_; clear G; intro w G; go_frame))
    | ((with_reducible refine at_convert ?_); refine wpu_str G rfl rfl rfl rfl ?_; go_frame)
    | ((with_reducible refine at_slice ?_); first
      | (refine wpu_sliceLo rfl rfl rfl rfl (by first | rfl | omega) (by omega) (by omega) ?_; go_frame)
      | (refine wpu_sliceLH rfl rfl rfl rfl rfl (by first | rfl | omega) (by first | rfl | omega) (by omega) (by omega) ?_; go_frame))
    | fail)
  unfold Held
  refine Calls.mono (responseC (L := L) s1 s2 G hl) ?_
  clear G; rintro e w ⟨rfl, G⟩
  rw [HN.out]
  go_wp2_with (first
    | (go_at_call 14; refine hold ?_)
    | ((with_reducible refine at_alloc ?_); refine wpu_new G ?_; clear G; intro w G)
    | ((with_reducible refine at_drew ?_); refine wpu_drew G ?_; clear G; intro w G)
    | ((with_reducible refine at_load ?_); first
      | (refine wpu_load G rfl rfl rfl rfl ?_; go_frame)
      | (refine wpu_loadB G rfl rfl rfl (by rfl) ?_; go_frame)
      | (refine wpu_loadS G rfl rfl rfl (by rfl) ?_; simp only [List.drop_succ_cons, List.drop_zero, List.take_succ_cons, List.take_zero]; go_frame))
    | ((with_reducible refine at_store ?_); first
      | (refine wpu_store G rfl rfl rfl rfl (by first | rfl | assumption | simp [*]) rfl ?_; clear G; intro w G; go_frame)
      | (refine wpu_storeB G rfl rfl rfl rfl (by rfl) (by rfl) (by first | rfl | assumption | simp [*]) ?_; clear G; intro w G; go_frame)
      | (refine wpu_storeS G rfl rfl rfl rfl (by rfl) (by rfl) (by first | rfl | assumption | simp [*]) ?_; clear G; intro w G; go_frame))
    | ((with_reducible refine at_convert ?_); refine wpu_str G rfl rfl rfl rfl ?_; go_frame)
    | ((with_reducible refine at_slice ?_); first
      | (refine wpu_sliceLo rfl rfl rfl rfl (by first | rfl | omega) (by omega) (by omega) ?_; go_frame)
      | (refine wpu_sliceLH rfl rfl rfl rfl rfl (by first | rfl | omega) (by first | rfl | omega) (by omega) (by omega) ?_; go_frame))
    | fail)
  unfold Held
  refine Calls.mono (responseC (L := W) r1 r2 G hw) ?_
  clear G; rintro e w ⟨rfl, G⟩
  rw [HN'.out]
  cases b
  · clear hbb
    cases c
    · clear hcc
      cases t
      · clear htt
        skip
        as_aux_lemma =>
        go_wp2_with (first
          | ((with_reducible refine at_eqM ?_); refine wpu_val (by kernel_rfl) (exec_eqM rfl rfl rfl) ?_; go_frame)
          | (go_at_call 15; first
            | (refine Calls.mono (trailersC (L := L) s1 s2 G hl) ?_; clear G; rintro e w ⟨rfl, G⟩; rw [HT.out])
            | (refine Calls.mono (trailersC (L := W) r1 r2 G hw) ?_; clear G; rintro e w ⟨rfl, G⟩; rw [HTW.out]))
          | (go_at_call 17; first
            | (refine Calls.mono (sizeC (L := W) r1 r2 G hw) ?_; clear G; rintro e w ⟨rfl, G⟩; rw [HS2.out])
            | (refine Calls.mono (sizeC (L := L) s1 s2 G hl) ?_; clear G; rintro e w ⟨rfl, G⟩; rw [HS1.out]))
          | ((with_reducible refine at_alloc ?_); refine wpu_new G ?_; clear G; intro w G)
          | ((with_reducible refine at_drew ?_); refine wpu_drew G ?_; clear G; intro w G)
          | go_big_skip
          | ((with_reducible refine at_load ?_); first
            | (refine wpu_load G rfl (by kernel_rfl) rfl rfl ?_; go_frame)
            | (refine wpu_loadB G rfl (by kernel_rfl) rfl (by rfl) ?_; go_frame)
            | (refine wpu_loadS G rfl (by kernel_rfl) rfl (by rfl) ?_; simp only [List.drop_succ_cons, List.drop_zero, List.take_succ_cons, List.take_zero]; go_frame))
          | ((with_reducible refine at_store ?_); first
            | (refine wpu_store G rfl (by kernel_rfl) rfl rfl (by first | rfl | assumption | simp [*]) rfl ?_; clear G; intro w G; go_frame)
            | (refine wpu_storeB G rfl (by kernel_rfl) rfl rfl (by rfl) (by rfl) (by first | rfl | assumption | simp [*]) ?_; clear G; intro w G; go_frame)
            | (refine wpu_storeS G rfl (by kernel_rfl) rfl rfl (by rfl) (by rfl) (by first | rfl | assumption | simp [*]) ?_; clear G; intro w G; go_frame))
          | ((with_reducible refine at_convert ?_); refine wpu_str G rfl (by kernel_rfl) rfl rfl ?_; go_frame)
          | fail)
        go_ret
        exact ⟨rfl, G.below⟩
      · obtain rfl := htt rfl
        clear htt
        skip
        as_aux_lemma =>
        go_wp2_with (first
          | ((with_reducible refine at_eqM ?_); refine wpu_val (by kernel_rfl) (exec_eqM rfl rfl rfl) ?_; go_frame)
          | (go_at_call 15; first
            | (refine Calls.mono (trailersC (L := L) s1 s2 G hl) ?_; clear G; rintro e w ⟨rfl, G⟩; rw [HT.out])
            | (refine Calls.mono (trailersC (L := W) r1 r2 G hw) ?_; clear G; rintro e w ⟨rfl, G⟩; rw [HTW.out]))
          | (go_at_call 17; first
            | (refine Calls.mono (sizeC (L := W) r1 r2 G hw) ?_; clear G; rintro e w ⟨rfl, G⟩; rw [HS2.out])
            | (refine Calls.mono (sizeC (L := L) s1 s2 G hl) ?_; clear G; rintro e w ⟨rfl, G⟩; rw [HS1.out]))
          | ((with_reducible refine at_alloc ?_); refine wpu_new G ?_; clear G; intro w G)
          | ((with_reducible refine at_drew ?_); refine wpu_drew G ?_; clear G; intro w G)
          | go_big_skip
          | ((with_reducible refine at_load ?_); first
            | (refine wpu_load G rfl (by kernel_rfl) rfl rfl ?_; go_frame)
            | (refine wpu_loadB G rfl (by kernel_rfl) rfl (by rfl) ?_; go_frame)
            | (refine wpu_loadS G rfl (by kernel_rfl) rfl (by rfl) ?_; simp only [List.drop_succ_cons, List.drop_zero, List.take_succ_cons, List.take_zero]; go_frame))
          | ((with_reducible refine at_store ?_); first
            | (refine wpu_store G rfl (by kernel_rfl) rfl rfl (by first | rfl | assumption | simp [*]) rfl ?_; clear G; intro w G; go_frame)
            | (refine wpu_storeB G rfl (by kernel_rfl) rfl rfl (by rfl) (by rfl) (by first | rfl | assumption | simp [*]) ?_; clear G; intro w G; go_frame)
            | (refine wpu_storeS G rfl (by kernel_rfl) rfl rfl (by rfl) (by rfl) (by first | rfl | assumption | simp [*]) ?_; clear G; intro w G; go_frame))
          | ((with_reducible refine at_convert ?_); refine wpu_str G rfl (by kernel_rfl) rfl rfl ?_; go_frame)
          | fail)
        go_ret
        exact ⟨rfl, G.below⟩
    · obtain ⟨rfl, rfl⟩ := hcc rfl
      clear hcc
      cases t
      · clear htt
        skip
        as_aux_lemma =>
        go_wp2_with (first
          | ((with_reducible refine at_eqM ?_); refine wpu_val (by kernel_rfl) (exec_eqM rfl rfl rfl) ?_; go_frame)
          | (go_at_call 15; first
            | (refine Calls.mono (trailersC (L := L) s1 s2 G hl) ?_; clear G; rintro e w ⟨rfl, G⟩; rw [HT.out])
            | (refine Calls.mono (trailersC (L := W) r1 r2 G hw) ?_; clear G; rintro e w ⟨rfl, G⟩; rw [HTW.out]))
          | (go_at_call 17; first
            | (refine Calls.mono (sizeC (L := W) r1 r2 G hw) ?_; clear G; rintro e w ⟨rfl, G⟩; rw [HS2.out])
            | (refine Calls.mono (sizeC (L := L) s1 s2 G hl) ?_; clear G; rintro e w ⟨rfl, G⟩; rw [HS1.out]))
          | ((with_reducible refine at_alloc ?_); refine wpu_new G ?_; clear G; intro w G)
          | ((with_reducible refine at_drew ?_); refine wpu_drew G ?_; clear G; intro w G)
          | go_big_skip
          | ((with_reducible refine at_load ?_); first
            | (refine wpu_load G rfl (by kernel_rfl) rfl rfl ?_; go_frame)
            | (refine wpu_loadB G rfl (by kernel_rfl) rfl (by rfl) ?_; go_frame)
            | (refine wpu_loadS G rfl (by kernel_rfl) rfl (by rfl) ?_; simp only [List.drop_succ_cons, List.drop_zero, List.take_succ_cons, List.take_zero]; go_frame))
          | ((with_reducible refine at_store ?_); first
            | (refine wpu_store G rfl (by kernel_rfl) rfl rfl (by first | rfl | assumption | simp [*]) rfl ?_; clear G; intro w G; go_frame)
            | (refine wpu_storeB G rfl (by kernel_rfl) rfl rfl (by rfl) (by rfl) (by first | rfl | assumption | simp [*]) ?_; clear G; intro w G; go_frame)
            | (refine wpu_storeS G rfl (by kernel_rfl) rfl rfl (by rfl) (by rfl) (by first | rfl | assumption | simp [*]) ?_; clear G; intro w G; go_frame))
          | ((with_reducible refine at_convert ?_); refine wpu_str G rfl (by kernel_rfl) rfl rfl ?_; go_frame)
          | fail)
        go_ret
        exact ⟨rfl, G.below⟩
      · obtain rfl := htt rfl
        clear htt
        skip
        as_aux_lemma =>
        go_wp2_with (first
          | ((with_reducible refine at_eqM ?_); refine wpu_val (by kernel_rfl) (exec_eqM rfl rfl rfl) ?_; go_frame)
          | (go_at_call 15; first
            | (refine Calls.mono (trailersC (L := L) s1 s2 G hl) ?_; clear G; rintro e w ⟨rfl, G⟩; rw [HT.out])
            | (refine Calls.mono (trailersC (L := W) r1 r2 G hw) ?_; clear G; rintro e w ⟨rfl, G⟩; rw [HTW.out]))
          | (go_at_call 17; first
            | (refine Calls.mono (sizeC (L := W) r1 r2 G hw) ?_; clear G; rintro e w ⟨rfl, G⟩; rw [HS2.out])
            | (refine Calls.mono (sizeC (L := L) s1 s2 G hl) ?_; clear G; rintro e w ⟨rfl, G⟩; rw [HS1.out]))
          | ((with_reducible refine at_alloc ?_); refine wpu_new G ?_; clear G; intro w G)
          | ((with_reducible refine at_drew ?_); refine wpu_drew G ?_; clear G; intro w G)
          | go_big_skip
          | ((with_reducible refine at_load ?_); first
            | (refine wpu_load G rfl (by kernel_rfl) rfl rfl ?_; go_frame)
            | (refine wpu_loadB G rfl (by kernel_rfl) rfl (by rfl) ?_; go_frame)
            | (refine wpu_loadS G rfl (by kernel_rfl) rfl (by rfl) ?_; simp only [List.drop_succ_cons, List.drop_zero, List.take_succ_cons, List.take_zero]; go_frame))
          | ((with_reducible refine at_store ?_); first
            | (refine wpu_store G rfl (by kernel_rfl) rfl rfl (by first | rfl | assumption | simp [*]) rfl ?_; clear G; intro w G; go_frame)
            | (refine wpu_storeB G rfl (by kernel_rfl) rfl rfl (by rfl) (by rfl) (by first | rfl | assumption | simp [*]) ?_; clear G; intro w G; go_frame)
            | (refine wpu_storeS G rfl (by kernel_rfl) rfl rfl (by rfl) (by rfl) (by first | rfl | assumption | simp [*]) ?_; clear G; intro w G; go_frame))
          | ((with_reducible refine at_convert ?_); refine wpu_str G rfl (by kernel_rfl) rfl rfl ?_; go_frame)
          | fail)
        go_ret
        exact ⟨rfl, G.below⟩
  · obtain ⟨rfl, rfl⟩ := hbb rfl
    clear hbb
    cases c
    · clear hcc
      cases t
      · clear htt
        skip
        as_aux_lemma =>
        go_wp2_with (first
          | ((with_reducible refine at_eqM ?_); refine wpu_val (by kernel_rfl) (exec_eqM rfl rfl rfl) ?_; go_frame)
          | (go_at_call 15; first
            | (refine Calls.mono (trailersC (L := L) s1 s2 G hl) ?_; clear G; rintro e w ⟨rfl, G⟩; rw [HT.out])
            | (refine Calls.mono (trailersC (L := W) r1 r2 G hw) ?_; clear G; rintro e w ⟨rfl, G⟩; rw [HTW.out]))
          | (go_at_call 17; first
            | (refine Calls.mono (sizeC (L := W) r1 r2 G hw) ?_; clear G; rintro e w ⟨rfl, G⟩; rw [HS2.out])
            | (refine Calls.mono (sizeC (L := L) s1 s2 G hl) ?_; clear G; rintro e w ⟨rfl, G⟩; rw [HS1.out]))
          | ((with_reducible refine at_alloc ?_); refine wpu_new G ?_; clear G; intro w G)
          | ((with_reducible refine at_drew ?_); refine wpu_drew G ?_; clear G; intro w G)
          | go_big_skip
          | ((with_reducible refine at_load ?_); first
            | (refine wpu_load G rfl (by kernel_rfl) rfl rfl ?_; go_frame)
            | (refine wpu_loadB G rfl (by kernel_rfl) rfl (by rfl) ?_; go_frame)
            | (refine wpu_loadS G rfl (by kernel_rfl) rfl (by rfl) ?_; simp only [List.drop_succ_cons, List.drop_zero, List.take_succ_cons, List.take_zero]; go_frame))
          | ((with_reducible refine at_store ?_); first
            | (refine wpu_store G rfl (by kernel_rfl) rfl rfl (by first | rfl | assumption | simp [*]) rfl ?_; clear G; intro w G; go_frame)
            | (refine wpu_storeB G rfl (by kernel_rfl) rfl rfl (by rfl) (by rfl) (by first | rfl | assumption | simp [*]) ?_; clear G; intro w G; go_frame)
            | (refine wpu_storeS G rfl (by kernel_rfl) rfl rfl (by rfl) (by rfl) (by first | rfl | assumption | simp [*]) ?_; clear G; intro w G; go_frame))
          | ((with_reducible refine at_convert ?_); refine wpu_str G rfl (by kernel_rfl) rfl rfl ?_; go_frame)
          | fail)
        go_ret
        exact ⟨rfl, G.below⟩
      · obtain rfl := htt rfl
        clear htt
        skip
        as_aux_lemma =>
        go_wp2_with (first
          | ((with_reducible refine at_eqM ?_); refine wpu_val (by kernel_rfl) (exec_eqM rfl rfl rfl) ?_; go_frame)
          | (go_at_call 15; first
            | (refine Calls.mono (trailersC (L := L) s1 s2 G hl) ?_; clear G; rintro e w ⟨rfl, G⟩; rw [HT.out])
            | (refine Calls.mono (trailersC (L := W) r1 r2 G hw) ?_; clear G; rintro e w ⟨rfl, G⟩; rw [HTW.out]))
          | (go_at_call 17; first
            | (refine Calls.mono (sizeC (L := W) r1 r2 G hw) ?_; clear G; rintro e w ⟨rfl, G⟩; rw [HS2.out])
            | (refine Calls.mono (sizeC (L := L) s1 s2 G hl) ?_; clear G; rintro e w ⟨rfl, G⟩; rw [HS1.out]))
          | ((with_reducible refine at_alloc ?_); refine wpu_new G ?_; clear G; intro w G)
          | ((with_reducible refine at_drew ?_); refine wpu_drew G ?_; clear G; intro w G)
          | go_big_skip
          | ((with_reducible refine at_load ?_); first
            | (refine wpu_load G rfl (by kernel_rfl) rfl rfl ?_; go_frame)
            | (refine wpu_loadB G rfl (by kernel_rfl) rfl (by rfl) ?_; go_frame)
            | (refine wpu_loadS G rfl (by kernel_rfl) rfl (by rfl) ?_; simp only [List.drop_succ_cons, List.drop_zero, List.take_succ_cons, List.take_zero]; go_frame))
          | ((with_reducible refine at_store ?_); first
            | (refine wpu_store G rfl (by kernel_rfl) rfl rfl (by first | rfl | assumption | simp [*]) rfl ?_; clear G; intro w G; go_frame)
            | (refine wpu_storeB G rfl (by kernel_rfl) rfl rfl (by rfl) (by rfl) (by first | rfl | assumption | simp [*]) ?_; clear G; intro w G; go_frame)
            | (refine wpu_storeS G rfl (by kernel_rfl) rfl rfl (by rfl) (by rfl) (by first | rfl | assumption | simp [*]) ?_; clear G; intro w G; go_frame))
          | ((with_reducible refine at_convert ?_); refine wpu_str G rfl (by kernel_rfl) rfl rfl ?_; go_frame)
          | fail)
        go_ret
        exact ⟨rfl, G.below⟩
    · obtain ⟨rfl, rfl⟩ := hcc rfl
      clear hcc
      cases t
      · clear htt
        skip
        as_aux_lemma =>
        go_wp2_with (first
          | ((with_reducible refine at_eqM ?_); refine wpu_val (by kernel_rfl) (exec_eqM rfl rfl rfl) ?_; go_frame)
          | (go_at_call 15; first
            | (refine Calls.mono (trailersC (L := L) s1 s2 G hl) ?_; clear G; rintro e w ⟨rfl, G⟩; rw [HT.out])
            | (refine Calls.mono (trailersC (L := W) r1 r2 G hw) ?_; clear G; rintro e w ⟨rfl, G⟩; rw [HTW.out]))
          | (go_at_call 17; first
            | (refine Calls.mono (sizeC (L := W) r1 r2 G hw) ?_; clear G; rintro e w ⟨rfl, G⟩; rw [HS2.out])
            | (refine Calls.mono (sizeC (L := L) s1 s2 G hl) ?_; clear G; rintro e w ⟨rfl, G⟩; rw [HS1.out]))
          | ((with_reducible refine at_alloc ?_); refine wpu_new G ?_; clear G; intro w G)
          | ((with_reducible refine at_drew ?_); refine wpu_drew G ?_; clear G; intro w G)
          | go_big_skip
          | ((with_reducible refine at_load ?_); first
            | (refine wpu_load G rfl (by kernel_rfl) rfl rfl ?_; go_frame)
            | (refine wpu_loadB G rfl (by kernel_rfl) rfl (by rfl) ?_; go_frame)
            | (refine wpu_loadS G rfl (by kernel_rfl) rfl (by rfl) ?_; simp only [List.drop_succ_cons, List.drop_zero, List.take_succ_cons, List.take_zero]; go_frame))
          | ((with_reducible refine at_store ?_); first
            | (refine wpu_store G rfl (by kernel_rfl) rfl rfl (by first | rfl | assumption | simp [*]) rfl ?_; clear G; intro w G; go_frame)
            | (refine wpu_storeB G rfl (by kernel_rfl) rfl rfl (by rfl) (by rfl) (by first | rfl | assumption | simp [*]) ?_; clear G; intro w G; go_frame)
            | (refine wpu_storeS G rfl (by kernel_rfl) rfl rfl (by rfl) (by rfl) (by first | rfl | assumption | simp [*]) ?_; clear G; intro w G; go_frame))
          | ((with_reducible refine at_convert ?_); refine wpu_str G rfl (by kernel_rfl) rfl rfl ?_; go_frame)
          | fail)
        go_ret
        exact ⟨rfl, G.below⟩
      · obtain rfl := htt rfl
        clear htt
        skip
        as_aux_lemma =>
        go_wp2_with (first
          | ((with_reducible refine at_eqM ?_); refine wpu_val (by kernel_rfl) (exec_eqM rfl rfl rfl) ?_; go_frame)
          | (go_at_call 15; first
            | (refine Calls.mono (trailersC (L := L) s1 s2 G hl) ?_; clear G; rintro e w ⟨rfl, G⟩; rw [HT.out])
            | (refine Calls.mono (trailersC (L := W) r1 r2 G hw) ?_; clear G; rintro e w ⟨rfl, G⟩; rw [HTW.out]))
          | (go_at_call 17; first
            | (refine Calls.mono (sizeC (L := W) r1 r2 G hw) ?_; clear G; rintro e w ⟨rfl, G⟩; rw [HS2.out])
            | (refine Calls.mono (sizeC (L := L) s1 s2 G hl) ?_; clear G; rintro e w ⟨rfl, G⟩; rw [HS1.out]))
          | ((with_reducible refine at_alloc ?_); refine wpu_new G ?_; clear G; intro w G)
          | ((with_reducible refine at_drew ?_); refine wpu_drew G ?_; clear G; intro w G)
          | go_big_skip
          | ((with_reducible refine at_load ?_); first
            | (refine wpu_load G rfl (by kernel_rfl) rfl rfl ?_; go_frame)
            | (refine wpu_loadB G rfl (by kernel_rfl) rfl (by rfl) ?_; go_frame)
            | (refine wpu_loadS G rfl (by kernel_rfl) rfl (by rfl) ?_; simp only [List.drop_succ_cons, List.drop_zero, List.take_succ_cons, List.take_zero]; go_frame))
          | ((with_reducible refine at_store ?_); first
            | (refine wpu_store G rfl (by kernel_rfl) rfl rfl (by first | rfl | assumption | simp [*]) rfl ?_; clear G; intro w G; go_frame)
            | (refine wpu_storeB G rfl (by kernel_rfl) rfl rfl (by rfl) (by rfl) (by first | rfl | assumption | simp [*]) ?_; clear G; intro w G; go_frame)
            | (refine wpu_storeS G rfl (by kernel_rfl) rfl rfl (by rfl) (by rfl) (by first | rfl | assumption | simp [*]) ?_; clear G; intro w G; go_frame))
          | ((with_reducible refine at_convert ?_); refine wpu_str G rfl (by kernel_rfl) rfl rfl ?_; go_frame)
          | fail)
        go_ret
        exact ⟨rfl, G.below⟩

theorem contract {H : Type} {enc : TypeId × Value → H} {W : World} {vs : List Value} {ds : List (DataW H)}
    (hA : Args enc Tryd.prog W [22] vs ds) (hsz : (DataW.weightsEach Tryd.prog [22] ds).all (· ≤ reachBytes) = true) (hL : laidMetH Tryd.prog Rows.fieldsForwardRow.laid W) :
    Calls Tryd.prog 9 vs.toArray W fun e W' => e = .returned (.bool true) ∧ Below W.heap.size W W' := by
  obtain ⟨v0, _, d0, _, rfl, rfl, h0, hA⟩ := args_cons hA
  obtain ⟨rfl, rfl⟩ := args_nil hA
  obtain ⟨F, hf, kf⟩ := fds_in h0
  exact fwdW hf kf



theorem spec {H : Type} : ∀ ds : List (DataW H), ds.length = 1 → Rows.fieldsForwardSpec.fn H ds = { results := [.lit (.bool true)], args := ds }
  | [_], _ => rfl
  | [], h => by cases h
  | _ :: _ :: _, h => by simp at h
theorem door_met (os : Os) (args : Array Value) : laidMetH Tryd.prog Rows.fieldsForwardRow.laid ((World.setRow (World.doorLaid Tryd.prog 72 os) (Tryd.prog.globalNamed "unicode/utf8.first").get! (Go.Pinned.utf8FirstZ.map fun z : Nat => Value.int .u8 (z : Int)).toArray).forCall (fun _ _ => 0) ⟨#[], args, []⟩).memory :=
  laidMetH_of_parts3 (fuel := 8) (laidMet_of_run' 8 (by kernel_rfl) (by kernel_rfl)) (by kernel_rfl) (by kernel_rfl)
set_option maxRecDepth 100000 in
theorem lifted (os : Os) (started : os.Started) (H : Type) (enc : TypeId × Value → H) :
    ReturnsInHanded {} Tryd.checked os 9 .any (fun w args => (Rows.fieldsForwardSpec.pre enc Tryd.prog Tryd.f9 Rows.fieldsForwardRow.domain false w args ∧ laidMetH Tryd.prog Rows.fieldsForwardRow.laid w) ∧ sizedMet enc Tryd.prog Tryd.f9 (OpenSpec.ofChange Rows.fieldsForwardSpec) false w args)
      (Rows.fieldsForwardSpec.post enc Tryd.prog Tryd.f9 false true false false) :=
  lifted_of_law_laid (C := Tryd.checked) (fn := Tryd.f9) (s := Rows.fieldsForwardSpec) (tb := 4) (by kernel_rfl) started (by kernel_rfl) Tryd.func9
    (ChangeSpec.witness_shaped (enc := enc) (C := Tryd.checked) (os := os) (X := fun w _ => laidMetH Tryd.prog Rows.fieldsForwardRow.laid w) false (World.setRow (World.doorLaid Tryd.prog 72 os) (Tryd.prog.globalNamed "unicode/utf8.first").get! (Go.Pinned.utf8FirstZ.map fun z : Nat => Value.int .u8 (z : Int)).toArray) #[.slice none 0 0] 8 rfl (World.shaped_of_RefB (by kernel_rfl) (by kernel_rfl)) (by kernel_rfl) (by kernel_rfl) (by kernel_rfl) (door_met os _))
    rfl spec (by kernel_rfl) Tryd.underlying4 (by kernel_rfl) (by kernel_rfl) (fun _ _ _ h1 h2 h3 => contract h1 h2 h3)

theorem holds : Rows.FieldsForwardSaid :=
  OpenClaim.holds_of_wide 9 Tryd.f9 rfl rfl rfl rfl rfl rfl rfl ⟨rfl, rfl, rfl, rfl, rfl⟩ rfl rfl rfl rfl rfl (by kernel_rfl) Tryd.func9 (by kernel_rfl)
    (of_decide_eq_true (by kernel_rfl)) (by unfold Func.isWrapper; first | (rw [if_pos (by decide +kernel)]; kernel_rfl) | (rw [if_neg (by decide +kernel)]; exact ⟨rfl, rfl⟩))
    (fun os started H enc _ => lifted os started H enc)

theorem proved : Rows.FieldsForwardCardSaid :=
  Claim7.holds_tied_plain_at .later [] [.data, .data, .data, .data, .sentinel, .sentinel, .pinned] true (true, "b7b04a5e23c144aaf3ed07f71e534f1c77dbf3b9fe34ff9557e3f13d899a9de9") true
    holds (fun _ h => by cases h) (by kernel_rfl) (fun _ h => by cases h) fieldsForward_row_tie rfl ⟨rfl, rfl⟩ (by kernel_rfl) rfl
    (fun f fn hf hfn => by
      obtain rfl : f = 9 := Option.some.inj ((show Tryd.prog.funcNamed "flume/flumelaw10.FieldsForward" = some 9 by kernel_rfl).symm.trans hf) |>.symm
      obtain rfl : fn = Tryd.f9 := (Option.some.inj (Tryd.func9.symm.trans hfn)).symm
      exact ⟨by kernel_rfl, fun j t ht => by
        rw [Tryd.params9] at ht
        have hm : t ∈ [22] := by simpa using Array.mem_of_getElem? ht
        have hall : ([22].all fun u => !Tryd.prog.wantsStandIn u) = true := by kernel_rfl
        exact (show Tryd.prog.wantsStandIn t = false by simpa using List.all_eq_true.1 hall t hm)⟩)
    (by kernel_rfl)
end Go.Proofs.YtikngjdljdofkaaDoor.fieldsForward
