

/-
  FieldsParts: a message stands or falls with each field.
-/
import Derived.Test.YtikngjdljdofkaaDoorFmEnd
import Derived.Test.YtikngjdljdofkaaDoorFmPart
import Derived.Test.YtikngjdljdofkaaDoorStrAdd
import Derived.Test.YtikngjdljdofkaaDoorMixF
import Derived.Test.YtikngjdljdofkaaDoorCmp
import Derived.Test.YtikngjdljdofkaaDoorLawD
import Derived.Test.YtikngjdljdofkaaDoorTie
import Derived.Test.YtikngjdljdofkaaDoorCards
import Derived.SevenTiedAt
namespace Go.Proofs.YtikngjdljdofkaaDoor.fieldsParts
open Go.RowKit Go.Sl Go.ChangeShapes

theorem few1 (f : Fd) : fewR [f] 1 = [cutF f] := rfl
theorem top_small {p : Txt} (hp : p.length ≤ 300) : ∀ f ∈ topL p, f.1.length ≤ 2000 ∧ f.2.1.length ≤ 2000 := by
  intro f hf
  simp only [topL, List.mem_cons, List.not_mem_nil, or_false] at hf
  rcases hf with rfl | rfl | rfl
  · decide
  · decide
  · exact ⟨(by decide : nPath.length ≤ 2000), by show p.length ≤ 2000; omega⟩
theorem app_small {A B : List Fd} (ha : ∀ f ∈ A, f.1.length ≤ 2000 ∧ f.2.1.length ≤ 2000) (hb : ∀ f ∈ B, f.1.length ≤ 2000 ∧ f.2.1.length ≤ 2000) : ∀ f ∈ A ++ B, f.1.length ≤ 2000 ∧ f.2.1.length ≤ 2000 := by
  intro f hf
  rcases List.mem_append.1 hf with h | h
  · exact ha f h
  · exact hb f h
theorem big_small {A : List Fd} (ha : ∀ f ∈ A, f.1.length ≤ 2000 ∧ f.2.1.length ≤ 2000) : ∀ f ∈ A, f.1.length ≤ 1000000 ∧ f.2.1.length ≤ 1000000 := fun f hf => by have := ha f hf; omega
theorem rd_len {w : World} {sz n n' : Nat} {v : Value} {xs : List Value} (e : n' = n) (h : rd w sz v n xs) : rd w sz v n' xs := e ▸ h

theorem build0 (w : World) : (Instr.buildSlice 22 0 #[]).run Tryd.prog w = .ok (.slice (some ⟨w.heap.size, 0, none⟩) 0 0) (w.alloc (.cells [].toArray 24)) := by kernel_rfl
theorem beqB {c d : UInt8} {b : Bool} (h : decide (c = d) = b) : ((c.toNat : Int) == (d.toNat : Int)) = b ∧ (c.toNat == d.toNat) = b := by
  cases b
  · exact beq_u8 (of_decide_eq_false h)
  · have : c = d := of_decide_eq_true h
    subst this
    exact ⟨by simp, by simp⟩
set_option maxHeartbeats 16000000 in
set_option maxRecDepth 100000 in
theorem partsW {w0 : World} {v0 : Value} {L0 : List Fd} (f0 : Fd) (p0 : Txt) (h0 : rd w0 3 v0 L0.length (fds L0)) (hv0 : ∀ f ∈ L0, f.1.length ≤ 9223372036854775807 ∧ f.2.1.length ≤ 9223372036854775807) (hf0 : f0.1.length ≤ 9223372036854775807 ∧ f0.2.1.length ≤ 9223372036854775807) (hp0 : p0.length ≤ 9223372036854775807) :
    Calls Tryd.prog 3 #[v0, .agg #[str f0.1, str f0.2.1, .bool f0.2.2], str p0] w0 fun e w' => e = .returned (.bool true) ∧ Below w0.heap.size w0 w' := by
  have G := own_begin w0
  obtain ⟨p, q0, q1, q2⟩ : ∃ k : Nat, min (p0.length : Int) 200 = (k : Int) ∧ k ≤ p0.length ∧ k ≤ 200 := ⟨min p0.length 200, by omega, by omega, by omega⟩
  obtain ⟨a, ha⟩ : ∃ a, p0.take p = a := ⟨_, rfl⟩
  have hal : a.length ≤ 200 := by rw [← ha]; simp; omega
  have HA := Lib.hid ha
  clear ha
  go_enter Tryd.func3, Tryd.ntmps3
  go_wp2_with (first
    | (go_at_call 10; refine hold ?_)
    | ((with_reducible refine at_alloc ?_); refine wpu_new G ?_; clear G; intro w G)
    | ((with_reducible refine at_drew ?_); refine wpu_drew G ?_; clear G; intro w G)
    | ((with_reducible refine at_load ?_); first
      | (refine wpu_load G rfl rfl rfl rfl ?_; go_frame)
      | (refine wpu_loadB G rfl rfl rfl (by rfl) ?_; go_frame)
      | (refine wpu_loadS G rfl rfl rfl (by rfl) ?_; simp only [List.drop_succ_cons, List.drop_zero, List.take_succ_cons, List.take_zero]; go_frame))
    | ((with_reducible refine at_store ?_); first
      | (refine wpu_store G rfl rfl rfl rfl (by first | rfl | assumption | simp [*]) rfl ?_; clear G; intro w G; go_frame)
      | (refine wpu_storeB G rfl rfl rfl rfl (by rfl) (by rfl) (by first | rfl | assumption | simp [*]) ?_; clear G; intro w G; go_frame)
      | (refine wpu_storeS G rfl rfl rfl rfl (by rfl) (by rfl) (by first | rfl | assumption | simp [*]) ?_; clear G; intro w G; go_frame))
    | ((with_reducible refine at_convert ?_); refine wpu_str G rfl rfl rfl rfl ?_; go_frame)
    | ((with_reducible refine at_slice ?_); first
      | (refine wpu_sliceLo rfl rfl rfl rfl (by first | rfl | omega) (by omega) (by omega) ?_; go_frame)
      | (refine wpu_sliceLH rfl rfl rfl rfl rfl (by first | rfl | omega) (by first | rfl | omega) (by omega) (by omega) ?_; go_frame))
    | fail)
  unfold Held
  refine Calls.mono (shownFm (own_begin _)) ?_
  rintro e w ⟨rfl, G1⟩
  replace G := own_kept G G1.below
  clear G1
  go_wp2_with fail
  refine Calls.mono (fewC (L := L0) (n := 100) (by decide) G (fun w h => h0.old h) hv0) ?_
  clear G; rintro e w ⟨v, rfl, G⟩
  have s1 : ∀ f ∈ fewR L0 100, f.1.length ≤ 2000 ∧ f.2.1.length ≤ 2000 := fewR_small L0 100
  have s2 : (fewR L0 100).length ≤ 100 := by rw [fewR_len]; omega
  generalize fewR L0 100 = L at G s1 s2
  clear h0 hv0
  go_wp2_with (first
    | ((with_reducible refine at_build ?_); refine hold ?_)
    | ((with_reducible refine at_alloc ?_); refine wpu_new G ?_; clear G; intro w G)
    | ((with_reducible refine at_drew ?_); refine wpu_drew G ?_; clear G; intro w G)
    | ((with_reducible refine at_load ?_); first
      | (refine wpu_load G rfl rfl rfl rfl ?_; go_frame)
      | (refine wpu_loadB G rfl rfl rfl (by rfl) ?_; go_frame)
      | (refine wpu_loadS G rfl rfl rfl (by rfl) ?_; simp only [List.drop_succ_cons, List.drop_zero, List.take_succ_cons, List.take_zero]; go_frame))
    | ((with_reducible refine at_store ?_); first
      | (refine wpu_store G rfl rfl rfl rfl (by first | rfl | assumption | simp [*]) rfl ?_; clear G; intro w G; go_frame)
      | (refine wpu_storeB G rfl rfl rfl rfl (by rfl) (by rfl) (by first | rfl | assumption | simp [*]) ?_; clear G; intro w G; go_frame)
      | (refine wpu_storeS G rfl rfl rfl rfl (by rfl) (by rfl) (by first | rfl | assumption | simp [*]) ?_; clear G; intro w G; go_frame))
    | ((with_reducible refine at_convert ?_); refine wpu_str G rfl rfl rfl rfl ?_; go_frame)
    | ((with_reducible refine at_slice ?_); first
      | (refine wpu_sliceLo rfl rfl rfl rfl (by first | rfl | omega) (by omega) (by omega) ?_; go_frame)
      | (refine wpu_sliceLH rfl rfl rfl rfl rfl (by first | rfl | omega) (by first | rfl | omega) (by omega) (by omega) ?_; go_frame))
    | fail)
  unfold Held
  refine wpu_val rfl (exec_buildT _ rfl (by kernel_rfl) (build1 f0.1 f0.2.1 f0.2.2 _)) ?_
  go_frame
  have G1 := own_new_sl (n := 1) (sz := 3) G (fds [f0]) 24 rfl (by decide)
  clear G
  go_wp2_with fail
  refine Calls.mono (fewC (L := [f0]) (n := 1) (by decide) G1 (fun w h => own_rd h) (by intro f hf; rw [List.mem_singleton.1 hf]; exact hf0)) ?_
  clear G1; rintro e w ⟨u, rfl, G⟩
  rw [few1] at G
  have fs : (cutF f0).1.length ≤ 2000 ∧ (cutF f0).2.1.length ≤ 2000 := by simp [cutF]; omega
  generalize hcf : cutF f0 = f at G fs
  obtain ⟨uo, uc, rfl, u1, u2⟩ := G.hdr u
  obtain ⟨ua, rfl⟩ := rd_some (own_rd G) (by show 0 < 1; decide)
  unfold maxLen at u2
  go_wp2_with (first
    | ((with_reducible refine at_load ?_); refine wpu_loadE (k := 0) (cs := [str f.1, str f.2.1, .bool f.2.2]) (own_rd G) (by rfl) rfl rfl rfl rfl ?_; go_frame)
    | ((with_reducible refine at_build ?_); refine hold ?_)
    | ((with_reducible refine at_addS ?_); refine wpu_addS (l := [47]) (m := a) rfl rfl rfl rfl rfl (by simp; omega) ?_; go_frame)
    | ((with_reducible refine at_sliceAny ?_); refine wpu_strH (l := p0) (j := p) rfl rfl rfl rfl rfl q1 ?_; rw [HA.out]; go_frame)
    | ((with_reducible refine at_alloc ?_); refine wpu_new G ?_; clear G; intro w G)
    | ((with_reducible refine at_drew ?_); refine wpu_drew G ?_; clear G; intro w G)
    | ((with_reducible refine at_load ?_); first
      | (refine wpu_load G rfl rfl rfl rfl ?_; go_frame)
      | (refine wpu_loadB G rfl rfl rfl (by rfl) ?_; go_frame)
      | (refine wpu_loadS G rfl rfl rfl (by rfl) ?_; simp only [List.drop_succ_cons, List.drop_zero, List.take_succ_cons, List.take_zero]; go_frame))
    | ((with_reducible refine at_store ?_); first
      | (refine wpu_store G rfl rfl rfl rfl (by first | rfl | assumption | simp [*]) rfl ?_; clear G; intro w G; go_frame)
      | (refine wpu_storeB G rfl rfl rfl rfl (by rfl) (by rfl) (by first | rfl | assumption | simp [*]) ?_; clear G; intro w G; go_frame)
      | (refine wpu_storeS G rfl rfl rfl rfl (by rfl) (by rfl) (by first | rfl | assumption | simp [*]) ?_; clear G; intro w G; go_frame))
    | ((with_reducible refine at_convert ?_); refine wpu_str G rfl rfl rfl rfl ?_; go_frame)
    | ((with_reducible refine at_slice ?_); first
      | (refine wpu_sliceLo rfl rfl rfl rfl (by first | rfl | omega) (by omega) (by omega) ?_; go_frame)
      | (refine wpu_sliceLH rfl rfl rfl rfl rfl (by first | rfl | omega) (by first | rfl | omega) (by omega) (by omega) ?_; go_frame))
    | fail)
  unfold Held
  refine wpu_val rfl (exec_buildT _ rfl (by kernel_rfl) (bld6 nMethod [71, 69, 84] nScheme [104, 116, 116, 112] nPath (47 :: a) _)) ?_
  go_frame
  have G1 := own_new_sl (n := 6) (sz := 1) G (pairs (topL (47 :: a))) 9 rfl (by decide)
  clear G
  go_wp2_with fail
  refine Calls.mono (ofC (F := topL (47 :: a)) rfl (by show 3 ≤ 1000; decide) G1 (fun w h => own_rd h)) ?_
  clear G1; rintro e w ⟨t, rfl, G⟩
  change Own _ (sl 3 t 3 (fds (topL (47 :: a))) * _) w at G
  obtain ⟨to, tc, rfl, t1, t2⟩ := G.hdr t
  unfold maxLen at t2
  have st := top_small (p := 47 :: a) (by simp; omega)
  have hpre : ([47] : Txt).isPrefixOf (47 :: a) = true := by cases a <;> rfl
  generalize hp : (47 :: a : Txt) = p' at G st hpre
  clear hp
  generalize w0.heap.size = z at G ⊢
  obtain ⟨vo, vc, rfl, v1, v2⟩ := G.hdr v
  unfold maxLen at v2
  replace G := G.sub (sl 3 (.slice to 3 tc) 3 (fds (topL p')) * (sl 3 (.slice vo L.length vc) L.length (fds L) * blk z [str f.1, str f.2.1, .bool f.2.2]))
  obtain ⟨A0, hA0⟩ : ∃ A0, sl 3 (.slice to 3 tc) 3 (fds (topL p')) * (sl 3 (.slice vo L.length vc) L.length (fds L) * blk z [str f.1, str f.2.1, .bool f.2.2]) = A0 := ⟨_, rfl⟩
  have hrt : ∀ w, Own w0 A0 w → rd w 3 (.slice to 3 tc) 3 (fds (topL p')) := fun w h => by rw [← hA0] at h; exact own_rd h
  have hrl : ∀ w, Own w0 A0 w → rd w 3 (.slice vo L.length vc) L.length (fds L) := fun w h => by rw [← hA0] at h; exact own_rd h.right
  have hrf : ∀ w, Own w0 A0 w → Own w0 (blk z [str f.1, str f.2.1, .bool f.2.2]) w := fun w h => by rw [← hA0] at h; exact h.right.right
  rw [hA0] at G
  have HA0 := Lib.hid hA0
  clear hA0
  go_wp2_with (first
    | ((with_reducible refine at_append ?_); refine wpu_append0 G rfl rfl rfl rfl (hrt _ (G.sub A0)) (fds_one _) (by unfold maxLen; omega) (by omega) ?_; clear G; intro v w G; refine hold ?_)
    | ((with_reducible refine at_alloc ?_); refine wpu_new G ?_; clear G; intro w G)
    | ((with_reducible refine at_drew ?_); refine wpu_drew G ?_; clear G; intro w G)
    | ((with_reducible refine at_load ?_); first
      | (refine wpu_load G rfl rfl rfl rfl ?_; go_frame)
      | (refine wpu_loadB G rfl rfl rfl (by rfl) ?_; go_frame)
      | (refine wpu_loadS G rfl rfl rfl (by rfl) ?_; simp only [List.drop_succ_cons, List.drop_zero, List.take_succ_cons, List.take_zero]; go_frame))
    | ((with_reducible refine at_store ?_); first
      | (refine wpu_store G rfl rfl rfl rfl (by first | rfl | assumption | simp [*]) rfl ?_; clear G; intro w G; go_frame)
      | (refine wpu_storeB G rfl rfl rfl rfl (by rfl) (by rfl) (by first | rfl | assumption | simp [*]) ?_; clear G; intro w G; go_frame)
      | (refine wpu_storeS G rfl rfl rfl rfl (by rfl) (by rfl) (by first | rfl | assumption | simp [*]) ?_; clear G; intro w G; go_frame))
    | ((with_reducible refine at_convert ?_); refine wpu_str G rfl rfl rfl rfl ?_; go_frame)
    | ((with_reducible refine at_slice ?_); first
      | (refine wpu_sliceLo rfl rfl rfl rfl (by first | rfl | omega) (by omega) (by omega) ?_; go_frame)
      | (refine wpu_sliceLH rfl rfl rfl rfl rfl (by first | rfl | omega) (by first | rfl | omega) (by omega) (by omega) ?_; go_frame))
    | fail)
  unfold Held
  obtain ⟨co, cc, rfl, c1, c2⟩ := G.hdr v
  unfold maxLen at c2
  try go_frame
  obtain ⟨m1, b1, hm1, hb1, -⟩ := msgV_eq (requestR (topL p' ++ L))
  have HM1 := Lib.hid hm1
  have HB1 := Lib.hid hb1
  clear hm1 hb1
  go_wp2_with (first
    | ((with_reducible refine at_append ?_); refine wpu_append (v := .slice co 3 cc) G rfl rfl rfl rfl (hrl _ (G.sub A0)) (fds_one _) (by unfold maxLen; omega) (by omega) ?_; clear G; intro v w G; refine hold ?_)
    | fail)
  unfold Held
  rw [fds_app] at G
  obtain ⟨jo, jc, rfl, z1, z2⟩ := G.hdr v
  unfold maxLen at z2
  try go_frame
  go_wp2_with fail
  refine Calls.mono (requestC (L := topL p' ++ L) (big_small (app_small st s1)) (by simp [topL]; omega) G (fun w h => rd_len (by simp [topL]; omega) (own_rd h))) ?_
  clear G; rintro e w ⟨rfl, G⟩
  rw [HM1.out]
  go_wp2_with (first
    | ((with_reducible refine at_alloc ?_); refine wpu_new G ?_; clear G; intro w G)
    | ((with_reducible refine at_drew ?_); refine wpu_drew G ?_; clear G; intro w G)
    | ((with_reducible refine at_load ?_); first
      | (refine wpu_load G rfl rfl rfl rfl ?_; go_frame)
      | (refine wpu_loadB G rfl rfl rfl (by rfl) ?_; go_frame)
      | (refine wpu_loadS G rfl rfl rfl (by rfl) ?_; simp only [List.drop_succ_cons, List.drop_zero, List.take_succ_cons, List.take_zero]; go_frame))
    | ((with_reducible refine at_store ?_); first
      | (refine wpu_store G rfl rfl rfl rfl (by first | rfl | assumption | simp [*]) rfl ?_; clear G; intro w G; go_frame)
      | (refine wpu_storeB G rfl rfl rfl rfl (by rfl) (by rfl) (by first | rfl | assumption | simp [*]) ?_; clear G; intro w G; go_frame)
      | (refine wpu_storeS G rfl rfl rfl rfl (by rfl) (by rfl) (by first | rfl | assumption | simp [*]) ?_; clear G; intro w G; go_frame))
    | ((with_reducible refine at_convert ?_); refine wpu_str G rfl rfl rfl rfl ?_; go_frame)
    | ((with_reducible refine at_slice ?_); first
      | (refine wpu_sliceLo rfl rfl rfl rfl (by first | rfl | omega) (by omega) (by omega) ?_; go_frame)
      | (refine wpu_sliceLH rfl rfl rfl rfl rfl (by first | rfl | omega) (by first | rfl | omega) (by omega) (by omega) ?_; go_frame))
    | fail)
  replace G := G.sub A0
  obtain ⟨m2, b2, hm2, hb2, -⟩ := msgV_eq (requestR (topL p' ++ [f]))
  have HM2 := Lib.hid hm2
  have HB2 := Lib.hid hb2
  clear hm2 hb2
  have HNE : ∃ w, Own w0 A0 w := ⟨_, G⟩
  refine wp_region_mixF (A := A0) (B := w0) [4, 3, 1, 0, 4, 1, 1, 3, 3, 3, 4, 1, 3] (Own w0 A0) (by kernel_rfl) (by kernel_rfl) (fun w o h => own_alloc h o) (own_drew G) (own_drew G) ?_
  clear G
  refine mixf_fresh (fun b => .slice (some ⟨b, 0, none⟩) 0 0) [] 24 (fun w => exec_buildT #[] rfl (by kernel_rfl) (build0 w)) fun b0 => ?_
  try go_frame
  refine mixf_plain 1 HNE (by rfl) (by rfl) ?_
  intro ι W hne
  dsimp only [List.take, List.drop]
  repeat (first | (fail) | go_big_quiet_step (fail))
  refine wpQuiet_nil ?_
  clear hne W ι
  refine mixf_loud fun F w K HC G hK => ?_
  refine wpk_append0 G rfl rfl rfl (hrt _ HC) (fds_one _) (by unfold maxLen; omega) (by omega) fun v w G => ?_
  obtain ⟨eo, ec, rfl, c3, c4⟩ := G.hdr v
  unfold maxLen at c4
  refine hK _ _ (sl 3 (.slice eo 3 ec) 3 (fds (topL p')) * A0) (G.sub A0) ((G.sub (sl 3 (.slice eo 3 ec) 3 (fds (topL p')) * (A0 * F))).eq (by ac_rfl)) ?_
  clear hK HC G
  try go_frame
  refine mixf_calm 1 HNE (by rfl) (by rfl) ?_
  intro ι W hne hW
  dsimp only [List.take, List.drop]
  repeat (first | ((with_reducible refine atq_load ?_); refine wpq_loadB (fun i => hrf _ (hW i)) rfl rfl rfl (by rfl) ?_; go_frame) | go_big_quiet_step (fail))
  refine wpQuiet_nil ?_
  clear hW hne W ι
  refine mixf_fresh (fun b => .slice (some ⟨b, 0, none⟩) 1 1) (fds [f]) 24 (fun w => exec_buildT _ rfl (by kernel_rfl) (build1 f.1 f.2.1 f.2.2 w)) fun b1' => ?_
  try go_frame
  refine mixf_loud fun F w K HC G hK => ?_
  refine wpk_append1 G rfl rfl rfl rfl (by rfl) (by unfold maxLen; omega) (by omega) fun v w G => ?_
  rw [fds_app] at G
  obtain ⟨jo2, jc2, rfl, c5, c6⟩ := G.hdr v
  unfold maxLen at c6
  change Own _ (sl 3 (.slice jo2 (3 + 1) jc2) (3 + 1) (fds ((topL p') ++ [f])) * _) w at G
  refine hK _ _ (sl 3 (.slice jo2 (3 + 1) jc2) (3 + 1) (fds ((topL p') ++ [f])) * A0) (G.sub A0) ((G.sub (sl 3 (.slice jo2 (3 + 1) jc2) (3 + 1) (fds ((topL p') ++ [f])) * (A0 * F))).eq (by ac_rfl)) ?_
  clear hK HC G
  try go_frame
  obtain ⟨r3, r4⟩ : (∀ x ∈ topL p' ++ [f], x.1.length ≤ 1000000 ∧ x.2.1.length ≤ 1000000) ∧ (topL p' ++ [f]).length ≤ 1000 := ⟨big_small (app_small st (fun x hx => by rw [List.mem_singleton.1 hx]; exact fs)), by simp [topL]⟩
  refine mixf_loud fun F w K HC G hK => ?_
  go_wp2_with fail
  refine Calls.mono (requestC (L := topL p' ++ [f]) r3 r4 G (fun w h => rd_len (by simp [topL]) (own_rd (h.eq (star_assoc _ _ _))))) ?_
  clear G; rintro e w ⟨rfl, G⟩
  rw [HM2.out]
  refine hK _ _ (sl 3 (.slice jo2 4 jc2) 4 (fds (topL p' ++ [f])) * A0) (G.sub A0) G ?_
  clear hK HC G
  try go_frame
  refine mixf_plain 3 HNE (by rfl) (by rfl) ?_
  intro ι W hne
  dsimp only [List.take, List.drop]
  repeat (first | (fail) | go_big_quiet_step (fail))
  refine wpQuiet_nil ?_
  clear hne W ι
  refine mixf_fresh (fun b => .pointer (some ⟨b, 0, none⟩)) [str [], str [], str [], str [], .int .i64 0, .int .i64 0] 29 (fun w => by kernel_rfl) fun bm => ?_
  try go_frame
  refine mixf_loud fun F w K HC G hK => ?_
  refine wpk_storeB (vs := [str m2.method, str m2.scheme, str m2.authority, str m2.path, .int .i64 m2.status, .int .i64 m2.len]) G rfl rfl rfl (by rfl) (by rfl) (by rfl) ?_
  clear G; intro w G
  refine hK _ _ _ (G.sub A0) G ?_
  clear hK HC G
  try go_frame
  refine mixf_plain 1 HNE (by rfl) (by rfl) ?_
  intro ι W hne
  dsimp only [List.take, List.drop]
  repeat (first | (fail) | go_big_quiet_step (fail))
  refine wpQuiet_nil ?_
  clear hne W ι
  refine mixf_nil fun w G => ?_
  replace G := G.sub A0
  go_wp2_with fail
  obtain ⟨m3, b3, hm3, hb3, -⟩ := msgV_eq (requestR (topL p' ++ L ++ [f]))
  have HM3 := Lib.hid hm3
  have HB3 := Lib.hid hb3
  clear hm3 hb3
  refine wp_region_mixF (A := A0) (B := w0) [4, 3, 1, 3, 1, 0, 4, 1, 1, 3, 3, 3, 4, 1, 3] (Own w0 A0) (by kernel_rfl) (by kernel_rfl) (fun w o h => own_alloc h o) (own_drew G) (own_drew G) ?_
  clear G
  refine mixf_fresh (fun b => .slice (some ⟨b, 0, none⟩) 0 0) [] 24 (fun w => exec_buildT #[] rfl (by kernel_rfl) (build0 w)) fun b0 => ?_
  try go_frame
  refine mixf_plain 1 HNE (by rfl) (by rfl) ?_
  intro ι W hne
  dsimp only [List.take, List.drop]
  repeat (first | (fail) | go_big_quiet_step (fail))
  refine wpQuiet_nil ?_
  clear hne W ι
  refine mixf_loud fun F w K HC G hK => ?_
  refine wpk_append0 G rfl rfl rfl (hrt _ HC) (fds_one _) (by unfold maxLen; omega) (by omega) fun v w G => ?_
  obtain ⟨eo, ec, rfl, c3, c4⟩ := G.hdr v
  unfold maxLen at c4
  refine hK _ _ (sl 3 (.slice eo 3 ec) 3 (fds (topL p')) * A0) (G.sub A0) ((G.sub (sl 3 (.slice eo 3 ec) 3 (fds (topL p')) * (A0 * F))).eq (by ac_rfl)) ?_
  clear hK HC G
  try go_frame
  refine mixf_plain 1 HNE (by rfl) (by rfl) ?_
  intro ι W hne
  dsimp only [List.take, List.drop]
  repeat (first | (fail) | go_big_quiet_step (fail))
  refine wpQuiet_nil ?_
  clear hne W ι
  refine mixf_loud fun F w K HC G hK => ?_
  refine wpk_append G rfl rfl rfl (hrl _ HC) (fds_one _) (by unfold maxLen; omega) (by omega) fun v w G => ?_
  rw [fds_app] at G
  obtain ⟨go, gc, rfl, c7, c8⟩ := G.hdr v
  unfold maxLen at c8
  refine hK _ _ (sl 3 (.slice go (3 + L.length) gc) (3 + L.length) (fds (topL p' ++ L)) * A0) (G.sub A0) ((G.sub (sl 3 (.slice go (3 + L.length) gc) (3 + L.length) (fds (topL p' ++ L)) * (A0 * F))).eq (by ac_rfl)) ?_
  clear hK HC G
  try go_frame
  refine mixf_calm 1 HNE (by rfl) (by rfl) ?_
  intro ι W hne hW
  dsimp only [List.take, List.drop]
  repeat (first | ((with_reducible refine atq_load ?_); refine wpq_loadB (fun i => hrf _ (hW i)) rfl rfl rfl (by rfl) ?_; go_frame) | go_big_quiet_step (fail))
  refine wpQuiet_nil ?_
  clear hW hne W ι
  refine mixf_fresh (fun b => .slice (some ⟨b, 0, none⟩) 1 1) (fds [f]) 24 (fun w => exec_buildT _ rfl (by kernel_rfl) (build1 f.1 f.2.1 f.2.2 w)) fun b1' => ?_
  try go_frame
  refine mixf_loud fun F w K HC G hK => ?_
  refine wpk_append1 G rfl rfl rfl rfl (by rfl) (by unfold maxLen; omega) (by omega) fun v w G => ?_
  rw [fds_app] at G
  obtain ⟨jo3, jc3, rfl, c5, c6⟩ := G.hdr v
  unfold maxLen at c6
  change Own _ (sl 3 (.slice jo3 ((3 + L.length) + 1) jc3) ((3 + L.length) + 1) (fds ((topL p' ++ L) ++ [f])) * _) w at G
  refine hK _ _ (sl 3 (.slice jo3 ((3 + L.length) + 1) jc3) ((3 + L.length) + 1) (fds ((topL p' ++ L) ++ [f])) * A0) (G.sub A0) ((G.sub (sl 3 (.slice jo3 ((3 + L.length) + 1) jc3) ((3 + L.length) + 1) (fds ((topL p' ++ L) ++ [f])) * (A0 * F))).eq (by ac_rfl)) ?_
  clear hK HC G
  try go_frame
  obtain ⟨r5, r6⟩ : (∀ x ∈ topL p' ++ L ++ [f], x.1.length ≤ 1000000 ∧ x.2.1.length ≤ 1000000) ∧ (topL p' ++ L ++ [f]).length ≤ 1000 := ⟨big_small (app_small (app_small st s1) (fun x hx => by rw [List.mem_singleton.1 hx]; exact fs)), by simp [topL]; omega⟩
  refine mixf_loud fun F w K HC G hK => ?_
  go_wp2_with fail
  refine Calls.mono (requestC (L := topL p' ++ L ++ [f]) r5 r6 G (fun w h => rd_len (by simp [topL]; omega) (own_rd (h.eq (star_assoc _ _ _))))) ?_
  clear G; rintro e w ⟨rfl, G⟩
  rw [HM3.out]
  refine hK _ _ (sl 3 (.slice jo3 (3 + L.length + 1) jc3) (3 + L.length + 1) (fds (topL p' ++ L ++ [f])) * A0) (G.sub A0) G ?_
  clear hK HC G
  try go_frame
  refine mixf_plain 3 HNE (by rfl) (by rfl) ?_
  intro ι W hne
  dsimp only [List.take, List.drop]
  repeat (first | (fail) | go_big_quiet_step (fail))
  refine wpQuiet_nil ?_
  clear hne W ι
  refine mixf_fresh (fun b => .pointer (some ⟨b, 0, none⟩)) [str [], str [], str [], str [], .int .i64 0, .int .i64 0] 29 (fun w => by kernel_rfl) fun bm => ?_
  try go_frame
  refine mixf_loud fun F w K HC G hK => ?_
  refine wpk_storeB (vs := [str m3.method, str m3.scheme, str m3.authority, str m3.path, .int .i64 m3.status, .int .i64 m3.len]) G rfl rfl rfl (by rfl) (by rfl) (by rfl) ?_
  clear G; intro w G
  refine hK _ _ _ (G.sub A0) G ?_
  clear hK HC G
  try go_frame
  refine mixf_plain 1 HNE (by rfl) (by rfl) ?_
  intro ι W hne
  dsimp only [List.take, List.drop]
  repeat (first | (fail) | go_big_quiet_step (fail))
  refine wpQuiet_nil ?_
  clear hne W ι
  refine mixf_nil fun w G => ?_
  replace G := G.sub A0
  have hcl : b3 = true → b1 = true := fun e => by
    rw [← HB1.out]
    refine parts_less hpre L f ?_
    rw [← List.append_assoc, HB3.out, e]
  have hpl : pseudoR f = false → f.1 ≠ CL → b3 = (b1 && b2) := fun e1 e2 => by
    rw [← HB1.out, ← HB2.out, ← HB3.out, List.append_assoc]
    exact parts hpre L f e1 e2
  clear HM1 HM2 HM3 HB1 HB2 HB3 r3 r4 r5 r6
  have GG := G
  clear G
  obtain ⟨q1, h1⟩ : ∃ q, decide (f.1 = CL) = q := ⟨_, rfl⟩
  have hps := pseudo_head f
  obtain ⟨pq, hpq⟩ : ∃ q, pseudoR f = q := ⟨_, rfl⟩
  have hlast : (q1 || pq) = false → b3 = (b1 && b2) := fun e => by
    simp only [Bool.or_eq_false_iff] at e
    refine hpl (by rw [hpq]; exact e.2) (of_decide_eq_false (by rw [h1]; exact e.1))
  clear hpl
  rw [hpq] at hps
  obtain ⟨n, vv, nv⟩ := f
  replace hps : pq = headIs n := hps
  replace h1 : decide (n = CL) = q1 := h1
  replace hrf : ∀ w, Own w0 A0 w → Own w0 (blk z [str n, str vv, .bool nv]) w := hrf
  cases n with
  | nil =>
    obtain rfl : q1 = false := h1.symm
    replace hps : pq = false := hps
    subst hps
    obtain rfl := hlast rfl
    have g2 : decide (([] : Txt) = []) = true := rfl
    clear hlast hcl hpq
    cases b1
    · cases b2
      · skip
        as_aux_lemma =>
        go_wp2_with (first
          | go_big_skip
          | ((with_reducible refine at_load ?_); refine wpu_load (hrf _ GG) rfl (by kernel_rfl) rfl rfl ?_; go_frame)
          | ((with_reducible refine at_eqS ?_); refine wpu_eqS rfl (by kernel_rfl) rfl rfl (by assumption) ?_; go_frame)
          | ((with_reducible refine at_neS ?_); refine wpu_neS rfl (by kernel_rfl) rfl rfl (by assumption) ?_; go_frame)
          | ((with_reducible refine at_strAt ?_); refine wpu_strAt (i := 0) rfl (by kernel_rfl) rfl rfl rfl HC0.out ?_; go_frame)
          | ((with_reducible refine at_eql ?_); refine wpu_eql rfl (by kernel_rfl) rfl rfl (by assumption) ?_; go_frame)
          | fail)
        go_ret
        exact ⟨rfl, GG.below⟩
      · skip
        as_aux_lemma =>
        go_wp2_with (first
          | go_big_skip
          | ((with_reducible refine at_load ?_); refine wpu_load (hrf _ GG) rfl (by kernel_rfl) rfl rfl ?_; go_frame)
          | ((with_reducible refine at_eqS ?_); refine wpu_eqS rfl (by kernel_rfl) rfl rfl (by assumption) ?_; go_frame)
          | ((with_reducible refine at_neS ?_); refine wpu_neS rfl (by kernel_rfl) rfl rfl (by assumption) ?_; go_frame)
          | ((with_reducible refine at_strAt ?_); refine wpu_strAt (i := 0) rfl (by kernel_rfl) rfl rfl rfl HC0.out ?_; go_frame)
          | ((with_reducible refine at_eql ?_); refine wpu_eql rfl (by kernel_rfl) rfl rfl (by assumption) ?_; go_frame)
          | fail)
        go_ret
        exact ⟨rfl, GG.below⟩
    · cases b2
      · skip
        as_aux_lemma =>
        go_wp2_with (first
          | go_big_skip
          | ((with_reducible refine at_load ?_); refine wpu_load (hrf _ GG) rfl (by kernel_rfl) rfl rfl ?_; go_frame)
          | ((with_reducible refine at_eqS ?_); refine wpu_eqS rfl (by kernel_rfl) rfl rfl (by assumption) ?_; go_frame)
          | ((with_reducible refine at_neS ?_); refine wpu_neS rfl (by kernel_rfl) rfl rfl (by assumption) ?_; go_frame)
          | ((with_reducible refine at_strAt ?_); refine wpu_strAt (i := 0) rfl (by kernel_rfl) rfl rfl rfl HC0.out ?_; go_frame)
          | ((with_reducible refine at_eql ?_); refine wpu_eql rfl (by kernel_rfl) rfl rfl (by assumption) ?_; go_frame)
          | fail)
        go_ret
        exact ⟨rfl, GG.below⟩
      · skip
        as_aux_lemma =>
        go_wp2_with (first
          | go_big_skip
          | ((with_reducible refine at_load ?_); refine wpu_load (hrf _ GG) rfl (by kernel_rfl) rfl rfl ?_; go_frame)
          | ((with_reducible refine at_eqS ?_); refine wpu_eqS rfl (by kernel_rfl) rfl rfl (by assumption) ?_; go_frame)
          | ((with_reducible refine at_neS ?_); refine wpu_neS rfl (by kernel_rfl) rfl rfl (by assumption) ?_; go_frame)
          | ((with_reducible refine at_strAt ?_); refine wpu_strAt (i := 0) rfl (by kernel_rfl) rfl rfl rfl HC0.out ?_; go_frame)
          | ((with_reducible refine at_eql ?_); refine wpu_eql rfl (by kernel_rfl) rfl rfl (by assumption) ?_; go_frame)
          | fail)
        go_ret
        exact ⟨rfl, GG.below⟩
  | cons c n' =>
    have g2 : decide ((c :: n' : Txt) = []) = false := rfl
    have HC0 : Hid ((c :: n' : Txt)[0]? = some c) := Lib.hid rfl
    replace hps : pq = decide (c = 58) := hps
    obtain ⟨e1, e2⟩ := beqB hps.symm
    simp only [UInt8.reduceToNat, Int.cast_ofNat_Int] at e1 e2
    clear hps hpq
    cases q1
    · cases pq
      · obtain rfl := hlast rfl
        clear hlast hcl
        cases b1
        · cases b2
          · skip
            as_aux_lemma =>
            go_wp2_with (first
              | go_big_skip
              | ((with_reducible refine at_load ?_); refine wpu_load (hrf _ GG) rfl (by kernel_rfl) rfl rfl ?_; go_frame)
              | ((with_reducible refine at_eqS ?_); refine wpu_eqS rfl (by kernel_rfl) rfl rfl (by assumption) ?_; go_frame)
              | ((with_reducible refine at_neS ?_); refine wpu_neS rfl (by kernel_rfl) rfl rfl (by assumption) ?_; go_frame)
              | ((with_reducible refine at_strAt ?_); refine wpu_strAt (i := 0) rfl (by kernel_rfl) rfl rfl rfl HC0.out ?_; go_frame)
              | ((with_reducible refine at_eql ?_); refine wpu_eql rfl (by kernel_rfl) rfl rfl (by assumption) ?_; go_frame)
              | fail)
            go_ret
            exact ⟨rfl, GG.below⟩
          · skip
            as_aux_lemma =>
            go_wp2_with (first
              | go_big_skip
              | ((with_reducible refine at_load ?_); refine wpu_load (hrf _ GG) rfl (by kernel_rfl) rfl rfl ?_; go_frame)
              | ((with_reducible refine at_eqS ?_); refine wpu_eqS rfl (by kernel_rfl) rfl rfl (by assumption) ?_; go_frame)
              | ((with_reducible refine at_neS ?_); refine wpu_neS rfl (by kernel_rfl) rfl rfl (by assumption) ?_; go_frame)
              | ((with_reducible refine at_strAt ?_); refine wpu_strAt (i := 0) rfl (by kernel_rfl) rfl rfl rfl HC0.out ?_; go_frame)
              | ((with_reducible refine at_eql ?_); refine wpu_eql rfl (by kernel_rfl) rfl rfl (by assumption) ?_; go_frame)
              | fail)
            go_ret
            exact ⟨rfl, GG.below⟩
        · cases b2
          · skip
            as_aux_lemma =>
            go_wp2_with (first
              | go_big_skip
              | ((with_reducible refine at_load ?_); refine wpu_load (hrf _ GG) rfl (by kernel_rfl) rfl rfl ?_; go_frame)
              | ((with_reducible refine at_eqS ?_); refine wpu_eqS rfl (by kernel_rfl) rfl rfl (by assumption) ?_; go_frame)
              | ((with_reducible refine at_neS ?_); refine wpu_neS rfl (by kernel_rfl) rfl rfl (by assumption) ?_; go_frame)
              | ((with_reducible refine at_strAt ?_); refine wpu_strAt (i := 0) rfl (by kernel_rfl) rfl rfl rfl HC0.out ?_; go_frame)
              | ((with_reducible refine at_eql ?_); refine wpu_eql rfl (by kernel_rfl) rfl rfl (by assumption) ?_; go_frame)
              | fail)
            go_ret
            exact ⟨rfl, GG.below⟩
          · skip
            as_aux_lemma =>
            go_wp2_with (first
              | go_big_skip
              | ((with_reducible refine at_load ?_); refine wpu_load (hrf _ GG) rfl (by kernel_rfl) rfl rfl ?_; go_frame)
              | ((with_reducible refine at_eqS ?_); refine wpu_eqS rfl (by kernel_rfl) rfl rfl (by assumption) ?_; go_frame)
              | ((with_reducible refine at_neS ?_); refine wpu_neS rfl (by kernel_rfl) rfl rfl (by assumption) ?_; go_frame)
              | ((with_reducible refine at_strAt ?_); refine wpu_strAt (i := 0) rfl (by kernel_rfl) rfl rfl rfl HC0.out ?_; go_frame)
              | ((with_reducible refine at_eql ?_); refine wpu_eql rfl (by kernel_rfl) rfl rfl (by assumption) ?_; go_frame)
              | fail)
            go_ret
            exact ⟨rfl, GG.below⟩
      · clear hlast
        cases b3
        · clear hcl
          skip
          as_aux_lemma =>
          go_wp2_with (first
            | go_big_skip
            | ((with_reducible refine at_load ?_); refine wpu_load (hrf _ GG) rfl (by kernel_rfl) rfl rfl ?_; go_frame)
            | ((with_reducible refine at_eqS ?_); refine wpu_eqS rfl (by kernel_rfl) rfl rfl (by assumption) ?_; go_frame)
            | ((with_reducible refine at_neS ?_); refine wpu_neS rfl (by kernel_rfl) rfl rfl (by assumption) ?_; go_frame)
            | ((with_reducible refine at_strAt ?_); refine wpu_strAt (i := 0) rfl (by kernel_rfl) rfl rfl rfl HC0.out ?_; go_frame)
            | ((with_reducible refine at_eql ?_); refine wpu_eql rfl (by kernel_rfl) rfl rfl (by assumption) ?_; go_frame)
            | fail)
          go_ret
          exact ⟨rfl, GG.below⟩
        · obtain rfl := hcl rfl
          clear hcl
          skip
          as_aux_lemma =>
          go_wp2_with (first
            | go_big_skip
            | ((with_reducible refine at_load ?_); refine wpu_load (hrf _ GG) rfl (by kernel_rfl) rfl rfl ?_; go_frame)
            | ((with_reducible refine at_eqS ?_); refine wpu_eqS rfl (by kernel_rfl) rfl rfl (by assumption) ?_; go_frame)
            | ((with_reducible refine at_neS ?_); refine wpu_neS rfl (by kernel_rfl) rfl rfl (by assumption) ?_; go_frame)
            | ((with_reducible refine at_strAt ?_); refine wpu_strAt (i := 0) rfl (by kernel_rfl) rfl rfl rfl HC0.out ?_; go_frame)
            | ((with_reducible refine at_eql ?_); refine wpu_eql rfl (by kernel_rfl) rfl rfl (by assumption) ?_; go_frame)
            | fail)
          go_ret
          exact ⟨rfl, GG.below⟩
    · clear hlast
      cases b3
      · clear hcl
        skip
        as_aux_lemma =>
        go_wp2_with (first
          | go_big_skip
          | ((with_reducible refine at_load ?_); refine wpu_load (hrf _ GG) rfl (by kernel_rfl) rfl rfl ?_; go_frame)
          | ((with_reducible refine at_eqS ?_); refine wpu_eqS rfl (by kernel_rfl) rfl rfl (by assumption) ?_; go_frame)
          | ((with_reducible refine at_neS ?_); refine wpu_neS rfl (by kernel_rfl) rfl rfl (by assumption) ?_; go_frame)
          | ((with_reducible refine at_strAt ?_); refine wpu_strAt (i := 0) rfl (by kernel_rfl) rfl rfl rfl HC0.out ?_; go_frame)
          | ((with_reducible refine at_eql ?_); refine wpu_eql rfl (by kernel_rfl) rfl rfl (by assumption) ?_; go_frame)
          | fail)
        go_ret
        exact ⟨rfl, GG.below⟩
      · obtain rfl := hcl rfl
        clear hcl
        skip
        as_aux_lemma =>
        go_wp2_with (first
          | go_big_skip
          | ((with_reducible refine at_load ?_); refine wpu_load (hrf _ GG) rfl (by kernel_rfl) rfl rfl ?_; go_frame)
          | ((with_reducible refine at_eqS ?_); refine wpu_eqS rfl (by kernel_rfl) rfl rfl (by assumption) ?_; go_frame)
          | ((with_reducible refine at_neS ?_); refine wpu_neS rfl (by kernel_rfl) rfl rfl (by assumption) ?_; go_frame)
          | ((with_reducible refine at_strAt ?_); refine wpu_strAt (i := 0) rfl (by kernel_rfl) rfl rfl rfl HC0.out ?_; go_frame)
          | ((with_reducible refine at_eql ?_); refine wpu_eql rfl (by kernel_rfl) rfl rfl (by assumption) ?_; go_frame)
          | fail)
        go_ret
        exact ⟨rfl, GG.below⟩

theorem contract {H : Type} {enc : TypeId × Value → H} {W : World} {vs : List Value} {ds : List (DataW H)}
    (hA : Args enc Tryd.prog W [22, 24, 9] vs ds) (hsz : (DataW.weightsEach Tryd.prog [22, 24, 9] ds).all (· ≤ reachBytes) = true) (hL : laidMetH Tryd.prog Rows.fieldsPartsRow.laid W) :
    Calls Tryd.prog 3 vs.toArray W fun e W' => e = .returned (.bool true) ∧ Below W.heap.size W W' := by
  obtain ⟨v0, _, d0, _, rfl, rfl, h0, hA⟩ := args_cons hA
  obtain ⟨v1, _, d1, _, rfl, rfl, h1, hA⟩ := args_cons hA
  obtain ⟨v2, _, d2, _, rfl, rfl, h2, hA⟩ := args_cons hA
  obtain ⟨rfl, rfl⟩ := args_nil hA
  obtain ⟨F, hf, kf⟩ := fds_in h0
  obtain ⟨cs, rfl, hc⟩ := arg_struct Tryd.underlying24 h1
  obtain ⟨x0, x1, x2, rfl, c0, c1, -⟩ := fieldCells hc
  obtain ⟨a, rfl, ha, -⟩ := arg_string Tryd.underlying9 h2
  unfold maxLen at ha c0 c1
  exact partsW (x0, x1, x2) a hf kf ⟨c0, c1⟩ ha



theorem spec {H : Type} : ∀ ds : List (DataW H), ds.length = 3 → Rows.fieldsPartsSpec.fn H ds = { results := [.lit (.bool true)], args := ds }
  | [_, _, _], _ => rfl
  | [], h => by cases h
  | [_], h => by cases h
  | [_, _], h => by cases h
  | _ :: _ :: _ :: _ :: _, h => by simp at h
theorem door_met (os : Os) (args : Array Value) : laidMetH Tryd.prog Rows.fieldsPartsRow.laid ((World.setRow (World.doorLaid Tryd.prog 72 os) (Tryd.prog.globalNamed "unicode/utf8.first").get! (Go.Pinned.utf8FirstZ.map fun z : Nat => Value.int .u8 (z : Int)).toArray).forCall (fun _ _ => 0) ⟨#[], args, []⟩).memory :=
  laidMetH_of_parts3 (fuel := 8) (laidMet_of_run' 8 (by kernel_rfl) (by kernel_rfl)) (by kernel_rfl) (by kernel_rfl)
set_option maxRecDepth 100000 in
theorem lifted (os : Os) (started : os.Started) (H : Type) (enc : TypeId × Value → H) :
    ReturnsInHanded {} Tryd.checked os 3 .any (fun w args => (Rows.fieldsPartsSpec.pre enc Tryd.prog Tryd.f3 Rows.fieldsPartsRow.domain false w args ∧ laidMetH Tryd.prog Rows.fieldsPartsRow.laid w) ∧ sizedMet enc Tryd.prog Tryd.f3 (OpenSpec.ofChange Rows.fieldsPartsSpec) false w args)
      (Rows.fieldsPartsSpec.post enc Tryd.prog Tryd.f3 false true false false) :=
  lifted_of_law_laid (C := Tryd.checked) (fn := Tryd.f3) (s := Rows.fieldsPartsSpec) (tb := 4) (by kernel_rfl) started (by kernel_rfl) Tryd.func3
    (ChangeSpec.witness_shaped (enc := enc) (C := Tryd.checked) (os := os) (X := fun w _ => laidMetH Tryd.prog Rows.fieldsPartsRow.laid w) false (World.setRow (World.doorLaid Tryd.prog 72 os) (Tryd.prog.globalNamed "unicode/utf8.first").get! (Go.Pinned.utf8FirstZ.map fun z : Nat => Value.int .u8 (z : Int)).toArray) #[.slice none 0 0, .agg #[.string ⟨#[]⟩, .string ⟨#[]⟩, .bool false], .string ⟨#[]⟩] 8 rfl (World.shaped_of_RefB (by kernel_rfl) (by kernel_rfl)) (by kernel_rfl) (by kernel_rfl) (by kernel_rfl) (door_met os _))
    rfl spec (by kernel_rfl) Tryd.underlying4 (by kernel_rfl) (by kernel_rfl) (fun _ _ _ h1 h2 h3 => contract h1 h2 h3)

theorem holds : Rows.FieldsPartsSaid :=
  OpenClaim.holds_of_wide 3 Tryd.f3 rfl rfl rfl rfl rfl rfl rfl ⟨rfl, rfl, rfl, rfl, rfl⟩ rfl rfl rfl rfl rfl (by kernel_rfl) Tryd.func3 (by kernel_rfl)
    (of_decide_eq_true (by kernel_rfl)) (by unfold Func.isWrapper; first | (rw [if_pos (by decide +kernel)]; kernel_rfl) | (rw [if_neg (by decide +kernel)]; exact ⟨rfl, rfl⟩))
    (fun os started H enc _ => lifted os started H enc)

theorem proved : Rows.FieldsPartsCardSaid :=
  Claim7.holds_tied_plain_at .later [] [.data, .data, .data, .data, .sentinel, .sentinel, .pinned] true (true, "b7b04a5e23c144aaf3ed07f71e534f1c77dbf3b9fe34ff9557e3f13d899a9de9") true
    holds (fun _ h => by cases h) (by kernel_rfl) (fun _ h => by cases h) fieldsParts_row_tie rfl ⟨rfl, rfl⟩ (by kernel_rfl) rfl
    (fun f fn hf hfn => by
      obtain rfl : f = 3 := Option.some.inj ((show Tryd.prog.funcNamed "flume/flumelaw10.FieldsParts" = some 3 by kernel_rfl).symm.trans hf) |>.symm
      obtain rfl : fn = Tryd.f3 := (Option.some.inj (Tryd.func3.symm.trans hfn)).symm
      exact ⟨by kernel_rfl, fun j t ht => by
        rw [Tryd.params3] at ht
        have hm : t ∈ [22, 24, 9] := by simpa using Array.mem_of_getElem? ht
        have hall : ([22, 24, 9].all fun u => !Tryd.prog.wantsStandIn u) = true := by kernel_rfl
        exact (show Tryd.prog.wantsStandIn t = false by simpa using List.all_eq_true.1 hall t hm)⟩)
    (by kernel_rfl)
end Go.Proofs.YtikngjdljdofkaaDoor.fieldsParts
