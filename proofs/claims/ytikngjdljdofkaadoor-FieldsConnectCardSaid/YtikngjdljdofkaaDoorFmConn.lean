

/-
  FieldsConnect: who asks for a tunnel says where to, and nothing else.
-/
import Derived.Test.YtikngjdljdofkaaDoorFmEnd
import Derived.Test.YtikngjdljdofkaaDoorStrAdd
import Derived.Test.YtikngjdljdofkaaDoorLawD
import Derived.Test.YtikngjdljdofkaaDoorTie
import Derived.Test.YtikngjdljdofkaaDoorCards
import Derived.SevenTiedAt
namespace Go.Proofs.YtikngjdljdofkaaDoor.fieldsConnect
open Go.RowKit Go.Sl Go.ChangeShapes

def connL (a : Txt) : List Fd := [(nMethod, [67, 79, 78, 78, 69, 67, 84], false), (nAuth, a, false)]
def sC (a : Txt) : Ms := ⟨-1, [(nAuth, a), (nMethod, [67, 79, 78, 78, 69, 67, 84])], 2⟩
theorem hop_no {n a : Txt} (h1 : hopN n = false) (h2 : decide (n = [116, 101]) = false) : hopR (n, a, false) = false := by
  unfold hopR
  rw [h1, h2]
  rfl
theorem step_a (a : Txt) (h : valueR a = true) : stepR reqN 1 (nAuth, a, false) ⟨-1, [(nMethod, [67, 79, 78, 78, 69, 67, 84])], 1⟩ = some (sC a) :=
  stepR_pseudo (s := ⟨-1, [(nMethod, [67, 79, 78, 78, 69, 67, 84])], 1⟩) h (hop_no (by decide) (by decide)) rfl (by rfl) (show nAuth ∈ reqN by decide)
theorem step_bad {named : List Txt} {i : Nat} {f : Fd} {s : Ms} (h : valueR f.2.1 = false) : stepR named i f s = none := by
  unfold stepR
  rw [if_pos (by rw [h]; rfl)]
set_option maxRecDepth 10000 in
theorem step_m : stepR reqN 0 (nMethod, [67, 79, 78, 78, 69, 67, 84], false) ⟨-1, [], 0⟩ = some ⟨-1, [(nMethod, [67, 79, 78, 78, 69, 67, 84])], 1⟩ :=
  stepR_pseudo (s := ⟨-1, [], 0⟩) (by decide +kernel) (hop_no (by decide) (by decide)) rfl (by rfl) (by decide)
theorem msg_c (a : Txt) : messageR reqN (connL a) = if valueR a = true then some (sC a) else none := by
  unfold messageR connL
  unfold runR
  rw [step_m]
  simp only
  unfold runR
  cases h : valueR a with
  | true => rw [step_a a h]; rfl
  | false => rw [step_bad h]; rfl
theorem msg_cm (a m : Txt) : messageR reqN (connL a ++ [(m, [47], false)]) = if valueR a = true then stepR reqN 2 (m, [47], false) (sC a) else none := by
  have h := msg_c a
  unfold messageR at h ⊢
  rw [runR_app, h]
  cases valueR a with
  | false => rfl
  | true =>
    simp only [if_true, Option.bind_some]
    show runR reqN 2 [(m, [47], false)] (sC a) = _
    unfold runR
    cases stepR reqN 2 (m, [47], false) (sC a) <;> rfl
theorem req_c (a : Txt) : (requestR (connL a)).isSome = (valueR a && !decide (a = [])) := by
  unfold requestR
  rw [msg_c]
  cases valueR a with
  | false => rfl
  | true =>
    simp only [if_true]
    have : requestOk (sC a).map = !decide (a = []) := by
      rw [requestOk_eq]
      show oks (decide ([67, 79, 78, 78, 69, 67, 84] = ([] : Txt))) (decide ([67, 79, 78, 78, 69, 67, 84] = ([67, 79, 78, 78, 69, 67, 84] : Txt))) (decide (a = [])) false false true false false false = _
      cases decide (a = []) <;> rfl
    rw [this]
    cases decide (a = []) <;> rfl
def moreL : List Txt := [nScheme, nPath, nAuth, nMethod, nStatus]
set_option maxRecDepth 10000 in
theorem req_no (a m : Txt) (hm : m ∈ moreL) : requestR (connL a ++ [(m, [47], false)]) = none := by
  unfold requestR
  rw [msg_cm]
  cases valueR a with
  | false => rfl
  | true =>
    simp only [if_true]
    have hv : valueR [47] = true := by decide +kernel
    simp only [moreL, List.mem_cons, List.not_mem_nil, or_false] at hm
    rcases hm with rfl | rfl | rfl | rfl | rfl
    · rw [show (2 : Nat) = (sC a).last from rfl, stepR_pseudo (s := sC a) (f := (nScheme, [47], false)) hv (hop_no (by decide) (by decide)) rfl (by rfl) (by decide)]
      simp only
      rw [if_neg]
      rw [requestOk_eq]
      show ¬ oks (decide ([67, 79, 78, 78, 69, 67, 84] = ([] : Txt))) (decide ([67, 79, 78, 78, 69, 67, 84] = ([67, 79, 78, 78, 69, 67, 84] : Txt))) (decide (a = [])) true false false false false false = true
      cases decide (a = []) <;> decide
    · rw [show (2 : Nat) = (sC a).last from rfl, stepR_pseudo (s := sC a) (f := (nPath, [47], false)) hv (hop_no (by decide) (by decide)) rfl (by rfl) (by decide)]
      simp only
      rw [if_neg]
      rw [requestOk_eq]
      show ¬ oks (decide ([67, 79, 78, 78, 69, 67, 84] = ([] : Txt))) (decide ([67, 79, 78, 78, 69, 67, 84] = ([67, 79, 78, 78, 69, 67, 84] : Txt))) (decide (a = [])) false true true true false false = true
      cases decide (a = []) <;> decide
    · have : stepR reqN 2 (nAuth, [47], false) (sC a) = none := by
        unfold stepR
        rw [if_neg (by rw [hv, hop_no (by decide) (by decide)]; decide), if_neg (by decide), if_neg (fun e => by have := e.2.1; cases this)]
      rw [this]
    · have : stepR reqN 2 (nMethod, [47], false) (sC a) = none := by
        unfold stepR
        rw [if_neg (by rw [hv, hop_no (by decide) (by decide)]; decide), if_neg (by decide), if_neg (fun e => by have := e.2.1; cases this)]
      rw [this]
    · have : stepR reqN 2 (nStatus, [47], false) (sC a) = none := by
        unfold stepR
        rw [if_neg (by rw [hv, hop_no (by decide) (by decide)]; decide), if_neg (by decide), if_neg (fun e => absurd e.2.2 (by decide))]
      rw [this]
theorem trail_x (a : Txt) : trailersR [([120], a, false)] = valueR a := by
  unfold trailersR messageR
  unfold runR
  cases h : valueR a with
  | false => rw [step_bad h]; rfl
  | true =>
    rw [stepR_plain (f := ([120], a, false)) h (hop_no (by decide) (by decide)) rfl (show nameR [120] = true by decide +kernel)]
    rfl

theorem build5 (a b c d e : Txt) (w : World) : (Instr.buildSlice 42 5 #[(0, str a), (1, str b), (2, str c), (3, str d), (4, str e)]).run Tryd.prog w = .ok (.slice (some ⟨w.heap.size, 0, none⟩) 5 5) (w.alloc (.cells (strs [a, b, c, d, e]).toArray 9)) := by kernel_rfl
theorem conn_small {a : Txt} (h : a.length ≤ 200) : (∀ f ∈ connL a, f.1.length ≤ 1000000 ∧ f.2.1.length ≤ 1000000) ∧ (connL a).length ≤ 1000 := by
  refine ⟨fun f hf => ?_, by simp [connL]⟩
  simp [connL] at hf
  rcases hf with rfl | rfl
  · decide
  · show nAuth.length ≤ 1000000 ∧ a.length ≤ 1000000
    exact ⟨by decide, by omega⟩
theorem conn_small2 {a m : Txt} (h : a.length ≤ 200) (hm : m ∈ moreL) : (∀ f ∈ connL a ++ [(m, [47], false)], f.1.length ≤ 1000000 ∧ f.2.1.length ≤ 1000000) ∧ (connL a ++ [(m, [47], false)]).length ≤ 1000 := by
  refine ⟨fun f hf => ?_, by simp [connL]⟩
  rcases List.mem_append.1 hf with hf | hf
  · exact (conn_small h).1 f hf
  · rw [List.mem_singleton.1 hf]
    have : m.length ≤ 1000000 := by
      simp only [moreL, List.mem_cons, List.not_mem_nil, or_false] at hm
      rcases hm with rfl | rfl | rfl | rfl | rfl <;> decide
    exact ⟨this, (by decide : ([47] : Txt).length ≤ 1000000)⟩
theorem x_small {a : Txt} (h : a.length ≤ 200) : (∀ f ∈ [(([120] : Txt), a, false)], f.1.length ≤ 1000000 ∧ f.2.1.length ≤ 1000000) ∧ [(([120] : Txt), a, false)].length ≤ 1000 := by
  refine ⟨fun f hf => ?_, by simp⟩
  rw [List.mem_singleton.1 hf]
  exact ⟨(by decide : ([120] : Txt).length ≤ 1000000), by show a.length ≤ 1000000; omega⟩

set_option maxHeartbeats 16000000 in
set_option maxRecDepth 100000 in
theorem connW {w0 : World} (a0 : Txt) (n : Int) (ha0 : a0.length ≤ 9223372036854775807) : Calls Tryd.prog 8 #[str a0, .int .i64 n] w0 fun e w' => e = .returned (.bool true) ∧ Below w0.heap.size w0 w' := by
  have G := own_begin w0
  obtain ⟨p, p0, p1, p2⟩ : ∃ k : Nat, min (a0.length : Int) 200 = (k : Int) ∧ k ≤ a0.length ∧ k ≤ 200 := ⟨min a0.length 200, by omega, by omega, by omega⟩
  obtain ⟨a, ha⟩ : ∃ a, a0.take p = a := ⟨_, rfl⟩
  have hal : a.length ≤ 200 := by rw [← ha]; simp; omega
  have HA := Lib.hid ha
  clear ha
  obtain ⟨k, hk, hk5⟩ : ∃ k : Nat, (bits .and .i64 n 15).tmod 5 = (k : Int) ∧ k < 5 := by
    obtain ⟨m, hm, -⟩ := and_i64 n 15 (by decide)
    exact ⟨m % 5, by rw [show bits .and .i64 n 15 = (m : Int) from hm]; rfl, Nat.mod_lt _ (by decide)⟩
  go_enter Tryd.func8, Tryd.ntmps8
  go_wp2_with fail
  refine Calls.mono (shownFm G) ?_
  clear G; rintro e w ⟨rfl, G⟩
  go_wp2_with (first
    | ((with_reducible refine at_sliceAny ?_); refine wpu_strH (l := a0) (j := p) rfl rfl rfl rfl rfl p1 ?_; rw [HA.out]; go_frame)
    | ((with_reducible refine at_build ?_); refine hold ?_)
    | fail)
  unfold Held
  refine wpu_val rfl (exec_buildT _ rfl (by kernel_rfl) (bld4 nMethod [67, 79, 78, 78, 69, 67, 84] nAuth a _)) ?_
  go_frame
  have G1 := own_new_sl (n := 4) (sz := 1) G (pairs (connL a)) 9 rfl (by decide)
  clear G
  go_wp2_with fail
  refine Calls.mono (ofC (F := (connL a)) rfl (by show 2 ≤ 1000; decide) G1 (fun w h => own_rd h)) ?_
  clear G1; rintro e w ⟨v, rfl, G⟩
  change Own _ (sl 3 v 2 (fds (connL a)) * _) w at G
  obtain ⟨to, tc, rfl, t1, t2⟩ := G.hdr v
  unfold maxLen at t2
  obtain ⟨s1, s2⟩ := conn_small hal
  obtain ⟨mm, b, hmm, hb, -⟩ := msgV_eq (requestR (connL a))
  have HM := Lib.hid hmm
  have HB : Hid (b = (valueR a && !decide (a = []))) := Lib.hid (by rw [← hb, req_c])
  clear hmm hb
  go_wp2_with fail
  refine Calls.mono (requestC (L := connL a) s1 s2 G (fun w h => own_rd h)) ?_
  clear G s1 s2; rintro e w ⟨rfl, G⟩
  rw [HM.out]
  go_wp2_with (first
    | ((with_reducible refine at_build ?_); refine hold ?_)
    | ((with_reducible refine at_alloc ?_); refine wpu_new G ?_; clear G; intro w G)
    | ((with_reducible refine at_drew ?_); refine wpu_drew G ?_; clear G; intro w G)
    | ((with_reducible refine at_load ?_); first
      | (refine wpu_load G rfl rfl rfl rfl ?_; go_frame)
      | (refine wpu_loadB G rfl rfl rfl (by rfl) ?_; go_frame)
      | (refine wpu_loadS G rfl rfl rfl (by rfl) ?_; simp only [List.drop_succ_cons, List.drop_zero, List.take_succ_cons, List.take_zero]; go_frame))
    | ((with_reducible refine at_store ?_); first
      | (refine wpu_store G rfl rfl rfl rfl (by first | rfl | assumption | simp [*]) rfl ?_; clear G; intro w G; go_frame)
      | (refine wpu_storeB G rfl rfl rfl rfl (by rfl) (by rfl) (by first | rfl | assumption | simp [*]) ?_; clear G; intro w G; go_frame)
      | (refine wpu_storeS G rfl rfl rfl rfl (by rfl) (by rfl) (by first | rfl | assumption | simp [*]) ?_; clear G; intro w G; go_frame))
    | ((with_reducible refine at_convert ?_); refine wpu_str G rfl rfl rfl rfl ?_; go_frame)
    | ((with_reducible refine at_slice ?_); first
      | (refine wpu_sliceLo rfl rfl rfl rfl (by first | rfl | omega) (by omega) (by omega) ?_; go_frame)
      | (refine wpu_sliceLH rfl rfl rfl rfl rfl (by first | rfl | omega) (by first | rfl | omega) (by omega) (by omega) ?_; go_frame))
    | fail)
  unfold Held
  refine wpu_val rfl (exec_buildT _ rfl (by kernel_rfl) (bld2 [120] a _)) ?_
  go_frame
  have G1 := own_new_sl (n := 2) (sz := 1) G (pairs [(([120] : Txt),a,false)]) 9 rfl (by decide)
  clear G
  go_wp2_with fail
  refine Calls.mono (ofC (F := [(([120] : Txt),a,false)]) rfl (by show 1 ≤ 1000; decide) G1 (fun w h => own_rd h)) ?_
  clear G1; rintro e w ⟨v, rfl, G⟩
  change Own _ (sl 3 v 1 (fds [(([120] : Txt),a,false)]) * _) w at G
  obtain ⟨xo, xc, rfl, t3, t4⟩ := G.hdr v
  unfold maxLen at t4
  obtain ⟨s1, s2⟩ := x_small hal
  go_wp2_with fail
  refine Calls.mono (trailersC (L := [(([120] : Txt), a, false)]) s1 s2 G (fun w h => own_rd h)) ?_
  clear G s1 s2; rintro e w ⟨rfl, G⟩
  rw [trail_x]
  go_wp2_with (first
    | ((with_reducible refine at_build ?_); refine hold ?_)
    | ((with_reducible refine at_alloc ?_); refine wpu_new G ?_; clear G; intro w G)
    | ((with_reducible refine at_drew ?_); refine wpu_drew G ?_; clear G; intro w G)
    | ((with_reducible refine at_load ?_); first
      | (refine wpu_load G rfl rfl rfl rfl ?_; go_frame)
      | (refine wpu_loadB G rfl rfl rfl (by rfl) ?_; go_frame)
      | (refine wpu_loadS G rfl rfl rfl (by rfl) ?_; simp only [List.drop_succ_cons, List.drop_zero, List.take_succ_cons, List.take_zero]; go_frame))
    | ((with_reducible refine at_store ?_); first
      | (refine wpu_store G rfl rfl rfl rfl (by first | rfl | assumption | simp [*]) rfl ?_; clear G; intro w G; go_frame)
      | (refine wpu_storeB G rfl rfl rfl rfl (by rfl) (by rfl) (by first | rfl | assumption | simp [*]) ?_; clear G; intro w G; go_frame)
      | (refine wpu_storeS G rfl rfl rfl rfl (by rfl) (by rfl) (by first | rfl | assumption | simp [*]) ?_; clear G; intro w G; go_frame))
    | ((with_reducible refine at_convert ?_); refine wpu_str G rfl rfl rfl rfl ?_; go_frame)
    | ((with_reducible refine at_slice ?_); first
      | (refine wpu_sliceLo rfl rfl rfl rfl (by first | rfl | omega) (by omega) (by omega) ?_; go_frame)
      | (refine wpu_sliceLH rfl rfl rfl rfl rfl (by first | rfl | omega) (by first | rfl | omega) (by omega) (by omega) ?_; go_frame))
    | fail)
  unfold Held
  refine wpu_val rfl (exec_buildT _ rfl (by kernel_rfl) (build5 nScheme nPath nAuth nMethod nStatus _)) ?_
  have G1 := own_new G (strs moreL) 9
  have hstr : ∀ (w : World), w.alloc (.cells (strs [nScheme, nPath, nAuth, nMethod, nStatus]).toArray 9) = w.alloc (.cells (strs moreL).toArray 9) := fun _ => rfl
  rw [hstr]
  generalize w.heap.size = z at G1 ⊢
  clear G
  generalize w.alloc _ = w1 at G1 ⊢
  have G := G1
  clear G1
  go_frame
  obtain ⟨x, hx⟩ : ∃ x, moreL[k]? = some x := ⟨moreL[k]'hk5, List.getElem?_eq_getElem _⟩
  have HX := Lib.hid (strs_at hx)
  have hxm := List.mem_of_getElem? hx
  clear hx
  have HNO := Lib.hid (req_no a x hxm)
  have HS2 := Lib.hid (conn_small2 (a := a) (m := x) hal hxm)
  go_wp2_with (first
    | ((with_reducible refine at_load ?_); refine wpu_load (i := k) G rfl rfl rfl HX.out ?_; go_frame)
    | ((with_reducible refine at_build ?_); refine hold ?_)
    | fail)
  unfold Held
  refine wpu_val rfl (exec_buildT _ rfl (by kernel_rfl) (bld2 x [47] _)) ?_
  go_frame
  have G1 := own_new_sl (n := 2) (sz := 1) G (pairs [(x,[47],false)]) 9 rfl (by decide)
  clear G
  go_wp2_with fail
  refine Calls.mono (ofC (F := [(x,[47],false)]) rfl (by show 1 ≤ 1000; decide) G1 (fun w h => own_rd h)) ?_
  clear G1; rintro e w ⟨v, rfl, G⟩
  change Own _ (sl 3 v 1 (fds [(x,[47],false)]) * _) w at G
  obtain ⟨yo, yc, rfl, t5, t6⟩ := G.hdr v
  unfold maxLen at t6
  go_wp2_with (first
    | ((with_reducible refine at_append ?_); refine wpu_append (v := .slice to 2 tc) G rfl rfl rfl rfl (G.rd (.slice yo 1 yc) _ G) (fds_one _) (by unfold maxLen; omega) (by omega) ?_; clear G; intro v w G; refine hold ?_)
    | fail)
  unfold Held
  rw [fds_app] at G
  obtain ⟨jo, jc, rfl, z1, z2⟩ := G.hdr v
  unfold maxLen at z2
  try go_frame
  obtain ⟨s1, s2⟩ := HS2.out
  go_wp2_with fail
  refine Calls.mono (requestC (L := connL a ++ [(x, [47], false)]) s1 s2 G (fun w h => own_rd h)) ?_
  clear G s1 s2; rintro e w ⟨rfl, G⟩
  rw [HNO.out, show msgV none = .tuple #[.agg #[str [], str [], str [], str [], .int .i64 0, .int .i64 0], .bool false] from rfl]
  obtain ⟨q1, hq1⟩ : ∃ q, valueR a = q := ⟨_, rfl⟩
  obtain ⟨q2, hq2⟩ : ∃ q, decide (a = []) = q := ⟨_, rfl⟩
  obtain rfl : b = (q1 && !q2) := by rw [← hq1, ← hq2]; exact HB.out
  rw [hq1]
  clear HB HNO HX HS2 hq1
  cases q1
  · cases q2
    · skip
      as_aux_lemma =>
      go_wp2_with (first
        | ((with_reducible refine at_neS ?_); refine wpu_neS rfl (by kernel_rfl) rfl rfl (by assumption) ?_; go_frame)
        | ((with_reducible refine at_alloc ?_); refine wpu_new G ?_; clear G; intro w G)
        | ((with_reducible refine at_drew ?_); refine wpu_drew G ?_; clear G; intro w G)
        | go_big_skip
        | ((with_reducible refine at_load ?_); first
          | (refine wpu_load G rfl (by kernel_rfl) rfl rfl ?_; go_frame)
          | (refine wpu_loadB G rfl (by kernel_rfl) rfl (by rfl) ?_; go_frame)
          | (refine wpu_loadS G rfl (by kernel_rfl) rfl (by rfl) ?_; simp only [List.drop_succ_cons, List.drop_zero, List.take_succ_cons, List.take_zero]; go_frame))
        | ((with_reducible refine at_store ?_); first
          | (refine wpu_store G rfl (by kernel_rfl) rfl rfl (by first | rfl | assumption | simp [*]) rfl ?_; clear G; intro w G; go_frame)
          | (refine wpu_storeB G rfl (by kernel_rfl) rfl rfl (by rfl) (by rfl) (by first | rfl | assumption | simp [*]) ?_; clear G; intro w G; go_frame)
          | (refine wpu_storeS G rfl (by kernel_rfl) rfl rfl (by rfl) (by rfl) (by first | rfl | assumption | simp [*]) ?_; clear G; intro w G; go_frame))
        | ((with_reducible refine at_convert ?_); refine wpu_str G rfl (by kernel_rfl) rfl rfl ?_; go_frame)
        | fail)
      go_ret
      exact ⟨rfl, G.below⟩
    · skip
      as_aux_lemma =>
      go_wp2_with (first
        | ((with_reducible refine at_neS ?_); refine wpu_neS rfl (by kernel_rfl) rfl rfl (by assumption) ?_; go_frame)
        | ((with_reducible refine at_alloc ?_); refine wpu_new G ?_; clear G; intro w G)
        | ((with_reducible refine at_drew ?_); refine wpu_drew G ?_; clear G; intro w G)
        | go_big_skip
        | ((with_reducible refine at_load ?_); first
          | (refine wpu_load G rfl (by kernel_rfl) rfl rfl ?_; go_frame)
          | (refine wpu_loadB G rfl (by kernel_rfl) rfl (by rfl) ?_; go_frame)
          | (refine wpu_loadS G rfl (by kernel_rfl) rfl (by rfl) ?_; simp only [List.drop_succ_cons, List.drop_zero, List.take_succ_cons, List.take_zero]; go_frame))
        | ((with_reducible refine at_store ?_); first
          | (refine wpu_store G rfl (by kernel_rfl) rfl rfl (by first | rfl | assumption | simp [*]) rfl ?_; clear G; intro w G; go_frame)
          | (refine wpu_storeB G rfl (by kernel_rfl) rfl rfl (by rfl) (by rfl) (by first | rfl | assumption | simp [*]) ?_; clear G; intro w G; go_frame)
          | (refine wpu_storeS G rfl (by kernel_rfl) rfl rfl (by rfl) (by rfl) (by first | rfl | assumption | simp [*]) ?_; clear G; intro w G; go_frame))
        | ((with_reducible refine at_convert ?_); refine wpu_str G rfl (by kernel_rfl) rfl rfl ?_; go_frame)
        | fail)
      go_ret
      exact ⟨rfl, G.below⟩
  · cases q2
    · skip
      as_aux_lemma =>
      go_wp2_with (first
        | ((with_reducible refine at_neS ?_); refine wpu_neS rfl (by kernel_rfl) rfl rfl (by assumption) ?_; go_frame)
        | ((with_reducible refine at_alloc ?_); refine wpu_new G ?_; clear G; intro w G)
        | ((with_reducible refine at_drew ?_); refine wpu_drew G ?_; clear G; intro w G)
        | go_big_skip
        | ((with_reducible refine at_load ?_); first
          | (refine wpu_load G rfl (by kernel_rfl) rfl rfl ?_; go_frame)
          | (refine wpu_loadB G rfl (by kernel_rfl) rfl (by rfl) ?_; go_frame)
          | (refine wpu_loadS G rfl (by kernel_rfl) rfl (by rfl) ?_; simp only [List.drop_succ_cons, List.drop_zero, List.take_succ_cons, List.take_zero]; go_frame))
        | ((with_reducible refine at_store ?_); first
          | (refine wpu_store G rfl (by kernel_rfl) rfl rfl (by first | rfl | assumption | simp [*]) rfl ?_; clear G; intro w G; go_frame)
          | (refine wpu_storeB G rfl (by kernel_rfl) rfl rfl (by rfl) (by rfl) (by first | rfl | assumption | simp [*]) ?_; clear G; intro w G; go_frame)
          | (refine wpu_storeS G rfl (by kernel_rfl) rfl rfl (by rfl) (by rfl) (by first | rfl | assumption | simp [*]) ?_; clear G; intro w G; go_frame))
        | ((with_reducible refine at_convert ?_); refine wpu_str G rfl (by kernel_rfl) rfl rfl ?_; go_frame)
        | fail)
      go_ret
      exact ⟨rfl, G.below⟩
    · skip
      as_aux_lemma =>
      go_wp2_with (first
        | ((with_reducible refine at_neS ?_); refine wpu_neS rfl (by kernel_rfl) rfl rfl (by assumption) ?_; go_frame)
        | ((with_reducible refine at_alloc ?_); refine wpu_new G ?_; clear G; intro w G)
        | ((with_reducible refine at_drew ?_); refine wpu_drew G ?_; clear G; intro w G)
        | go_big_skip
        | ((with_reducible refine at_load ?_); first
          | (refine wpu_load G rfl (by kernel_rfl) rfl rfl ?_; go_frame)
          | (refine wpu_loadB G rfl (by kernel_rfl) rfl (by rfl) ?_; go_frame)
          | (refine wpu_loadS G rfl (by kernel_rfl) rfl (by rfl) ?_; simp only [List.drop_succ_cons, List.drop_zero, List.take_succ_cons, List.take_zero]; go_frame))
        | ((with_reducible refine at_store ?_); first
          | (refine wpu_store G rfl (by kernel_rfl) rfl rfl (by first | rfl | assumption | simp [*]) rfl ?_; clear G; intro w G; go_frame)
          | (refine wpu_storeB G rfl (by kernel_rfl) rfl rfl (by rfl) (by rfl) (by first | rfl | assumption | simp [*]) ?_; clear G; intro w G; go_frame)
          | (refine wpu_storeS G rfl (by kernel_rfl) rfl rfl (by rfl) (by rfl) (by first | rfl | assumption | simp [*]) ?_; clear G; intro w G; go_frame))
        | ((with_reducible refine at_convert ?_); refine wpu_str G rfl (by kernel_rfl) rfl rfl ?_; go_frame)
        | fail)
      go_ret
      exact ⟨rfl, G.below⟩

theorem contract {H : Type} {enc : TypeId × Value → H} {W : World} {vs : List Value} {ds : List (DataW H)}
    (hA : Args enc Tryd.prog W [9, 3] vs ds) (hsz : (DataW.weightsEach Tryd.prog [9, 3] ds).all (· ≤ reachBytes) = true) (hL : laidMetH Tryd.prog Rows.fieldsConnectRow.laid W) :
    Calls Tryd.prog 8 vs.toArray W fun e W' => e = .returned (.bool true) ∧ Below W.heap.size W W' := by
  obtain ⟨v0, _, d0, _, rfl, rfl, h0, hA⟩ := args_cons hA
  obtain ⟨v1, _, d1, _, rfl, rfl, h1, hA⟩ := args_cons hA
  obtain ⟨rfl, rfl⟩ := args_nil hA
  obtain ⟨a, rfl, ha, -⟩ := arg_string Tryd.underlying9 h0
  obtain ⟨n, rfl, -⟩ := arg_i64 Tryd.underlying3 h1
  unfold maxLen at ha
  exact connW a n ha



theorem spec {H : Type} : ∀ ds : List (DataW H), ds.length = 2 → Rows.fieldsConnectSpec.fn H ds = { results := [.lit (.bool true)], args := ds }
  | [_, _], _ => rfl
  | [], h => by cases h
  | [_], h => by cases h
  | _ :: _ :: _ :: _, h => by simp at h
theorem door_met (os : Os) (args : Array Value) : laidMetH Tryd.prog Rows.fieldsConnectRow.laid ((World.setRow (World.doorLaid Tryd.prog 72 os) (Tryd.prog.globalNamed "unicode/utf8.first").get! (Go.Pinned.utf8FirstZ.map fun z : Nat => Value.int .u8 (z : Int)).toArray).forCall (fun _ _ => 0) ⟨#[], args, []⟩).memory :=
  laidMetH_of_parts3 (fuel := 8) (laidMet_of_run' 8 (by kernel_rfl) (by kernel_rfl)) (by kernel_rfl) (by kernel_rfl)
set_option maxRecDepth 100000 in
theorem lifted (os : Os) (started : os.Started) (H : Type) (enc : TypeId × Value → H) :
    ReturnsInHanded {} Tryd.checked os 8 .any (fun w args => (Rows.fieldsConnectSpec.pre enc Tryd.prog Tryd.f8 Rows.fieldsConnectRow.domain false w args ∧ laidMetH Tryd.prog Rows.fieldsConnectRow.laid w) ∧ sizedMet enc Tryd.prog Tryd.f8 (OpenSpec.ofChange Rows.fieldsConnectSpec) false w args)
      (Rows.fieldsConnectSpec.post enc Tryd.prog Tryd.f8 false true false false) :=
  lifted_of_law_laid (C := Tryd.checked) (fn := Tryd.f8) (s := Rows.fieldsConnectSpec) (tb := 4) (by kernel_rfl) started (by kernel_rfl) Tryd.func8
    (ChangeSpec.witness_shaped (enc := enc) (C := Tryd.checked) (os := os) (X := fun w _ => laidMetH Tryd.prog Rows.fieldsConnectRow.laid w) false (World.setRow (World.doorLaid Tryd.prog 72 os) (Tryd.prog.globalNamed "unicode/utf8.first").get! (Go.Pinned.utf8FirstZ.map fun z : Nat => Value.int .u8 (z : Int)).toArray) #[.string ⟨#[]⟩, .int .i64 0] 8 rfl (World.shaped_of_RefB (by kernel_rfl) (by kernel_rfl)) (by kernel_rfl) (by kernel_rfl) (by kernel_rfl) (door_met os _))
    rfl spec (by kernel_rfl) Tryd.underlying4 (by kernel_rfl) (by kernel_rfl) (fun _ _ _ h1 h2 h3 => contract h1 h2 h3)

theorem holds : Rows.FieldsConnectSaid :=
  OpenClaim.holds_of_wide 8 Tryd.f8 rfl rfl rfl rfl rfl rfl rfl ⟨rfl, rfl, rfl, rfl, rfl⟩ rfl rfl rfl rfl rfl (by kernel_rfl) Tryd.func8 (by kernel_rfl)
    (of_decide_eq_true (by kernel_rfl)) (by unfold Func.isWrapper; first | (rw [if_pos (by decide +kernel)]; kernel_rfl) | (rw [if_neg (by decide +kernel)]; exact ⟨rfl, rfl⟩))
    (fun os started H enc _ => lifted os started H enc)

theorem proved : Rows.FieldsConnectCardSaid :=
  Claim7.holds_tied_plain_at .later [] [.data, .data, .data, .data, .sentinel, .sentinel, .pinned] true (true, "b7b04a5e23c144aaf3ed07f71e534f1c77dbf3b9fe34ff9557e3f13d899a9de9") true
    holds (fun _ h => by cases h) (by kernel_rfl) (fun _ h => by cases h) fieldsConnect_row_tie rfl ⟨rfl, rfl⟩ (by kernel_rfl) rfl
    (fun f fn hf hfn => by
      obtain rfl : f = 8 := Option.some.inj ((show Tryd.prog.funcNamed "flume/flumelaw10.FieldsConnect" = some 8 by kernel_rfl).symm.trans hf) |>.symm
      obtain rfl : fn = Tryd.f8 := (Option.some.inj (Tryd.func8.symm.trans hfn)).symm
      exact ⟨by kernel_rfl, fun j t ht => by
        rw [Tryd.params8] at ht
        have hm : t ∈ [9, 3] := by simpa using Array.mem_of_getElem? ht
        have hall : ([9, 3].all fun u => !Tryd.prog.wantsStandIn u) = true := by kernel_rfl
        exact (show Tryd.prog.wantsStandIn t = false by simpa using List.all_eq_true.1 hall t hm)⟩)
    (by kernel_rfl)
end Go.Proofs.YtikngjdljdofkaaDoor.fieldsConnect
