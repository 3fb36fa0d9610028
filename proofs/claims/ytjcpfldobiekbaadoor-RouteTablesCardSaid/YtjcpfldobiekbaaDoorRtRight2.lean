




/-
  Whether a snapshot is right: the document's answer.
-/
import Derived.Test.YtjcpfldobiekbaaDoorRtRight
import Derived.Test.YtjcpfldobiekbaaDoorRtMay2
namespace Go.Proofs.YtjcpfldobiekbaaDoor
open Go.RowKit Go.Sl Go.ChangeShapes Go.Fl


theorem strs_take {w : World} {ao : Option Addr} {cap : Nat} {L : List Txt} (h : rd w 1 (.slice ao L.length cap) L.length (strs L)) {k : Nat} (hk : k ≤ L.length) : rd w 1 (.slice ao k cap) (L.take k).length (strs (L.take k)) := by
  have e : (L.take k).length = k := by simp; omega
  have := rd_take1 h hk
  have e2 : (strs L).take k = strs (L.take k) := by simp [strs, List.map_take]
  rw [e, ← e2]; exact this
theorem buildS (x : Txt) (w : World) : (Instr.buildSlice 22 1 #[(0, str x)]).run Tryd.prog w = .ok (.slice (some ⟨w.heap.size, 0, none⟩) 1 1) (w.alloc (.cells (strs [x]).toArray 9)) := by kernel_rfl

set_option maxHeartbeats 16000000 in
set_option maxRecDepth 100000 in
theorem rightRefC {w0 : World} {s : Sn} {cs : List Value} (hs : rdSn w0 cs s) (ok : s.ok) :
    Calls Tryd.prog 31 #[.agg cs.toArray] w0 fun e w' => e = .returned (.bool (rightR s)) ∧ Below w0.heap.size w0 w' := by
  have G := own_begin w0
  obtain ⟨vc, vh, xs, rfl, hc0, hh0, hL⟩ := hs
  obtain ⟨co, cc, rfl, i1, i2, -⟩ := id hc0
  obtain ⟨ho, hc, rfl, i3, i4, -⟩ := id hh0
  unfold maxLen at i2 i4
  have hu : ∀ A w, Own w0 A w → rd w 1 (.slice co s.clusters.length cc) s.clusters.length (strs s.clusters) := fun A w h => hc0.old h
  have hv : ∀ A w, Own w0 A w → rd w 2 (.slice ho s.hosts.length hc) s.hosts.length xs := fun A w h => hh0.old h
  obtain ⟨version, clusters, hosts⟩ := s
  simp only at hu hv hL i1 i3 hc0
  obtain ⟨okc, okh⟩ := ok
  simp only at okc okh
  clear hh0
  obtain ⟨b1, y1⟩ : ∃ b, decide (version < 1) = b := ⟨_, rfl⟩
  obtain ⟨b2, y2⟩ : ∃ b, decide ((clusters.length : Int) > 32) = b := ⟨_, rfl⟩
  obtain ⟨b3, y3⟩ : ∃ b, decide ((hosts.length : Int) > 32) = b := ⟨_, rfl⟩
  obtain ⟨R, hR⟩ : ∃ R, rightR ⟨version, clusters, hosts⟩ = R := ⟨_, rfl⟩
  have HM : Hid (R = (!(b1 || b2 || b3) && (newR [] clusters).isSome && hostsR clusters [] hosts)) := Lib.hid (by
    rw [← hR]
    unfold rightR
    have z1 : decide (1 ≤ version) = !b1 := by rw [← y1, ← decide_not]; exact decide_eq_decide.2 (by omega)
    have z2 : decide (clusters.length ≤ 32) = !b2 := by rw [← y2, ← decide_not]; exact decide_eq_decide.2 (by omega)
    have z3 : decide (hosts.length ≤ 32) = !b3 := by rw [← y3, ← decide_not]; exact decide_eq_decide.2 (by omega)
    simp only
    rw [z1, z2, z3]
    cases b1 <;> cases b2 <;> cases b3 <;> rfl)
  rw [hR]
  have HLEN : Hid ((b1 || b2 || b3) = false → clusters.length ≤ 32 ∧ hosts.length ≤ 32) := Lib.hid (fun e => by
    have e2 : b2 = false := by revert e; cases b1 <;> cases b2 <;> simp
    have e3 : b3 = false := by revert e; cases b1 <;> cases b2 <;> cases b3 <;> simp
    rw [e2] at y2
    rw [e3] at y3
    have := of_decide_eq_false y2
    have := of_decide_eq_false y3
    omega)
  clear hR
  go_enter Tryd.func31, Tryd.ntmps31
  go_upto_region 1 with (first
    | ((with_reducible refine at_alloc ?_); refine wpu_new G ?_; clear G; intro w G)
    | ((with_reducible refine at_drew ?_); refine wpu_drew G ?_; clear G; intro w G)
    | ((with_reducible refine at_load ?_); first
      | (refine wpu_load G rfl rfl rfl rfl ?_; go_frame)
      | (refine wpu_loadB G rfl rfl rfl (by rfl) ?_; go_frame)
      | (refine wpu_loadS G rfl rfl rfl (by rfl) ?_; simp only [List.drop_succ_cons, List.drop_zero, List.take_succ_cons, List.take_zero]; go_frame))
    | ((with_reducible refine at_store ?_); first
      | (refine wpu_store G rfl rfl rfl rfl (by first | rfl | assumption | simp [*]) rfl ?_; clear G; intro w G; go_frame)
      | (refine wpu_storeB G rfl rfl rfl rfl (by rfl) (by rfl) (by first | rfl | assumption | simp [*]) ?_; clear G; intro w G; go_frame)
      | (refine wpu_storeS G rfl rfl rfl rfl (by rfl) (by rfl) (by first | rfl | assumption | simp [*]) ?_; clear G; intro w G; go_frame))
    | ((with_reducible refine at_convert ?_); refine wpu_str G rfl rfl rfl rfl ?_; go_frame)
    | ((with_reducible refine at_slice ?_); first
      | (refine wpu_sliceLo rfl rfl rfl rfl (by first | rfl | omega) (by omega) (by omega) ?_; go_frame)
      | (refine wpu_sliceLH rfl rfl rfl rfl rfl (by first | rfl | omega) (by first | rfl | omega) (by omega) (by omega) ?_; go_frame))
    | fail)
  go_cut [27] from 13 to 27 (fun s wr => s = .bool (b1 || b2 || b3) ∧ Own w0 (blk w0.heap.size [.int .i64 version, .slice co clusters.length cc, .slice ho hosts.length hc]) wr)
  case first =>
    have G := G.sub (blk w0.heap.size [.int .i64 version, .slice co clusters.length cc, .slice ho hosts.length hc])
    cases b1 <;> cases b2 <;> cases b3
    all_goals
      go_wp2_with (first
        | go_big_skip
        | ((with_reducible refine at_lss ?_); refine wpu_lss rfl (by kernel_rfl) rfl rfl (by assumption) ?_; go_frame)
        | ((with_reducible refine at_gtr ?_); refine wpu_gtr rfl (by kernel_rfl) rfl rfl (by assumption) ?_; go_frame)
        | ((with_reducible refine at_leq ?_); refine wpu_leq rfl (by kernel_rfl) rfl rfl (by assumption) ?_; go_frame)
        | ((with_reducible refine at_geq ?_); refine wpu_geq rfl (by kernel_rfl) rfl rfl (by assumption) ?_; go_frame)
        | ((with_reducible refine at_eqS ?_); refine wpu_eqS rfl (by kernel_rfl) rfl rfl (by assumption) ?_; go_frame)
        | ((with_reducible refine at_neS ?_); refine wpu_neS rfl (by kernel_rfl) rfl rfl (by assumption) ?_; go_frame)
        | ((with_reducible refine at_alloc ?_); refine wpu_new G ?_; clear G; intro w G)
        | ((with_reducible refine at_drew ?_); refine wpu_drew G ?_; clear G; intro w G)
        | go_big_skip
        | ((with_reducible refine at_load ?_); first
          | (refine wpu_load G rfl (by kernel_rfl) rfl rfl ?_; go_frame)
          | (refine wpu_loadB G rfl (by kernel_rfl) rfl (by rfl) ?_; go_frame)
          | (refine wpu_loadS G rfl (by kernel_rfl) rfl (by rfl) ?_; simp only [List.drop_succ_cons, List.drop_zero, List.take_succ_cons, List.take_zero]; go_frame))
        | ((with_reducible refine at_store ?_); first
          | (refine wpu_store G rfl (by kernel_rfl) rfl rfl (by first | rfl | assumption | simp [*]) rfl ?_; clear G; intro w G; go_frame)
          | (refine wpu_storeB G rfl (by kernel_rfl) rfl rfl (by rfl) (by rfl) (by first | rfl | assumption | simp [*]) ?_; clear G; intro w G; go_frame)
          | (refine wpu_storeS G rfl (by kernel_rfl) rfl rfl (by rfl) (by rfl) (by first | rfl | assumption | simp [*]) ?_; clear G; intro w G; go_frame))
        | ((with_reducible refine at_convert ?_); refine wpu_str G rfl (by kernel_rfl) rfl rfl ?_; go_frame)
        | fail)
      go_meet
      case rel => exact ⟨rfl, G⟩
  case rest =>
    clear G
    obtain ⟨rfl, G⟩ := hcut
    clear y1 y2 y3
    obtain ⟨bad, hbad⟩ : ∃ b, (b1 || b2 || b3) = b := ⟨_, rfl⟩
    rw [hbad] at HM HLEN ⊢
    clear hbad
    cases bad with
    | true =>
      have e : R = false := HM.out
      subst e
      go_wp2_with fail
      go_ret
      exact ⟨rfl, G.below⟩
    | false =>
    obtain ⟨lc, lh⟩ := HLEN.out rfl
    have HM2 : Hid (R = ((newR [] clusters).isSome && hostsR clusters [] hosts)) := Lib.hid HM.out
    clear HM HLEN
    go_wp2_with (first
      | ((with_reducible refine at_alloc ?_); refine wpu_new G ?_; clear G; intro w G)
      | ((with_reducible refine at_drew ?_); refine wpu_drew G ?_; clear G; intro w G)
      | ((with_reducible refine at_load ?_); first
        | (refine wpu_load G rfl rfl rfl rfl ?_; go_frame)
        | (refine wpu_loadB G rfl rfl rfl (by rfl) ?_; go_frame)
        | (refine wpu_loadS G rfl rfl rfl (by rfl) ?_; simp only [List.drop_succ_cons, List.drop_zero, List.take_succ_cons, List.take_zero]; go_frame))
      | ((with_reducible refine at_store ?_); first
        | (refine wpu_store G rfl rfl rfl rfl (by first | rfl | assumption | simp [*]) rfl ?_; clear G; intro w G; go_frame)
        | (refine wpu_storeB G rfl rfl rfl rfl (by rfl) (by rfl) (by first | rfl | assumption | simp [*]) ?_; clear G; intro w G; go_frame)
        | (refine wpu_storeS G rfl rfl rfl rfl (by rfl) (by rfl) (by first | rfl | assumption | simp [*]) ?_; clear G; intro w G; go_frame))
      | ((with_reducible refine at_convert ?_); refine wpu_str G rfl rfl rfl rfl ?_; go_frame)
      | ((with_reducible refine at_slice ?_); first
        | (refine wpu_sliceLo rfl rfl rfl rfl (by first | rfl | omega) (by omega) (by omega) ?_; go_frame)
        | (refine wpu_sliceLH rfl rfl rfl rfl rfl (by first | rfl | omega) (by first | rfl | omega) (by omega) (by omega) ?_; go_frame))
      | fail)
    go_loopw [3, 4] (fun i _ wr => ∃ j : Nat, i = .int .i64 j ∧ j ≤ clusters.length ∧ Hid (newR [] clusters = newR (clusters.take j) (clusters.drop j)) ∧ Own w0 (blk w0.heap.size [.int .i64 version, .slice co clusters.length cc, .slice ho hosts.length hc]) wr) (fun i _ _ => clusters.length - (intOf i).toNat)
    case atStart => exact ⟨0, rfl, Nat.zero_le _, Lib.hid rfl, G⟩
    case round =>
      clear G
      obtain ⟨j, rfl, hj, HN, G⟩ := hrel
      by_cases hjn : j < clusters.length
      · obtain ⟨x, hx⟩ : ∃ x, clusters[j]? = some x := ⟨clusters[j], List.getElem?_eq_getElem hjn⟩
        obtain ⟨ad, rfl⟩ := rd_some (hu _ _ G) (by omega)
        have HF := Lib.hid (strs_at hx)
        obtain ⟨b, hb⟩ : ∃ b, decide (x ∈ clusters.take j) = b := ⟨_, rfl⟩
        have HB := Lib.hid hb
        obtain ⟨z, hz⟩ : ∃ b, decide (x = []) = b := ⟨_, rfl⟩
        have HZ := Lib.hid hz
        have HX := Lib.hid hx
        clear hx hb hz
        go_wp2_with (first
          | ((with_reducible refine at_alloc ?_); refine wpu_new G ?_; clear G; intro w G)
          | ((with_reducible refine at_drew ?_); refine wpu_drew G ?_; clear G; intro w G)
          | ((with_reducible refine at_load ?_); first
            | (refine wpu_load G rfl rfl rfl rfl ?_; go_frame)
            | (refine wpu_loadB G rfl rfl rfl (by rfl) ?_; go_frame)
            | (refine wpu_loadS G rfl rfl rfl (by rfl) ?_; simp only [List.drop_succ_cons, List.drop_zero, List.take_succ_cons, List.take_zero]; go_frame))
          | ((with_reducible refine at_store ?_); first
            | (refine wpu_store G rfl rfl rfl rfl (by first | rfl | assumption | simp [*]) rfl ?_; clear G; intro w G; go_frame)
            | (refine wpu_storeB G rfl rfl rfl rfl (by rfl) (by rfl) (by first | rfl | assumption | simp [*]) ?_; clear G; intro w G; go_frame)
            | (refine wpu_storeS G rfl rfl rfl rfl (by rfl) (by rfl) (by first | rfl | assumption | simp [*]) ?_; clear G; intro w G; go_frame))
          | ((with_reducible refine at_convert ?_); refine wpu_str G rfl rfl rfl rfl ?_; go_frame)
          | ((with_reducible refine at_slice ?_); first
            | (refine wpu_sliceLo rfl rfl rfl rfl (by first | rfl | omega) (by omega) (by omega) ?_; go_frame)
            | (refine wpu_sliceLH rfl rfl rfl rfl rfl (by first | rfl | omega) (by first | rfl | omega) (by omega) (by omega) ?_; go_frame))
          | fail)
        refine wp_region_mix [0, 0, 0, 0, 0, 0, 0, 0, 0, 1, 0] (Own w0 _) (by kernel_rfl) (by kernel_rfl) (own_drew G) ?_
        refine mix_calm 9 ((own_drew G)) (by rfl) (by rfl) ?_
        intro ι W hne hW
        dsimp only [List.take, List.drop]
        repeat (first | ((with_reducible refine atq_load ?_); refine wpq_loadC (k := j) (fun i => hu _ _ (hW i)) HF.out rfl (by kernel_rfl) rfl ?_; go_frame) | ((with_reducible refine atq_load ?_); first | (refine wpq_load hW rfl rfl rfl rfl ?_; go_frame) | (refine wpq_loadB hW rfl rfl rfl (by rfl) ?_; go_frame)) | go_big_quiet_step (fail))
        refine wpQuiet_nil ?_
        clear  hW hne W ι
        refine mix_loud rfl (fun K hK => ?_)
        go_wp2_with fail
        refine Calls.mono (amongC (N := clusters.take j) (own_drew G) (fun w h => strs_take (hu _ _ h) hj)) ?_
        clear G; rintro e w ⟨rfl, G⟩
        rw [HB.out]
        refine hK _ _ ⟨G, ?_⟩
        clear hK
        try go_frame
        refine mix_calm 1 (G) (by rfl) (by rfl) ?_
        intro ι W hne hW
        dsimp only [List.take, List.drop]
        repeat (first | ((with_reducible refine atq_load ?_); first | (refine wpq_load hW rfl rfl rfl rfl ?_; go_frame) | (refine wpq_loadB hW rfl rfl rfl (by rfl) ?_; go_frame) | (refine wpq_loadS hW rfl rfl rfl (by rfl) ?_; simp only [List.drop_succ_cons, List.drop_zero, List.take_succ_cons, List.take_zero]; go_frame)) | (fail) | go_big_quiet_step (fail))
        refine wpQuiet_nil ?_
        clear  hW hne W ι
        refine mix_nil ?_
        by_cases hbad : x = [] ∨ x ∈ clusters.take j
        · have e : R = false := by
            rw [HM2.out, HN.out, new_stop HX.out hbad]
            rfl
          subst e
          have hzb : b = true ∨ b = false ∧ z = true := by
            cases b
            · right
              refine ⟨rfl, ?_⟩
              rw [← HZ.out]
              rcases hbad with h | h
              · simpa using h
              · have := HB.out
                simp [h] at this
            · exact .inl rfl
          rcases hzb with rfl | ⟨rfl, rfl⟩
          all_goals
            go_wp2_with (first
              | go_big_skip
              | ((with_reducible refine at_load ?_); refine wpu_loadC (k := j) (hu _ _ G) HF.out rfl (by kernel_rfl) rfl ?_; go_frame)
              | ((with_reducible refine at_eqS ?_); refine wpu_eqS rfl (by kernel_rfl) rfl rfl HZ.out ?_; go_frame)
              | ((with_reducible refine at_alloc ?_); refine wpu_new G ?_; clear G; intro w G)
              | ((with_reducible refine at_drew ?_); refine wpu_drew G ?_; clear G; intro w G)
              | go_big_skip
              | ((with_reducible refine at_load ?_); first
                | (refine wpu_load G rfl (by kernel_rfl) rfl rfl ?_; go_frame)
                | (refine wpu_loadB G rfl (by kernel_rfl) rfl (by rfl) ?_; go_frame)
                | (refine wpu_loadS G rfl (by kernel_rfl) rfl (by rfl) ?_; simp only [List.drop_succ_cons, List.drop_zero, List.take_succ_cons, List.take_zero]; go_frame))
              | ((with_reducible refine at_store ?_); first
                | (refine wpu_store G rfl (by kernel_rfl) rfl rfl (by first | rfl | assumption | simp [*]) rfl ?_; clear G; intro w G; go_frame)
                | (refine wpu_storeB G rfl (by kernel_rfl) rfl rfl (by rfl) (by rfl) (by first | rfl | assumption | simp [*]) ?_; clear G; intro w G; go_frame)
                | (refine wpu_storeS G rfl (by kernel_rfl) rfl rfl (by rfl) (by rfl) (by first | rfl | assumption | simp [*]) ?_; clear G; intro w G; go_frame))
              | ((with_reducible refine at_convert ?_); refine wpu_str G rfl (by kernel_rfl) rfl rfl ?_; go_frame)
              | fail)
            go_ret
            exact ⟨rfl, G.below⟩
        · have HN2 : Hid (newR [] clusters = newR (clusters.take (j + 1)) (clusters.drop (j + 1))) := Lib.hid (by
            rw [HN.out, new_go HX.out hbad, List.take_add_one, HX.out]
            rfl)
          have eb : b = false := by
            rw [← HB.out]
            exact decide_eq_false fun h => hbad (.inr h)
          have ez : z = false := by
            rw [← HZ.out]
            exact decide_eq_false fun h => hbad (.inl h)
          subst eb ez
          clear hbad HN
          go_wp2_with (first
            | go_big_skip
            | ((with_reducible refine at_load ?_); refine wpu_loadC (k := j) (hu _ _ G) HF.out rfl (by kernel_rfl) rfl ?_; go_frame)
            | ((with_reducible refine at_eqS ?_); refine wpu_eqS rfl (by kernel_rfl) rfl rfl HZ.out ?_; go_frame)
            | ((with_reducible refine at_alloc ?_); refine wpu_new G ?_; clear G; intro w G)
            | ((with_reducible refine at_drew ?_); refine wpu_drew G ?_; clear G; intro w G)
            | go_big_skip
            | ((with_reducible refine at_load ?_); first
              | (refine wpu_load G rfl (by kernel_rfl) rfl rfl ?_; go_frame)
              | (refine wpu_loadB G rfl (by kernel_rfl) rfl (by rfl) ?_; go_frame)
              | (refine wpu_loadS G rfl (by kernel_rfl) rfl (by rfl) ?_; simp only [List.drop_succ_cons, List.drop_zero, List.take_succ_cons, List.take_zero]; go_frame))
            | ((with_reducible refine at_store ?_); first
              | (refine wpu_store G rfl (by kernel_rfl) rfl rfl (by first | rfl | assumption | simp [*]) rfl ?_; clear G; intro w G; go_frame)
              | (refine wpu_storeB G rfl (by kernel_rfl) rfl rfl (by rfl) (by rfl) (by first | rfl | assumption | simp [*]) ?_; clear G; intro w G; go_frame)
              | (refine wpu_storeS G rfl (by kernel_rfl) rfl rfl (by rfl) (by rfl) (by first | rfl | assumption | simp [*]) ?_; clear G; intro w G; go_frame))
            | ((with_reducible refine at_convert ?_); refine wpu_str G rfl (by kernel_rfl) rfl rfl ?_; go_frame)
            | fail)
          go_roundw
          case rel => exact ⟨j + 1, by go_num, by omega, HN2, G⟩
          case measure => simp [intOf] <;> omega
      · obtain rfl : j = clusters.length := by omega
        have HM3 : Hid (R = hostsR clusters [] hosts) := Lib.hid (by
          rw [HM2.out, HN.out, new_end]
          rfl)
        have G := own_nil G 1
        clear HM2 HN
        go_wp2_with (first
          | ((with_reducible refine at_alloc ?_); refine wpu_new G ?_; clear G; intro w G)
          | ((with_reducible refine at_drew ?_); refine wpu_drew G ?_; clear G; intro w G)
          | ((with_reducible refine at_load ?_); first
            | (refine wpu_load G rfl rfl rfl rfl ?_; go_frame)
            | (refine wpu_loadB G rfl rfl rfl (by rfl) ?_; go_frame)
            | (refine wpu_loadS G rfl rfl rfl (by rfl) ?_; simp only [List.drop_succ_cons, List.drop_zero, List.take_succ_cons, List.take_zero]; go_frame))
          | ((with_reducible refine at_store ?_); first
            | (refine wpu_store G rfl rfl rfl rfl (by first | rfl | assumption | simp [*]) rfl ?_; clear G; intro w G; go_frame)
            | (refine wpu_storeB G rfl rfl rfl rfl (by rfl) (by rfl) (by first | rfl | assumption | simp [*]) ?_; clear G; intro w G; go_frame)
            | (refine wpu_storeS G rfl rfl rfl rfl (by rfl) (by rfl) (by first | rfl | assumption | simp [*]) ?_; clear G; intro w G; go_frame))
          | ((with_reducible refine at_convert ?_); refine wpu_str G rfl rfl rfl rfl ?_; go_frame)
          | ((with_reducible refine at_slice ?_); first
            | (refine wpu_sliceLo rfl rfl rfl rfl (by first | rfl | omega) (by omega) (by omega) ?_; go_frame)
            | (refine wpu_sliceLH rfl rfl rfl rfl rfl (by first | rfl | omega) (by first | rfl | omega) (by omega) (by omega) ?_; go_frame))
          | fail)
        go_loopw [5, 6] (fun nm i wr => ∃ (j : Nat) (seen : List Txt) (so : Option Addr) (sc : Nat), nm = .slice so seen.length sc ∧ seen.length ≤ sc ∧ sc ≤ 9223372036854775807 ∧ i = .int .i64 j ∧ j ≤ hosts.length ∧ seen.length ≤ 16 * j ∧ Hid (hostsR clusters [] hosts = hostsR clusters seen (hosts.drop j)) ∧ Own w0 (sl 1 (.slice so seen.length sc) seen.length (strs seen) * (blk w0.heap.size [.int .i64 version, .slice co clusters.length cc, .slice ho hosts.length hc])) wr) (fun _ i _ => hosts.length - (intOf i).toNat)
        case atStart => exact ⟨0, [], none, 0, rfl, Nat.le_refl _, by omega, rfl, Nat.zero_le _, by simp, Lib.hid rfl, G⟩
        case round =>
          clear G
          obtain ⟨j, seen, so, sc, rfl, s1, s2, rfl, hj, hsn, HN, G⟩ := hrel
          by_cases hjn : j < hosts.length
          · obtain ⟨h, hh⟩ : ∃ h, hosts[j]? = some h := ⟨hosts[j], List.getElem?_eq_getElem hjn⟩
            obtain ⟨ad, rfl⟩ := rd_some (hv _ _ G) (by omega)
            have hrt := hL.2 j h hh
            obtain ⟨vn, vr, ys, hcs, hn0, hr0, hRL⟩ := hrt
            have HF := Lib.hid hcs
            have okn := (okh h (List.mem_of_getElem? hh)).names
            obtain ⟨no, nc, rfl, i5, i6, -⟩ := id hn0
            obtain ⟨ro, rc, rfl, i7, i8, -⟩ := id hr0
            have hnn : ∀ A w, Own w0 A w → rd w 1 (.slice no h.names.length nc) h.names.length (strs h.names) := fun A w g => hn0.old g
            have hrr : ∀ A w, Own w0 A w → rd w 7 (.slice ro h.routes.length rc) h.routes.length ys := fun A w g => hr0.old g
            unfold maxLen at i6 i8
            clear hn0 hr0
            obtain ⟨b1, y1⟩ : ∃ b, decide ((h.names.length : Int) < 1) = b := ⟨_, rfl⟩
            obtain ⟨b2, y2⟩ : ∃ b, decide ((h.names.length : Int) > 16) = b := ⟨_, rfl⟩
            obtain ⟨b3, y3⟩ : ∃ b, decide ((h.routes.length : Int) > 32) = b := ⟨_, rfl⟩
            have HS : Hid (hostsR clusters [] hosts = (!(b1 || b2 || b3) && match newR seen (h.names.map smallL) with
                | none => false
                | some seen' => h.routes.all (mayR · clusters) && hostsR clusters seen' (hosts.drop (j + 1)))) := Lib.hid (by
              rw [HN.out, hosts_step hh]
              have z1 : decide (1 ≤ h.names.length) = !b1 := by rw [← y1, ← decide_not]; exact decide_eq_decide.2 (by omega)
              have z2 : decide (h.names.length ≤ 16) = !b2 := by rw [← y2, ← decide_not]; exact decide_eq_decide.2 (by omega)
              have z3 : decide (h.routes.length ≤ 32) = !b3 := by rw [← y3, ← decide_not]; exact decide_eq_decide.2 (by omega)
              rw [z1, z2, z3]
              cases b1 <;> cases b2 <;> cases b3 <;> rfl)
            have HLN : Hid ((b1 || b2 || b3) = false → h.names.length ≤ 16) := Lib.hid (fun e => by
              have e2 : b2 = false := by revert e; cases b1 <;> cases b2 <;> simp
              rw [e2] at y2
              have := of_decide_eq_false y2
              omega)
            clear HN hh
            go_upto_region 14 with (first
              | ((with_reducible refine at_alloc ?_); refine wpu_new G ?_; clear G; intro w G)
              | ((with_reducible refine at_drew ?_); refine wpu_drew G ?_; clear G; intro w G)
              | ((with_reducible refine at_load ?_); refine wpu_loadE (k := j) (hv _ _ G) HF.out rfl (by kernel_rfl) rfl rfl ?_; go_frame)
              | ((with_reducible refine at_alloc ?_); refine wpu_new G ?_; clear G; intro w G)
              | ((with_reducible refine at_drew ?_); refine wpu_drew G ?_; clear G; intro w G)
              | ((with_reducible refine at_load ?_); first
                | (refine wpu_load G rfl rfl rfl rfl ?_; go_frame)
                | (refine wpu_loadB G rfl rfl rfl (by rfl) ?_; go_frame)
                | (refine wpu_loadS G rfl rfl rfl (by rfl) ?_; simp only [List.drop_succ_cons, List.drop_zero, List.take_succ_cons, List.take_zero]; go_frame))
              | ((with_reducible refine at_store ?_); first
                | (refine wpu_store G rfl rfl rfl rfl (by first | rfl | assumption | simp [*]) rfl ?_; clear G; intro w G; go_frame)
                | (refine wpu_storeB G rfl rfl rfl rfl (by rfl) (by rfl) (by first | rfl | assumption | simp [*]) ?_; clear G; intro w G; go_frame)
                | (refine wpu_storeS G rfl rfl rfl rfl (by rfl) (by rfl) (by first | rfl | assumption | simp [*]) ?_; clear G; intro w G; go_frame))
              | ((with_reducible refine at_convert ?_); refine wpu_str G rfl rfl rfl rfl ?_; go_frame)
              | ((with_reducible refine at_slice ?_); first
                | (refine wpu_sliceLo rfl rfl rfl rfl (by first | rfl | omega) (by omega) (by omega) ?_; go_frame)
                | (refine wpu_sliceLH rfl rfl rfl rfl rfl (by first | rfl | omega) (by first | rfl | omega) (by omega) (by omega) ?_; go_frame))
              | fail)
            obtain ⟨b7, hb7⟩ : ∃ m, wr.heap.size = m := ⟨_, rfl⟩
            rw [hb7] at G ⊢
            clear hb7
            go_cut [81] from 66 to 81 (fun s wr => s = .bool (b1 || b2 || b3) ∧ Own w0 (blk b7 [.slice no h.names.length nc, .slice ro h.routes.length rc] * (sl 1 (.slice so seen.length sc) seen.length (strs seen) * (blk w0.heap.size [.int .i64 version, .slice co clusters.length cc, .slice (some ad) hosts.length hc]))) wr)
            case first =>
              cases b1 <;> cases b2 <;> cases b3
              all_goals
                go_wp2_with (first
                  | go_big_skip
                  | ((with_reducible refine at_lss ?_); refine wpu_lss rfl (by kernel_rfl) rfl rfl (by assumption) ?_; go_frame)
                  | ((with_reducible refine at_gtr ?_); refine wpu_gtr rfl (by kernel_rfl) rfl rfl (by assumption) ?_; go_frame)
                  | ((with_reducible refine at_leq ?_); refine wpu_leq rfl (by kernel_rfl) rfl rfl (by assumption) ?_; go_frame)
                  | ((with_reducible refine at_geq ?_); refine wpu_geq rfl (by kernel_rfl) rfl rfl (by assumption) ?_; go_frame)
                  | ((with_reducible refine at_eqS ?_); refine wpu_eqS rfl (by kernel_rfl) rfl rfl (by assumption) ?_; go_frame)
                  | ((with_reducible refine at_neS ?_); refine wpu_neS rfl (by kernel_rfl) rfl rfl (by assumption) ?_; go_frame)
                  | ((with_reducible refine at_alloc ?_); refine wpu_new G ?_; clear G; intro w G)
                  | ((with_reducible refine at_drew ?_); refine wpu_drew G ?_; clear G; intro w G)
                  | go_big_skip
                  | ((with_reducible refine at_load ?_); first
                    | (refine wpu_load G rfl (by kernel_rfl) rfl rfl ?_; go_frame)
                    | (refine wpu_loadB G rfl (by kernel_rfl) rfl (by rfl) ?_; go_frame)
                    | (refine wpu_loadS G rfl (by kernel_rfl) rfl (by rfl) ?_; simp only [List.drop_succ_cons, List.drop_zero, List.take_succ_cons, List.take_zero]; go_frame))
                  | ((with_reducible refine at_store ?_); first
                    | (refine wpu_store G rfl (by kernel_rfl) rfl rfl (by first | rfl | assumption | simp [*]) rfl ?_; clear G; intro w G; go_frame)
                    | (refine wpu_storeB G rfl (by kernel_rfl) rfl rfl (by rfl) (by rfl) (by first | rfl | assumption | simp [*]) ?_; clear G; intro w G; go_frame)
                    | (refine wpu_storeS G rfl (by kernel_rfl) rfl rfl (by rfl) (by rfl) (by first | rfl | assumption | simp [*]) ?_; clear G; intro w G; go_frame))
                  | ((with_reducible refine at_convert ?_); refine wpu_str G rfl (by kernel_rfl) rfl rfl ?_; go_frame)
                  | fail)
                go_meet
                case rel => exact ⟨rfl, G⟩
            case rest =>
              clear G
              obtain ⟨rfl, G⟩ := hcut
              clear y1 y2 y3
              obtain ⟨bad, hbad⟩ : ∃ b, (b1 || b2 || b3) = b := ⟨_, rfl⟩
              rw [hbad] at HS HLN ⊢
              clear hbad
              cases bad with
              | true =>
                have e : R = false := by rw [HM3.out, HS.out]; rfl
                subst e
                go_wp2_with fail
                go_ret
                exact ⟨rfl, G.below⟩
              | false =>
              have ln := HLN.out rfl
              obtain ⟨M, hM⟩ : ∃ M, h.names.map smallL = M := ⟨_, rfl⟩
              have HML : Hid (M.length = h.names.length) := Lib.hid (by rw [← hM]; simp)
              have HMA : Hid (∀ k x, h.names[k]? = some x → M[k]? = some (smallL x)) := Lib.hid (fun k x e => by rw [← hM, List.getElem?_map, e]; rfl)
              rw [hM] at HS
              clear hM HLN
              go_wp2_with (first
                | ((with_reducible refine at_alloc ?_); refine wpu_new G ?_; clear G; intro w G)
                | ((with_reducible refine at_drew ?_); refine wpu_drew G ?_; clear G; intro w G)
                | ((with_reducible refine at_load ?_); first
                  | (refine wpu_load G rfl rfl rfl rfl ?_; go_frame)
                  | (refine wpu_loadB G rfl rfl rfl (by rfl) ?_; go_frame)
                  | (refine wpu_loadS G rfl rfl rfl (by rfl) ?_; simp only [List.drop_succ_cons, List.drop_zero, List.take_succ_cons, List.take_zero]; go_frame))
                | ((with_reducible refine at_store ?_); first
                  | (refine wpu_store G rfl rfl rfl rfl (by first | rfl | assumption | simp [*]) rfl ?_; clear G; intro w G; go_frame)
                  | (refine wpu_storeB G rfl rfl rfl rfl (by rfl) (by rfl) (by first | rfl | assumption | simp [*]) ?_; clear G; intro w G; go_frame)
                  | (refine wpu_storeS G rfl rfl rfl rfl (by rfl) (by rfl) (by first | rfl | assumption | simp [*]) ?_; clear G; intro w G; go_frame))
                | ((with_reducible refine at_convert ?_); refine wpu_str G rfl rfl rfl rfl ?_; go_frame)
                | ((with_reducible refine at_slice ?_); first
                  | (refine wpu_sliceLo rfl rfl rfl rfl (by first | rfl | omega) (by omega) (by omega) ?_; go_frame)
                  | (refine wpu_sliceLH rfl rfl rfl rfl rfl (by first | rfl | omega) (by first | rfl | omega) (by omega) (by omega) ?_; go_frame))
                | fail)
              go_loopw [5, 8, 9, 10] (fun nm i _ _ wr => ∃ (k : Nat) (cur : List Txt) (uo : Option Addr) (uc : Nat), nm = .slice uo cur.length uc ∧ cur.length ≤ uc ∧ uc ≤ 9223372036854775807 ∧ i = .int .i64 k ∧ k ≤ h.names.length ∧ Hid (cur = seen ++ M.take k) ∧ cur.length ≤ 16 * j + k ∧ Hid (newR seen M = newR cur (M.drop k)) ∧ Own w0 (blk b7 [.slice no h.names.length nc, .slice ro h.routes.length rc] * (sl 1 (.slice uo cur.length uc) cur.length (strs cur) * (blk w0.heap.size [.int .i64 version, .slice co clusters.length cc, .slice (some ad) hosts.length hc]))) wr) (fun _ i _ _ _ => h.names.length - (intOf i).toNat)
              case atStart => exact ⟨0, seen, so, sc, rfl, s1, s2, rfl, Nat.zero_le _, Lib.hid (by rw [List.take_zero, List.append_nil]), by omega, Lib.hid (by rw [List.drop_zero]), G⟩
              case round =>
                clear G s1 s2
                obtain ⟨k, cur, uo, uc, rfl, s1, s2, rfl, hk, HC, hcn, HN, G⟩ := hrel
                by_cases hkn : k < h.names.length
                · obtain ⟨x, hx⟩ : ∃ x, h.names[k]? = some x := ⟨h.names[k], List.getElem?_eq_getElem hkn⟩
                  obtain ⟨nd, rfl⟩ := rd_some (hnn _ _ G) (by omega)
                  have HF2 := Lib.hid (strs_at hx)
                  have hxl := okn x (List.mem_of_getElem? hx)
                  have HX := Lib.hid (HMA.out k x hx)
                  obtain ⟨y, hy⟩ : ∃ y, smallL x = y := ⟨_, rfl⟩
                  rw [hy] at HX
                  have HY := Lib.hid hy
                  obtain ⟨b, hb⟩ : ∃ b, decide (y ∈ cur) = b := ⟨_, rfl⟩
                  have HB := Lib.hid hb
                  obtain ⟨z, hz⟩ : ∃ b, decide (y = []) = b := ⟨_, rfl⟩
                  have HZ := Lib.hid hz
                  clear hx hb hy hz
                  go_wp2_with (first
                    | ((with_reducible refine at_load ?_); first
                      | (refine wpu_load G rfl rfl rfl rfl ?_; go_frame)
                      | (refine wpu_loadC (k := k) (hnn _ _ G) HF2.out rfl (by kernel_rfl) rfl ?_; go_frame))
                    | fail)
                  refine Calls.mono (small16C hxl G) ?_
                  clear G; rintro e w ⟨rfl, G⟩
                  rw [HY.out]
                  go_wp2_with fail
                  refine Calls.mono (amongC (N := cur) G (fun w h => own_rd (h.pull (sl 1 (.slice uo cur.length uc) cur.length (strs cur))))) ?_
                  clear G; rintro e w ⟨rfl, G⟩
                  rw [HB.out]
                  by_cases hbad : y = [] ∨ y ∈ cur
                  · have e : R = false := by
                      rw [HM3.out, HS.out, HN.out, new_stop HX.out hbad]
                      rfl
                    subst e
                    have hzb : b = true ∨ b = false ∧ z = true := by
                      cases b
                      · right
                        refine ⟨rfl, ?_⟩
                        rw [← HZ.out]
                        rcases hbad with h | h
                        · simpa using h
                        · have := HB.out
                          simp [h] at this
                      · exact .inl rfl
                    clear hbad
                    rcases hzb with rfl | ⟨rfl, rfl⟩
                    all_goals
                      go_wp2_with (first
                        | go_big_skip
                        | ((with_reducible refine at_eqS ?_); refine wpu_eqS rfl (by kernel_rfl) rfl rfl HZ.out ?_; go_frame)
                        | fail)
                      go_ret
                      exact ⟨rfl, G.below⟩
                  · have HN2 : Hid (newR seen M = newR (cur ++ [y]) (M.drop (k + 1))) := Lib.hid (by
                      rw [HN.out, new_go HX.out hbad])
                    have HC2 : Hid (cur ++ [y] = seen ++ M.take (k + 1)) := Lib.hid (by
                      rw [HC.out, List.take_add_one, HX.out, List.append_assoc]
                      rfl)
                    have eb : b = false := by
                      rw [← HB.out]
                      exact decide_eq_false fun h => hbad (.inr h)
                    have ez : z = false := by
                      rw [← HZ.out]
                      exact decide_eq_false fun h => hbad (.inl h)
                    subst eb ez
                    clear hbad HN
                    go_wp2_with (first
                      | go_big_skip
                      | ((with_reducible refine at_eqS ?_); refine wpu_eqS rfl (by kernel_rfl) rfl rfl HZ.out ?_; go_frame)
                      | ((with_reducible refine at_alloc ?_); refine wpu_new G ?_; clear G; intro w G)
                      | ((with_reducible refine at_drew ?_); refine wpu_drew G ?_; clear G; intro w G)
                      | ((with_reducible refine at_build ?_); refine wpu_val rfl (exec_buildT _ rfl (by kernel_rfl) (buildS y _)) ?_; go_frame)
                      | ((with_reducible refine at_append ?_); refine wpu_append1 (n := cur.length) G rfl rfl rfl rfl rfl (by rfl) (by unfold maxLen; omega) (by omega) ?_; clear G; intro v w G; obtain ⟨vo, vcap, rfl, s3, s4⟩ := G.hdr v; go_frame)
                      | fail)
                    rw [strs_app] at G
                    unfold maxLen at s4
                    go_roundw
                    case rel => exact ⟨k + 1, cur ++ [y], vo, vcap, by rw [List.length_append]; rfl, by rw [List.length_append]; exact s3, s4, by go_num, by omega, HC2, by rw [List.length_append]; simp; omega, HN2, by rw [List.length_append]; exact G.eq (by simp only [List.length_singleton]; ac_rfl)⟩
                    case measure => simp [intOf] <;> omega
                · have ek : k = M.length := by have := HML.out; omega
                  subst ek
                  have HN2 : Hid (newR seen M = some cur) := Lib.hid (by rw [HN.out, new_end])
                  obtain ⟨a, ha⟩ : ∃ a, (h.routes.all (mayR · clusters)) = a := ⟨_, rfl⟩
                  have HA := Lib.hid ha
                  have hcn2 : cur.length ≤ 16 * (j + 1) := by have := HML.out; omega
                  clear ha HN
                  go_wp2_with (first
                    | ((with_reducible refine at_alloc ?_); refine wpu_new G ?_; clear G; intro w G)
                    | ((with_reducible refine at_drew ?_); refine wpu_drew G ?_; clear G; intro w G)
                    | ((with_reducible refine at_load ?_); first
                      | (refine wpu_load G rfl rfl rfl rfl ?_; go_frame)
                      | (refine wpu_loadB G rfl rfl rfl (by rfl) ?_; go_frame)
                      | (refine wpu_loadS G rfl rfl rfl (by rfl) ?_; simp only [List.drop_succ_cons, List.drop_zero, List.take_succ_cons, List.take_zero]; go_frame))
                    | ((with_reducible refine at_store ?_); first
                      | (refine wpu_store G rfl rfl rfl rfl (by first | rfl | assumption | simp [*]) rfl ?_; clear G; intro w G; go_frame)
                      | (refine wpu_storeB G rfl rfl rfl rfl (by rfl) (by rfl) (by first | rfl | assumption | simp [*]) ?_; clear G; intro w G; go_frame)
                      | (refine wpu_storeS G rfl rfl rfl rfl (by rfl) (by rfl) (by first | rfl | assumption | simp [*]) ?_; clear G; intro w G; go_frame))
                    | ((with_reducible refine at_convert ?_); refine wpu_str G rfl rfl rfl rfl ?_; go_frame)
                    | ((with_reducible refine at_slice ?_); first
                      | (refine wpu_sliceLo rfl rfl rfl rfl (by first | rfl | omega) (by omega) (by omega) ?_; go_frame)
                      | (refine wpu_sliceLH rfl rfl rfl rfl rfl (by first | rfl | omega) (by first | rfl | omega) (by omega) (by omega) ?_; go_frame))
                    | fail)
                  go_loopw [11, 12] (fun i _ wr => ∃ k : Nat, i = .int .i64 k ∧ k ≤ h.routes.length ∧ Hid ((h.routes.take k).all (mayR · clusters) = true) ∧ Own w0 (blk b7 [.slice no h.names.length nc, .slice ro h.routes.length rc] * (sl 1 (.slice uo cur.length uc) cur.length (strs cur) * (blk w0.heap.size [.int .i64 version, .slice co clusters.length cc, .slice (some ad) hosts.length hc]))) wr) (fun i _ _ => h.routes.length - (intOf i).toNat)
                  case atStart => exact ⟨0, rfl, Nat.zero_le _, Lib.hid (by simp), G⟩
                  case round =>
                    clear G
                    obtain ⟨k, rfl, hk, HAA, G⟩ := hrel
                    by_cases hkn : k < h.routes.length
                    · obtain ⟨r, hr⟩ : ∃ r, h.routes[k]? = some r := ⟨h.routes[k], List.getElem?_eq_getElem hkn⟩
                      obtain ⟨rd', rfl⟩ := rd_some (hrr _ _ G) (by omega)
                      have hrt := hRL.2 k r hr
                      obtain ⟨cs, HF3⟩ : ∃ cs, (ys.drop (k * 7)).take 7 = cs := ⟨_, rfl⟩
                      rw [HF3] at hrt
                      have HF3 := Lib.hid HF3
                      have HH := Lib.hid hr
                      have hcs7 : cs.length = 7 := by obtain ⟨vf, vk, rfl, -, -⟩ := hrt; rfl
                      obtain ⟨b, hb⟩ : ∃ b, mayR r clusters = b := ⟨_, rfl⟩
                      have HB := Lib.hid hb
                      clear hr hb
                      go_wp2_with (first
                        | ((with_reducible refine at_alloc ?_); refine wpu_new G ?_; clear G; intro w G)
                        | ((with_reducible refine at_drew ?_); refine wpu_drew G ?_; clear G; intro w G)
                        | ((with_reducible refine at_load ?_); first
                          | (refine wpu_load G rfl rfl rfl rfl ?_; go_frame)
                          | (refine wpu_loadB G rfl rfl rfl (by rfl) ?_; go_frame)
                          | (refine wpu_loadS G rfl rfl rfl (by rfl) ?_; simp only [List.drop_succ_cons, List.drop_zero, List.take_succ_cons, List.take_zero]; go_frame))
                        | ((with_reducible refine at_store ?_); first
                          | (refine wpu_store G rfl rfl rfl rfl (by first | rfl | assumption | simp [*]) rfl ?_; clear G; intro w G; go_frame)
                          | (refine wpu_storeB G rfl rfl rfl rfl (by rfl) (by rfl) (by first | rfl | assumption | simp [*]) ?_; clear G; intro w G; go_frame)
                          | (refine wpu_storeS G rfl rfl rfl rfl (by rfl) (by rfl) (by first | rfl | assumption | simp [*]) ?_; clear G; intro w G; go_frame))
                        | ((with_reducible refine at_convert ?_); refine wpu_str G rfl rfl rfl rfl ?_; go_frame)
                        | ((with_reducible refine at_slice ?_); first
                          | (refine wpu_sliceLo rfl rfl rfl rfl (by first | rfl | omega) (by omega) (by omega) ?_; go_frame)
                          | (refine wpu_sliceLH rfl rfl rfl rfl rfl (by first | rfl | omega) (by first | rfl | omega) (by omega) (by omega) ?_; go_frame))
                        | fail)
                      refine wp_region_mix [0, 0, 0, 0, 0, 0, 0, 1, 0] (Own w0 _) (by kernel_rfl) (by kernel_rfl) (own_drew G) ?_
                      refine mix_calm 7 ((own_drew G)) (by rfl) (by rfl) ?_
                      intro ι W hne hW
                      dsimp only [List.take, List.drop]
                      repeat (first | ((with_reducible refine atq_load ?_); refine wpq_loadE (k := k) (fun i => hrr _ _ (hW i)) HF3.out rfl (by kernel_rfl) rfl hcs7 ?_; go_frame) | ((with_reducible refine atq_load ?_); first | (refine wpq_load hW rfl rfl rfl rfl ?_; go_frame) | (refine wpq_loadB hW rfl rfl rfl (by rfl) ?_; go_frame)) | go_big_quiet_step (fail))
                      refine wpQuiet_nil ?_
                      clear  hW hne W ι
                      refine mix_loud rfl (fun K hK => ?_)
                      go_wp2_with fail
                      refine Calls.mono (mayRefC (hrt.old (own_drew G)) (hc0.old (own_drew G))) ?_
                      rintro e w ⟨rfl, hb⟩
                      have G := own_kept (own_drew G) hb
                      rw [HB.out]
                      refine hK _ _ ⟨G, ?_⟩
                      clear hK hb
                      try go_frame
                      refine mix_calm 1 (G) (by rfl) (by rfl) ?_
                      intro ι W hne hW
                      dsimp only [List.take, List.drop]
                      repeat (first | ((with_reducible refine atq_load ?_); first | (refine wpq_load hW rfl rfl rfl rfl ?_; go_frame) | (refine wpq_loadB hW rfl rfl rfl (by rfl) ?_; go_frame) | (refine wpq_loadS hW rfl rfl rfl (by rfl) ?_; simp only [List.drop_succ_cons, List.drop_zero, List.take_succ_cons, List.take_zero]; go_frame)) | (fail) | go_big_quiet_step (fail))
                      refine wpQuiet_nil ?_
                      clear  hW hne W ι
                      refine mix_nil ?_
                      clear hcs7
                      cases b
                      · have e : R = false := by
                          rw [HM3.out, HS.out, HN2.out]
                          show (h.routes.all (mayR · clusters) && _) = false
                          rw [all_stop HH.out HB.out]
                          rfl
                        subst e
                        go_wp2_with fail
                        go_ret
                        exact ⟨rfl, G.below⟩
                      · have HN3 := Lib.hid (all_go (p := (mayR · clusters)) HH.out HAA.out HB.out)
                        go_wp2_with fail
                        go_roundw
                        case rel => exact ⟨k + 1, by go_num, by omega, HN3, G⟩
                        case measure => simp [intOf] <;> omega
                    · have ea : a = true := by
                        have := HAA.out
                        rw [List.take_of_length_le (by omega)] at this
                        rw [← HA.out, this]
                      subst ea
                      have HE : Hid (hostsR clusters [] hosts = hostsR clusters cur (hosts.drop (j + 1))) := Lib.hid (by
                        rw [HS.out, HN2.out]
                        show (h.routes.all (mayR · clusters) && _) = _
                        rw [HA.out]
                        rfl)
                      go_wp2_with (first
                        | ((with_reducible refine at_alloc ?_); refine wpu_new G ?_; clear G; intro w G)
                        | ((with_reducible refine at_drew ?_); refine wpu_drew G ?_; clear G; intro w G)
                        | ((with_reducible refine at_load ?_); first
                          | (refine wpu_load G rfl rfl rfl rfl ?_; go_frame)
                          | (refine wpu_loadB G rfl rfl rfl (by rfl) ?_; go_frame)
                          | (refine wpu_loadS G rfl rfl rfl (by rfl) ?_; simp only [List.drop_succ_cons, List.drop_zero, List.take_succ_cons, List.take_zero]; go_frame))
                        | ((with_reducible refine at_store ?_); first
                          | (refine wpu_store G rfl rfl rfl rfl (by first | rfl | assumption | simp [*]) rfl ?_; clear G; intro w G; go_frame)
                          | (refine wpu_storeB G rfl rfl rfl rfl (by rfl) (by rfl) (by first | rfl | assumption | simp [*]) ?_; clear G; intro w G; go_frame)
                          | (refine wpu_storeS G rfl rfl rfl rfl (by rfl) (by rfl) (by first | rfl | assumption | simp [*]) ?_; clear G; intro w G; go_frame))
                        | ((with_reducible refine at_convert ?_); refine wpu_str G rfl rfl rfl rfl ?_; go_frame)
                        | ((with_reducible refine at_slice ?_); first
                          | (refine wpu_sliceLo rfl rfl rfl rfl (by first | rfl | omega) (by omega) (by omega) ?_; go_frame)
                          | (refine wpu_sliceLH rfl rfl rfl rfl rfl (by first | rfl | omega) (by first | rfl | omega) (by omega) (by omega) ?_; go_frame))
                        | fail)
                      have G := G.sub (sl 1 (.slice uo cur.length uc) cur.length (strs cur) * (blk w0.heap.size [.int .i64 version, .slice co clusters.length cc, .slice (some ad) hosts.length hc]))
                      go_roundw
                      case rel => exact ⟨j + 1, cur, uo, uc, rfl, s1, s2, by go_num, by omega, hcn2, HE, G⟩
                      case measure => simp [intOf] <;> omega
          · obtain rfl : j = hosts.length := by omega
            have e : R = true := by
              rw [HM3.out, HN.out, List.drop_length]
              rfl
            subst e
            go_wp2_with (first
              | ((with_reducible refine at_alloc ?_); refine wpu_new G ?_; clear G; intro w G)
              | ((with_reducible refine at_drew ?_); refine wpu_drew G ?_; clear G; intro w G)
              | ((with_reducible refine at_load ?_); first
                | (refine wpu_load G rfl rfl rfl rfl ?_; go_frame)
                | (refine wpu_loadB G rfl rfl rfl (by rfl) ?_; go_frame)
                | (refine wpu_loadS G rfl rfl rfl (by rfl) ?_; simp only [List.drop_succ_cons, List.drop_zero, List.take_succ_cons, List.take_zero]; go_frame))
              | ((with_reducible refine at_store ?_); first
                | (refine wpu_store G rfl rfl rfl rfl (by first | rfl | assumption | simp [*]) rfl ?_; clear G; intro w G; go_frame)
                | (refine wpu_storeB G rfl rfl rfl rfl (by rfl) (by rfl) (by first | rfl | assumption | simp [*]) ?_; clear G; intro w G; go_frame)
                | (refine wpu_storeS G rfl rfl rfl rfl (by rfl) (by rfl) (by first | rfl | assumption | simp [*]) ?_; clear G; intro w G; go_frame))
              | ((with_reducible refine at_convert ?_); refine wpu_str G rfl rfl rfl rfl ?_; go_frame)
              | ((with_reducible refine at_slice ?_); first
                | (refine wpu_sliceLo rfl rfl rfl rfl (by first | rfl | omega) (by omega) (by omega) ?_; go_frame)
                | (refine wpu_sliceLH rfl rfl rfl rfl rfl (by first | rfl | omega) (by first | rfl | omega) (by omega) (by omega) ?_; go_frame))
              | fail)
            go_ret
            exact ⟨rfl, G.below⟩
end Go.Proofs.YtjcpfldobiekbaaDoor
