




/-
  route.copied: a snapshot of its own.
-/
import Derived.Test.YtjcpfldobiekbaaDoorRtClone
namespace Go.Proofs.YtjcpfldobiekbaaDoor
open Go.RowKit Go.Sl Go.ChangeShapes

set_option maxHeartbeats 16000000 in
set_option maxRecDepth 100000 in
theorem copiedC {w0 : World} {s : Sn} {cs : List Value} (hs : rdSn w0 cs s) (sm : s.small) :
    Calls Tryd.prog 30 #[.agg cs.toArray] w0 fun e w' => ∃ vc vh, e = .returned (.agg #[.int .i64 s.version, vc, vh]) ∧ Own w0 (snA [.int .i64 s.version, vc, vh] s) w' := by
  have G := own_begin w0
  obtain ⟨vc, vh, xs, rfl, hc0, hh0, hL⟩ := hs
  obtain ⟨version, clusters, hosts⟩ := s
  simp only at hc0 hh0 hL
  obtain ⟨m1, m2, m3, m4, m5, m6⟩ := sm
  simp only at m1 m2 m3 m4 m5 m6
  have hx1 := rdL_one hL (fun _ _ h => hs_one h)
  go_enter Tryd.func30, Tryd.ntmps30
  go_wp2_with (first
    | ((with_reducible refine at_alloc ?_); refine wpu_new G ?_; clear G; intro w G)
    | ((with_reducible refine at_drew ?_); refine wpu_drew G ?_; clear G; intro w G)
    | ((with_reducible refine at_alloc ?_); refine wpu_new G ?_; clear G; intro w G)
    | ((with_reducible refine at_drew ?_); refine wpu_drew G ?_; clear G; intro w G)
    | ((with_reducible refine at_load ?_); first
      | (refine wpu_load G rfl rfl rfl rfl ?_; go_frame)
      | (refine wpu_loadB G rfl rfl rfl (by rfl) ?_; go_frame)
      | (refine wpu_loadS G rfl rfl rfl (by rfl) ?_; simp only [List.drop_succ_cons, List.drop_zero, List.take_succ_cons, List.take_zero]; go_frame))
    | ((with_reducible refine at_store ?_); first
      | (refine wpu_store G rfl rfl rfl rfl (by first | rfl | assumption | simp [*]) rfl ?_; clear G; intro w G; go_frame)
      | (refine wpu_storeB G rfl rfl rfl rfl (by rfl) (by rfl) (by first | rfl | assumption | simp [*]) ?_; clear G; intro w G; go_frame)
      | (refine wpu_storeS G rfl rfl rfl rfl (by rfl) (by rfl) (by first | rfl | assumption | simp [*]) ?_; clear G; intro w G; go_frame))
    | ((with_reducible refine at_convert ?_); refine wpu_str G rfl rfl rfl rfl ?_; go_frame)
    | ((with_reducible refine at_slice ?_); first
      | (refine wpu_sliceLo rfl rfl rfl rfl (by first | rfl | omega) (by omega) (by omega) ?_; go_frame)
      | (refine wpu_sliceLH rfl rfl rfl rfl rfl (by first | rfl | omega) (by first | rfl | omega) (by omega) (by omega) ?_; go_frame))
    | fail)
  have G := own_new G [.int .i64 0, .slice none 0 0, .slice none 0 0] 25
  obtain ⟨b2, hb2⟩ : ∃ b, w.heap.size = b := ⟨_, rfl⟩
  rw [hb2] at G ⊢
  clear hb2
  refine wp_region_mix [3, 0, 1, 3, 0, 1, 3, 2, 3, 2] (Own w0 _) (by kernel_rfl) (by kernel_rfl) (own_drew G) ?_
  refine mix_plain 1 (by rfl) (by rfl) ?_
  intro ι W hne
  dsimp only [List.take, List.drop]
  repeat (go_big_quiet_step (fail))
  refine wpQuiet_nil ?_
  clear hne W ι
  refine mix_calm 1 ((own_drew G)) (by rfl) (by rfl) ?_
  intro ι W hne hW
  dsimp only [List.take, List.drop]
  repeat (first | ((with_reducible refine atq_load ?_); first | (refine wpq_load hW rfl rfl rfl rfl ?_; go_frame) | (refine wpq_loadB hW rfl rfl rfl (by rfl) ?_; go_frame) | (refine wpq_loadS hW rfl rfl rfl (by rfl) ?_; simp only [List.drop_succ_cons, List.drop_zero, List.take_succ_cons, List.take_zero]; go_frame)) | (fail) | go_big_quiet_step (fail))
  refine wpQuiet_nil ?_
  clear  hW hne W ι
  refine mix_loud rfl (fun K hK => ?_)
  go_wp2_with fail
  refine Calls.mono (cloneS (own_drew G) (fun w h => hc0.old h) (strs_one _) m1) ?_
  rintro e w ⟨vc', rfl, G1⟩
  clear G
  have GR := G1.right
  refine hK _ _ ⟨GR, ?_⟩
  clear hK
  try go_frame
  refine mix_plain 1 (by rfl) (by rfl) ?_
  intro ι W hne
  dsimp only [List.take, List.drop]
  repeat (go_big_quiet_step (fail))
  refine wpQuiet_nil ?_
  clear hne W ι
  refine mix_calm 1 (GR) (by rfl) (by rfl) ?_
  intro ι W hne hW
  dsimp only [List.take, List.drop]
  repeat (first | ((with_reducible refine atq_load ?_); first | (refine wpq_load hW rfl rfl rfl rfl ?_; go_frame) | (refine wpq_loadB hW rfl rfl rfl (by rfl) ?_; go_frame) | (refine wpq_loadS hW rfl rfl rfl (by rfl) ?_; simp only [List.drop_succ_cons, List.drop_zero, List.take_succ_cons, List.take_zero]; go_frame)) | (fail) | go_big_quiet_step (fail))
  refine wpQuiet_nil ?_
  clear  hW hne W ι
  clear GR
  refine mix_loud rfl (fun K hK => ?_)
  go_wp2_with fail
  refine Calls.mono (cloneH G1 (fun w h => hh0.old h) hx1 m2) ?_
  clear G1; rintro e w ⟨vh', rfl, G⟩
  refine hK _ _ ⟨G.right.right, ?_⟩
  clear hK
  have o1 := (own_rd G).one
  have o2 := (own_rd G.right).one
  try go_frame
  refine mix_plain 1 (by rfl) (by rfl) ?_
  intro ι W hne
  dsimp only [List.take, List.drop]
  repeat (go_big_quiet_step (fail))
  refine wpQuiet_nil ?_
  clear hne W ι
  refine mix_last rfl (fun K hK => ?_)
  refine wpk_store G rfl rfl rfl o2 rfl ?_
  clear G; intro w G
  refine hK _ _ ?_
  clear hK
  try go_frame
  refine mix_plain 1 (by rfl) (by rfl) ?_
  intro ι W hne
  dsimp only [List.take, List.drop]
  repeat (go_big_quiet_step (fail))
  refine wpQuiet_nil ?_
  clear hne W ι
  refine mix_last rfl (fun K hK => ?_)
  refine wpk_store G rfl rfl rfl o1 rfl ?_
  clear G; intro w G
  refine hK _ _ ?_
  clear hK
  try go_frame
  refine mix_nil ?_
  simp only [List.set_cons_succ, List.set_cons_zero] at G
  obtain ⟨qo, qc, rfl, q1, q2⟩ := G.hdr vh'
  unfold maxLen at q2
  have G := G.sub (sl 2 (.slice qo hosts.length qc) hosts.length xs * (sl 1 vc' clusters.length (strs clusters) * (blk b2 [.int .i64 0, .slice none 0 0, .slice none 0 0] * blk w0.heap.size [.int .i64 version, vc', .slice qo hosts.length qc])))
  clear o1 hc0 hh0 hx1
  go_wp2_with (first
    | ((with_reducible refine at_alloc ?_); refine wpu_new G ?_; clear G; intro w G)
    | ((with_reducible refine at_drew ?_); refine wpu_drew G ?_; clear G; intro w G)
    | ((with_reducible refine at_load ?_); first
      | (refine wpu_load G rfl rfl rfl rfl ?_; go_frame)
      | (refine wpu_loadB G rfl rfl rfl (by rfl) ?_; go_frame)
      | (refine wpu_loadS G rfl rfl rfl (by rfl) ?_; simp only [List.drop_succ_cons, List.drop_zero, List.take_succ_cons, List.take_zero]; go_frame))
    | ((with_reducible refine at_store ?_); first
      | (refine wpu_store G rfl rfl rfl rfl (by first | rfl | assumption | simp [*]) rfl ?_; clear G; intro w G; go_frame)
      | (refine wpu_storeB G rfl rfl rfl rfl (by rfl) (by rfl) (by first | rfl | assumption | simp [*]) ?_; clear G; intro w G; go_frame)
      | (refine wpu_storeS G rfl rfl rfl rfl (by rfl) (by rfl) (by first | rfl | assumption | simp [*]) ?_; clear G; intro w G; go_frame))
    | ((with_reducible refine at_convert ?_); refine wpu_str G rfl rfl rfl rfl ?_; go_frame)
    | ((with_reducible refine at_slice ?_); first
      | (refine wpu_sliceLo rfl rfl rfl rfl (by first | rfl | omega) (by omega) (by omega) ?_; go_frame)
      | (refine wpu_sliceLH rfl rfl rfl rfl rfl (by first | rfl | omega) (by first | rfl | omega) (by omega) (by omega) ?_; go_frame))
    | fail)
  go_loopw [3, 4, 5, 6, 18] (fun _ _ _ _ i wr => ∃ (j : Nat) (X : List Value) (rows : List (List Value)), i = .int .i64 j ∧ j ≤ hosts.length ∧ rows.length = j ∧ Hid (∀ c ∈ rows, c.length = 2) ∧ Hid (X.length = hosts.length * 2) ∧ Hid (X.take (j * 2) = rows.flatten) ∧ Hid (X.drop (j * 2) = xs.drop (j * 2)) ∧
    Own w0 (sl 2 (.slice qo hosts.length qc) hosts.length X * (starL hsA rows (hosts.take j) * (sl 1 vc' clusters.length (strs clusters) * (blk b2 [.int .i64 0, .slice none 0 0, .slice none 0 0] * blk w0.heap.size [.int .i64 version, vc', .slice qo hosts.length qc])))) wr) (fun _ _ _ _ i _ => hosts.length - (intOf i).toNat)
  case atStart => exact ⟨0, xs, [], rfl, Nat.zero_le _, rfl, Lib.hid (by simp), Lib.hid hL.1, Lib.hid (by simp), Lib.hid rfl, G.eq (by rw [List.take_zero]; show _ = _ * (emp * _); rw [emp_star])⟩
  case round =>
    clear G
    obtain ⟨j, X, rows, rfl, hj, q3, HR, HXL, HX1, HX2, G⟩ := hrel
    by_cases hjn : j < hosts.length
    · obtain ⟨h, hh⟩ : ∃ h, hosts[j]? = some h := ⟨hosts[j], List.getElem?_eq_getElem hjn⟩
      obtain ⟨qd, rfl⟩ := rd_some (own_rd G) (by omega)
      obtain ⟨vn, vr, ys, hcs, hn0, hr0, hRL⟩ := hL.2 j h hh
      have HF : Hid ((X.drop (j * 2)).take 2 = [vn, vr]) := Lib.hid (by rw [HX2.out]; exact hcs)
      have HH := Lib.hid hh
      have hmem := List.mem_of_getElem? hh
      have n1 := m3 h hmem
      have n2 := m4 h hmem
      have n3 := m5 h hmem
      have n4 := m6 h hmem
      have hy1 := rdL_one hRL (fun _ _ h => rt_one h)
      have hjX : j * 2 + 2 ≤ X.length := by rw [HXL.out]; omega
      clear hh hcs hmem
      go_wp2_with (first
        | ((with_reducible refine at_alloc ?_); refine wpu_new G ?_; clear G; intro w G)
        | ((with_reducible refine at_drew ?_); refine wpu_drew G ?_; clear G; intro w G)
        | ((with_reducible refine at_load ?_); first
          | (refine wpu_load G rfl rfl rfl rfl ?_; go_frame)
          | (refine wpu_loadB G rfl rfl rfl (by rfl) ?_; go_frame)
          | (refine wpu_loadS G rfl rfl rfl (by rfl) ?_; simp only [List.drop_succ_cons, List.drop_zero, List.take_succ_cons, List.take_zero]; go_frame))
        | ((with_reducible refine at_store ?_); first
          | (refine wpu_store G rfl rfl rfl rfl (by first | rfl | assumption | simp [*]) rfl ?_; clear G; intro w G; go_frame)
          | (refine wpu_storeB G rfl rfl rfl rfl (by rfl) (by rfl) (by first | rfl | assumption | simp [*]) ?_; clear G; intro w G; go_frame)
          | (refine wpu_storeS G rfl rfl rfl rfl (by rfl) (by rfl) (by first | rfl | assumption | simp [*]) ?_; clear G; intro w G; go_frame))
        | ((with_reducible refine at_convert ?_); refine wpu_str G rfl rfl rfl rfl ?_; go_frame)
        | ((with_reducible refine at_slice ?_); first
          | (refine wpu_sliceLo rfl rfl rfl rfl (by first | rfl | omega) (by omega) (by omega) ?_; go_frame)
          | (refine wpu_sliceLH rfl rfl rfl rfl rfl (by first | rfl | omega) (by first | rfl | omega) (by omega) (by omega) ?_; go_frame))
        | fail)
      refine wp_region_mix [3, 3, 3, 3, 3, 0, 1, 3, 3, 3, 0, 1, 3, 3, 2, 3, 3, 2] (Own w0 _) (by kernel_rfl) (by kernel_rfl) (own_drew G) ?_
      refine mix_plain 5 (by rfl) (by rfl) ?_
      intro ι W hne
      dsimp only [List.take, List.drop]
      repeat (go_big_quiet_step (fail))
      refine wpQuiet_nil ?_
      clear hne W ι
      refine mix_calm 1 ((own_drew G)) (by rfl) (by rfl) ?_
      intro ι W hne hW
      dsimp only [List.take, List.drop]
      repeat (first | ((with_reducible refine atq_load ?_); refine wpq_loadF0 (k := j) (fun i => own_rd (hW i)) HF.out rfl (by kernel_rfl) rfl rfl ?_; go_frame) | ((with_reducible refine atq_load ?_); first | (refine wpq_load hW rfl rfl rfl rfl ?_; go_frame) | (refine wpq_loadB hW rfl rfl rfl (by rfl) ?_; go_frame)) | go_big_quiet_step (fail))
      refine wpQuiet_nil ?_
      clear  hW hne W ι
      refine mix_loud rfl (fun K hK => ?_)
      go_wp2_with fail
      refine Calls.mono (cloneS (own_drew G) (fun w g => hn0.old g) (strs_one _) n1) ?_
      clear G; rintro e w ⟨un, rfl, G1⟩
      have GR := G1.right
      refine hK _ _ ⟨GR, ?_⟩
      clear hK
      try go_frame
      refine mix_plain 3 (by rfl) (by rfl) ?_
      intro ι W hne
      dsimp only [List.take, List.drop]
      repeat (go_big_quiet_step (fail))
      refine wpQuiet_nil ?_
      clear hne W ι
      refine mix_calm 1 (GR) (by rfl) (by rfl) ?_
      intro ι W hne hW
      dsimp only [List.take, List.drop]
      repeat (first | ((with_reducible refine atq_load ?_); refine wpq_loadF (k := j) (j := 0) (fun i => own_rd (hW i)) HF.out rfl (by kernel_rfl) rfl rfl ?_; go_frame) | ((with_reducible refine atq_load ?_); first | (refine wpq_load hW rfl rfl rfl rfl ?_; go_frame) | (refine wpq_loadB hW rfl rfl rfl (by rfl) ?_; go_frame)) | go_big_quiet_step (fail))
      refine wpQuiet_nil ?_
      clear  hW hne W ι
      clear GR
      refine mix_loud rfl (fun K hK => ?_)
      go_wp2_with fail
      refine Calls.mono (cloneR G1 (fun w g => hr0.old g) hy1 n2) ?_
      clear G1; rintro e w ⟨ur, rfl, G⟩
      refine hK _ _ ⟨G.right.right, ?_⟩
      clear hK
      have o1 := (own_rd G).one
      have o3 := (own_rd G.right).one
      try go_frame
      refine mix_plain 2 (by rfl) (by rfl) ?_
      intro ι W hne
      dsimp only [List.take, List.drop]
      repeat (go_big_quiet_step (fail))
      refine wpQuiet_nil ?_
      clear hne W ι
      refine mix_last rfl (fun K hK => ?_)
      refine wpk_storeF0 (k := j) (cap := qc) (sz := 2) (n := hosts.length) G rfl rfl rfl o3 (by omega) ?_
      clear G; intro w G
      refine hK _ _ ?_
      clear hK
      try go_frame
      refine mix_plain 2 (by rfl) (by rfl) ?_
      intro ι W hne
      dsimp only [List.take, List.drop]
      repeat (go_big_quiet_step (fail))
      refine wpQuiet_nil ?_
      clear hne W ι
      refine mix_last rfl (fun K hK => ?_)
      refine wpk_storeF (k := j) (j := 0) (cap := qc) (sz := 2) (n := hosts.length) G rfl rfl rfl o1 (by omega) ?_
      clear G; intro w G
      refine hK _ _ ?_
      clear hK
      try go_frame
      refine mix_nil ?_
      obtain ⟨po, pc, rfl, p1, p2⟩ : ∃ ao cap, ur = .slice ao h.routes.length cap ∧ h.routes.length ≤ cap ∧ cap ≤ maxLen := G.hdr ur
      unfold maxLen at p2
      rw [set_two HF.out hjX] at G
      obtain ⟨t1, t2, t3, t4⟩ := mid_row (row := [un, Value.slice po h.routes.length pc]) (sz := 2) rfl hjX
      obtain ⟨X1, hX1⟩ : ∃ X1, X.take (j * 2) ++ [un, Value.slice po h.routes.length pc] ++ X.drop (j * 2 + 2) = X1 := ⟨_, rfl⟩
      rw [hX1] at G t1 t2 t3 t4
      have HF1 := Lib.hid t1
      have HX1L : Hid (X1.length = hosts.length * 2) := Lib.hid (t4.trans HXL.out)
      have HXA : Hid (X1.take ((j + 1) * 2) = (rows ++ [[un, Value.slice po h.routes.length pc]]).flatten) := Lib.hid (by
        rw [show (j + 1) * 2 = j * 2 + 2 by omega, List.take_add, t2, t1, HX1.out, List.flatten_append, List.flatten_singleton])
      have HXB : Hid (X1.drop ((j + 1) * 2) = xs.drop ((j + 1) * 2)) := Lib.hid (by
        rw [show (j + 1) * 2 = j * 2 + 2 by omega, t3]
        have := congrArg (List.drop 2) HX2.out
        rw [List.drop_drop, List.drop_drop] at this
        exact this)
      clear hX1 t1 t2 t3 t4 o1 hjX
      have HT : Hid (hosts.take (j + 1) = hosts.take j ++ [h]) := Lib.hid (by rw [List.take_add_one, HH.out]; rfl)
      go_wp2_with (first
        | ((with_reducible refine at_load ?_); refine wpu_loadF (k := j) (j := 0) (own_rd (G.pull (sl 2 (.slice (some qd) hosts.length qc) hosts.length X1))) HF1.out rfl (by kernel_rfl) rfl rfl ?_; go_frame)
        | fail)
      have G := G.sub (sl 7 (.slice po h.routes.length pc) h.routes.length ys * (sl 2 (.slice (some qd) hosts.length qc) hosts.length X1 * (sl 1 un h.names.length (strs h.names) * (starL hsA rows (hosts.take j) * (sl 1 vc' clusters.length (strs clusters) * (blk b2 [.int .i64 0, .slice none 0 0, .slice none 0 0] * blk w0.heap.size [.int .i64 version, vc', .slice (some qd) hosts.length qc]))))))
      go_loopw [5, 6, 46] (fun _ _ i wr => ∃ (k : Nat) (Y : List Value) (rr : List (List Value)), i = .int .i64 k ∧ k ≤ h.routes.length ∧ rr.length = k ∧ Hid (∀ c ∈ rr, c.length = 7) ∧ Hid (Y.length = h.routes.length * 7) ∧ Hid (Y.take (k * 7) = rr.flatten) ∧ Hid (Y.drop (k * 7) = ys.drop (k * 7)) ∧
        Own w0 (sl 7 (.slice po h.routes.length pc) h.routes.length Y * (starL rtA rr (h.routes.take k) * (sl 2 (.slice (some qd) hosts.length qc) hosts.length X1 * (sl 1 un h.names.length (strs h.names) * (starL hsA rows (hosts.take j) * (sl 1 vc' clusters.length (strs clusters) * (blk b2 [.int .i64 0, .slice none 0 0, .slice none 0 0] * blk w0.heap.size [.int .i64 version, vc', .slice (some qd) hosts.length qc]))))))) wr) (fun _ _ i _ => h.routes.length - (intOf i).toNat)
      case atStart => exact ⟨0, ys, [], rfl, Nat.zero_le _, rfl, Lib.hid (by simp), Lib.hid hRL.1, Lib.hid (by simp), Lib.hid rfl, G.eq (by rw [List.take_zero]; show _ = _ * (emp * _); rw [emp_star])⟩
      case round =>
        clear G
        obtain ⟨k, Y, rr, rfl, hk, k3, HR7, HYL, HY1, HY2, G⟩ := hrel
        by_cases hkn : k < h.routes.length
        · obtain ⟨r, hr⟩ : ∃ r, h.routes[k]? = some r := ⟨h.routes[k], List.getElem?_eq_getElem hkn⟩
          obtain ⟨pd, rfl⟩ := rd_some (own_rd G) (by omega)
          obtain ⟨vf, vk, hcs, hf0, hk0⟩ := hRL.2 k r hr
          have HFR : Hid ((Y.drop (k * 7)).take 7 = [str r.path, .int .i64 r.how, str r.service, str r.method, vf, vk, .int .i64 r.ticks]) := Lib.hid (by rw [HY2.out]; exact hcs)
          have hmem := List.mem_of_getElem? hr
          have r1 := n3 r hmem
          have r2 := n4 r hmem
          have HRR := Lib.hid hr
          have hkY : k * 7 + 7 ≤ Y.length := by rw [HYL.out]; omega
          clear hr hcs hmem
          go_wp2_with (first
            | ((with_reducible refine at_load ?_); refine wpu_loadF (k := j) (j := 0) (own_rd (G.pull (sl 2 (.slice (some qd) hosts.length qc) hosts.length X1))) HF1.out rfl (by kernel_rfl) rfl rfl ?_; go_frame)
            | fail)
          refine wp_region_mix [3, 3, 3, 3, 3, 0, 1, 3, 3, 3, 0, 1, 3, 3, 2, 3, 3, 2] (Own w0 _) (by kernel_rfl) (by kernel_rfl) (own_drew G) ?_
          refine mix_plain 5 (by rfl) (by rfl) ?_
          intro ι W hne
          dsimp only [List.take, List.drop]
          repeat (go_big_quiet_step (fail))
          refine wpQuiet_nil ?_
          clear hne W ι
          refine mix_calm 1 ((own_drew G)) (by rfl) (by rfl) ?_
          intro ι W hne hW
          dsimp only [List.take, List.drop]
          repeat (first | ((with_reducible refine atq_load ?_); refine wpq_loadF (k := k) (j := 3) (fun i => own_rd (hW i)) HFR.out rfl (by kernel_rfl) rfl rfl ?_; go_frame) | ((with_reducible refine atq_load ?_); first | (refine wpq_load hW rfl rfl rfl rfl ?_; go_frame) | (refine wpq_loadB hW rfl rfl rfl (by rfl) ?_; go_frame)) | go_big_quiet_step (fail))
          refine wpQuiet_nil ?_
          clear  hW hne W ι
          refine mix_loud rfl (fun K hK => ?_)
          go_wp2_with fail
          refine Calls.mono (cloneM (own_drew G) (fun w g => hf0.old g) (mrs_one _) r1) ?_
          clear G; rintro e w ⟨uf, rfl, G1⟩
          have GR := G1.right
          refine hK _ _ ⟨GR, ?_⟩
          clear hK
          try go_frame
          refine mix_plain 3 (by rfl) (by rfl) ?_
          intro ι W hne
          dsimp only [List.take, List.drop]
          repeat (go_big_quiet_step (fail))
          refine wpQuiet_nil ?_
          clear hne W ι
          refine mix_calm 1 (GR) (by rfl) (by rfl) ?_
          intro ι W hne hW
          dsimp only [List.take, List.drop]
          repeat (first | ((with_reducible refine atq_load ?_); refine wpq_loadF (k := k) (j := 4) (fun i => own_rd (hW i)) HFR.out rfl (by kernel_rfl) rfl rfl ?_; go_frame) | ((with_reducible refine atq_load ?_); first | (refine wpq_load hW rfl rfl rfl rfl ?_; go_frame) | (refine wpq_loadB hW rfl rfl rfl (by rfl) ?_; go_frame)) | go_big_quiet_step (fail))
          refine wpQuiet_nil ?_
          clear  hW hne W ι
          clear GR
          refine mix_loud rfl (fun K hK => ?_)
          go_wp2_with fail
          refine Calls.mono (cloneC G1 (fun w g => hk0.old g) (chs_one _) r2) ?_
          clear G1; rintro e w ⟨uk, rfl, G⟩
          refine hK _ _ ⟨G.right.right, ?_⟩
          clear hK
          have o1 := (own_rd G).one
          have o3 := (own_rd G.right).one
          try go_frame
          refine mix_plain 2 (by rfl) (by rfl) ?_
          intro ι W hne
          dsimp only [List.take, List.drop]
          repeat (go_big_quiet_step (fail))
          refine wpQuiet_nil ?_
          clear hne W ι
          refine mix_last rfl (fun K hK => ?_)
          refine wpk_storeF (k := k) (j := 3) (cap := pc) (sz := 7) (n := h.routes.length) G rfl rfl rfl o3 (by omega) ?_
          clear G; intro w G
          refine hK _ _ ?_
          clear hK
          try go_frame
          refine mix_plain 2 (by rfl) (by rfl) ?_
          intro ι W hne
          dsimp only [List.take, List.drop]
          repeat (go_big_quiet_step (fail))
          refine wpQuiet_nil ?_
          clear hne W ι
          refine mix_last rfl (fun K hK => ?_)
          refine wpk_storeF (k := k) (j := 4) (cap := pc) (sz := 7) (n := h.routes.length) G rfl rfl rfl o1 (by omega) ?_
          clear G; intro w G
          refine hK _ _ ?_
          clear hK
          try go_frame
          refine mix_nil ?_
          rw [set_45 HFR.out hkY] at G
          obtain ⟨t1, t2, t3, t4⟩ := mid_row (row := rtCs r uf uk) (sz := 7) rfl hkY
          have G := G.sub (sl 4 uf r.fields.length (mrs r.fields) * (sl 2 uk r.choices.length (chs r.choices) * (sl 7 (.slice (some pd) h.routes.length pc) h.routes.length (Y.take (k * 7) ++ [str r.path, .int .i64 r.how, str r.service, str r.method, uf, uk, .int .i64 r.ticks] ++ Y.drop (k * 7 + 7)) * (starL rtA rr (h.routes.take k) * (sl 2 (.slice (some qd) hosts.length qc) hosts.length X1 * (sl 1 un h.names.length (strs h.names) * (starL hsA rows (hosts.take j) * (sl 1 vc' clusters.length (strs clusters) * (blk b2 [.int .i64 0, .slice none 0 0, .slice none 0 0] * blk w0.heap.size [.int .i64 version, vc', .slice (some qd) hosts.length qc])))))))))
          have G := own_rtA_mk (r := r) G
          rw [show [str r.path, .int .i64 r.how, str r.service, str r.method, uf, uk, .int .i64 r.ticks] = rtCs r uf uk from rfl] at G
          obtain ⟨row, hrow⟩ : ∃ row, rtCs r uf uk = row := ⟨_, rfl⟩
          have hrl : row.length = 7 := by rw [← hrow]; rfl
          rw [hrow] at G t1 t2 t3 t4
          obtain ⟨Y1, hY1⟩ : ∃ Y1, Y.take (k * 7) ++ row ++ Y.drop (k * 7 + 7) = Y1 := ⟨_, rfl⟩
          rw [hY1] at G t1 t2 t3 t4
          have HR8 : Hid (∀ c ∈ rr ++ [row], c.length = 7) := Lib.hid (fun c hc => by
            rcases List.mem_append.1 hc with hc | hc
            · exact HR7.out c hc
            · rw [List.mem_singleton.1 hc]; exact hrl)
          have HYL2 : Hid (Y1.length = h.routes.length * 7) := Lib.hid (t4.trans HYL.out)
          have HYA : Hid (Y1.take ((k + 1) * 7) = (rr ++ [row]).flatten) := Lib.hid (by
            rw [show (k + 1) * 7 = k * 7 + 7 by omega, List.take_add, t2, t1, HY1.out, List.flatten_append, List.flatten_singleton])
          have HYB : Hid (Y1.drop ((k + 1) * 7) = ys.drop ((k + 1) * 7)) := Lib.hid (by
            rw [show (k + 1) * 7 = k * 7 + 7 by omega, t3]
            have := congrArg (List.drop 7) HY2.out
            rw [List.drop_drop, List.drop_drop] at this
            exact this)
          have HTR : Hid (h.routes.take (k + 1) = h.routes.take k ++ [r]) := Lib.hid (by rw [List.take_add_one, HRR.out]; rfl)
          have G : Own w0 (sl 7 (.slice (some pd) h.routes.length pc) h.routes.length Y1 * (starL rtA (rr ++ [row]) (h.routes.take (k + 1)) * (sl 2 (.slice (some qd) hosts.length qc) hosts.length X1 * (sl 1 un h.names.length (strs h.names) * (starL hsA rows (hosts.take j) * (sl 1 vc' clusters.length (strs clusters) * (blk b2 [.int .i64 0, .slice none 0 0, .slice none 0 0] * blk w0.heap.size [.int .i64 version, vc', .slice (some qd) hosts.length qc]))))))) w := G.eq (by
            rw [HTR.out, starL_snoc (by rw [k3, List.length_take]; omega)]
            ac_rfl)
          have k3' : (rr ++ [row]).length = k + 1 := by rw [List.length_append, k3]; rfl
          clear hrow hY1 t1 t2 t3 t4 hkY o1 o3
          go_wp2_with fail
          go_roundw
          case rel => exact ⟨k + 1, Y1, rr ++ [row], by go_num, by omega, k3', HR8, HYL2, HYA, HYB, G⟩
          case measure => simp [intOf] <;> omega
        · obtain rfl : k = h.routes.length := by omega
          rw [List.take_length] at G
          have hY : Y = rr.flatten := by
            have := HY1.out
            rwa [List.take_of_length_le (by rw [HYL.out]; omega)] at this
          subst hY
          have G := own_hsA_mk (h0 := h) (vn := un) (vr := .slice po h.routes.length pc) (rows := rr) (R := sl 2 (.slice (some qd) hosts.length qc) hosts.length X1 * (starL hsA rows (hosts.take j) * (sl 1 vc' clusters.length (strs clusters) * (blk b2 [.int .i64 0, .slice none 0 0, .slice none 0 0] * blk w0.heap.size [.int .i64 version, vc', .slice (some qd) hosts.length qc])))) HR7.out (G.sub (sl 1 un h.names.length (strs h.names) * (sl 7 (.slice po h.routes.length pc) h.routes.length rr.flatten * (starL rtA rr h.routes * (sl 2 (.slice (some qd) hosts.length qc) hosts.length X1 * (starL hsA rows (hosts.take j) * (sl 1 vc' clusters.length (strs clusters) * (blk b2 [.int .i64 0, .slice none 0 0, .slice none 0 0] * blk w0.heap.size [.int .i64 version, vc', .slice (some qd) hosts.length qc]))))))))
          have HR2 : Hid (∀ c ∈ rows ++ [[un, .slice po h.routes.length pc]], c.length = 2) := Lib.hid (fun c hc => by
            rcases List.mem_append.1 hc with hc | hc
            · exact HR.out c hc
            · rw [List.mem_singleton.1 hc]; rfl)
          have G : Own w0 (sl 2 (.slice (some qd) hosts.length qc) hosts.length X1 * (starL hsA (rows ++ [[un, .slice po h.routes.length pc]]) (hosts.take (j + 1)) * (sl 1 vc' clusters.length (strs clusters) * (blk b2 [.int .i64 0, .slice none 0 0, .slice none 0 0] * blk w0.heap.size [.int .i64 version, vc', .slice (some qd) hosts.length qc])))) wr := G.eq (by
            rw [HT.out, starL_snoc (by rw [q3, List.length_take]; omega)]
            ac_rfl)
          have q3' : (rows ++ [[un, Value.slice po h.routes.length pc]]).length = j + 1 := by rw [List.length_append, q3]; rfl
          go_wp2_with fail
          go_roundw
          case rel => exact ⟨j + 1, X1, _, by go_num, by omega, q3', HR2, HX1L, HXA, HXB, G⟩
          case measure => simp [intOf] <;> omega
    · obtain rfl : j = hosts.length := by omega
      rw [List.take_length] at G
      have hX : X = rows.flatten := by
        have := HX1.out
        rwa [List.take_of_length_le (by rw [HXL.out]; omega)] at this
      subst hX
      go_wp2_with (first
        | ((with_reducible refine at_store ?_); refine wpu_storeB G rfl rfl rfl rfl (by rfl) (by rfl) (by simp only [List.all_cons, o2]; rfl) ?_; clear G; intro w G; go_frame)
        | ((with_reducible refine at_alloc ?_); refine wpu_new G ?_; clear G; intro w G)
        | ((with_reducible refine at_drew ?_); refine wpu_drew G ?_; clear G; intro w G)
        | ((with_reducible refine at_load ?_); first
          | (refine wpu_load G rfl rfl rfl rfl ?_; go_frame)
          | (refine wpu_loadB G rfl rfl rfl (by rfl) ?_; go_frame)
          | (refine wpu_loadS G rfl rfl rfl (by rfl) ?_; simp only [List.drop_succ_cons, List.drop_zero, List.take_succ_cons, List.take_zero]; go_frame))
        | ((with_reducible refine at_store ?_); first
          | (refine wpu_store G rfl rfl rfl rfl (by first | rfl | assumption | simp [*]) rfl ?_; clear G; intro w G; go_frame)
          | (refine wpu_storeB G rfl rfl rfl rfl (by rfl) (by rfl) (by first | rfl | assumption | simp [*]) ?_; clear G; intro w G; go_frame)
          | (refine wpu_storeS G rfl rfl rfl rfl (by rfl) (by rfl) (by first | rfl | assumption | simp [*]) ?_; clear G; intro w G; go_frame))
        | ((with_reducible refine at_convert ?_); refine wpu_str G rfl rfl rfl rfl ?_; go_frame)
        | ((with_reducible refine at_slice ?_); first
          | (refine wpu_sliceLo rfl rfl rfl rfl (by first | rfl | omega) (by omega) (by omega) ?_; go_frame)
          | (refine wpu_sliceLH rfl rfl rfl rfl rfl (by first | rfl | omega) (by first | rfl | omega) (by omega) (by omega) ?_; go_frame))
        | fail)
      try simp only [Exit.inBlock, Exit.then]
      refine bodyPost_ret (results1 rfl (resB G rfl (by rfl))) rfl ?_
      refine ⟨_, _, rfl, ?_⟩
      have := own_snA_mk (s := ⟨version, clusters, hosts⟩) (vc := vc') (vh := .slice qo hosts.length qc) (rows := rows) (R := emp) HR.out (G.sub (sl 1 vc' clusters.length (strs clusters) * (sl 2 (.slice qo hosts.length qc) hosts.length rows.flatten * (starL hsA rows hosts * emp))))
      exact this.drop
end Go.Proofs.YtjcpfldobiekbaaDoor
