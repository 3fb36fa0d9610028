




/-
  flumelaw16.shown.
-/
import Derived.Test.YtjcpfldobiekbaaDoorRtShown
namespace Go.Proofs.YtjcpfldobiekbaaDoor
open Go.RowKit Go.Sl Go.ChangeShapes

def PS : Sn := plainSn 1 [97]
def F1 : List Fd := [([58, 112, 97, 116, 104], [47, 120], false), ([58, 97, 117, 116, 104, 111, 114, 105, 116, 121], [121], false)]
def F2 : List Fd := [([58, 112, 97, 116, 104], [42], false)]
theorem ps_ok : PS.ok where
  clusters := by intro n h; rw [List.mem_singleton.1 h]; decide
  hosts := by
    intro h hh
    rw [List.mem_singleton.1 hh]
    refine ⟨fun n hn => by rw [List.mem_singleton.1 hn]; decide, fun r hr => ?_⟩
    rw [List.mem_singleton.1 hr]
    exact ⟨by decide, by decide, by decide, (fun m hm => by cases hm), (fun c hc => by rw [List.mem_singleton.1 hc]; show (1 : Nat) ≤ _; decide)⟩
set_option maxRecDepth 100000 in
theorem sh1 : findR PS F1 5 = some ([97], 7) := by decide +kernel
set_option maxRecDepth 100000 in
theorem sh2 : findR PS F2 5 = none := by decide +kernel
set_option maxRecDepth 100000 in
theorem sh3 : rightR PS = true := by decide +kernel
theorem sh4 : pushR noSn PS = true := by unfold pushR; rw [sh3]; rfl
theorem sh5 : pushR PS PS = false := by unfold pushR; rw [sh3]; rfl
theorem buildF1 (w : World) : (Instr.buildSlice 26 2 #[(0, .agg #[str [58, 112, 97, 116, 104], str [47, 120], .bool false]), (1, .agg #[str [58, 97, 117, 116, 104, 111, 114, 105, 116, 121], str [121], .bool false])]).run Tryd.prog w = .ok (.slice (some ⟨w.heap.size, 0, none⟩) 2 2) (w.alloc (.cells (fds F1).toArray 47)) := by kernel_rfl
theorem buildF2 (w : World) : (Instr.buildSlice 26 1 #[(0, .agg #[str [58, 112, 97, 116, 104], str [42], .bool false])]).run Tryd.prog w = .ok (.slice (some ⟨w.heap.size, 0, none⟩) 1 1) (w.alloc (.cells (fds F2).toArray 47)) := by kernel_rfl

set_option maxHeartbeats 16000000 in
set_option maxRecDepth 100000 in
theorem shownC {B w : World} {R : Assn} (G : Own B R w) : Calls Tryd.prog 9 #[] w fun e w' => e = .returned (.bool true) ∧ Own B R w' := by
  go_enter Tryd.func9, Tryd.ntmps9
  go_wp2_with fail
  refine Calls.mono (newC G) ?_
  clear G; rintro e w ⟨b, rfl, G⟩
  go_wp2_with fail
  refine Calls.mono (plainC (w0 := w) 1 [97]) ?_
  rintro e w1 ⟨vc, vh, rfl, G1⟩
  replace G := own_join G G1
  clear G1
  have o1 : vc.oneCell' = true := by obtain ⟨_, _, _, e0, _, g⟩ := own_snA G; injection e0 with _ e0; injection e0 with e1 _; rw [e1]; exact (own_rd g).one
  have o2 : vh.oneCell' = true := by obtain ⟨_, _, _, e0, _, g⟩ := own_snA G; injection e0 with _ e0; injection e0 with _ e0; injection e0 with e1 _; rw [e1]; exact (own_rd g.right).one
  replace G := show Own B (snA [.int .i64 1, vc, vh] PS * (tblA b noSn * R)) w1 from G
  go_wp2_with (first
    | ((with_reducible refine at_alloc ?_); refine wpu_new G ?_; clear G; intro w G)
    | ((with_reducible refine at_drew ?_); refine wpu_drew G ?_; clear G; intro w G)
    | ((with_reducible refine at_store ?_); refine wpu_storeB G rfl rfl rfl rfl (by rfl) (by rfl) (by simp only [List.all_cons, o1, o2]; rfl) ?_; clear G; intro w G; go_frame)
    | (go_at_call 19; refine hold ?_)
    | fail)
  unfold Held
  refine Calls.mono (versionC (s := noSn) (R := blk w1.heap.size [.int .i64 1, vc, vh] * (snA [.int .i64 1, vc, vh] PS * R)) (G.eq (by ac_rfl))) ?_
  clear G; rintro e w ⟨rfl, G⟩
  rw [show noSn.version = 0 from rfl]
  go_wp2_with (first
    | ((with_reducible refine at_build ?_); refine hold ?_)
    | ((with_reducible refine at_alloc ?_); refine wpu_new G ?_; clear G; intro w G)
    | ((with_reducible refine at_drew ?_); refine wpu_drew G ?_; clear G; intro w G)
    | ((with_reducible refine at_load ?_); first
      | (refine wpu_load G rfl rfl rfl rfl ?_; go_frame)
      | (refine wpu_loadB G rfl rfl rfl (by rfl) ?_; go_frame)
      | (refine wpu_loadS G rfl rfl rfl (by rfl) ?_; simp only [List.drop_succ_cons, List.drop_zero, List.take_succ_cons, List.take_zero]; go_frame))
    | ((with_reducible refine at_store ?_); first
      | (refine wpu_store G rfl rfl rfl rfl (by first | rfl | assumption | simp [*]) rfl ?_; clear G; intro w G; go_frame)
      | (refine wpu_storeB G rfl rfl rfl rfl (by rfl) (by rfl) (by first | rfl | assumption | simp [*]) ?_; clear G; intro w G; go_frame)
      | (refine wpu_storeS G rfl rfl rfl rfl (by rfl) (by rfl) (by first | rfl | assumption | simp [*]) ?_; clear G; intro w G; go_frame))
    | ((with_reducible refine at_convert ?_); refine wpu_str G rfl rfl rfl rfl ?_; go_frame)
    | ((with_reducible refine at_slice ?_); first
      | (refine wpu_sliceLo rfl rfl rfl rfl (by first | rfl | omega) (by omega) (by omega) ?_; go_frame)
      | (refine wpu_sliceLH rfl rfl rfl rfl rfl (by first | rfl | omega) (by first | rfl | omega) (by omega) (by omega) ?_; go_frame))
    | fail)
  unfold Held
  refine wpu_val rfl (exec_buildT _ rfl (by kernel_rfl) (buildF1 _)) ?_
  go_frame
  replace G := own_new_sl (n := 2) (sz := 3) G (fds F1) 47 rfl (by decide)
  generalize w.heap.size = b1 at G ⊢
  generalize w.alloc _ = w at G ⊢
  go_wp2_with fail
  refine Calls.mono (findC (s := PS) (F := F1) (d := 5) (sn_read (G.pull (snA [.int .i64 1, vc, vh] PS))) ps_ok (own_rd G) (by decide) (by decide)) ?_
  rintro e w2 ⟨rfl, hb⟩
  replace G := own_kept G hb
  clear hb
  rw [show findV (findR PS F1 5) = .tuple #[str [97], .int .i64 7, .bool true] by rw [sh1]; rfl]
  go_wp2_with (first
    | ((with_reducible refine at_build ?_); refine hold ?_)
    | ((with_reducible refine at_alloc ?_); refine wpu_new G ?_; clear G; intro w G)
    | ((with_reducible refine at_drew ?_); refine wpu_drew G ?_; clear G; intro w G)
    | ((with_reducible refine at_load ?_); first
      | (refine wpu_load G rfl rfl rfl rfl ?_; go_frame)
      | (refine wpu_loadB G rfl rfl rfl (by rfl) ?_; go_frame)
      | (refine wpu_loadS G rfl rfl rfl (by rfl) ?_; simp only [List.drop_succ_cons, List.drop_zero, List.take_succ_cons, List.take_zero]; go_frame))
    | ((with_reducible refine at_store ?_); first
      | (refine wpu_store G rfl rfl rfl rfl (by first | rfl | assumption | simp [*]) rfl ?_; clear G; intro w G; go_frame)
      | (refine wpu_storeB G rfl rfl rfl rfl (by rfl) (by rfl) (by first | rfl | assumption | simp [*]) ?_; clear G; intro w G; go_frame)
      | (refine wpu_storeS G rfl rfl rfl rfl (by rfl) (by rfl) (by first | rfl | assumption | simp [*]) ?_; clear G; intro w G; go_frame))
    | ((with_reducible refine at_convert ?_); refine wpu_str G rfl rfl rfl rfl ?_; go_frame)
    | ((with_reducible refine at_slice ?_); first
      | (refine wpu_sliceLo rfl rfl rfl rfl (by first | rfl | omega) (by omega) (by omega) ?_; go_frame)
      | (refine wpu_sliceLH rfl rfl rfl rfl rfl (by first | rfl | omega) (by first | rfl | omega) (by omega) (by omega) ?_; go_frame))
    | fail)
  unfold Held
  refine wpu_val rfl (exec_buildT _ rfl (by kernel_rfl) (buildF2 _)) ?_
  go_frame
  replace G := own_new_sl (n := 1) (sz := 3) G (fds F2) 47 rfl (by decide)
  generalize w2.heap.size = b3 at G ⊢
  generalize w2.alloc _ = w at G ⊢
  go_wp2_with fail
  refine Calls.mono (findC (s := PS) (F := F2) (d := 5) (sn_read (G.pull (snA [.int .i64 1, vc, vh] PS))) ps_ok (own_rd G) (by decide) (by decide)) ?_
  rintro e w2 ⟨rfl, hb⟩
  replace G := own_kept G hb
  clear hb
  rw [show findV (findR PS F2 5) = .tuple #[str [], .int .i64 0, .bool false] by rw [sh2]; rfl]
  go_wp2_with (first
    | ((with_reducible refine at_alloc ?_); refine wpu_new G ?_; clear G; intro w G)
    | ((with_reducible refine at_drew ?_); refine wpu_drew G ?_; clear G; intro w G)
    | ((with_reducible refine at_load ?_); first
      | (refine wpu_load G rfl rfl rfl rfl ?_; go_frame)
      | (refine wpu_loadB G rfl rfl rfl (by rfl) ?_; go_frame)
      | (refine wpu_loadS G rfl rfl rfl (by rfl) ?_; simp only [List.drop_succ_cons, List.drop_zero, List.take_succ_cons, List.take_zero]; go_frame))
    | ((with_reducible refine at_store ?_); first
      | (refine wpu_store G rfl rfl rfl rfl (by first | rfl | assumption | simp [*]) rfl ?_; clear G; intro w G; go_frame)
      | (refine wpu_storeB G rfl rfl rfl rfl (by rfl) (by rfl) (by first | rfl | assumption | simp [*]) ?_; clear G; intro w G; go_frame)
      | (refine wpu_storeS G rfl rfl rfl rfl (by rfl) (by rfl) (by first | rfl | assumption | simp [*]) ?_; clear G; intro w G; go_frame))
    | ((with_reducible refine at_convert ?_); refine wpu_str G rfl rfl rfl rfl ?_; go_frame)
    | ((with_reducible refine at_slice ?_); first
      | (refine wpu_sliceLo rfl rfl rfl rfl (by first | rfl | omega) (by omega) (by omega) ?_; go_frame)
      | (refine wpu_sliceLH rfl rfl rfl rfl rfl (by first | rfl | omega) (by first | rfl | omega) (by omega) (by omega) ?_; go_frame))
    | fail)
  refine Calls.mono (rightC (s := PS) (sn_read (G.pull (snA [.int .i64 1, vc, vh] PS))) ps_ok) ?_
  rintro e w3 ⟨rfl, hb⟩
  replace G := own_kept G hb
  clear hb
  rw [sh3]
  have G := G.sub (tblA b noSn * (blk w1.heap.size [.int .i64 1, vc, vh] * (snA [.int .i64 1, vc, vh] PS * R)))
  go_wp2_with (first
    | (go_at_call 15; refine hold ?_)
    | ((with_reducible refine at_eqS ?_); refine wpu_eqS (b := true) rfl (by kernel_rfl) rfl rfl (by decide) ?_; go_frame)
    | ((with_reducible refine at_alloc ?_); refine wpu_new G ?_; clear G; intro w G)
    | ((with_reducible refine at_drew ?_); refine wpu_drew G ?_; clear G; intro w G)
    | go_big_skip
    | ((with_reducible refine at_load ?_); first
      | (refine wpu_load G rfl (by kernel_rfl) rfl rfl ?_; go_frame)
      | (refine wpu_loadB G rfl (by kernel_rfl) rfl (by rfl) ?_; go_frame)
      | (refine wpu_loadS G rfl (by kernel_rfl) rfl (by rfl) ?_; simp only [List.drop_succ_cons, List.drop_zero, List.take_succ_cons, List.take_zero]; go_frame))
    | ((with_reducible refine at_store ?_); first
      | (refine wpu_store G rfl (by kernel_rfl) rfl rfl (by first | rfl | assumption | simp [*]) rfl ?_; clear G; intro w G; go_frame)
      | (refine wpu_storeB G rfl (by kernel_rfl) rfl rfl (by rfl) (by rfl) (by first | rfl | assumption | simp [*]) ?_; clear G; intro w G; go_frame)
      | (refine wpu_storeS G rfl (by kernel_rfl) rfl rfl (by rfl) (by rfl) (by first | rfl | assumption | simp [*]) ?_; clear G; intro w G; go_frame))
    | ((with_reducible refine at_convert ?_); refine wpu_str G rfl (by kernel_rfl) rfl rfl ?_; go_frame)
    | fail)
  unfold Held
  refine Calls.mono (pushC (b := b) (t := noSn) (s := PS) (cs := [.int .i64 1, vc, vh]) G (fun u h => sn_read (h.pull (snA [.int .i64 1, vc, vh] PS))) ps_ok) ?_
  clear G; rintro e w ⟨rfl, G⟩
  rw [sh4] at G ⊢
  rw [if_pos rfl] at G
  go_wp2_with (first
    | (go_at_call 15; refine hold ?_)
    | ((with_reducible refine at_alloc ?_); refine wpu_new G ?_; clear G; intro w G)
    | ((with_reducible refine at_drew ?_); refine wpu_drew G ?_; clear G; intro w G)
    | go_big_skip
    | ((with_reducible refine at_load ?_); first
      | (refine wpu_load G rfl (by kernel_rfl) rfl rfl ?_; go_frame)
      | (refine wpu_loadB G rfl (by kernel_rfl) rfl (by rfl) ?_; go_frame)
      | (refine wpu_loadS G rfl (by kernel_rfl) rfl (by rfl) ?_; simp only [List.drop_succ_cons, List.drop_zero, List.take_succ_cons, List.take_zero]; go_frame))
    | ((with_reducible refine at_store ?_); first
      | (refine wpu_store G rfl (by kernel_rfl) rfl rfl (by first | rfl | assumption | simp [*]) rfl ?_; clear G; intro w G; go_frame)
      | (refine wpu_storeB G rfl (by kernel_rfl) rfl rfl (by rfl) (by rfl) (by first | rfl | assumption | simp [*]) ?_; clear G; intro w G; go_frame)
      | (refine wpu_storeS G rfl (by kernel_rfl) rfl rfl (by rfl) (by rfl) (by first | rfl | assumption | simp [*]) ?_; clear G; intro w G; go_frame))
    | ((with_reducible refine at_convert ?_); refine wpu_str G rfl (by kernel_rfl) rfl rfl ?_; go_frame)
    | fail)
  unfold Held
  refine Calls.mono (pushC (b := b) (t := PS) (s := PS) (cs := [.int .i64 1, vc, vh]) G (fun u h => sn_read (h.pull (snA [.int .i64 1, vc, vh] PS))) ps_ok) ?_
  clear G; rintro e w ⟨rfl, G⟩
  rw [sh5] at G ⊢
  rw [if_neg (by decide)] at G
  go_wp2_with (first
    | (go_at_call 19; refine hold ?_)
    | fail)
  unfold Held
  refine Calls.mono (versionC (s := PS) G) ?_
  clear G; rintro e w ⟨rfl, G⟩
  rw [show PS.version = 1 from rfl]
  go_wp2_with fail
  go_ret
  exact ⟨rfl, G.right.right.right⟩
end Go.Proofs.YtjcpfldobiekbaaDoor
