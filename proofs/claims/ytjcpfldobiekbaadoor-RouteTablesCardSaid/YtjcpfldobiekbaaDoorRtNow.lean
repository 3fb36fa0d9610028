




/-
  Now: a table's snapshot, copied; a snapshot with another version.
-/
import Derived.Test.YtjcpfldobiekbaaDoorRtSh2
import Derived.Test.YtjcpfldobiekbaaDoorCmp
namespace Go.Proofs.YtjcpfldobiekbaaDoor
open Go.RowKit Go.Sl Go.ChangeShapes

set_option maxHeartbeats 16000000 in
set_option maxRecDepth 100000 in
theorem nowC {B w : World} {R : Assn} {b : Nat} {s : Sn} (h : Own B (tblA b s * R) w) (sm : s.small) : Calls Tryd.prog 17 #[.pointer (some ⟨b, 0, none⟩)] w fun e w' => ∃ vc vh, e = .returned (.agg #[.int .i64 s.version, vc, vh]) ∧ Own B (snA [.int .i64 s.version, vc, vh] s * (tblA b s * R)) w' := by
  obtain ⟨tc, th, G⟩ := own_tbl h
  clear h
  go_enter Tryd.func17, Tryd.ntmps17
  go_wp2_with (first
    | ((with_reducible refine at_alloc ?_); refine wpu_new G ?_; clear G; intro w G)
    | ((with_reducible refine at_drew ?_); refine wpu_drew G ?_; clear G; intro w G)
    | ((with_reducible refine at_alloc ?_); refine wpu_new G ?_; clear G; intro w G)
    | ((with_reducible refine at_drew ?_); refine wpu_drew G ?_; clear G; intro w G)
    | ((with_reducible refine at_load ?_); first
      | (refine wpu_load G rfl rfl rfl rfl ?_; go_frame)
      | (refine wpu_loadB G rfl rfl rfl (by rfl) ?_; go_frame)
      | (refine wpu_loadS G rfl rfl rfl (by rfl) ?_; simp only [List.drop_succ_cons, List.drop_zero, List.take_succ_cons, List.take_zero]; go_frame))
    | ((with_reducible refine at_store ?_); first
      | (refine wpu_store G rfl rfl rfl rfl (by first | rfl | assumption | simp [*]) rfl ?_; clear G; intro w G; go_frame)
      | (refine wpu_storeB G rfl rfl rfl rfl (by rfl) (by rfl) (by first | rfl | assumption | simp [*]) ?_; clear G; intro w G; go_frame)
      | (refine wpu_storeS G rfl rfl rfl rfl (by rfl) (by rfl) (by first | rfl | assumption | simp [*]) ?_; clear G; intro w G; go_frame))
    | ((with_reducible refine at_convert ?_); refine wpu_str G rfl rfl rfl rfl ?_; go_frame)
    | ((with_reducible refine at_slice ?_); first
      | (refine wpu_sliceLo rfl rfl rfl rfl (by first | rfl | omega) (by omega) (by omega) ?_; go_frame)
      | (refine wpu_sliceLH rfl rfl rfl rfl rfl (by first | rfl | omega) (by first | rfl | omega) (by omega) (by omega) ?_; go_frame))
    | fail)
  refine Calls.mono (copiedC (sn_read (G.pull (snA [.int .i64 s.version, tc, th] s))) sm) ?_
  rintro e w1 ⟨vc, vh, rfl, G1⟩
  replace G := own_join G G1
  clear G1
  have o1 : vc.oneCell' = true := by obtain ⟨_, _, _, e0, _, g⟩ := own_snA G; injection e0 with _ e0; injection e0 with e1 _; rw [e1]; exact (own_rd g).one
  have o2 : vh.oneCell' = true := by obtain ⟨_, _, _, e0, _, g⟩ := own_snA G; injection e0 with _ e0; injection e0 with _ e0; injection e0 with e1 _; rw [e1]; exact (own_rd g.right).one
  go_wp2_with (first
    | ((with_reducible refine at_store ?_); refine wpu_storeB G rfl rfl rfl rfl (by rfl) (by rfl) (by simp only [List.all_cons, o1, o2]; rfl) ?_; clear G; intro w G; go_frame)
    | fail)
  try simp only [Exit.inBlock, Exit.then]
  refine bodyPost_ret (results1 rfl (by first | exact resT rfl | exact resB G rfl (by rfl) | exact resO G rfl rfl)) rfl ?_
  have G2 := own_tbl_mk (G.sub (blk b [.int .i64 s.version, tc, th] * (snA [.int .i64 s.version, tc, th] s * (snA [.int .i64 s.version, vc, vh] s * R))))
  exact ⟨vc, vh, rfl, G2.eq (by ac_rfl)⟩

def verS (s : Sn) (v : Int) : Sn := ⟨v, s.clusters, s.hosts⟩
theorem verS_ok {s : Sn} (h : s.ok) (v : Int) : (verS s v).ok := ⟨h.1, h.2⟩
theorem rd_ver {u : World} {s : Sn} {a : Value} {vc vh : Value} (h : rdSn u [a, vc, vh] s) (v : Int) : rdSn u [.int .i64 v, vc, vh] (verS s v) := by
  obtain ⟨c, d, xs, e, h1, h2, h3⟩ := h
  injection e with _ e; injection e with e1 e; injection e with e2 _
  subst e1 e2
  exact ⟨_, _, xs, rfl, h1, h2, h3⟩
theorem right_ver (s : Sn) (v : Int) : rightR (verS s v) = (decide (1 ≤ v) && rightR (verS s 1)) := by
  unfold rightR verS
  cases decide (1 ≤ v) <;> rfl
theorem push_ver {s t : Sn} (h : 0 ≤ t.version) (v : Int) : pushR t (verS s v) = (rightR (verS s 1) && decide (v > t.version)) := by
  unfold pushR
  rw [right_ver]
  show (decide (t.version < v) && _) = _
  by_cases hv : t.version < v
  · rw [decide_eq_true hv, decide_eq_true (show 1 ≤ v by omega)]
    simp
  · rw [decide_eq_false hv]
    simp
end Go.Proofs.YtjcpfldobiekbaaDoor
