




/-
  flumeref16.Copy: a snapshot of its own.
-/
import Derived.Test.YtjcpfldobiekbaaDoorRtOwn
namespace Go.Proofs.YtjcpfldobiekbaaDoor
open Go.RowKit Go.Sl Go.ChangeShapes

structure Sn.small (s : Sn) : Prop where
  clusters : s.clusters.length ≤ 1000
  hosts : s.hosts.length ≤ 1000
  names : ∀ h ∈ s.hosts, h.names.length ≤ 1000
  routes : ∀ h ∈ s.hosts, h.routes.length ≤ 1000
  fields : ∀ h ∈ s.hosts, ∀ r ∈ h.routes, r.fields.length ≤ 1000
  choices : ∀ h ∈ s.hosts, ∀ r ∈ h.routes, r.choices.length ≤ 1000

theorem strs_one (l : List Txt) : ∀ y ∈ strs l, y.oneCell' = true := by
  intro y hy
  obtain ⟨x, _, rfl⟩ := List.mem_map.1 hy
  rfl
theorem mrs_one (l : List Mr) : ∀ y ∈ mrs l, y.oneCell' = true := by
  intro y hy
  obtain ⟨m, _, hm⟩ := List.mem_flatMap.1 hy
  unfold Mr.cs at hm
  simp only [List.mem_cons, List.not_mem_nil, or_false] at hm
  rcases hm with rfl | rfl | rfl | rfl <;> rfl
theorem chs_one (l : List Ch) : ∀ y ∈ chs l, y.oneCell' = true := by
  intro y hy
  obtain ⟨m, _, hm⟩ := List.mem_flatMap.1 hy
  unfold Ch.cs at hm
  simp only [List.mem_cons, List.not_mem_nil, or_false] at hm
  rcases hm with rfl | rfl <;> rfl
theorem buildS0 (w : World) : (Instr.buildSlice 22 0 #[]).run Tryd.prog w = .ok (.slice (some ⟨w.heap.size, 0, none⟩) 0 0) (w.alloc (.cells ([] : List Value).toArray 9)) := by kernel_rfl
theorem buildM0 (w : World) : (Instr.buildSlice 40 0 #[]).run Tryd.prog w = .ok (.slice (some ⟨w.heap.size, 0, none⟩) 0 0) (w.alloc (.cells ([] : List Value).toArray 45)) := by kernel_rfl
theorem buildC0 (w : World) : (Instr.buildSlice 39 0 #[]).run Tryd.prog w = .ok (.slice (some ⟨w.heap.size, 0, none⟩) 0 0) (w.alloc (.cells ([] : List Value).toArray 38)) := by kernel_rfl
theorem buildR1 (a b c d e f g : Value) (w : World) : (Instr.buildSlice 31 1 #[(0, .agg #[a, b, c, d, e, f, g])]).run Tryd.prog w = .ok (.slice (some ⟨w.heap.size, 0, none⟩) 1 1) (w.alloc (.cells [a, b, c, d, e, f, g].toArray 42)) := by kernel_rfl
theorem buildH1 (a b : Value) (w : World) : (Instr.buildSlice 23 1 #[(0, .agg #[a, b])]).run Tryd.prog w = .ok (.slice (some ⟨w.heap.size, 0, none⟩) 1 1) (w.alloc (.cells [a, b].toArray 33)) := by kernel_rfl
theorem buildSn (a : Int) (o : Option Addr) (n c : Nat) (w : World) : (Instr.build 25 #[(0, .int .i64 a), (1, .slice o n c)]).run Tryd.prog w = .ok (.agg #[.int .i64 a, .slice o n c, .slice none 0 0]) w := by kernel_rfl

set_option maxHeartbeats 16000000 in
set_option maxRecDepth 100000 in
theorem copyC {w0 : World} {s : Sn} {cs : List Value} (hs : rdSn w0 cs s) (sm : s.small) :
    Calls Tryd.prog 13 #[.agg cs.toArray] w0 fun e w' => ∃ cs', e = .returned (.agg cs'.toArray) ∧ Own w0 (snA cs' s) w' := by
  have G := own_begin w0
  obtain ⟨vc, vh, xs, rfl, hc0, hh0, hL⟩ := hs
  obtain ⟨ho, hc, rfl, i3, i4, -⟩ := id hh0
  unfold maxLen at i4
  have hv : ∀ A w, Own w0 A w → rd w 2 (.slice ho s.hosts.length hc) s.hosts.length xs := fun A w h => hh0.old h
  have hcl : ∀ A w, Own w0 A w → rd w 1 vc s.clusters.length (strs s.clusters) := fun A w h => hc0.old h
  obtain ⟨m1, m2, m3, m4, m5, m6⟩ := sm
  clear hc0 hh0
  go_enter Tryd.func13, Tryd.ntmps13
  go_wp2_with (first
    | ((with_reducible refine at_alloc ?_); refine wpu_new G ?_; clear G; intro w G)
    | ((with_reducible refine at_drew ?_); refine wpu_drew G ?_; clear G; intro w G)
    | ((with_reducible refine at_alloc ?_); refine wpu_new G ?_; clear G; intro w G)
    | ((with_reducible refine at_drew ?_); refine wpu_drew G ?_; clear G; intro w G)
    | ((with_reducible refine at_load ?_); first
      | (refine wpu_load G rfl rfl rfl rfl ?_; go_frame)
      | (refine wpu_loadB G rfl rfl rfl (by rfl) ?_; go_frame)
      | (refine wpu_loadS G rfl rfl rfl (by rfl) ?_; simp only [List.drop_succ_cons, List.drop_zero, List.take_succ_cons, List.take_zero]; go_frame))
    | ((with_reducible refine at_store ?_); first
      | (refine wpu_store G rfl rfl rfl rfl (by first | rfl | assumption | simp [*]) rfl ?_; clear G; intro w G; go_frame)
      | (refine wpu_storeB G rfl rfl rfl rfl (by rfl) (by rfl) (by first | rfl | assumption | simp [*]) ?_; clear G; intro w G; go_frame)
      | (refine wpu_storeS G rfl rfl rfl rfl (by rfl) (by rfl) (by first | rfl | assumption | simp [*]) ?_; clear G; intro w G; go_frame))
    | ((with_reducible refine at_convert ?_); refine wpu_str G rfl rfl rfl rfl ?_; go_frame)
    | ((with_reducible refine at_slice ?_); first
      | (refine wpu_sliceLo rfl rfl rfl rfl (by first | rfl | omega) (by omega) (by omega) ?_; go_frame)
      | (refine wpu_sliceLH rfl rfl rfl rfl rfl (by first | rfl | omega) (by first | rfl | omega) (by omega) (by omega) ?_; go_frame))
    | fail)
  have G := own_new G [.int .i64 0, .slice none 0 0, .slice none 0 0] 25
  obtain ⟨b2, hb2⟩ : ∃ b, w.heap.size = b := ⟨_, rfl⟩
  rw [hb2] at G ⊢
  clear hb2
  have G : Own w0 (blk b2 [.int .i64 0, .slice none 0 0, .slice none 0 0] * blk w0.heap.size [.int .i64 s.version, vc, .slice ho s.hosts.length hc]) _ := G.eq (by rw [star_emp])
  have HNE : ∃ u, Own w0 (blk b2 [.int .i64 0, .slice none 0 0, .slice none 0 0] * blk w0.heap.size [.int .i64 s.version, vc, .slice ho s.hosts.length hc]) u := ⟨_, G⟩
  refine wp_region_mixF (A := (blk b2 [.int .i64 0, .slice none 0 0, .slice none 0 0] * blk w0.heap.size [.int .i64 s.version, vc, .slice ho s.hosts.length hc])) (B := w0) [3, 0, 4, 3, 0, 1, 3, 4, 1] (Own w0 (blk b2 [.int .i64 0, .slice none 0 0, .slice none 0 0] * blk w0.heap.size [.int .i64 s.version, vc, .slice ho s.hosts.length hc])) (by kernel_rfl) (by kernel_rfl) (fun w o h => own_alloc h o) (own_drew G) (own_drew G) ?_
  clear G
  refine mixf_plain 1 HNE (by rfl) (by rfl) ?_
  intro ι W hne
  dsimp only [List.take, List.drop]
  repeat (first | (fail) | go_big_quiet_step (fail))
  refine wpQuiet_nil ?_
  clear hne W ι
  refine mixf_calm 1 HNE (by rfl) (by rfl) ?_
  intro ι W hne hW
  dsimp only [List.take, List.drop]
  repeat (first | ((with_reducible refine atq_load ?_); refine wpq_load hW rfl rfl rfl rfl ?_; go_frame) | go_big_quiet_step (fail))
  refine wpQuiet_nil ?_
  clear hW hne W ι
  refine mixf_fresh (fun b => .slice (some ⟨b, 0, none⟩) 0 0) [] 9 (fun w => exec_buildT #[] rfl (by kernel_rfl) (buildS0 w)) fun b0 => ?_
  try go_frame
  refine mixf_plain 1 HNE (by rfl) (by rfl) ?_
  intro ι W hne
  dsimp only [List.take, List.drop]
  repeat (first | (fail) | go_big_quiet_step (fail))
  refine wpQuiet_nil ?_
  clear hne W ι
  refine mixf_calm 1 HNE (by rfl) (by rfl) ?_
  intro ι W hne hW
  dsimp only [List.take, List.drop]
  repeat (first | ((with_reducible refine atq_load ?_); refine wpq_load hW rfl rfl rfl rfl ?_; go_frame) | go_big_quiet_step (fail))
  refine wpQuiet_nil ?_
  clear hW hne W ι
  refine mixf_loud fun F w K HC G hK => ?_
  refine wpk_append0 G rfl rfl rfl (hcl _ _ HC) (strs_one _) (by unfold maxLen; omega) (by omega) fun v w G => ?_
  obtain ⟨eo, ec, rfl, c3, c4⟩ := G.hdr v
  unfold maxLen at c4
  refine hK _ _ (sl 1 (.slice eo s.clusters.length ec) s.clusters.length (strs s.clusters) * (blk b2 [.int .i64 0, .slice none 0 0, .slice none 0 0] * blk w0.heap.size [.int .i64 s.version, vc, .slice ho s.hosts.length hc])) (G.sub (blk b2 [.int .i64 0, .slice none 0 0, .slice none 0 0] * blk w0.heap.size [.int .i64 s.version, vc, .slice ho s.hosts.length hc])) ((G.sub (sl 1 (.slice eo s.clusters.length ec) s.clusters.length (strs s.clusters) * ((blk b2 [.int .i64 0, .slice none 0 0, .slice none 0 0] * blk w0.heap.size [.int .i64 s.version, vc, .slice ho s.hosts.length hc]) * F))).eq (by ac_rfl)) ?_
  clear hK HC G
  try go_frame
  refine mixf_plain 1 HNE (by rfl) (by rfl) ?_
  intro ι W hne
  dsimp only [List.take, List.drop]
  repeat (first | (fail) | go_big_quiet_step (fail))
  refine wpQuiet_nil ?_
  clear hne W ι
  refine mixf_fresh (fun b => .pointer (some ⟨b, 0, none⟩)) [.int .i64 0, .slice none 0 0, .slice none 0 0] 25 (fun w => by kernel_rfl) fun b3 => ?_
  try go_frame
  refine mixf_loud fun F w K HC G hK => ?_
  refine wpk_storeB G rfl rfl rfl (by rfl) (by rfl) (by rfl) ?_
  clear G; intro w G
  refine hK _ _ (blk b3 [.int .i64 s.version, .slice eo s.clusters.length ec, .slice none 0 0] * (sl 1 (.slice eo s.clusters.length ec) s.clusters.length (strs s.clusters) * (blk b2 [.int .i64 0, .slice none 0 0, .slice none 0 0] * blk w0.heap.size [.int .i64 s.version, vc, .slice ho s.hosts.length hc]))) (G.sub (blk b2 [.int .i64 0, .slice none 0 0, .slice none 0 0] * blk w0.heap.size [.int .i64 s.version, vc, .slice ho s.hosts.length hc])) G ?_
  clear hK HC G
  try go_frame
  refine mixf_nil fun w G => ?_
  clear HNE
  have G := own_nil G 2
  go_wp2_with fail
  go_loopw [4, 5, 6, 7] (fun i _ _ _ wr => ∃ (j : Nat) (qo : Option Addr) (qc : Nat) (rows : List (List Value)), i = .int .i64 j ∧ j ≤ s.hosts.length ∧ j ≤ qc ∧ qc ≤ 9223372036854775807 ∧ rows.length = j ∧ Hid (∀ c ∈ rows, c.length = 2) ∧
    Own w0 (sl 2 (.slice qo j qc) j rows.flatten * (starL hsA rows (s.hosts.take j) * (blk b3 [.int .i64 s.version, .slice eo s.clusters.length ec, .slice qo j qc] * (sl 1 (.slice eo s.clusters.length ec) s.clusters.length (strs s.clusters) * (blk b2 [.int .i64 0, .slice none 0 0, .slice none 0 0] * blk w0.heap.size [.int .i64 s.version, vc, .slice ho s.hosts.length hc]))))) wr) (fun i _ _ _ _ => s.hosts.length - (intOf i).toNat)
  case atStart => exact ⟨0, none, 0, [], rfl, Nat.zero_le _, Nat.le_refl _, by omega, rfl, Lib.hid (by simp), G.eq (by rw [List.take_zero]; show _ = _ * (emp * _); rw [emp_star]; rfl)⟩
  case round =>
    clear G
    obtain ⟨j, qo, qc, rows, rfl, hj, q1, q2, q3, HR, G⟩ := hrel
    by_cases hjn : j < s.hosts.length
    · obtain ⟨h, hh⟩ : ∃ h, s.hosts[j]? = some h := ⟨s.hosts[j], List.getElem?_eq_getElem hjn⟩
      obtain ⟨ad, rfl⟩ := rd_some (hv _ _ G) (by omega)
      obtain ⟨vn, vr, ys, hcs, hn0, hr0, hRL⟩ := hL.2 j h hh
      have HF := Lib.hid hcs
      have hmem := List.mem_of_getElem? hh
      have n1 := m3 h hmem
      have n2 := m4 h hmem
      have n3 := m5 h hmem
      have n4 := m6 h hmem
      have HH := Lib.hid hh
      have hnn : ∀ A w, Own w0 A w → rd w 1 vn h.names.length (strs h.names) := fun A w g => hn0.old g
      obtain ⟨ro, rc, rfl, i7, i8, -⟩ := id hr0
      unfold maxLen at i8
      have hrr : ∀ A w, Own w0 A w → rd w 7 (.slice ro h.routes.length rc) h.routes.length ys := fun A w g => hr0.old g
      clear hn0 hr0 hh hcs hmem
      go_wp2_with (first
        | ((with_reducible refine at_alloc ?_); refine wpu_new G ?_; clear G; intro w G)
        | ((with_reducible refine at_drew ?_); refine wpu_drew G ?_; clear G; intro w G)
        | ((with_reducible refine at_build ?_); refine wpu_val rfl (exec_buildT #[] rfl (by kernel_rfl) (buildS0 _)) ?_; go_frame)
        | ((with_reducible refine at_load ?_); first
          | (refine wpu_load G rfl rfl rfl rfl ?_; go_frame)
          | (refine wpu_loadF0 (k := j) (hv _ _ G) HF.out rfl (by kernel_rfl) rfl rfl ?_; go_frame))
        | ((with_reducible refine at_append ?_); refine wpu_append0 G rfl rfl rfl rfl (hnn _ _ G) (strs_one _) (by unfold maxLen; omega) (by omega) ?_; clear G; intro v w G; obtain ⟨no, nc, rfl, k1, k2⟩ := G.hdr v; go_frame)
        | ((with_reducible refine at_alloc ?_); refine wpu_new G ?_; clear G; intro w G)
        | ((with_reducible refine at_drew ?_); refine wpu_drew G ?_; clear G; intro w G)
        | ((with_reducible refine at_load ?_); first
          | (refine wpu_load G rfl rfl rfl rfl ?_; go_frame)
          | (refine wpu_loadB G rfl rfl rfl (by rfl) ?_; go_frame)
          | (refine wpu_loadS G rfl rfl rfl (by rfl) ?_; simp only [List.drop_succ_cons, List.drop_zero, List.take_succ_cons, List.take_zero]; go_frame))
        | ((with_reducible refine at_store ?_); first
          | (refine wpu_store G rfl rfl rfl rfl (by first | rfl | assumption | simp [*]) rfl ?_; clear G; intro w G; go_frame)
          | (refine wpu_storeB G rfl rfl rfl rfl (by rfl) (by rfl) (by first | rfl | assumption | simp [*]) ?_; clear G; intro w G; go_frame)
          | (refine wpu_storeS G rfl rfl rfl rfl (by rfl) (by rfl) (by first | rfl | assumption | simp [*]) ?_; clear G; intro w G; go_frame))
        | ((with_reducible refine at_convert ?_); refine wpu_str G rfl rfl rfl rfl ?_; go_frame)
        | ((with_reducible refine at_slice ?_); first
          | (refine wpu_sliceLo rfl rfl rfl rfl (by first | rfl | omega) (by omega) (by omega) ?_; go_frame)
          | (refine wpu_sliceLH rfl rfl rfl rfl rfl (by first | rfl | omega) (by first | rfl | omega) (by omega) (by omega) ?_; go_frame))
        | fail)
      rename_i w5 _ _ _
      obtain ⟨b5, hb5⟩ : ∃ b, w5.heap.size = b := ⟨_, rfl⟩
      rw [hb5] at G ⊢
      clear hb5
      unfold maxLen at k2
      have G := own_nil G 7
      go_loopw [6, 7] (fun i _ wr => ∃ (k : Nat) (po : Option Addr) (pc : Nat) (rr : List (List Value)), i = .int .i64 k ∧ k ≤ h.routes.length ∧ k ≤ pc ∧ pc ≤ 9223372036854775807 ∧ rr.length = k ∧ Hid (∀ c ∈ rr, c.length = 7) ∧
        Own w0 (sl 7 (.slice po k pc) k rr.flatten * (starL rtA rr (h.routes.take k) * (blk b5 [.slice no h.names.length nc, .slice po k pc] * (sl 1 (.slice no h.names.length nc) h.names.length (strs h.names) * (sl 2 (.slice qo j qc) j rows.flatten * (starL hsA rows (s.hosts.take j) * (blk b3 [.int .i64 s.version, .slice eo s.clusters.length ec, .slice qo j qc] * (sl 1 (.slice eo s.clusters.length ec) s.clusters.length (strs s.clusters) * (blk b2 [.int .i64 0, .slice none 0 0, .slice none 0 0] * blk w0.heap.size [.int .i64 s.version, vc, .slice (some ad) s.hosts.length hc]))))))))) wr) (fun i _ _ => h.routes.length - (intOf i).toNat)
      case atStart => exact ⟨0, none, 0, [], rfl, Nat.zero_le _, Nat.le_refl _, by omega, rfl, Lib.hid (by simp), G.eq (by rw [List.take_zero]; show _ = _ * (emp * _); rw [emp_star]; rfl)⟩
      case round =>
        clear G
        obtain ⟨k, po, pc, rr, rfl, hk, p1, p2, p3, HR7, G⟩ := hrel
        by_cases hkn : k < h.routes.length
        · obtain ⟨r, hr⟩ : ∃ r, h.routes[k]? = some r := ⟨h.routes[k], List.getElem?_eq_getElem hkn⟩
          obtain ⟨rd', rfl⟩ := rd_some (hrr _ _ G) (by omega)
          obtain ⟨vf, vk, hcs, hf0, hk0⟩ := hRL.2 k r hr
          have HF3 := Lib.hid hcs
          have hmem := List.mem_of_getElem? hr
          have r1 := n3 r hmem
          have r2 := n4 r hmem
          have v1 := hf0.one
          have v2 := hk0.one
          have hff : ∀ A w, Own w0 A w → rd w 4 vf r.fields.length (mrs r.fields) := fun A w g => hf0.old g
          have hkk : ∀ A w, Own w0 A w → rd w 2 vk r.choices.length (chs r.choices) := fun A w g => hk0.old g
          have HRR := Lib.hid hr
          clear hr hcs hf0 hk0 hmem
          go_wp2_with (first
            | ((with_reducible refine at_alloc ?_); refine wpu_new G ?_; clear G; intro w G)
            | ((with_reducible refine at_drew ?_); refine wpu_drew G ?_; clear G; intro w G)
            | ((with_reducible refine at_build ?_); refine wpu_val rfl (exec_buildT #[] rfl (by kernel_rfl) (buildM0 _)) ?_; go_frame)
            | ((with_reducible refine at_load ?_); first
              | (refine wpu_load G rfl rfl rfl rfl ?_; go_frame)
              | (refine wpu_loadF (k := j) (j := 0) (hv _ _ G) HF.out rfl (by kernel_rfl) rfl rfl ?_; go_frame)
              | (refine wpu_loadE (k := k) (hrr _ _ G) HF3.out rfl (by kernel_rfl) rfl rfl ?_; go_frame))
            | ((with_reducible refine at_store ?_); refine wpu_storeB G rfl rfl rfl rfl (by rfl) (by rfl) (by simp only [List.all_cons, v1, v2]; rfl) ?_; clear G; intro w G; go_frame)
            | ((with_reducible refine at_append ?_); refine hold ?_)
            | fail)
          unfold Held
          refine wpu_append0 G rfl rfl rfl rfl (hff _ _ G) (mrs_one _) (by unfold maxLen; omega) (by omega) ?_
          clear G; intro v w G
          obtain ⟨fo, fc, rfl, f1, f2⟩ := G.hdr v
          go_frame
          go_wp2_with (first
            | ((with_reducible refine at_alloc ?_); refine wpu_new G ?_; clear G; intro w G)
            | ((with_reducible refine at_drew ?_); refine wpu_drew G ?_; clear G; intro w G)
            | ((with_reducible refine at_build ?_); refine wpu_val rfl (exec_buildT #[] rfl (by kernel_rfl) (buildC0 _)) ?_; go_frame)
            | ((with_reducible refine at_append ?_); refine hold ?_)
            | ((with_reducible refine at_alloc ?_); refine wpu_new G ?_; clear G; intro w G)
            | ((with_reducible refine at_drew ?_); refine wpu_drew G ?_; clear G; intro w G)
            | ((with_reducible refine at_load ?_); first
              | (refine wpu_load G rfl rfl rfl rfl ?_; go_frame)
              | (refine wpu_loadB G rfl rfl rfl (by rfl) ?_; go_frame)
              | (refine wpu_loadS G rfl rfl rfl (by rfl) ?_; simp only [List.drop_succ_cons, List.drop_zero, List.take_succ_cons, List.take_zero]; go_frame))
            | ((with_reducible refine at_store ?_); first
              | (refine wpu_store G rfl rfl rfl rfl (by first | rfl | assumption | simp [*]) rfl ?_; clear G; intro w G; go_frame)
              | (refine wpu_storeB G rfl rfl rfl rfl (by rfl) (by rfl) (by first | rfl | assumption | simp [*]) ?_; clear G; intro w G; go_frame)
              | (refine wpu_storeS G rfl rfl rfl rfl (by rfl) (by rfl) (by first | rfl | assumption | simp [*]) ?_; clear G; intro w G; go_frame))
            | ((with_reducible refine at_convert ?_); refine wpu_str G rfl rfl rfl rfl ?_; go_frame)
            | ((with_reducible refine at_slice ?_); first
              | (refine wpu_sliceLo rfl rfl rfl rfl (by first | rfl | omega) (by omega) (by omega) ?_; go_frame)
              | (refine wpu_sliceLH rfl rfl rfl rfl rfl (by first | rfl | omega) (by first | rfl | omega) (by omega) (by omega) ?_; go_frame))
            | fail)
          unfold Held
          refine wpu_append0 G rfl rfl rfl rfl (hkk _ _ G) (chs_one _) (by unfold maxLen; omega) (by omega) ?_
          clear G; intro v w G
          obtain ⟨co, cc, rfl, c1, c2⟩ := G.hdr v
          go_frame
          go_wp2_with (first
            | ((with_reducible refine at_alloc ?_); refine wpu_new G ?_; clear G; intro w G)
            | ((with_reducible refine at_drew ?_); refine wpu_drew G ?_; clear G; intro w G)
            | ((with_reducible refine at_build ?_); refine wpu_val rfl (exec_buildT _ rfl (by kernel_rfl) (buildR1 _ _ _ _ _ _ _ _)) ?_; go_frame)
            | ((with_reducible refine at_append ?_); refine hold ?_)
            | ((with_reducible refine at_alloc ?_); refine wpu_new G ?_; clear G; intro w G)
            | ((with_reducible refine at_drew ?_); refine wpu_drew G ?_; clear G; intro w G)
            | ((with_reducible refine at_load ?_); first
              | (refine wpu_load G rfl rfl rfl rfl ?_; go_frame)
              | (refine wpu_loadB G rfl rfl rfl (by rfl) ?_; go_frame)
              | (refine wpu_loadS G rfl rfl rfl (by rfl) ?_; simp only [List.drop_succ_cons, List.drop_zero, List.take_succ_cons, List.take_zero]; go_frame))
            | ((with_reducible refine at_store ?_); first
              | (refine wpu_store G rfl rfl rfl rfl (by first | rfl | assumption | simp [*]) rfl ?_; clear G; intro w G; go_frame)
              | (refine wpu_storeB G rfl rfl rfl rfl (by rfl) (by rfl) (by first | rfl | assumption | simp [*]) ?_; clear G; intro w G; go_frame)
              | (refine wpu_storeS G rfl rfl rfl rfl (by rfl) (by rfl) (by first | rfl | assumption | simp [*]) ?_; clear G; intro w G; go_frame))
            | ((with_reducible refine at_convert ?_); refine wpu_str G rfl rfl rfl rfl ?_; go_frame)
            | ((with_reducible refine at_slice ?_); first
              | (refine wpu_sliceLo rfl rfl rfl rfl (by first | rfl | omega) (by omega) (by omega) ?_; go_frame)
              | (refine wpu_sliceLH rfl rfl rfl rfl rfl (by first | rfl | omega) (by first | rfl | omega) (by omega) (by omega) ?_; go_frame))
            | fail)
          unfold Held
          refine wpu_append1 (n := k) (sz := 7) G rfl rfl rfl rfl rfl (by rfl) (by unfold maxLen; omega) (by omega) ?_
          clear G; intro v w G
          obtain ⟨po', pc', rfl, p4, p5⟩ := G.hdr v
          go_frame
          go_wp2_with (first
            | ((with_reducible refine at_alloc ?_); refine wpu_new G ?_; clear G; intro w G)
            | ((with_reducible refine at_drew ?_); refine wpu_drew G ?_; clear G; intro w G)
            | ((with_reducible refine at_load ?_); first
              | (refine wpu_load G rfl rfl rfl rfl ?_; go_frame)
              | (refine wpu_loadB G rfl rfl rfl (by rfl) ?_; go_frame)
              | (refine wpu_loadS G rfl rfl rfl (by rfl) ?_; simp only [List.drop_succ_cons, List.drop_zero, List.take_succ_cons, List.take_zero]; go_frame))
            | ((with_reducible refine at_store ?_); first
              | (refine wpu_store G rfl rfl rfl rfl (by first | rfl | assumption | simp [*]) rfl ?_; clear G; intro w G; go_frame)
              | (refine wpu_storeB G rfl rfl rfl rfl (by rfl) (by rfl) (by first | rfl | assumption | simp [*]) ?_; clear G; intro w G; go_frame)
              | (refine wpu_storeS G rfl rfl rfl rfl (by rfl) (by rfl) (by first | rfl | assumption | simp [*]) ?_; clear G; intro w G; go_frame))
            | ((with_reducible refine at_convert ?_); refine wpu_str G rfl rfl rfl rfl ?_; go_frame)
            | ((with_reducible refine at_slice ?_); first
              | (refine wpu_sliceLo rfl rfl rfl rfl (by first | rfl | omega) (by omega) (by omega) ?_; go_frame)
              | (refine wpu_sliceLH rfl rfl rfl rfl rfl (by first | rfl | omega) (by first | rfl | omega) (by omega) (by omega) ?_; go_frame))
            | fail)
          unfold maxLen at p5 c2 f2
          simp only [List.set_cons_succ, List.set_cons_zero] at G
          have HT : Hid (h.routes.take (k + 1) = h.routes.take k ++ [r]) := Lib.hid (by rw [List.take_add_one, HRR.out]; rfl)
          have G := G.sub (sl 7 (.slice po' (k + 1) pc') (k + 1) (rr.flatten ++ [str r.path, .int .i64 r.how, str r.service, str r.method, .slice fo r.fields.length fc, .slice co r.choices.length cc, .int .i64 r.ticks]) * (sl 4 (.slice fo r.fields.length fc) r.fields.length (mrs r.fields) * (sl 2 (.slice co r.choices.length cc) r.choices.length (chs r.choices) * (starL rtA rr (h.routes.take k) * (blk b5 [.slice no h.names.length nc, .slice po' (k + 1) pc'] * (sl 1 (.slice no h.names.length nc) h.names.length (strs h.names) * (sl 2 (.slice qo j qc) j rows.flatten * (starL hsA rows (s.hosts.take j) * (blk b3 [.int .i64 s.version, .slice eo s.clusters.length ec, .slice qo j qc] * (sl 1 (.slice eo s.clusters.length ec) s.clusters.length (strs s.clusters) * (blk b2 [.int .i64 0, .slice none 0 0, .slice none 0 0] * blk w0.heap.size [.int .i64 s.version, vc, .slice (some ad) s.hosts.length hc])))))))))))
          have G := own_rtA_mk (r := r) (vf := .slice fo r.fields.length fc) (vc := .slice co r.choices.length cc) (R := sl 7 (.slice po' (k + 1) pc') (k + 1) (rr.flatten ++ [str r.path, .int .i64 r.how, str r.service, str r.method, .slice fo r.fields.length fc, .slice co r.choices.length cc, .int .i64 r.ticks]) * (starL rtA rr (h.routes.take k) * (blk b5 [.slice no h.names.length nc, .slice po' (k + 1) pc'] * (sl 1 (.slice no h.names.length nc) h.names.length (strs h.names) * (sl 2 (.slice qo j qc) j rows.flatten * (starL hsA rows (s.hosts.take j) * (blk b3 [.int .i64 s.version, .slice eo s.clusters.length ec, .slice qo j qc] * (sl 1 (.slice eo s.clusters.length ec) s.clusters.length (strs s.clusters) * (blk b2 [.int .i64 0, .slice none 0 0, .slice none 0 0] * blk w0.heap.size [.int .i64 s.version, vc, .slice (some ad) s.hosts.length hc]))))))))) (G.eq (by ac_rfl))
          obtain ⟨row, hrow⟩ : ∃ row, rtCs r (.slice fo r.fields.length fc) (.slice co r.choices.length cc) = row := ⟨_, rfl⟩
          have hrl : row.length = 7 := by rw [← hrow]; rfl
          rw [show [str r.path, .int .i64 r.how, str r.service, str r.method, .slice fo r.fields.length fc, .slice co r.choices.length cc, .int .i64 r.ticks] = rtCs r (.slice fo r.fields.length fc) (.slice co r.choices.length cc) from rfl, hrow] at G
          have HR8 : Hid (∀ c ∈ rr ++ [row], c.length = 7) := Lib.hid (fun c hc => by
            rcases List.mem_append.1 hc with hc | hc
            · exact HR7.out c hc
            · rw [List.mem_singleton.1 hc]; exact hrl)
          have G : Own w0 (sl 7 (.slice po' (k + 1) pc') (k + 1) (rr ++ [row]).flatten * (starL rtA (rr ++ [row]) (h.routes.take (k + 1)) * (blk b5 [.slice no h.names.length nc, .slice po' (k + 1) pc'] * (sl 1 (.slice no h.names.length nc) h.names.length (strs h.names) * (sl 2 (.slice qo j qc) j rows.flatten * (starL hsA rows (s.hosts.take j) * (blk b3 [.int .i64 s.version, .slice eo s.clusters.length ec, .slice qo j qc] * (sl 1 (.slice eo s.clusters.length ec) s.clusters.length (strs s.clusters) * (blk b2 [.int .i64 0, .slice none 0 0, .slice none 0 0] * blk w0.heap.size [.int .i64 s.version, vc, .slice (some ad) s.hosts.length hc]))))))))) w := G.eq (by
            rw [HT.out, starL_snoc (by rw [p3, List.length_take]; omega), List.flatten_append, List.flatten_singleton]
            ac_rfl)
          have p3' : (rr ++ [row]).length = k + 1 := by rw [List.length_append, p3]; rfl
          clear hrow
          go_roundw
          case rel => exact ⟨k + 1, po', pc', rr ++ [row], by go_num, by omega, by omega, by omega, p3', HR8, G⟩
          case measure => simp [intOf] <;> omega
        · obtain rfl : k = h.routes.length := by omega
          rw [List.take_length] at G
          have HT : Hid (s.hosts.take (j + 1) = s.hosts.take j ++ [h]) := Lib.hid (by rw [List.take_add_one, HH.out]; rfl)
          go_wp2_with (first
            | ((with_reducible refine at_alloc ?_); refine wpu_new G ?_; clear G; intro w G)
            | ((with_reducible refine at_drew ?_); refine wpu_drew G ?_; clear G; intro w G)
            | ((with_reducible refine at_load ?_); first
              | (refine wpu_load G rfl rfl rfl rfl ?_; go_frame)
              | (refine wpu_loadF (k := j) (j := 0) (hv _ _ G) HF.out rfl (by kernel_rfl) rfl rfl ?_; go_frame)
              | (refine wpu_loadB G rfl rfl rfl (by rfl) ?_; go_frame))
            | ((with_reducible refine at_build ?_); refine wpu_val rfl (exec_buildT _ rfl (by kernel_rfl) (buildH1 _ _ _)) ?_; go_frame)
            | ((with_reducible refine at_append ?_); refine hold ?_)
            | fail)
          unfold Held
          refine wpu_append1 (n := j) (sz := 2) G rfl rfl rfl rfl rfl (by rfl) (by unfold maxLen; omega) (by omega) ?_
          clear G; intro v w G
          obtain ⟨qo', qc', rfl, q4, q5⟩ := G.hdr v
          go_frame
          go_wp2_with (first
            | ((with_reducible refine at_alloc ?_); refine wpu_new G ?_; clear G; intro w G)
            | ((with_reducible refine at_drew ?_); refine wpu_drew G ?_; clear G; intro w G)
            | ((with_reducible refine at_load ?_); first
              | (refine wpu_load G rfl rfl rfl rfl ?_; go_frame)
              | (refine wpu_loadB G rfl rfl rfl (by rfl) ?_; go_frame)
              | (refine wpu_loadS G rfl rfl rfl (by rfl) ?_; simp only [List.drop_succ_cons, List.drop_zero, List.take_succ_cons, List.take_zero]; go_frame))
            | ((with_reducible refine at_store ?_); first
              | (refine wpu_store G rfl rfl rfl rfl (by first | rfl | assumption | simp [*]) rfl ?_; clear G; intro w G; go_frame)
              | (refine wpu_storeB G rfl rfl rfl rfl (by rfl) (by rfl) (by first | rfl | assumption | simp [*]) ?_; clear G; intro w G; go_frame)
              | (refine wpu_storeS G rfl rfl rfl rfl (by rfl) (by rfl) (by first | rfl | assumption | simp [*]) ?_; clear G; intro w G; go_frame))
            | ((with_reducible refine at_convert ?_); refine wpu_str G rfl rfl rfl rfl ?_; go_frame)
            | ((with_reducible refine at_slice ?_); first
              | (refine wpu_sliceLo rfl rfl rfl rfl (by first | rfl | omega) (by omega) (by omega) ?_; go_frame)
              | (refine wpu_sliceLH rfl rfl rfl rfl rfl (by first | rfl | omega) (by first | rfl | omega) (by omega) (by omega) ?_; go_frame))
            | fail)
          unfold maxLen at q5
          simp only [List.set_cons_succ, List.set_cons_zero] at G
          have G := own_hsA_mk (h0 := h) (vn := .slice no h.names.length nc) (vr := .slice po h.routes.length pc) (rows := rr) (R := sl 2 (.slice qo' (j + 1) qc') (j + 1) (rows.flatten ++ [.slice no h.names.length nc, .slice po h.routes.length pc]) * (starL hsA rows (s.hosts.take j) * (blk b3 [.int .i64 s.version, .slice eo s.clusters.length ec, .slice qo' (j + 1) qc'] * (sl 1 (.slice eo s.clusters.length ec) s.clusters.length (strs s.clusters) * (blk b2 [.int .i64 0, .slice none 0 0, .slice none 0 0] * blk w0.heap.size [.int .i64 s.version, vc, .slice (some ad) s.hosts.length hc]))))) HR7.out (G.sub (sl 1 (.slice no h.names.length nc) h.names.length (strs h.names) * (sl 7 (.slice po h.routes.length pc) h.routes.length rr.flatten * (starL rtA rr h.routes * (sl 2 (.slice qo' (j + 1) qc') (j + 1) (rows.flatten ++ [.slice no h.names.length nc, .slice po h.routes.length pc]) * (starL hsA rows (s.hosts.take j) * (blk b3 [.int .i64 s.version, .slice eo s.clusters.length ec, .slice qo' (j + 1) qc'] * (sl 1 (.slice eo s.clusters.length ec) s.clusters.length (strs s.clusters) * (blk b2 [.int .i64 0, .slice none 0 0, .slice none 0 0] * blk w0.heap.size [.int .i64 s.version, vc, .slice (some ad) s.hosts.length hc])))))))))
          obtain ⟨row, hrow⟩ : ∃ row, [Value.slice no h.names.length nc, .slice po h.routes.length pc] = row := ⟨_, rfl⟩
          have hrl : row.length = 2 := by rw [← hrow]; rfl
          rw [hrow] at G
          have HR2 : Hid (∀ c ∈ rows ++ [row], c.length = 2) := Lib.hid (fun c hc => by
            rcases List.mem_append.1 hc with hc | hc
            · exact HR.out c hc
            · rw [List.mem_singleton.1 hc]; exact hrl)
          have G : Own w0 (sl 2 (.slice qo' (j + 1) qc') (j + 1) (rows ++ [row]).flatten * (starL hsA (rows ++ [row]) (s.hosts.take (j + 1)) * (blk b3 [.int .i64 s.version, .slice eo s.clusters.length ec, .slice qo' (j + 1) qc'] * (sl 1 (.slice eo s.clusters.length ec) s.clusters.length (strs s.clusters) * (blk b2 [.int .i64 0, .slice none 0 0, .slice none 0 0] * blk w0.heap.size [.int .i64 s.version, vc, .slice (some ad) s.hosts.length hc]))))) w := G.eq (by
            rw [HT.out, starL_snoc (by rw [q3, List.length_take]; omega), List.flatten_append, List.flatten_singleton]
            ac_rfl)
          have q3' : (rows ++ [row]).length = j + 1 := by rw [List.length_append, q3]; rfl
          clear hrow
          go_roundw
          case rel => exact ⟨j + 1, qo', qc', rows ++ [row], by go_num, by omega, by omega, by omega, q3', HR2, G⟩
          case measure => simp [intOf] <;> omega
    · obtain rfl : j = s.hosts.length := by omega
      rw [List.take_length] at G
      go_wp2_with (first
        | ((with_reducible refine at_alloc ?_); refine wpu_new G ?_; clear G; intro w G)
        | ((with_reducible refine at_drew ?_); refine wpu_drew G ?_; clear G; intro w G)
        | ((with_reducible refine at_load ?_); first
          | (refine wpu_load G rfl rfl rfl rfl ?_; go_frame)
          | (refine wpu_loadB G rfl rfl rfl (by rfl) ?_; go_frame)
          | (refine wpu_loadS G rfl rfl rfl (by rfl) ?_; simp only [List.drop_succ_cons, List.drop_zero, List.take_succ_cons, List.take_zero]; go_frame))
        | ((with_reducible refine at_store ?_); first
          | (refine wpu_store G rfl rfl rfl rfl (by first | rfl | assumption | simp [*]) rfl ?_; clear G; intro w G; go_frame)
          | (refine wpu_storeB G rfl rfl rfl rfl (by rfl) (by rfl) (by first | rfl | assumption | simp [*]) ?_; clear G; intro w G; go_frame)
          | (refine wpu_storeS G rfl rfl rfl rfl (by rfl) (by rfl) (by first | rfl | assumption | simp [*]) ?_; clear G; intro w G; go_frame))
        | ((with_reducible refine at_convert ?_); refine wpu_str G rfl rfl rfl rfl ?_; go_frame)
        | ((with_reducible refine at_slice ?_); first
          | (refine wpu_sliceLo rfl rfl rfl rfl (by first | rfl | omega) (by omega) (by omega) ?_; go_frame)
          | (refine wpu_sliceLH rfl rfl rfl rfl rfl (by first | rfl | omega) (by first | rfl | omega) (by omega) (by omega) ?_; go_frame))
        | fail)
      try simp only [Exit.inBlock, Exit.then]
      refine bodyPost_ret (results1 rfl (resB G rfl (by rfl))) rfl ?_
      refine ⟨_, rfl, ?_⟩
      have := own_snA_mk (s := s) (vc := .slice eo s.clusters.length ec) (vh := .slice qo s.hosts.length qc) (rows := rows) (R := emp) HR.out (G.sub (sl 1 (.slice eo s.clusters.length ec) s.clusters.length (strs s.clusters) * (sl 2 (.slice qo s.hosts.length qc) s.hosts.length rows.flatten * (starL hsA rows s.hosts * emp))))
      exact this.drop
end Go.Proofs.YtjcpfldobiekbaaDoor
