
/-
  A stream with two ends: what 'get' does.
-/
import Derived.Test.YtadbpekkmlblmaaStOps
import Derived.Test.YtadbpekkmlblmaaStPlain
namespace Go.Proofs.Ytadbpekkmlblmaa
open Go.RowKit Go.Sl

def frs (q : List (Int × Bool)) : List Value := q.flatMap fun f => [.int .i64 f.1, .bool f.2]
theorem frs_len (q : List (Int × Bool)) : (frs q).length = q.length * 2 := by induction q with | nil => rfl | cons f l ih => simp [frs] at ih ⊢; omega
theorem frs_cons (f : Int × Bool) (q : List (Int × Bool)) : frs (f :: q) = .int .i64 f.1 :: .bool f.2 :: frs q := rfl
theorem frs_app (q r : List (Int × Bool)) : frs q ++ frs r = frs (q ++ r) := by simp [frs]
theorem frs_one (q : List (Int × Bool)) : ∀ y ∈ frs q, y.oneCell' = true := by
  intro y hy
  obtain ⟨f, _, hf⟩ := List.mem_flatMap.1 hy
  rcases List.mem_cons.1 hf with rfl | hf
  · rfl
  · rcases List.mem_cons.1 hf with rfl | hf
    · rfl
    · cases hf

def lineCs (s0 s1 : Int) (v0 v1 : Value) : List Value := [.int .i64 s0, .int .i64 s1, v0, v1]
def lineA (a : Nat) (s0 s1 : Int) (q0 q1 : List (Int × Bool)) : Assn := ex fun p : Value × Value => blk a (lineCs s0 s1 p.1 p.2) * (sl 2 p.1 q0.length (frs q0) * sl 2 p.2 q1.length (frs q1))

section
variable {B w : World} {A R : Assn} {a : Nat} {s0 s1 : Int} {q0 q1 : List (Int × Bool)}

theorem line_open (h : Own B (lineA a s0 s1 q0 q1 * R) w) : ∃ v0 v1, Own B (blk a (lineCs s0 s1 v0 v1) * (sl 2 v0 q0.length (frs q0) * (sl 2 v1 q1.length (frs q1) * R))) w := by
  obtain ⟨⟨v0, v1⟩, g⟩ := own_ex h
  exact ⟨v0, v1, g.eq (by ac_rfl)⟩
theorem line_close {v0 v1 : Value} {cs : List Value} (h : Own B (blk a cs * (sl 2 v0 q0.length (frs q0) * (sl 2 v1 q1.length (frs q1) * R))) w) (hc : cs = lineCs s0 s1 v0 v1) : Own B (lineA a s0 s1 q0 q1 * R) w := by
  subst hc
  exact own_ex_mk (f := fun p : Value × Value => blk a (lineCs s0 s1 p.1 p.2) * (sl 2 p.1 q0.length (frs q0) * sl 2 p.2 q1.length (frs q1))) (v0, v1) (h.eq (by ac_rfl))

theorem own_cut {sz n : Nat} {xs : List Value} {ao : Option Addr} {cap : Nat} (h : Own B (sl sz (.slice ao n cap) n xs * R) w) (hz : 0 < sz) {k : Nat} (hk : k ≤ n) : Own B (sl sz (.slice (cutA ao cap k sz) (n - k) (cap - k)) (n - k) (xs.drop (k * sz)) * R) w := own_drop h hz hk



set_option maxRecDepth 100000 in
theorem get0 {k : Int} {e : Bool} {n d : Int} {c : Nat} (h : Own B (lineA a s0 s1 ((k, e) :: q0) q1 * R) w) (hs1 : 0 ≤ s0) (hs2 : s0 ≤ 6) (k1 : -9223372036854775808 ≤ k) (k2 : k ≤ 9223372036854775807) (he : stepS s0 false k e = (n, d, c)) (hd : d = 0 ∨ d = 1) :
    Calls Try.prog 12 #[.pointer (some ⟨a, 0, none⟩), .int .i64 0] w fun e w' => e = .returned (.bool true) ∧ Own B (lineA a n s1 q0 q1 * R) w' := by
  obtain ⟨v0, v1, G⟩ := line_open h
  clear h
  have h0 := (G.rd v0 _ G).one
  have h1 := (G.rd v1 _ G).one
  obtain ⟨po, pc, rfl, i1, i2⟩ := G.hdr v0
  unfold maxLen at i2
  simp only [lineCs, List.length_cons] at G i1
  obtain ⟨ad, rfl⟩ := rd_some (G.rd (.slice po (q0.length + 1) pc) _ G) (by omega)
  have hdd : (d == 0 || d == 1) = true := by rcases hd with rfl | rfl <;> rfl
  go_enter Try.func12, Try.ntmps12
  go_wp2_with (first
    | ((with_reducible refine at_alloc ?_); refine wpu_new G ?_; clear G; intro w G)
    | ((with_reducible refine at_drew ?_); refine wpu_drew G ?_; clear G; intro w G)
    | ((with_reducible refine at_load ?_); first
      | (refine wpu_load G rfl rfl rfl rfl ?_; go_frame)
      | (refine wpu_loadB G rfl rfl rfl (by rfl) ?_; go_frame)
      | (refine wpu_loadS G rfl rfl rfl (by rfl) ?_; simp only [List.drop_succ_cons, List.drop_zero, List.take_succ_cons, List.take_zero]; go_frame))
    | ((with_reducible refine at_store ?_); first
      | (refine wpu_store G rfl rfl rfl rfl (by first | rfl | assumption | simp [*]) rfl ?_; clear G; intro w G; go_frame)
      | (refine wpu_storeB G rfl rfl rfl rfl (by rfl) (by rfl) (by first | rfl | assumption | simp [*]) ?_; clear G; intro w G; go_frame)
      | (refine wpu_storeS G rfl rfl rfl rfl (by rfl) (by rfl) (by first | rfl | assumption | simp [*]) ?_; clear G; intro w G; go_frame))
    | ((with_reducible refine at_convert ?_); refine wpu_str G rfl rfl rfl rfl ?_; go_frame)
    | ((with_reducible refine at_slice ?_); first
      | (refine wpu_sliceLo rfl rfl rfl rfl (by first | rfl | omega) (by omega) (by omega) ?_; go_frame)
      | (refine wpu_sliceLH rfl rfl rfl rfl rfl (by first | rfl | omega) (by first | rfl | omega) (by omega) (by omega) ?_; go_frame))
    | ((with_reducible refine at_load ?_); refine wpu_loadE (k := 0) (G.rd (.slice (some ad) (q0.length + 1) pc) _ G) (by rfl) rfl rfl rfl rfl ?_; go_frame))
  replace G : Own B (blk _ [.int .i64 k, .bool e] * (blk a (lineCs s0 s1 (.slice (some ad) (q0.length + 1) pc) v1) * (sl 2 (.slice (some ad) (q0.length + 1) pc) (q0.length + 1) (frs ((k, e) :: q0)) * (sl 2 v1 q1.length (frs q1) * R)))) w := G
  simp only [lineCs] at G
  refine wp_region_mix (List.replicate 12 0 ++ [2]) (Own B _) (by kernel_rfl) (by kernel_rfl) (own_drew G) ?_
  refine mix_calm 12 ((own_drew G)) (by rfl) (by rfl) ?_
  intro ι W hne hW
  dsimp only [List.take, List.drop]
  repeat (first | ((with_reducible refine atq_load ?_); first | (refine wpq_load hW rfl rfl rfl rfl ?_; go_frame) | (refine wpq_loadB hW rfl rfl rfl (by rfl) ?_; go_frame) | (refine wpq_loadS hW rfl rfl rfl (by rfl) ?_; simp only [List.drop_succ_cons, List.drop_zero, List.take_succ_cons, List.take_zero]; go_frame)) | ((with_reducible refine atq_slice ?_); refine wpq_sliceLo (N := 1) rfl rfl rfl rfl rfl (by omega) (by omega) ?_; go_frame) | go_big_quiet_step (fail))
  refine wpQuiet_nil ?_
  clear  hW hne W ι
  refine mix_last rfl (fun K hK => ?_)
  refine wpk_store (own_drew G) rfl rfl rfl rfl rfl fun w G => hK _ _ (mix_nil ?_)
  clear hK
  try go_frame
  go_wp2_with (first
    | ((with_reducible refine at_alloc ?_); refine wpu_new G ?_; clear G; intro w G)
    | ((with_reducible refine at_drew ?_); refine wpu_drew G ?_; clear G; intro w G)
    | ((with_reducible refine at_load ?_); first
      | (refine wpu_load G rfl rfl rfl rfl ?_; go_frame)
      | (refine wpu_loadB G rfl rfl rfl (by rfl) ?_; go_frame)
      | (refine wpu_loadS G rfl rfl rfl (by rfl) ?_; simp only [List.drop_succ_cons, List.drop_zero, List.take_succ_cons, List.take_zero]; go_frame))
    | ((with_reducible refine at_store ?_); first
      | (refine wpu_store G rfl rfl rfl rfl (by first | rfl | assumption | simp [*]) rfl ?_; clear G; intro w G; go_frame)
      | (refine wpu_storeB G rfl rfl rfl rfl (by rfl) (by rfl) (by first | rfl | assumption | simp [*]) ?_; clear G; intro w G; go_frame)
      | (refine wpu_storeS G rfl rfl rfl rfl (by rfl) (by rfl) (by first | rfl | assumption | simp [*]) ?_; clear G; intro w G; go_frame))
    | ((with_reducible refine at_convert ?_); refine wpu_str G rfl rfl rfl rfl ?_; go_frame)
    | ((with_reducible refine at_slice ?_); first
      | (refine wpu_sliceLo rfl rfl rfl rfl (by first | rfl | omega) (by omega) (by omega) ?_; go_frame)
      | (refine wpu_sliceLH rfl rfl rfl rfl rfl (by first | rfl | omega) (by first | rfl | omega) (by omega) (by omega) ?_; go_frame))
    | fail)
  refine wp_region_mix (List.replicate 10 0 ++ [1, 3, 3, 3, 3, 3, 3, 3]) (Own B _) (by kernel_rfl) (by kernel_rfl) (own_drew G) ?_
  refine mix_calm 10 ((own_drew G)) (by rfl) (by rfl) ?_
  intro ι W hne hW
  dsimp only [List.take, List.drop]
  repeat (first | ((with_reducible refine atq_load ?_); first | (refine wpq_load hW rfl rfl rfl rfl ?_; go_frame) | (refine wpq_loadB hW rfl rfl rfl (by rfl) ?_; go_frame) | (refine wpq_loadS hW rfl rfl rfl (by rfl) ?_; simp only [List.drop_succ_cons, List.drop_zero, List.take_succ_cons, List.take_zero]; go_frame)) | (fail) | go_big_quiet_step (fail))
  refine wpQuiet_nil ?_
  clear  hW hne W ι
  refine mix_loud rfl (fun K hK => ?_)
  go_wp2_with fail
  refine Calls.mono (stepE (own_drew G) (by omega) (by omega) k1 k2 he) ?_
  rintro e' w2 ⟨rfl, G2⟩
  refine hK _ _ ⟨G2, ?_⟩
  clear hK
  rename_i G0 _
  clear G
  have G := G2
  clear G2
  try go_frame
  refine mix_plain 7 (by rfl) (by rfl) ?_
  intro ι W hne
  dsimp only [List.take, List.drop]
  repeat (go_big_quiet_step (fail))
  refine wpQuiet_nil ?_
  clear hne W ι
  refine mix_nil ?_
  rcases hd with rfl | rfl
  all_goals
    go_wp2_with (first
      | ((with_reducible refine at_alloc ?_); refine wpu_new G ?_; clear G; intro w G)
      | ((with_reducible refine at_drew ?_); refine wpu_drew G ?_; clear G; intro w G)
      | ((with_reducible refine at_load ?_); first
        | (refine wpu_load G rfl rfl rfl rfl ?_; go_frame)
        | (refine wpu_loadB G rfl rfl rfl (by rfl) ?_; go_frame)
        | (refine wpu_loadS G rfl rfl rfl (by rfl) ?_; simp only [List.drop_succ_cons, List.drop_zero, List.take_succ_cons, List.take_zero]; go_frame))
      | ((with_reducible refine at_store ?_); first
        | (refine wpu_store G rfl rfl rfl rfl (by first | rfl | assumption | simp [*]) rfl ?_; clear G; intro w G; go_frame)
        | (refine wpu_storeB G rfl rfl rfl rfl (by rfl) (by rfl) (by first | rfl | assumption | simp [*]) ?_; clear G; intro w G; go_frame)
        | (refine wpu_storeS G rfl rfl rfl rfl (by rfl) (by rfl) (by first | rfl | assumption | simp [*]) ?_; clear G; intro w G; go_frame))
      | ((with_reducible refine at_convert ?_); refine wpu_str G rfl rfl rfl rfl ?_; go_frame)
      | ((with_reducible refine at_slice ?_); first
        | (refine wpu_sliceLo rfl rfl rfl rfl (by first | rfl | omega) (by omega) (by omega) ?_; go_frame)
        | (refine wpu_sliceLH rfl rfl rfl rfl rfl (by first | rfl | omega) (by first | rfl | omega) (by omega) (by omega) ?_; go_frame))
      | fail)
    go_ret
    refine ⟨rfl, ?_⟩
    have G1 := own_cut (k := 1) ((G.pullF (fun xs => sl 2 (.slice (some ad) (q0.length + 1) pc) (q0.length + 1) xs))) (by decide) (by omega)
    obtain ⟨v', hv'⟩ : ∃ v', v' = Value.slice (cutA (some ad) pc 1 2) (q0.length + 1 - 1) (pc - 1) := ⟨_, rfl⟩
    replace G1 : Own B (sl 2 (.slice (cutA (some ad) pc 1 2) (q0.length + 1 - 1) (pc - 1)) q0.length (frs q0) * (blk _ [.int .i64 k, .bool e] * (blk a (lineCs n s1 (.slice (cutA (some ad) pc 1 2) (q0.length + 1 - 1) (pc - 1)) v1) * (sl 2 v1 q1.length (frs q1) * R)))) w := G1
    rw [← hv'] at G1
    exact (line_close (G1.bss a v' v1) rfl).give

set_option maxRecDepth 100000 in
theorem get1 {k : Int} {e : Bool} {n d : Int} {c : Nat} (h : Own B (lineA a s0 s1 q0 ((k, e) :: q1) * R) w) (hs1 : 0 ≤ s1) (hs2 : s1 ≤ 6) (k1 : -9223372036854775808 ≤ k) (k2 : k ≤ 9223372036854775807) (he : stepS s1 false k e = (n, d, c)) (hd : d = 0 ∨ d = 1) :
    Calls Try.prog 12 #[.pointer (some ⟨a, 0, none⟩), .int .i64 1] w fun e w' => e = .returned (.bool true) ∧ Own B (lineA a s0 n q0 q1 * R) w' := by
  obtain ⟨v0, v1, G⟩ := line_open h
  clear h
  have h0 := (G.rd v0 _ G).one
  have h1 := (G.rd v1 _ G).one
  obtain ⟨po, pc, rfl, i1, i2⟩ := G.hdr v1
  unfold maxLen at i2
  simp only [lineCs, List.length_cons] at G i1
  obtain ⟨ad, rfl⟩ := rd_some (G.rd (.slice po (q1.length + 1) pc) _ G) (by omega)
  have hdd : (d == 0 || d == 1) = true := by rcases hd with rfl | rfl <;> rfl
  go_enter Try.func12, Try.ntmps12
  go_wp2_with (first
    | ((with_reducible refine at_alloc ?_); refine wpu_new G ?_; clear G; intro w G)
    | ((with_reducible refine at_drew ?_); refine wpu_drew G ?_; clear G; intro w G)
    | ((with_reducible refine at_load ?_); first
      | (refine wpu_load G rfl rfl rfl rfl ?_; go_frame)
      | (refine wpu_loadB G rfl rfl rfl (by rfl) ?_; go_frame)
      | (refine wpu_loadS G rfl rfl rfl (by rfl) ?_; simp only [List.drop_succ_cons, List.drop_zero, List.take_succ_cons, List.take_zero]; go_frame))
    | ((with_reducible refine at_store ?_); first
      | (refine wpu_store G rfl rfl rfl rfl (by first | rfl | assumption | simp [*]) rfl ?_; clear G; intro w G; go_frame)
      | (refine wpu_storeB G rfl rfl rfl rfl (by rfl) (by rfl) (by first | rfl | assumption | simp [*]) ?_; clear G; intro w G; go_frame)
      | (refine wpu_storeS G rfl rfl rfl rfl (by rfl) (by rfl) (by first | rfl | assumption | simp [*]) ?_; clear G; intro w G; go_frame))
    | ((with_reducible refine at_convert ?_); refine wpu_str G rfl rfl rfl rfl ?_; go_frame)
    | ((with_reducible refine at_slice ?_); first
      | (refine wpu_sliceLo rfl rfl rfl rfl (by first | rfl | omega) (by omega) (by omega) ?_; go_frame)
      | (refine wpu_sliceLH rfl rfl rfl rfl rfl (by first | rfl | omega) (by first | rfl | omega) (by omega) (by omega) ?_; go_frame))
    | ((with_reducible refine at_load ?_); refine wpu_loadE (k := 0) (G.rd (.slice (some ad) (q1.length + 1) pc) _ G) (by rfl) rfl rfl rfl rfl ?_; go_frame))
  replace G : Own B (blk _ [.int .i64 k, .bool e] * (blk a (lineCs s0 s1 v0 (.slice (some ad) (q1.length + 1) pc)) * (sl 2 v0 q0.length (frs q0) * (sl 2 (.slice (some ad) (q1.length + 1) pc) (q1.length + 1) (frs ((k, e) :: q1)) * R)))) w := G
  simp only [lineCs] at G
  refine wp_region_mix (List.replicate 12 0 ++ [2]) (Own B _) (by kernel_rfl) (by kernel_rfl) (own_drew G) ?_
  refine mix_calm 12 ((own_drew G)) (by rfl) (by rfl) ?_
  intro ι W hne hW
  dsimp only [List.take, List.drop]
  repeat (first | ((with_reducible refine atq_load ?_); first | (refine wpq_load hW rfl rfl rfl rfl ?_; go_frame) | (refine wpq_loadB hW rfl rfl rfl (by rfl) ?_; go_frame) | (refine wpq_loadS hW rfl rfl rfl (by rfl) ?_; simp only [List.drop_succ_cons, List.drop_zero, List.take_succ_cons, List.take_zero]; go_frame)) | ((with_reducible refine atq_slice ?_); refine wpq_sliceLo (N := 1) rfl rfl rfl rfl rfl (by omega) (by omega) ?_; go_frame) | go_big_quiet_step (fail))
  refine wpQuiet_nil ?_
  clear  hW hne W ι
  refine mix_last rfl (fun K hK => ?_)
  refine wpk_store (own_drew G) rfl rfl rfl rfl rfl fun w G => hK _ _ (mix_nil ?_)
  clear hK
  try go_frame
  go_wp2_with (first
    | ((with_reducible refine at_alloc ?_); refine wpu_new G ?_; clear G; intro w G)
    | ((with_reducible refine at_drew ?_); refine wpu_drew G ?_; clear G; intro w G)
    | ((with_reducible refine at_load ?_); first
      | (refine wpu_load G rfl rfl rfl rfl ?_; go_frame)
      | (refine wpu_loadB G rfl rfl rfl (by rfl) ?_; go_frame)
      | (refine wpu_loadS G rfl rfl rfl (by rfl) ?_; simp only [List.drop_succ_cons, List.drop_zero, List.take_succ_cons, List.take_zero]; go_frame))
    | ((with_reducible refine at_store ?_); first
      | (refine wpu_store G rfl rfl rfl rfl (by first | rfl | assumption | simp [*]) rfl ?_; clear G; intro w G; go_frame)
      | (refine wpu_storeB G rfl rfl rfl rfl (by rfl) (by rfl) (by first | rfl | assumption | simp [*]) ?_; clear G; intro w G; go_frame)
      | (refine wpu_storeS G rfl rfl rfl rfl (by rfl) (by rfl) (by first | rfl | assumption | simp [*]) ?_; clear G; intro w G; go_frame))
    | ((with_reducible refine at_convert ?_); refine wpu_str G rfl rfl rfl rfl ?_; go_frame)
    | ((with_reducible refine at_slice ?_); first
      | (refine wpu_sliceLo rfl rfl rfl rfl (by first | rfl | omega) (by omega) (by omega) ?_; go_frame)
      | (refine wpu_sliceLH rfl rfl rfl rfl rfl (by first | rfl | omega) (by first | rfl | omega) (by omega) (by omega) ?_; go_frame))
    | fail)
  refine wp_region_mix (List.replicate 10 0 ++ [1, 3, 3, 3, 3, 3, 3, 3]) (Own B _) (by kernel_rfl) (by kernel_rfl) (own_drew G) ?_
  refine mix_calm 10 ((own_drew G)) (by rfl) (by rfl) ?_
  intro ι W hne hW
  dsimp only [List.take, List.drop]
  repeat (first | ((with_reducible refine atq_load ?_); first | (refine wpq_load hW rfl rfl rfl rfl ?_; go_frame) | (refine wpq_loadB hW rfl rfl rfl (by rfl) ?_; go_frame) | (refine wpq_loadS hW rfl rfl rfl (by rfl) ?_; simp only [List.drop_succ_cons, List.drop_zero, List.take_succ_cons, List.take_zero]; go_frame)) | (fail) | go_big_quiet_step (fail))
  refine wpQuiet_nil ?_
  clear  hW hne W ι
  refine mix_loud rfl (fun K hK => ?_)
  go_wp2_with fail
  refine Calls.mono (stepE (own_drew G) (by omega) (by omega) k1 k2 he) ?_
  rintro e' w2 ⟨rfl, G2⟩
  refine hK _ _ ⟨G2, ?_⟩
  clear hK
  rename_i G0 _
  clear G
  have G := G2
  clear G2
  try go_frame
  refine mix_plain 7 (by rfl) (by rfl) ?_
  intro ι W hne
  dsimp only [List.take, List.drop]
  repeat (go_big_quiet_step (fail))
  refine wpQuiet_nil ?_
  clear hne W ι
  refine mix_nil ?_
  rcases hd with rfl | rfl
  all_goals
    go_wp2_with (first
      | ((with_reducible refine at_alloc ?_); refine wpu_new G ?_; clear G; intro w G)
      | ((with_reducible refine at_drew ?_); refine wpu_drew G ?_; clear G; intro w G)
      | ((with_reducible refine at_load ?_); first
        | (refine wpu_load G rfl rfl rfl rfl ?_; go_frame)
        | (refine wpu_loadB G rfl rfl rfl (by rfl) ?_; go_frame)
        | (refine wpu_loadS G rfl rfl rfl (by rfl) ?_; simp only [List.drop_succ_cons, List.drop_zero, List.take_succ_cons, List.take_zero]; go_frame))
      | ((with_reducible refine at_store ?_); first
        | (refine wpu_store G rfl rfl rfl rfl (by first | rfl | assumption | simp [*]) rfl ?_; clear G; intro w G; go_frame)
        | (refine wpu_storeB G rfl rfl rfl rfl (by rfl) (by rfl) (by first | rfl | assumption | simp [*]) ?_; clear G; intro w G; go_frame)
        | (refine wpu_storeS G rfl rfl rfl rfl (by rfl) (by rfl) (by first | rfl | assumption | simp [*]) ?_; clear G; intro w G; go_frame))
      | ((with_reducible refine at_convert ?_); refine wpu_str G rfl rfl rfl rfl ?_; go_frame)
      | ((with_reducible refine at_slice ?_); first
        | (refine wpu_sliceLo rfl rfl rfl rfl (by first | rfl | omega) (by omega) (by omega) ?_; go_frame)
        | (refine wpu_sliceLH rfl rfl rfl rfl rfl (by first | rfl | omega) (by first | rfl | omega) (by omega) (by omega) ?_; go_frame))
      | fail)
    go_ret
    refine ⟨rfl, ?_⟩
    have G1 := own_cut (k := 1) ((G.pullF (fun xs => sl 2 (.slice (some ad) (q1.length + 1) pc) (q1.length + 1) xs))) (by decide) (by omega)
    obtain ⟨v', hv'⟩ : ∃ v', v' = Value.slice (cutA (some ad) pc 1 2) (q1.length + 1 - 1) (pc - 1) := ⟨_, rfl⟩
    replace G1 : Own B (sl 2 (.slice (cutA (some ad) pc 1 2) (q1.length + 1 - 1) (pc - 1)) q1.length (frs q1) * (blk _ [.int .i64 k, .bool e] * (blk a (lineCs s0 n v0 (.slice (cutA (some ad) pc 1 2) (q1.length + 1 - 1) (pc - 1))) * (sl 2 v0 q0.length (frs q0) * R)))) w := G1
    rw [← hv'] at G1
    exact (line_close (G1.bss a v0 v') rfl).give

set_option maxRecDepth 100000 in
theorem get0E (h : Own B (lineA a s0 s1 [] q1 * R) w) :
    Calls Try.prog 12 #[.pointer (some ⟨a, 0, none⟩), .int .i64 0] w fun e w' => e = .returned (.bool true) ∧ Own B (lineA a s0 s1 [] q1 * R) w' := by
  obtain ⟨v0, v1, G⟩ := line_open h
  obtain ⟨po, pc, rfl, i1, i2⟩ := G.hdr v0
  unfold maxLen at i2
  simp only [lineCs, List.length_nil] at G i1
  go_enter Try.func12, Try.ntmps12
  go_wp2_with (first
    | ((with_reducible refine at_alloc ?_); refine wpu_new G ?_; clear G; intro w G)
    | ((with_reducible refine at_drew ?_); refine wpu_drew G ?_; clear G; intro w G)
    | ((with_reducible refine at_load ?_); first
      | (refine wpu_load G rfl rfl rfl rfl ?_; go_frame)
      | (refine wpu_loadB G rfl rfl rfl (by rfl) ?_; go_frame)
      | (refine wpu_loadS G rfl rfl rfl (by rfl) ?_; simp only [List.drop_succ_cons, List.drop_zero, List.take_succ_cons, List.take_zero]; go_frame))
    | ((with_reducible refine at_store ?_); first
      | (refine wpu_store G rfl rfl rfl rfl (by first | rfl | assumption | simp [*]) rfl ?_; clear G; intro w G; go_frame)
      | (refine wpu_storeB G rfl rfl rfl rfl (by rfl) (by rfl) (by first | rfl | assumption | simp [*]) ?_; clear G; intro w G; go_frame)
      | (refine wpu_storeS G rfl rfl rfl rfl (by rfl) (by rfl) (by first | rfl | assumption | simp [*]) ?_; clear G; intro w G; go_frame))
    | ((with_reducible refine at_convert ?_); refine wpu_str G rfl rfl rfl rfl ?_; go_frame)
    | ((with_reducible refine at_slice ?_); first
      | (refine wpu_sliceLo rfl rfl rfl rfl (by first | rfl | omega) (by omega) (by omega) ?_; go_frame)
      | (refine wpu_sliceLH rfl rfl rfl rfl rfl (by first | rfl | omega) (by first | rfl | omega) (by omega) (by omega) ?_; go_frame))
    | fail)
  go_ret
  exact ⟨rfl, h⟩

set_option maxRecDepth 100000 in
theorem get1E (h : Own B (lineA a s0 s1 q0 [] * R) w) :
    Calls Try.prog 12 #[.pointer (some ⟨a, 0, none⟩), .int .i64 1] w fun e w' => e = .returned (.bool true) ∧ Own B (lineA a s0 s1 q0 [] * R) w' := by
  obtain ⟨v0, v1, G⟩ := line_open h
  obtain ⟨po, pc, rfl, i1, i2⟩ := G.hdr v1
  unfold maxLen at i2
  simp only [lineCs, List.length_nil] at G i1
  go_enter Try.func12, Try.ntmps12
  go_wp2_with (first
    | ((with_reducible refine at_alloc ?_); refine wpu_new G ?_; clear G; intro w G)
    | ((with_reducible refine at_drew ?_); refine wpu_drew G ?_; clear G; intro w G)
    | ((with_reducible refine at_load ?_); first
      | (refine wpu_load G rfl rfl rfl rfl ?_; go_frame)
      | (refine wpu_loadB G rfl rfl rfl (by rfl) ?_; go_frame)
      | (refine wpu_loadS G rfl rfl rfl (by rfl) ?_; simp only [List.drop_succ_cons, List.drop_zero, List.take_succ_cons, List.take_zero]; go_frame))
    | ((with_reducible refine at_store ?_); first
      | (refine wpu_store G rfl rfl rfl rfl (by first | rfl | assumption | simp [*]) rfl ?_; clear G; intro w G; go_frame)
      | (refine wpu_storeB G rfl rfl rfl rfl (by rfl) (by rfl) (by first | rfl | assumption | simp [*]) ?_; clear G; intro w G; go_frame)
      | (refine wpu_storeS G rfl rfl rfl rfl (by rfl) (by rfl) (by first | rfl | assumption | simp [*]) ?_; clear G; intro w G; go_frame))
    | ((with_reducible refine at_convert ?_); refine wpu_str G rfl rfl rfl rfl ?_; go_frame)
    | ((with_reducible refine at_slice ?_); first
      | (refine wpu_sliceLo rfl rfl rfl rfl (by first | rfl | omega) (by omega) (by omega) ?_; go_frame)
      | (refine wpu_sliceLH rfl rfl rfl rfl rfl (by first | rfl | omega) (by first | rfl | omega) (by omega) (by omega) ?_; go_frame))
    | fail)
  go_ret
  exact ⟨rfl, h⟩
end
end Go.Proofs.Ytadbpekkmlblmaa
