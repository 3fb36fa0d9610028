
/-
  A scheduler: a row without one element.
-/
import Derived.Test.YtbekaeahedkeoaaSchPut
namespace Go.Proofs.Ytbekaeahedkeoaa
open Go.RowKit Go.Sl

theorem rd_drop1 {w : World} {ao : Option Addr} {cap n : Nat} {xs : List Value} (hr : rd w 1 (.slice ao n cap) n xs) {N : Nat} (hN : N ≤ n) : rd w 1 (.slice (cutA ao cap N 1) (n - N) (cap - N)) (n - N) (xs.drop N) := by
  have := rd_cut1 hr N n hN (Nat.le_refl _)
  have hl := hr.len
  rw [List.take_of_length_le (by simp; omega)] at this
  rwa [cutA, Nat.mul_one]


section
variable {B w : World} {A : Assn} {v : Value} {n i : Nat} {xs : List Value}

set_option maxRecDepth 100000 in
theorem withoutF (h : Own B A w) (hr : ∀ w, Own B A w → rd w 1 v n xs) (h1 : ∀ y ∈ xs, y.oneCell' = true) (hi : i < n) (hn : n ≤ 2000000) :
    Calls Try.prog 21 #[v, .int .i64 i] w fun e w' => ∃ v', e = .returned v' ∧ Own B (sl 1 v' (n - 1) (xs.take i ++ xs.drop (i + 1)) * A) w' := by
  obtain ⟨ao, cap, rfl, i1, i2, i3, -⟩ := id (hr w h)
  unfold maxLen at i2
  have G := h
  clear h
  obtain ⟨ad, rfl⟩ := rd_some (hr w G) (by omega)
  go_enter Try.func21, Try.ntmps21
  go_wp2_with (first
    | ((with_reducible refine at_make ?_); refine wpu_make0 G rfl rfl rfl rfl (by omega) (by omega) (by omega) ?_; clear G; intro v w G; obtain ⟨xo, xc, rfl, i5, i6⟩ := G.hdr v; go_frame)
    | fail)
  refine wp_region_mix [3, 3, 3, 3, 2, 3, 3, 3, 3, 2, 3] (fun _ => True) (by kernel_rfl) (by kernel_rfl) trivial ?_
  refine mix_plain 4 (by rfl) (by rfl) ?_
  intro ι W hne
  dsimp only [List.take, List.drop]
  repeat (go_big_quiet_step (fail))
  refine wpQuiet_nil ?_
  clear hne W ι
  refine mix_last rfl (fun K hK => ?_)
  refine wpk_append (own_drew G) rfl rfl rfl (rd_take1 (hr _ (own_drew G).right) (k := i) (by omega)) (fun y hy => h1 y (List.mem_of_mem_take hy)) (by unfold maxLen; omega) (by omega) fun v w G => ?_
  obtain ⟨yo, yc, rfl, i7, i8⟩ := G.hdr v
  refine hK _ _ ?_
  clear hK
  try go_frame
  refine mix_plain 4 (by rfl) (by rfl) ?_
  intro ι W hne
  dsimp only [List.take, List.drop]
  repeat (first | ((with_reducible refine atq_slice ?_); refine wpq_sliceLo (N := i + 1) rfl rfl rfl rfl (by omega) (by omega) (by omega) ?_; go_frame) | go_big_quiet_step (fail))
  refine wpQuiet_nil ?_
  clear hne W ι
  refine mix_last rfl (fun K hK => ?_)
  have hq := rd_drop1 (hr _ G.right) (N := i + 1) (by omega)
  refine wpk_append (m := n - (i + 1)) G rfl rfl rfl hq (fun y hy => h1 y (List.mem_of_mem_drop hy)) (by unfold maxLen; omega) (by omega) fun v w G => ?_
  obtain ⟨zo, zc, rfl, i9, i10⟩ := G.hdr v
  refine hK _ _ ?_
  clear hK
  try go_frame
  refine mix_plain 1 (by rfl) (by rfl) ?_
  intro ι W hne
  dsimp only [List.take, List.drop]
  repeat (go_big_quiet_step (fail))
  refine wpQuiet_nil ?_
  clear hne W ι
  refine mix_nil ?_
  go_wp2_with fail
  go_ret
  refine ⟨_, rfl, G.eq ?_⟩
  have e : 0 + i + (n - (i + 1)) = n - 1 := by omega
  rw [e]
  rfl

set_option maxRecDepth 100000 in
theorem withoutB (h : Own B A w) (hr : ∀ w, Own B A w → rd w 1 v n xs) (h1 : ∀ y ∈ xs, y.oneCell' = true) (hi : i < n) (hn : n ≤ 2000000) :
    Calls Try.prog 20 #[v, .int .i64 i] w fun e w' => ∃ v', e = .returned v' ∧ Own B (sl 1 v' (n - 1) (xs.take i ++ xs.drop (i + 1)) * A) w' := by
  obtain ⟨ao, cap, rfl, i1, i2, i3, -⟩ := id (hr w h)
  unfold maxLen at i2
  have G := h
  clear h
  obtain ⟨ad, rfl⟩ := rd_some (hr w G) (by omega)
  go_enter Try.func20, Try.ntmps20
  go_wp2_with (first
    | ((with_reducible refine at_make ?_); refine wpu_make0 G rfl rfl rfl rfl (by omega) (by omega) (by omega) ?_; clear G; intro v w G; obtain ⟨xo, xc, rfl, i5, i6⟩ := G.hdr v; go_frame)
    | fail)
  refine wp_region_mix [3, 3, 3, 3, 2, 3, 3, 3, 3, 2, 3] (fun _ => True) (by kernel_rfl) (by kernel_rfl) trivial ?_
  refine mix_plain 4 (by rfl) (by rfl) ?_
  intro ι W hne
  dsimp only [List.take, List.drop]
  repeat (go_big_quiet_step (fail))
  refine wpQuiet_nil ?_
  clear hne W ι
  refine mix_last rfl (fun K hK => ?_)
  refine wpk_append (own_drew G) rfl rfl rfl (rd_take1 (hr _ (own_drew G).right) (k := i) (by omega)) (fun y hy => h1 y (List.mem_of_mem_take hy)) (by unfold maxLen; omega) (by omega) fun v w G => ?_
  obtain ⟨yo, yc, rfl, i7, i8⟩ := G.hdr v
  refine hK _ _ ?_
  clear hK
  try go_frame
  refine mix_plain 4 (by rfl) (by rfl) ?_
  intro ι W hne
  dsimp only [List.take, List.drop]
  repeat (first | ((with_reducible refine atq_slice ?_); refine wpq_sliceLo (N := i + 1) rfl rfl rfl rfl (by omega) (by omega) (by omega) ?_; go_frame) | go_big_quiet_step (fail))
  refine wpQuiet_nil ?_
  clear hne W ι
  refine mix_last rfl (fun K hK => ?_)
  have hq := rd_drop1 (hr _ G.right) (N := i + 1) (by omega)
  refine wpk_append (m := n - (i + 1)) G rfl rfl rfl hq (fun y hy => h1 y (List.mem_of_mem_drop hy)) (by unfold maxLen; omega) (by omega) fun v w G => ?_
  obtain ⟨zo, zc, rfl, i9, i10⟩ := G.hdr v
  refine hK _ _ ?_
  clear hK
  try go_frame
  refine mix_plain 1 (by rfl) (by rfl) ?_
  intro ι W hne
  dsimp only [List.take, List.drop]
  repeat (go_big_quiet_step (fail))
  refine wpQuiet_nil ?_
  clear hne W ι
  refine mix_nil ?_
  go_wp2_with fail
  go_ret
  refine ⟨_, rfl, G.eq ?_⟩
  have e : 0 + i + (n - (i + 1)) = n - 1 := by omega
  rw [e]
  rfl
end
end Go.Proofs.Ytbekaeahedkeoaa
