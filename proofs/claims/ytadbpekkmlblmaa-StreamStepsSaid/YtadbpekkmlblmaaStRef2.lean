
/-
  The document's answer for Step is the program's.
-/
import Derived.Test.YtadbpekkmlblmaaStRef
namespace Go.Proofs.Ytadbpekkmlblmaa
open Go.RowKit Go.Sl


section
variable {B w : World} {A : Assn}

set_option maxHeartbeats 8000000 in
theorem refAt4 {k : Int} {e sends : Bool} (h : Own B A w) (hk : k = 0 ∨ k = 1 ∨ k = 2 ∨ k = 3 ∨ k = 5 ∨ k = 8) :
    Calls Try.prog 11 #[.int .i64 4, .bool sends, .int .i64 k, .bool e] w fun r w' => r = .returned (StR (stepS 4 sends k e)) ∧ Own B A w' := by
  have G := h
  rcases hk with rfl | rfl | rfl | rfl | rfl | rfl
  all_goals
    cases e
    all_goals
      cases sends
      all_goals
        go_enter Try.func11, Try.ntmps11
        go_wp2_with (first
          | ((with_reducible refine at_alloc ?_); refine wpu_new G ?_; clear G; intro w G)
          | ((with_reducible refine at_drew ?_); refine wpu_drew G ?_; clear G; intro w G)
          | ((with_reducible refine at_load ?_); first
            | (refine wpu_load G rfl rfl rfl rfl ?_; go_frame)
            | (refine wpu_loadB G rfl rfl rfl (by rfl) ?_; go_frame)
            | (refine wpu_loadS G rfl rfl rfl (by rfl) ?_; simp only [List.drop_succ_cons, List.drop_zero, List.take_succ_cons, List.take_zero]; go_frame))
          | ((with_reducible refine at_store ?_); first
            | (refine wpu_store G rfl rfl rfl rfl (by first | rfl | assumption | simp [*]) rfl ?_; clear G; intro w G; go_frame)
            | (refine wpu_storeB G rfl rfl rfl rfl (by rfl) (by rfl) (by first | rfl | assumption | simp [*]) ?_; clear G; intro w G; go_frame)
            | (refine wpu_storeS G rfl rfl rfl rfl (by rfl) (by rfl) (by first | rfl | assumption | simp [*]) ?_; clear G; intro w G; go_frame))
          | ((with_reducible refine at_convert ?_); refine wpu_str G rfl rfl rfl rfl ?_; go_frame)
          | ((with_reducible refine at_slice ?_); first
            | (refine wpu_sliceLo rfl rfl rfl rfl (by first | rfl | omega) (by omega) (by omega) ?_; go_frame)
            | (refine wpu_sliceLH rfl rfl rfl rfl rfl (by first | rfl | omega) (by first | rfl | omega) (by omega) (by omega) ?_; go_frame))
          | go_in)
        go_ret3
        exact ⟨rfl, G.give⟩

set_option maxHeartbeats 8000000 in
theorem refAt5 {k : Int} {e sends : Bool} (h : Own B A w) (hk : k = 0 ∨ k = 1 ∨ k = 2 ∨ k = 3 ∨ k = 5 ∨ k = 8) :
    Calls Try.prog 11 #[.int .i64 5, .bool sends, .int .i64 k, .bool e] w fun r w' => r = .returned (StR (stepS 5 sends k e)) ∧ Own B A w' := by
  have G := h
  rcases hk with rfl | rfl | rfl | rfl | rfl | rfl
  all_goals
    cases e
    all_goals
      cases sends
      all_goals
        go_enter Try.func11, Try.ntmps11
        go_wp2_with (first
          | ((with_reducible refine at_alloc ?_); refine wpu_new G ?_; clear G; intro w G)
          | ((with_reducible refine at_drew ?_); refine wpu_drew G ?_; clear G; intro w G)
          | ((with_reducible refine at_load ?_); first
            | (refine wpu_load G rfl rfl rfl rfl ?_; go_frame)
            | (refine wpu_loadB G rfl rfl rfl (by rfl) ?_; go_frame)
            | (refine wpu_loadS G rfl rfl rfl (by rfl) ?_; simp only [List.drop_succ_cons, List.drop_zero, List.take_succ_cons, List.take_zero]; go_frame))
          | ((with_reducible refine at_store ?_); first
            | (refine wpu_store G rfl rfl rfl rfl (by first | rfl | assumption | simp [*]) rfl ?_; clear G; intro w G; go_frame)
            | (refine wpu_storeB G rfl rfl rfl rfl (by rfl) (by rfl) (by first | rfl | assumption | simp [*]) ?_; clear G; intro w G; go_frame)
            | (refine wpu_storeS G rfl rfl rfl rfl (by rfl) (by rfl) (by first | rfl | assumption | simp [*]) ?_; clear G; intro w G; go_frame))
          | ((with_reducible refine at_convert ?_); refine wpu_str G rfl rfl rfl rfl ?_; go_frame)
          | ((with_reducible refine at_slice ?_); first
            | (refine wpu_sliceLo rfl rfl rfl rfl (by first | rfl | omega) (by omega) (by omega) ?_; go_frame)
            | (refine wpu_sliceLH rfl rfl rfl rfl rfl (by first | rfl | omega) (by first | rfl | omega) (by omega) (by omega) ?_; go_frame))
          | go_in)
        go_ret3
        exact ⟨rfl, G.give⟩

set_option maxHeartbeats 8000000 in
theorem refAt6 {k : Int} {e sends : Bool} (h : Own B A w) (hk : k = 0 ∨ k = 1 ∨ k = 2 ∨ k = 3 ∨ k = 5 ∨ k = 8) :
    Calls Try.prog 11 #[.int .i64 6, .bool sends, .int .i64 k, .bool e] w fun r w' => r = .returned (StR (stepS 6 sends k e)) ∧ Own B A w' := by
  have G := h
  rcases hk with rfl | rfl | rfl | rfl | rfl | rfl
  all_goals
    cases e
    all_goals
      cases sends
      all_goals
        go_enter Try.func11, Try.ntmps11
        go_wp2_with (first
          | ((with_reducible refine at_alloc ?_); refine wpu_new G ?_; clear G; intro w G)
          | ((with_reducible refine at_drew ?_); refine wpu_drew G ?_; clear G; intro w G)
          | ((with_reducible refine at_load ?_); first
            | (refine wpu_load G rfl rfl rfl rfl ?_; go_frame)
            | (refine wpu_loadB G rfl rfl rfl (by rfl) ?_; go_frame)
            | (refine wpu_loadS G rfl rfl rfl (by rfl) ?_; simp only [List.drop_succ_cons, List.drop_zero, List.take_succ_cons, List.take_zero]; go_frame))
          | ((with_reducible refine at_store ?_); first
            | (refine wpu_store G rfl rfl rfl rfl (by first | rfl | assumption | simp [*]) rfl ?_; clear G; intro w G; go_frame)
            | (refine wpu_storeB G rfl rfl rfl rfl (by rfl) (by rfl) (by first | rfl | assumption | simp [*]) ?_; clear G; intro w G; go_frame)
            | (refine wpu_storeS G rfl rfl rfl rfl (by rfl) (by rfl) (by first | rfl | assumption | simp [*]) ?_; clear G; intro w G; go_frame))
          | ((with_reducible refine at_convert ?_); refine wpu_str G rfl rfl rfl rfl ?_; go_frame)
          | ((with_reducible refine at_slice ?_); first
            | (refine wpu_sliceLo rfl rfl rfl rfl (by first | rfl | omega) (by omega) (by omega) ?_; go_frame)
            | (refine wpu_sliceLH rfl rfl rfl rfl rfl (by first | rfl | omega) (by first | rfl | omega) (by omega) (by omega) ?_; go_frame))
          | go_in)
        go_ret3
        exact ⟨rfl, G.give⟩

set_option maxHeartbeats 2000000 in
theorem refW {s k : Int} {e sends : Bool} (h : Own B A w) (s1 : -9223372036854775808 ≤ s) (s2 : s ≤ 9223372036854775807) (k1 : -9223372036854775808 ≤ k) (k2 : k ≤ 9223372036854775807) :
    Calls Try.prog 11 #[.int .i64 s, .bool sends, .int .i64 k, .bool e] w fun r w' => r = .returned (StR (stepS s sends k e)) ∧ Own B A w' := by
  obtain ⟨r, hr⟩ : ∃ r, stepS s sends k e = r := ⟨_, rfl⟩
  rw [hr]
  have HR := Lib.hid hr
  clear hr
  have G := h
  by_cases a1 : s < 0
  · go_enter Try.func11, Try.ntmps11
    go_wp2_with fail
    go_ret3
    exact ⟨by rw [← HR.out, stepS, if_pos (by omega)]; rfl, h⟩
  · by_cases a2 : 6 < s
    · go_enter Try.func11, Try.ntmps11
      go_wp2_with fail
      go_ret3
      exact ⟨by rw [← HR.out, stepS, if_pos (by omega)]; rfl, h⟩
    · by_cases a3 : k = 0 ∨ k = 1 ∨ k = 2 ∨ k = 3 ∨ k = 5 ∨ k = 8
      · rw [← HR.out]
        have hs : s = 0 ∨ s = 1 ∨ s = 2 ∨ s = 3 ∨ s = 4 ∨ s = 5 ∨ s = 6 := by omega
        rcases hs with rfl | rfl | rfl | rfl | rfl | rfl | rfl
        · exact refAt0 h a3
        · exact refAt1 h a3
        · exact refAt2 h a3
        · exact refAt3 h a3
        · exact refAt4 h a3
        · exact refAt5 h a3
        · exact refAt6 h a3
      · have hx : stepS s sends k e = (s, 0, 0) := by rw [stepS, if_neg (by omega), if_pos (by omega)]
        have HX := Lib.hid hx
        clear hx
        have n0 : ¬ k = 0 := by omega
        have n1 : ¬ k = 1 := by omega
        have n2 : ¬ k = 2 := by omega
        have n3 : ¬ k = 3 := by omega
        have n5 : ¬ k = 5 := by omega
        have n8 : ¬ k = 8 := by omega
        clear a3
        go_enter Try.func11, Try.ntmps11
        go_wp2
        go_ret3
        exact ⟨by rw [← HR.out, HX.out]; rfl, h⟩
end
end Go.Proofs.Ytadbpekkmlblmaa
