
/-
  What the laws of package stream share: 'shown'.
-/
import Derived.Test.YtadbpekkmlblmaaIds
import Derived.Test.YtadbpekkmlblmaaStStep
namespace Go.Proofs.Ytadbpekkmlblmaa
open Go.RowKit Go.Sl

section
variable {B w : World} {A R : Assn} {a : Nat} {s s' : IdS}

theorem openE {id : Int} {n : Nat} {cs : List Value} (h : Own B (idsA a s * R) w) (ok : s.Ok n) (hn : n ≤ 1000000) (i1 : -9223372036854775808 ≤ id) (i2 : id ≤ 9223372036854775807) (e : s.opened id = (s', cs)) :
    Calls Try.prog 15 #[.pointer (some ⟨a, 0, none⟩), .int .i64 id] w fun e w' => e = .returned (.agg cs.toArray) ∧ Own B (idsA a s' * R) w' := by
  have := openI h ok hn i1 i2; rw [e] at this; exact this
theorem nextE {n : Nat} {x y : Int} (h : Own B (idsA a s * R) w) (ok : s.Ok n) (hn : n ≤ 1000000) (e : s.nexted = (s', x, y)) :
    Calls Try.prog 16 #[.pointer (some ⟨a, 0, none⟩)] w fun e w' => e = .returned (.tuple #[.int .i64 x, .int .i64 y]) ∧ Own B (idsA a s' * R) w' := by
  have := nextI h ok hn; rw [e] at this; exact this
theorem stepE {s k : Int} {e sends : Bool} {x y : Int} {z : Nat} (h : Own B A w) (s1 : -9223372036854775808 ≤ s) (s2 : s ≤ 9223372036854775807) (k1 : -9223372036854775808 ≤ k) (k2 : k ≤ 9223372036854775807) (he : stepS s sends k e = (x, y, z)) :
    Calls Try.prog 10 #[.int .i64 s, .bool sends, .int .i64 k, .bool e] w fun r w' => r = .returned (.tuple #[.int .i64 x, .int .i64 y, .int .u32 z]) ∧ Own B A w' := by
  have := stepW (s := s) (k := k) (e := e) (sends := sends) h s1 s2 k1 k2; rw [he] at this; exact this

theorem ok_mk {sv : Bool} {mo li la ne th : Int} {ac : List Int} (h : decide (ac.length ≤ 10 ∧ 0 ≤ th ∧ th ≤ 10 ∧ 0 ≤ mo ∧ mo ≤ 9223372036854775807 ∧ 0 ≤ li ∧ li ≤ 9223372036854775807 ∧ 1 ≤ ne ∧ ne ≤ 2147483649 ∧ 0 ≤ la ∧ la ≤ 2147483647 ∧ ac.Nodup) = true) : IdS.Ok ⟨sv, mo, li, la, ne, ac, th⟩ 10 := by
  simp only [decide_eq_true_eq] at h
  obtain ⟨a, b, c, d, e, f, g, i, j, k, l, m⟩ := h
  exact ⟨a, b, by omega, d, e, f, g, i, j, k, l, m⟩


set_option maxHeartbeats 4000000 in
set_option maxRecDepth 100000 in
theorem shownSt (h : Own B A w) : Calls Try.prog 9 #[] w fun e w' => e = .returned (.bool true) ∧ Own B A w' := by
  have G := h
  go_enter Try.func9, Try.ntmps9
  go_wp2_with fail
  refine Calls.mono (stepE (x := 5) (y := 2) (z := 5) G (by decide) (by decide) (by decide) (by decide) (by rfl)) ?_
  clear G; rintro e w ⟨rfl, G⟩
  go_wp2_with fail
  refine Calls.mono (stepE (x := 4) (y := 4) (z := 2) G (by decide) (by decide) (by decide) (by decide) (by rfl)) ?_
  clear G; rintro e w ⟨rfl, G⟩
  go_wp2_with fail
  refine Calls.mono (newIds G) ?_
  clear G; rintro e w ⟨a, rfl, G⟩
  replace G : Own B (idsA a ⟨true, 1, 2147483647, 0, 2, [], 0⟩ * A) w := G
  go_wp2_with (first
    | ((with_reducible refine at_alloc ?_); refine wpu_new G ?_; clear G; intro w G)
    | ((with_reducible refine at_drew ?_); refine wpu_drew G ?_; clear G; intro w G)
    | ((with_reducible refine at_load ?_); first
      | (refine wpu_load G rfl rfl rfl rfl ?_; go_frame)
      | (refine wpu_loadB G rfl rfl rfl (by rfl) ?_; go_frame)
      | (refine wpu_loadS G rfl rfl rfl (by rfl) ?_; simp only [List.drop_succ_cons, List.drop_zero, List.take_succ_cons, List.take_zero]; go_frame))
    | ((with_reducible refine at_store ?_); first
      | (refine wpu_store G rfl rfl rfl rfl (by first | rfl | assumption | simp [*]) rfl ?_; clear G; intro w G; go_frame)
      | (refine wpu_storeB G rfl rfl rfl rfl (by rfl) (by rfl) (by first | rfl | assumption | simp [*]) ?_; clear G; intro w G; go_frame)
      | (refine wpu_storeS G rfl rfl rfl rfl (by rfl) (by rfl) (by first | rfl | assumption | simp [*]) ?_; clear G; intro w G; go_frame))
    | ((with_reducible refine at_convert ?_); refine wpu_str G rfl rfl rfl rfl ?_; go_frame)
    | ((with_reducible refine at_slice ?_); first
      | (refine wpu_sliceLo rfl rfl rfl rfl (by first | rfl | omega) (by omega) (by omega) ?_; go_frame)
      | (refine wpu_sliceLH rfl rfl rfl rfl rfl (by first | rfl | omega) (by first | rfl | omega) (by omega) (by omega) ?_; go_frame))
    | fail)
  have c1 := openE (s' := ⟨true, 1, 2147483647, 3, 2, [3], 1⟩) (cs := [.bool false, .int .u32 0, .int .i64 0]) (id := 3) (n := 10) (G.pullF (idsA a)) (ok_mk (by rfl)) (by decide) (by decide) (by decide) (by rfl)
  refine Calls.mono c1 ?_
  clear G c1; rintro e w ⟨rfl, G⟩
  go_wp2_with (first
    | ((with_reducible refine at_alloc ?_); refine wpu_new G ?_; clear G; intro w G)
    | ((with_reducible refine at_drew ?_); refine wpu_drew G ?_; clear G; intro w G)
    | ((with_reducible refine at_load ?_); first
      | (refine wpu_load G rfl rfl rfl rfl ?_; go_frame)
      | (refine wpu_loadB G rfl rfl rfl (by rfl) ?_; go_frame)
      | (refine wpu_loadS G rfl rfl rfl (by rfl) ?_; simp only [List.drop_succ_cons, List.drop_zero, List.take_succ_cons, List.take_zero]; go_frame))
    | ((with_reducible refine at_store ?_); first
      | (refine wpu_store G rfl rfl rfl rfl (by first | rfl | assumption | simp [*]) rfl ?_; clear G; intro w G; go_frame)
      | (refine wpu_storeB G rfl rfl rfl rfl (by rfl) (by rfl) (by first | rfl | assumption | simp [*]) ?_; clear G; intro w G; go_frame)
      | (refine wpu_storeS G rfl rfl rfl rfl (by rfl) (by rfl) (by first | rfl | assumption | simp [*]) ?_; clear G; intro w G; go_frame))
    | ((with_reducible refine at_convert ?_); refine wpu_str G rfl rfl rfl rfl ?_; go_frame)
    | ((with_reducible refine at_slice ?_); first
      | (refine wpu_sliceLo rfl rfl rfl rfl (by first | rfl | omega) (by omega) (by omega) ?_; go_frame)
      | (refine wpu_sliceLH rfl rfl rfl rfl rfl (by first | rfl | omega) (by first | rfl | omega) (by omega) (by omega) ?_; go_frame))
    | fail)
  have c1 := openE (s' := ⟨true, 1, 2147483647, 3, 2, [3], 1⟩) (cs := [.bool true, .int .u32 1, .int .i64 0]) (id := 1) (n := 10) (G.pullF (idsA a)) (ok_mk (by rfl)) (by decide) (by decide) (by decide) (by rfl)
  refine Calls.mono c1 ?_
  clear G c1; rintro e w ⟨rfl, G⟩
  go_wp2_with (first
    | ((with_reducible refine at_alloc ?_); refine wpu_new G ?_; clear G; intro w G)
    | ((with_reducible refine at_drew ?_); refine wpu_drew G ?_; clear G; intro w G)
    | ((with_reducible refine at_load ?_); first
      | (refine wpu_load G rfl rfl rfl rfl ?_; go_frame)
      | (refine wpu_loadB G rfl rfl rfl (by rfl) ?_; go_frame)
      | (refine wpu_loadS G rfl rfl rfl (by rfl) ?_; simp only [List.drop_succ_cons, List.drop_zero, List.take_succ_cons, List.take_zero]; go_frame))
    | ((with_reducible refine at_store ?_); first
      | (refine wpu_store G rfl rfl rfl rfl (by first | rfl | assumption | simp [*]) rfl ?_; clear G; intro w G; go_frame)
      | (refine wpu_storeB G rfl rfl rfl rfl (by rfl) (by rfl) (by first | rfl | assumption | simp [*]) ?_; clear G; intro w G; go_frame)
      | (refine wpu_storeS G rfl rfl rfl rfl (by rfl) (by rfl) (by first | rfl | assumption | simp [*]) ?_; clear G; intro w G; go_frame))
    | ((with_reducible refine at_convert ?_); refine wpu_str G rfl rfl rfl rfl ?_; go_frame)
    | ((with_reducible refine at_slice ?_); first
      | (refine wpu_sliceLo rfl rfl rfl rfl (by first | rfl | omega) (by omega) (by omega) ?_; go_frame)
      | (refine wpu_sliceLH rfl rfl rfl rfl rfl (by first | rfl | omega) (by first | rfl | omega) (by omega) (by omega) ?_; go_frame))
    | fail)
  have c1 := openE (s' := ⟨true, 1, 2147483647, 5, 2, [3], 1⟩) (cs := [.bool true, .int .u32 7, .int .i64 5]) (id := 5) (n := 10) (G.pullF (idsA a)) (ok_mk (by rfl)) (by decide) (by decide) (by decide) (by rfl)
  refine Calls.mono c1 ?_
  clear G c1; rintro e w ⟨rfl, G⟩
  go_wp2_with (first
    | ((with_reducible refine at_alloc ?_); refine wpu_new G ?_; clear G; intro w G)
    | ((with_reducible refine at_drew ?_); refine wpu_drew G ?_; clear G; intro w G)
    | ((with_reducible refine at_load ?_); first
      | (refine wpu_load G rfl rfl rfl rfl ?_; go_frame)
      | (refine wpu_loadB G rfl rfl rfl (by rfl) ?_; go_frame)
      | (refine wpu_loadS G rfl rfl rfl (by rfl) ?_; simp only [List.drop_succ_cons, List.drop_zero, List.take_succ_cons, List.take_zero]; go_frame))
    | ((with_reducible refine at_store ?_); first
      | (refine wpu_store G rfl rfl rfl rfl (by first | rfl | assumption | simp [*]) rfl ?_; clear G; intro w G; go_frame)
      | (refine wpu_storeB G rfl rfl rfl rfl (by rfl) (by rfl) (by first | rfl | assumption | simp [*]) ?_; clear G; intro w G; go_frame)
      | (refine wpu_storeS G rfl rfl rfl rfl (by rfl) (by rfl) (by first | rfl | assumption | simp [*]) ?_; clear G; intro w G; go_frame))
    | ((with_reducible refine at_convert ?_); refine wpu_str G rfl rfl rfl rfl ?_; go_frame)
    | ((with_reducible refine at_slice ?_); first
      | (refine wpu_sliceLo rfl rfl rfl rfl (by first | rfl | omega) (by omega) (by omega) ?_; go_frame)
      | (refine wpu_sliceLH rfl rfl rfl rfl rfl (by first | rfl | omega) (by first | rfl | omega) (by omega) (by omega) ?_; go_frame))
    | fail)
  have c1 := nextE (s' := ⟨true, 1, 2147483647, 5, 4, [2, 3], 1⟩) (x := 2) (y := 0) (n := 10) (G.pullF (idsA a)) (ok_mk (by rfl)) (by decide) (by rfl)
  refine Calls.mono c1 ?_
  clear G c1; rintro e w ⟨rfl, G⟩
  go_wp2_with (first
    | ((with_reducible refine at_alloc ?_); refine wpu_new G ?_; clear G; intro w G)
    | ((with_reducible refine at_drew ?_); refine wpu_drew G ?_; clear G; intro w G)
    | ((with_reducible refine at_load ?_); first
      | (refine wpu_load G rfl rfl rfl rfl ?_; go_frame)
      | (refine wpu_loadB G rfl rfl rfl (by rfl) ?_; go_frame)
      | (refine wpu_loadS G rfl rfl rfl (by rfl) ?_; simp only [List.drop_succ_cons, List.drop_zero, List.take_succ_cons, List.take_zero]; go_frame))
    | ((with_reducible refine at_store ?_); first
      | (refine wpu_store G rfl rfl rfl rfl (by first | rfl | assumption | simp [*]) rfl ?_; clear G; intro w G; go_frame)
      | (refine wpu_storeB G rfl rfl rfl rfl (by rfl) (by rfl) (by first | rfl | assumption | simp [*]) ?_; clear G; intro w G; go_frame)
      | (refine wpu_storeS G rfl rfl rfl rfl (by rfl) (by rfl) (by first | rfl | assumption | simp [*]) ?_; clear G; intro w G; go_frame))
    | ((with_reducible refine at_convert ?_); refine wpu_str G rfl rfl rfl rfl ?_; go_frame)
    | ((with_reducible refine at_slice ?_); first
      | (refine wpu_sliceLo rfl rfl rfl rfl (by first | rfl | omega) (by omega) (by omega) ?_; go_frame)
      | (refine wpu_sliceLH rfl rfl rfl rfl rfl (by first | rfl | omega) (by first | rfl | omega) (by omega) (by omega) ?_; go_frame))
    | fail)
  refine Calls.mono (lastI (G.pullF (idsA a))) ?_
  clear G; rintro e w ⟨rfl, G⟩
  go_wp2_with (first
    | ((with_reducible refine at_alloc ?_); refine wpu_new G ?_; clear G; intro w G)
    | ((with_reducible refine at_drew ?_); refine wpu_drew G ?_; clear G; intro w G)
    | ((with_reducible refine at_load ?_); first
      | (refine wpu_load G rfl rfl rfl rfl ?_; go_frame)
      | (refine wpu_loadB G rfl rfl rfl (by rfl) ?_; go_frame)
      | (refine wpu_loadS G rfl rfl rfl (by rfl) ?_; simp only [List.drop_succ_cons, List.drop_zero, List.take_succ_cons, List.take_zero]; go_frame))
    | ((with_reducible refine at_store ?_); first
      | (refine wpu_store G rfl rfl rfl rfl (by first | rfl | assumption | simp [*]) rfl ?_; clear G; intro w G; go_frame)
      | (refine wpu_storeB G rfl rfl rfl rfl (by rfl) (by rfl) (by first | rfl | assumption | simp [*]) ?_; clear G; intro w G; go_frame)
      | (refine wpu_storeS G rfl rfl rfl rfl (by rfl) (by rfl) (by first | rfl | assumption | simp [*]) ?_; clear G; intro w G; go_frame))
    | ((with_reducible refine at_convert ?_); refine wpu_str G rfl rfl rfl rfl ?_; go_frame)
    | ((with_reducible refine at_slice ?_); first
      | (refine wpu_sliceLo rfl rfl rfl rfl (by first | rfl | omega) (by omega) (by omega) ?_; go_frame)
      | (refine wpu_sliceLH rfl rfl rfl rfl rfl (by first | rfl | omega) (by first | rfl | omega) (by omega) (by omega) ?_; go_frame))
    | fail)
  go_ret
  exact ⟨rfl, G.sub A⟩
end
end Go.Proofs.Ytadbpekkmlblmaa
