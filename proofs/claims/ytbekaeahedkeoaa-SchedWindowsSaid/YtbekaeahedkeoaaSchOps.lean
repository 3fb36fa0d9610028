
/-
  A scheduler: New, Open, Put, Grant, Wait, Len, Window.
-/
import Derived.Test.YtbekaeahedkeoaaSchAt
namespace Go.Proofs.Ytbekaeahedkeoaa
open Go.RowKit Go.Sl


section
variable {B w : World} {A R : Assn} {a : Nat} {s : Sc}

theorem ints_q {L : List (Nat × Fl)} {q : List Fl} (h : L.map Prod.snd = q) : L.length = q.length := by rw [← h]; simp

set_option maxRecDepth 100000 in
theorem setFrameC {n m : Int} {v1 v2 : Value} {x : Int} (G : Own B (blk a [v1, v2, .int .i64 x, .int .i64 m] * R) w) :
    Calls Try.prog 23 #[.pointer (some ⟨a, 0, none⟩), .int .i64 n] w fun e w' => e = .returned (.tuple #[]) ∧ Own B (blk a [v1, v2, .int .i64 x, .int .i64 (min (max n 1) 16777215)] * R) w' := by
  go_enter Try.func23, Try.ntmps23
  go_wp2_with (first
    | ((with_reducible refine at_alloc ?_); refine wpu_new G ?_; clear G; intro w G)
    | ((with_reducible refine at_drew ?_); refine wpu_drew G ?_; clear G; intro w G)
    | ((with_reducible refine at_load ?_); first
      | (refine wpu_load G rfl rfl rfl rfl ?_; go_frame)
      | (refine wpu_loadB G rfl rfl rfl (by rfl) ?_; go_frame)
      | (refine wpu_loadS G rfl rfl rfl (by rfl) ?_; simp only [List.drop_succ_cons, List.drop_zero, List.take_succ_cons, List.take_zero]; go_frame))
    | ((with_reducible refine at_store ?_); first
      | (refine wpu_store G rfl rfl rfl rfl (by first | rfl | assumption | simp [*]) rfl ?_; clear G; intro w G; go_frame)
      | (refine wpu_storeB G rfl rfl rfl rfl (by rfl) (by rfl) (by first | rfl | assumption | simp [*]) ?_; clear G; intro w G; go_frame)
      | (refine wpu_storeS G rfl rfl rfl rfl (by rfl) (by rfl) (by first | rfl | assumption | simp [*]) ?_; clear G; intro w G; go_frame))
    | ((with_reducible refine at_convert ?_); refine wpu_str G rfl rfl rfl rfl ?_; go_frame)
    | ((with_reducible refine at_slice ?_); first
      | (refine wpu_sliceLo rfl rfl rfl rfl (by first | rfl | omega) (by omega) (by omega) ?_; go_frame)
      | (refine wpu_sliceLH rfl rfl rfl rfl rfl (by first | rfl | omega) (by first | rfl | omega) (by omega) (by omega) ?_; go_frame))
    | fail)
  go_end0
  exact ⟨rfl, G⟩

set_option maxRecDepth 100000 in
theorem newC {n : Int} (G : Own B R w) (h1 : -9223372036854775808 ≤ n) (h2 : n ≤ 9223372036854775807) :
    Calls Try.prog 15 #[.int .i64 n] w fun e w' => ∃ a, e = .returned (.pointer (some ⟨a, 0, none⟩)) ∧ Own B (schA a ⟨[], [], 65535, min (max n 1) 16777215⟩ * R) w' := by
  go_enter Try.func15, Try.ntmps15
  go_wp2_with (first
    | ((with_reducible refine at_alloc ?_); refine wpu_new G ?_; clear G; intro w G)
    | ((with_reducible refine at_drew ?_); refine wpu_drew G ?_; clear G; intro w G)
    | ((with_reducible refine at_load ?_); first
      | (refine wpu_load G rfl rfl rfl rfl ?_; go_frame)
      | (refine wpu_loadB G rfl rfl rfl (by rfl) ?_; go_frame)
      | (refine wpu_loadS G rfl rfl rfl (by rfl) ?_; simp only [List.drop_succ_cons, List.drop_zero, List.take_succ_cons, List.take_zero]; go_frame))
    | ((with_reducible refine at_store ?_); first
      | (refine wpu_store G rfl rfl rfl rfl (by first | rfl | assumption | simp [*]) rfl ?_; clear G; intro w G; go_frame)
      | (refine wpu_storeB G rfl rfl rfl rfl (by rfl) (by rfl) (by first | rfl | assumption | simp [*]) ?_; clear G; intro w G; go_frame)
      | (refine wpu_storeS G rfl rfl rfl rfl (by rfl) (by rfl) (by first | rfl | assumption | simp [*]) ?_; clear G; intro w G; go_frame))
    | ((with_reducible refine at_convert ?_); refine wpu_str G rfl rfl rfl rfl ?_; go_frame)
    | ((with_reducible refine at_slice ?_); first
      | (refine wpu_sliceLo rfl rfl rfl rfl (by first | rfl | omega) (by omega) (by omega) ?_; go_frame)
      | (refine wpu_sliceLH rfl rfl rfl rfl rfl (by first | rfl | omega) (by first | rfl | omega) (by omega) (by omega) ?_; go_frame))
    | fail)
  refine Calls.mono (setFrameC G) ?_
  clear G; rintro e w ⟨rfl, G⟩
  go_wp2_with fail
  go_ret
  refine ⟨_, rfl, sch_close (L := []) (C := []) (vc := .slice none 0 0) (vq := .slice none 0 0) _ (own_nil (own_nil G 1) 1 |>.eq ?_) rfl rfl rfl⟩
  simp only [ctA, flA, ptrs, List.foldr, List.map, List.length, emp_star]
  ac_rfl

set_option maxRecDepth 100000 in
theorem lenC (h : Own B (schA a s * R) w) :
    Calls Try.prog 11 #[.pointer (some ⟨a, 0, none⟩)] w fun e w' => e = .returned (.tuple #[.int .i64 s.ctl.length, .int .i64 s.q.length]) ∧ Own B (schA a s * R) w' := by
  obtain ⟨vc, vq, L, C, hL, hC, G⟩ := sch_open h
  obtain ⟨qo, qc, rfl, i1, i2⟩ := G.hdr vq
  obtain ⟨co, cc, rfl, i3, i4⟩ := G.hdr vc
  unfold maxLen at i2 i4
  simp only [scCs] at G
  have e1 : L.length = s.q.length := by rw [← hL]; simp
  have e2 : C.length = s.ctl.length := by rw [← hC]; simp
  go_enter Try.func11, Try.ntmps11
  go_wp2_with fail
  refine wp_region_calm (C := Own _ _) (by kernel_rfl) (by kernel_rfl) (own_drew G) ?_
  intro ι W hne hW hs
  repeat (first | ((with_reducible refine atq_load ?_); first | (refine wpq_load hW rfl rfl rfl rfl ?_; go_frame) | (refine wpq_loadB hW rfl rfl rfl (by rfl) ?_; go_frame) | (refine wpq_loadS hW rfl rfl rfl (by rfl) ?_; simp only [List.drop_succ_cons, List.drop_zero, List.take_succ_cons, List.take_zero]; go_frame)) | (fail) | go_big_quiet_step (fail))
  refine wpQuiet_nil ?_
  intro i
  have g := hW i
  generalize W i = wg at g ⊢
  clear  hs hW hne
  have G := g
  clear g
  go_wp2_with fail
  go_ret2
  exact ⟨rfl, sch_close (vc := .slice co C.length cc) (vq := .slice qo L.length qc) (L := L) (C := C) s G rfl hL hC⟩

set_option maxRecDepth 100000 in
theorem windowC (h : Own B (schA a s * R) w) :
    Calls Try.prog 14 #[.pointer (some ⟨a, 0, none⟩)] w fun e w' => e = .returned (.int .i64 s.win) ∧ Own B (schA a s * R) w' := by
  obtain ⟨vc, vq, L, C, hL, hC, G⟩ := sch_open h
  have h1 := (G.rd vc _ G).one
  have h2 := (G.rd vq _ G).one
  simp only [scCs] at G
  go_enter Try.func14, Try.ntmps14
  go_wp2_with (first
    | ((with_reducible refine at_alloc ?_); refine wpu_new G ?_; clear G; intro w G)
    | ((with_reducible refine at_drew ?_); refine wpu_drew G ?_; clear G; intro w G)
    | ((with_reducible refine at_load ?_); first
      | (refine wpu_load G rfl rfl rfl rfl ?_; go_frame)
      | (refine wpu_loadB G rfl rfl rfl (by rfl) ?_; go_frame)
      | (refine wpu_loadS G rfl rfl rfl (by rfl) ?_; simp only [List.drop_succ_cons, List.drop_zero, List.take_succ_cons, List.take_zero]; go_frame))
    | ((with_reducible refine at_store ?_); first
      | (refine wpu_store G rfl rfl rfl rfl (by first | rfl | assumption | simp [*]) rfl ?_; clear G; intro w G; go_frame)
      | (refine wpu_storeB G rfl rfl rfl rfl (by rfl) (by rfl) (by first | rfl | assumption | simp [*]) ?_; clear G; intro w G; go_frame)
      | (refine wpu_storeS G rfl rfl rfl rfl (by rfl) (by rfl) (by first | rfl | assumption | simp [*]) ?_; clear G; intro w G; go_frame))
    | ((with_reducible refine at_convert ?_); refine wpu_str G rfl rfl rfl rfl ?_; go_frame)
    | ((with_reducible refine at_slice ?_); first
      | (refine wpu_sliceLo rfl rfl rfl rfl (by first | rfl | omega) (by omega) (by omega) ?_; go_frame)
      | (refine wpu_sliceLH rfl rfl rfl rfl rfl (by first | rfl | omega) (by first | rfl | omega) (by omega) (by omega) ?_; go_frame))
    | fail)
  go_ret
  exact ⟨rfl, h⟩

theorem open_end {b : Nat} {vc vq : Value} {L : List (Nat × Fl)} {C : List (Value × List UInt8)} {cs : List Value} {f : Fl}
    (G : Own B (sl 1 vq (L.length + 1) (ptrs L ++ [.pointer (some ⟨b, 0, none⟩)]) * (blk b f.cs * (blk a cs * (sl 1 vc C.length (C.map Prod.fst) * (ctA C * (flA L * R)))))) w) (hc : cs = scCs vc vq s) (hL : L.map Prod.snd = s.q) (hC : C.map Prod.snd = s.ctl) :
    Own B (schA a { s with q := s.q ++ [f] } * R) w := by
  refine sch_close (vc := vc) (vq := vq) (L := L ++ [(b, f)]) (C := C) { s with q := s.q ++ [f] } (G.eq ?_) hc (by simp [hL]) hC
  rw [flA_app, ptrs_app, List.length_append]
  show sl 1 _ _ _ * (blk b _ * (blk a _ * _)) = blk a _ * (sl 1 vc _ _ * (sl 1 _ _ _ * (ctA C * (flA L * (blk b _ * emp) * R))))
  rw [star_emp]
  show sl 1 vq (L.length + 1) (ptrs L ++ [.pointer (some ⟨b, 0, none⟩)]) * _ = blk a _ * (sl 1 vc _ _ * (sl 1 vq (L.length + 1) (ptrs L ++ [.pointer (some ⟨b, 0, none⟩)]) * _))
  ac_rfl

set_option maxRecDepth 100000 in
theorem openC {id wd : Int} (h : Own B (schA a s * R) w) (h1 : 1 ≤ id) (h2 : id ≤ 2147483647) (h3 : -2147483647 ≤ wd) (h4 : wd ≤ 2147483647) (hne : ∀ f ∈ s.q, f.id ≠ id) (hl : s.q.length ≤ 1000000) :
    Calls Try.prog 16 #[.pointer (some ⟨a, 0, none⟩), .int .i64 id, .int .i64 wd] w fun e w' => e = .returned (.int .i64 0) ∧ Own B (schA a { s with q := s.q ++ [⟨id, wd, 0, false⟩] } * R) w' := by
  obtain ⟨vc, vq, L, C, hL, hC, G⟩ := sch_open h
  have o1 := (G.rd vc _ G).one
  obtain ⟨qo, qc, rfl, i1, i2⟩ := G.hdr vq
  unfold maxLen at i2
  have e1 : L.length = s.q.length := by rw [← hL]; simp
  have hp : placeI id (L.map Prod.snd) = -1 := by rw [hL]; exact placeI_none hne
  have HP := Lib.hid hp
  clear hp
  have b1 : decide (-2147483647 ≤ wd) = true := by simp; omega
  have b2 : decide (wd ≤ 2147483647) = true := by simp; omega
  go_enter Try.func16, Try.ntmps16
  go_wp2_with (first
    | ((with_reducible refine at_alloc ?_); refine wpu_new G ?_; clear G; intro w G)
    | ((with_reducible refine at_drew ?_); refine wpu_drew G ?_; clear G; intro w G)
    | ((with_reducible refine at_load ?_); first
      | (refine wpu_load G rfl rfl rfl rfl ?_; go_frame)
      | (refine wpu_loadB G rfl rfl rfl (by rfl) ?_; go_frame)
      | (refine wpu_loadS G rfl rfl rfl (by rfl) ?_; simp only [List.drop_succ_cons, List.drop_zero, List.take_succ_cons, List.take_zero]; go_frame))
    | ((with_reducible refine at_store ?_); first
      | (refine wpu_store G rfl rfl rfl rfl (by first | rfl | assumption | simp [*]) rfl ?_; clear G; intro w G; go_frame)
      | (refine wpu_storeB G rfl rfl rfl rfl (by rfl) (by rfl) (by first | rfl | assumption | simp [*]) ?_; clear G; intro w G; go_frame)
      | (refine wpu_storeS G rfl rfl rfl rfl (by rfl) (by rfl) (by first | rfl | assumption | simp [*]) ?_; clear G; intro w G; go_frame))
    | ((with_reducible refine at_convert ?_); refine wpu_str G rfl rfl rfl rfl ?_; go_frame)
    | ((with_reducible refine at_slice ?_); first
      | (refine wpu_sliceLo rfl rfl rfl rfl (by first | rfl | omega) (by omega) (by omega) ?_; go_frame)
      | (refine wpu_sliceLH rfl rfl rfl rfl rfl (by first | rfl | omega) (by first | rfl | omega) (by omega) (by omega) ?_; go_frame))
    | fail)
  refine Calls.mono (wideC G) ?_
  clear G; rintro e w ⟨rfl, G⟩
  rw [b1, b2]
  go_wp2_with fail
  refine Calls.mono (atC G) ?_
  clear G; rintro e w ⟨rfl, G⟩
  rw [HP.out]
  simp only [scCs] at G
  go_wp2_with (first
    | ((with_reducible refine at_alloc ?_); refine wpu_new G ?_; clear G; intro w G)
    | ((with_reducible refine at_alloc ?_); refine wpu_new G ?_; clear G; intro w G)
    | ((with_reducible refine at_drew ?_); refine wpu_drew G ?_; clear G; intro w G)
    | ((with_reducible refine at_load ?_); first
      | (refine wpu_load G rfl rfl rfl rfl ?_; go_frame)
      | (refine wpu_loadB G rfl rfl rfl (by rfl) ?_; go_frame)
      | (refine wpu_loadS G rfl rfl rfl (by rfl) ?_; simp only [List.drop_succ_cons, List.drop_zero, List.take_succ_cons, List.take_zero]; go_frame))
    | ((with_reducible refine at_store ?_); first
      | (refine wpu_store G rfl rfl rfl rfl (by first | rfl | assumption | simp [*]) rfl ?_; clear G; intro w G; go_frame)
      | (refine wpu_storeB G rfl rfl rfl rfl (by rfl) (by rfl) (by first | rfl | assumption | simp [*]) ?_; clear G; intro w G; go_frame)
      | (refine wpu_storeS G rfl rfl rfl rfl (by rfl) (by rfl) (by first | rfl | assumption | simp [*]) ?_; clear G; intro w G; go_frame))
    | ((with_reducible refine at_convert ?_); refine wpu_str G rfl rfl rfl rfl ?_; go_frame)
    | ((with_reducible refine at_slice ?_); first
      | (refine wpu_sliceLo rfl rfl rfl rfl (by first | rfl | omega) (by omega) (by omega) ?_; go_frame)
      | (refine wpu_sliceLH rfl rfl rfl rfl rfl (by first | rfl | omega) (by first | rfl | omega) (by omega) (by omega) ?_; go_frame))
    | ((with_reducible refine at_append ?_); refine wpu_append1 G rfl rfl rfl rfl (by rfl) (by rfl) (by unfold maxLen; omega) (by omega) ?_; clear G; intro v w G; obtain ⟨xo, xc, rfl, i5, i6⟩ := G.hdr v; go_frame)
    | fail)
  go_ret
  exact ⟨rfl, open_end G rfl hL hC⟩
end
end Go.Proofs.Ytbekaeahedkeoaa
