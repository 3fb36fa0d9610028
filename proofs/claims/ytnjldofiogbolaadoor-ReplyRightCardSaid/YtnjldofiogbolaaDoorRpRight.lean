

/-
  ReplyRight: what is answered here is a right response, and may go on.
-/
import Derived.Test.YtnjldofiogbolaaDoorRp2
import Derived.Test.YtnjldofiogbolaaDoorFm8
import Derived.Test.YtnjldofiogbolaaDoorSameF
import Derived.Test.YtnjldofiogbolaaDoorCmp
import Derived.Test.YtnjldofiogbolaaDoorLawD
import Derived.Test.YtnjldofiogbolaaDoorTie
import Derived.Test.YtnjldofiogbolaaDoorCards
import Derived.SevenTiedAt
import Derived.LaidSub
namespace Go.Proofs.YtnjldofiogbolaaDoor.replyRight
open Go.RowKit Go.Sl Go.ChangeShapes

theorem stats6 (c : Int) : c = 400 ∨ c = 404 ∨ c = 502 ∨ c = 503 ∨ c = 504 ∨ (c ≠ 400 ∧ c ≠ 404 ∧ c ≠ 502 ∧ c ≠ 503 ∧ c ≠ 504) := by omega
def small4 (L : List Fd) : Bool := decide (L.length ≤ 1000) && L.all fun f => decide (f.1.length ≤ 1000000) && decide (f.2.1.length ≤ 1000000)
theorem small_of {L : List Fd} (h : small4 L = true) : (∀ f ∈ L, f.1.length ≤ 1000000 ∧ f.2.1.length ≤ 1000000) ∧ L.length ≤ 1000 := by
  unfold small4 at h
  simp only [Bool.and_eq_true, decide_eq_true_eq, List.all_eq_true] at h
  exact ⟨fun f hf => h.2 f hf, h.1⟩
def five (st : Int) : Bool := decide (st = 400) || decide (st = 404) || decide (st = 502) || decide (st = 503) || decide (st = 504)
theorem local_none {st : Int} (g : Bool) (h : five st = false) : localL st g = [] := by
  unfold five at h
  simp only [Bool.or_eq_false_iff, decide_eq_false_iff_not] at h
  unfold localL row
  simp [h]
set_option maxRecDepth 100000 in
theorem local_some {st : Int} (g : Bool) (h : five st = true) : (responseR (localL st g) = some ⟨[], [], [], [], if g then 200 else st, if g then -1 else 0⟩) ∧ forwardR (localL st g) = localL st g ∧ 0 < (localL st g).length ∧ small4 (localL st g) = true := by
  unfold five at h
  simp only [Bool.or_eq_true, decide_eq_true_eq] at h
  rcases h with (((rfl | rfl) | rfl) | rfl) | rfl
  all_goals cases g
  all_goals exact ⟨by decide +kernel, by decide +kernel, by decide +kernel, by decide +kernel⟩
theorem back_facts (c : Int) : ∃ n d : Int, backR c false = (n, 0) ∧ five n = true ∧ backR c true = (0, d) ∧ (d == 0) = false := by
  rcases codes5 c with rfl | rfl | rfl | rfl | ⟨h0, h7, h8, h11, b0, b7, b8, b11⟩
  · exact ⟨_, _, rfl, by decide, rfl, by decide⟩
  · exact ⟨_, _, rfl, by decide, rfl, by decide⟩
  · exact ⟨_, _, rfl, by decide, rfl, by decide⟩
  · exact ⟨_, _, rfl, by decide, rfl, by decide⟩
  · exact ⟨502, 2, by simp [backR, h0, h7, h8, h11], by decide, by simp [backR, h0, h7, h8, h11], by decide⟩


set_option maxHeartbeats 8000000 in
set_option maxRecDepth 100000 in
theorem rightW {w0 : World} (hT : Pow10 w0) (st : Int) (g : Bool) (c : Int) : Calls Tryd.prog 6 #[.int .i64 st, .bool g, .int .u32 c] w0 fun e w' => e = .returned (.bool true) ∧ Below w0.heap.size w0 w' := by
  have G := own_begin w0
  obtain ⟨n, d, hb1, hn, hb2, hd⟩ := back_facts c
  have HB1 := Lib.hid hb1
  have HB2 := Lib.hid hb2
  have H2 := (local_some g hn).2.2.1
  clear hb1 hb2
  cases h5 : five st with
  | true =>
    obtain ⟨r1, r2, r3, r4⟩ := local_some g h5
    obtain ⟨s1, s2⟩ := small_of r4
    cases g
    · have HR : Hid (msgV (responseR (localL st false)) = .tuple #[.agg #[str [], str [], str [], str [], .int .i64 st, .int .i64 0], .bool true]) := Lib.hid (by rw [r1]; rfl)
      have HF := Lib.hid r2
      have HP := r3
      clear r1 r2 r3 r4 h5
      skip
      as_aux_lemma =>
      go_enter Tryd.func6, Tryd.ntmps6
      go_wp2_with fail
      refine Calls.mono (shownRp hT G) ?_
      clear G; rintro e w ⟨rfl, G⟩
      go_wp2_with fail
      refine Calls.mono (localC hT G) ?_
      clear G; rintro e w ⟨v, rfl, G⟩
      generalize hLL : localL st false = L at G HR HF HP s1 s2
      clear hLL
      obtain ⟨ao, ac, rfl, j1, j2⟩ := G.hdr v
      unfold maxLen at j2
      have hl : ∀ {X : Assn} [Sub (sl 3 (.slice ao L.length ac) L.length (fds L)) X] (w : World), Own w0 X w → rd w 3 (.slice ao L.length ac) L.length (fds L) := fun w h => own_rd ((h.sub (sl 3 (.slice ao L.length ac) L.length (fds L))).eq (star_emp _).symm)
      go_wp2_with fail
      refine Calls.mono (responseC (L := L) s1 s2 G hl) ?_
      clear G; rintro e w ⟨rfl, G⟩
      rw [HR.out]
      go_wp2_with (first
        | (go_at_call 11; refine hold ?_)
        | ((with_reducible refine at_alloc ?_); refine wpu_new G ?_; clear G; intro w G)
        | ((with_reducible refine at_drew ?_); refine wpu_drew G ?_; clear G; intro w G)
        | go_big_skip
        | ((with_reducible refine at_load ?_); first
          | (refine wpu_load G rfl (by kernel_rfl) rfl rfl ?_; go_frame)
          | (refine wpu_loadB G rfl (by kernel_rfl) rfl (by rfl) ?_; go_frame)
          | (refine wpu_loadS G rfl (by kernel_rfl) rfl (by rfl) ?_; simp only [List.drop_succ_cons, List.drop_zero, List.take_succ_cons, List.take_zero]; go_frame))
        | ((with_reducible refine at_store ?_); first
          | (refine wpu_store G rfl (by kernel_rfl) rfl rfl (by first | rfl | assumption | simp [*]) rfl ?_; clear G; intro w G; go_frame)
          | (refine wpu_storeB G rfl (by kernel_rfl) rfl rfl (by rfl) (by rfl) (by first | rfl | assumption | simp [*]) ?_; clear G; intro w G; go_frame)
          | (refine wpu_storeS G rfl (by kernel_rfl) rfl rfl (by rfl) (by rfl) (by first | rfl | assumption | simp [*]) ?_; clear G; intro w G; go_frame))
        | ((with_reducible refine at_convert ?_); refine wpu_str G rfl (by kernel_rfl) rfl rfl ?_; go_frame)
        | fail)
      unfold Held
      refine Calls.mono (backC c false _) ?_
      rintro e w ⟨rfl, rfl⟩
      rw [HB1.out]
      go_wp2_with (first
        | (go_at_call 11; refine hold ?_)
        | fail)
      unfold Held
      refine Calls.mono (backC c true _) ?_
      rintro e w ⟨rfl, rfl⟩
      rw [HB2.out]
      have e1 : ((L.length : Int) == 0) = false := by rw [beq_eq_false_iff_ne]; omega
      go_wp2_with (first
        | go_big_skip
        | ((with_reducible refine at_eql ?_); refine wpu_eql rfl (by kernel_rfl) rfl rfl e1 ?_; go_frame)
        | (go_at_call 16; refine hold ?_)
        | ((with_reducible refine at_alloc ?_); refine wpu_new G ?_; clear G; intro w G)
        | ((with_reducible refine at_drew ?_); refine wpu_drew G ?_; clear G; intro w G)
        | go_big_skip
        | ((with_reducible refine at_load ?_); first
          | (refine wpu_load G rfl (by kernel_rfl) rfl rfl ?_; go_frame)
          | (refine wpu_loadB G rfl (by kernel_rfl) rfl (by rfl) ?_; go_frame)
          | (refine wpu_loadS G rfl (by kernel_rfl) rfl (by rfl) ?_; simp only [List.drop_succ_cons, List.drop_zero, List.take_succ_cons, List.take_zero]; go_frame))
        | ((with_reducible refine at_store ?_); first
          | (refine wpu_store G rfl (by kernel_rfl) rfl rfl (by first | rfl | assumption | simp [*]) rfl ?_; clear G; intro w G; go_frame)
          | (refine wpu_storeB G rfl (by kernel_rfl) rfl rfl (by rfl) (by rfl) (by first | rfl | assumption | simp [*]) ?_; clear G; intro w G; go_frame)
          | (refine wpu_storeS G rfl (by kernel_rfl) rfl rfl (by rfl) (by rfl) (by first | rfl | assumption | simp [*]) ?_; clear G; intro w G; go_frame))
        | ((with_reducible refine at_convert ?_); refine wpu_str G rfl (by kernel_rfl) rfl rfl ?_; go_frame)
        | fail)
      unfold Held
      refine Calls.mono (forwardC (L := L) s2 G hl) ?_
      clear G; rintro e w ⟨u, rfl, G⟩
      rw [HF.out] at G
      go_wp2_with fail
      refine Calls.mono (sameC (X := L) (Y := L) G (fun w h => own_rd h) hl) ?_
      clear G; rintro e w ⟨rfl, G⟩
      rw [show decide (L = L) = true by simp]
      go_wp2_with (first
        | go_big_skip
        | (go_at_call 8; refine hold ?_)
        | ((with_reducible refine at_alloc ?_); refine wpu_new G ?_; clear G; intro w G)
        | ((with_reducible refine at_drew ?_); refine wpu_drew G ?_; clear G; intro w G)
        | go_big_skip
        | ((with_reducible refine at_load ?_); first
          | (refine wpu_load G rfl (by kernel_rfl) rfl rfl ?_; go_frame)
          | (refine wpu_loadB G rfl (by kernel_rfl) rfl (by rfl) ?_; go_frame)
          | (refine wpu_loadS G rfl (by kernel_rfl) rfl (by rfl) ?_; simp only [List.drop_succ_cons, List.drop_zero, List.take_succ_cons, List.take_zero]; go_frame))
        | ((with_reducible refine at_store ?_); first
          | (refine wpu_store G rfl (by kernel_rfl) rfl rfl (by first | rfl | assumption | simp [*]) rfl ?_; clear G; intro w G; go_frame)
          | (refine wpu_storeB G rfl (by kernel_rfl) rfl rfl (by rfl) (by rfl) (by first | rfl | assumption | simp [*]) ?_; clear G; intro w G; go_frame)
          | (refine wpu_storeS G rfl (by kernel_rfl) rfl rfl (by rfl) (by rfl) (by first | rfl | assumption | simp [*]) ?_; clear G; intro w G; go_frame))
        | ((with_reducible refine at_convert ?_); refine wpu_str G rfl (by kernel_rfl) rfl rfl ?_; go_frame)
        | fail)
      unfold Held
      refine Calls.mono (localC hT G) ?_
      clear G; rintro e w ⟨v2, rfl, G⟩
      generalize localL n false = L2 at G H2
      obtain ⟨bo, bc, rfl, k1, k2⟩ := G.hdr v2
      unfold maxLen at k2
      have p1 : decide ((L2.length : Int) > 0) = true := by simp; omega
      go_wp2_with (first
        | go_big_skip
        | ((with_reducible refine at_gtr ?_); refine wpu_gtr rfl (by kernel_rfl) rfl rfl p1 ?_; go_frame)
        | ((with_reducible refine at_neq ?_); refine wpu_neqE rfl (by kernel_rfl) rfl rfl hd ?_; go_frame)
        | ((with_reducible refine at_alloc ?_); refine wpu_new G ?_; clear G; intro w G)
        | ((with_reducible refine at_drew ?_); refine wpu_drew G ?_; clear G; intro w G)
        | go_big_skip
        | ((with_reducible refine at_load ?_); first
          | (refine wpu_load G rfl (by kernel_rfl) rfl rfl ?_; go_frame)
          | (refine wpu_loadB G rfl (by kernel_rfl) rfl (by rfl) ?_; go_frame)
          | (refine wpu_loadS G rfl (by kernel_rfl) rfl (by rfl) ?_; simp only [List.drop_succ_cons, List.drop_zero, List.take_succ_cons, List.take_zero]; go_frame))
        | ((with_reducible refine at_store ?_); first
          | (refine wpu_store G rfl (by kernel_rfl) rfl rfl (by first | rfl | assumption | simp [*]) rfl ?_; clear G; intro w G; go_frame)
          | (refine wpu_storeB G rfl (by kernel_rfl) rfl rfl (by rfl) (by rfl) (by first | rfl | assumption | simp [*]) ?_; clear G; intro w G; go_frame)
          | (refine wpu_storeS G rfl (by kernel_rfl) rfl rfl (by rfl) (by rfl) (by first | rfl | assumption | simp [*]) ?_; clear G; intro w G; go_frame))
        | ((with_reducible refine at_convert ?_); refine wpu_str G rfl (by kernel_rfl) rfl rfl ?_; go_frame)
        | fail)
      go_ret
      exact ⟨rfl, G.below⟩
    · have HR : Hid (msgV (responseR (localL st true)) = .tuple #[.agg #[str [], str [], str [], str [], .int .i64 200, .int .i64 (-1)], .bool true]) := Lib.hid (by rw [r1]; rfl)
      have HF := Lib.hid r2
      have HP := r3
      clear r1 r2 r3 r4 h5
      skip
      as_aux_lemma =>
      go_enter Tryd.func6, Tryd.ntmps6
      go_wp2_with fail
      refine Calls.mono (shownRp hT G) ?_
      clear G; rintro e w ⟨rfl, G⟩
      go_wp2_with fail
      refine Calls.mono (localC hT G) ?_
      clear G; rintro e w ⟨v, rfl, G⟩
      generalize hLL : localL st true = L at G HR HF HP s1 s2
      clear hLL
      obtain ⟨ao, ac, rfl, j1, j2⟩ := G.hdr v
      unfold maxLen at j2
      have hl : ∀ {X : Assn} [Sub (sl 3 (.slice ao L.length ac) L.length (fds L)) X] (w : World), Own w0 X w → rd w 3 (.slice ao L.length ac) L.length (fds L) := fun w h => own_rd ((h.sub (sl 3 (.slice ao L.length ac) L.length (fds L))).eq (star_emp _).symm)
      go_wp2_with fail
      refine Calls.mono (responseC (L := L) s1 s2 G hl) ?_
      clear G; rintro e w ⟨rfl, G⟩
      rw [HR.out]
      go_wp2_with (first
        | (go_at_call 11; refine hold ?_)
        | ((with_reducible refine at_alloc ?_); refine wpu_new G ?_; clear G; intro w G)
        | ((with_reducible refine at_drew ?_); refine wpu_drew G ?_; clear G; intro w G)
        | go_big_skip
        | ((with_reducible refine at_load ?_); first
          | (refine wpu_load G rfl (by kernel_rfl) rfl rfl ?_; go_frame)
          | (refine wpu_loadB G rfl (by kernel_rfl) rfl (by rfl) ?_; go_frame)
          | (refine wpu_loadS G rfl (by kernel_rfl) rfl (by rfl) ?_; simp only [List.drop_succ_cons, List.drop_zero, List.take_succ_cons, List.take_zero]; go_frame))
        | ((with_reducible refine at_store ?_); first
          | (refine wpu_store G rfl (by kernel_rfl) rfl rfl (by first | rfl | assumption | simp [*]) rfl ?_; clear G; intro w G; go_frame)
          | (refine wpu_storeB G rfl (by kernel_rfl) rfl rfl (by rfl) (by rfl) (by first | rfl | assumption | simp [*]) ?_; clear G; intro w G; go_frame)
          | (refine wpu_storeS G rfl (by kernel_rfl) rfl rfl (by rfl) (by rfl) (by first | rfl | assumption | simp [*]) ?_; clear G; intro w G; go_frame))
        | ((with_reducible refine at_convert ?_); refine wpu_str G rfl (by kernel_rfl) rfl rfl ?_; go_frame)
        | fail)
      unfold Held
      refine Calls.mono (backC c false _) ?_
      rintro e w ⟨rfl, rfl⟩
      rw [HB1.out]
      go_wp2_with (first
        | (go_at_call 11; refine hold ?_)
        | fail)
      unfold Held
      refine Calls.mono (backC c true _) ?_
      rintro e w ⟨rfl, rfl⟩
      rw [HB2.out]
      have e1 : ((L.length : Int) == 0) = false := by rw [beq_eq_false_iff_ne]; omega
      go_wp2_with (first
        | go_big_skip
        | ((with_reducible refine at_eql ?_); refine wpu_eql rfl (by kernel_rfl) rfl rfl e1 ?_; go_frame)
        | (go_at_call 16; refine hold ?_)
        | ((with_reducible refine at_alloc ?_); refine wpu_new G ?_; clear G; intro w G)
        | ((with_reducible refine at_drew ?_); refine wpu_drew G ?_; clear G; intro w G)
        | go_big_skip
        | ((with_reducible refine at_load ?_); first
          | (refine wpu_load G rfl (by kernel_rfl) rfl rfl ?_; go_frame)
          | (refine wpu_loadB G rfl (by kernel_rfl) rfl (by rfl) ?_; go_frame)
          | (refine wpu_loadS G rfl (by kernel_rfl) rfl (by rfl) ?_; simp only [List.drop_succ_cons, List.drop_zero, List.take_succ_cons, List.take_zero]; go_frame))
        | ((with_reducible refine at_store ?_); first
          | (refine wpu_store G rfl (by kernel_rfl) rfl rfl (by first | rfl | assumption | simp [*]) rfl ?_; clear G; intro w G; go_frame)
          | (refine wpu_storeB G rfl (by kernel_rfl) rfl rfl (by rfl) (by rfl) (by first | rfl | assumption | simp [*]) ?_; clear G; intro w G; go_frame)
          | (refine wpu_storeS G rfl (by kernel_rfl) rfl rfl (by rfl) (by rfl) (by first | rfl | assumption | simp [*]) ?_; clear G; intro w G; go_frame))
        | ((with_reducible refine at_convert ?_); refine wpu_str G rfl (by kernel_rfl) rfl rfl ?_; go_frame)
        | fail)
      unfold Held
      refine Calls.mono (forwardC (L := L) s2 G hl) ?_
      clear G; rintro e w ⟨u, rfl, G⟩
      rw [HF.out] at G
      go_wp2_with fail
      refine Calls.mono (sameC (X := L) (Y := L) G (fun w h => own_rd h) hl) ?_
      clear G; rintro e w ⟨rfl, G⟩
      rw [show decide (L = L) = true by simp]
      go_wp2_with (first
        | go_big_skip
        | (go_at_call 8; refine hold ?_)
        | ((with_reducible refine at_alloc ?_); refine wpu_new G ?_; clear G; intro w G)
        | ((with_reducible refine at_drew ?_); refine wpu_drew G ?_; clear G; intro w G)
        | go_big_skip
        | ((with_reducible refine at_load ?_); first
          | (refine wpu_load G rfl (by kernel_rfl) rfl rfl ?_; go_frame)
          | (refine wpu_loadB G rfl (by kernel_rfl) rfl (by rfl) ?_; go_frame)
          | (refine wpu_loadS G rfl (by kernel_rfl) rfl (by rfl) ?_; simp only [List.drop_succ_cons, List.drop_zero, List.take_succ_cons, List.take_zero]; go_frame))
        | ((with_reducible refine at_store ?_); first
          | (refine wpu_store G rfl (by kernel_rfl) rfl rfl (by first | rfl | assumption | simp [*]) rfl ?_; clear G; intro w G; go_frame)
          | (refine wpu_storeB G rfl (by kernel_rfl) rfl rfl (by rfl) (by rfl) (by first | rfl | assumption | simp [*]) ?_; clear G; intro w G; go_frame)
          | (refine wpu_storeS G rfl (by kernel_rfl) rfl rfl (by rfl) (by rfl) (by first | rfl | assumption | simp [*]) ?_; clear G; intro w G; go_frame))
        | ((with_reducible refine at_convert ?_); refine wpu_str G rfl (by kernel_rfl) rfl rfl ?_; go_frame)
        | fail)
      unfold Held
      refine Calls.mono (localC hT G) ?_
      clear G; rintro e w ⟨v2, rfl, G⟩
      generalize localL n true = L2 at G H2
      obtain ⟨bo, bc, rfl, k1, k2⟩ := G.hdr v2
      unfold maxLen at k2
      have p1 : decide ((L2.length : Int) > 0) = true := by simp; omega
      go_wp2_with (first
        | go_big_skip
        | ((with_reducible refine at_gtr ?_); refine wpu_gtr rfl (by kernel_rfl) rfl rfl p1 ?_; go_frame)
        | ((with_reducible refine at_neq ?_); refine wpu_neqE rfl (by kernel_rfl) rfl rfl hd ?_; go_frame)
        | ((with_reducible refine at_alloc ?_); refine wpu_new G ?_; clear G; intro w G)
        | ((with_reducible refine at_drew ?_); refine wpu_drew G ?_; clear G; intro w G)
        | go_big_skip
        | ((with_reducible refine at_load ?_); first
          | (refine wpu_load G rfl (by kernel_rfl) rfl rfl ?_; go_frame)
          | (refine wpu_loadB G rfl (by kernel_rfl) rfl (by rfl) ?_; go_frame)
          | (refine wpu_loadS G rfl (by kernel_rfl) rfl (by rfl) ?_; simp only [List.drop_succ_cons, List.drop_zero, List.take_succ_cons, List.take_zero]; go_frame))
        | ((with_reducible refine at_store ?_); first
          | (refine wpu_store G rfl (by kernel_rfl) rfl rfl (by first | rfl | assumption | simp [*]) rfl ?_; clear G; intro w G; go_frame)
          | (refine wpu_storeB G rfl (by kernel_rfl) rfl rfl (by rfl) (by rfl) (by first | rfl | assumption | simp [*]) ?_; clear G; intro w G; go_frame)
          | (refine wpu_storeS G rfl (by kernel_rfl) rfl rfl (by rfl) (by rfl) (by first | rfl | assumption | simp [*]) ?_; clear G; intro w G; go_frame))
        | ((with_reducible refine at_convert ?_); refine wpu_str G rfl (by kernel_rfl) rfl rfl ?_; go_frame)
        | fail)
      go_ret
      exact ⟨rfl, G.below⟩
  | false =>
    have e0 := local_none g h5
    cases g
    · have HR : Hid (msgV (responseR (localL st false)) = .tuple #[.agg #[str [], str [], str [], str [], .int .i64 0, .int .i64 0], .bool false]) := Lib.hid (by rw [e0]; rfl)
      have HF : Hid (forwardR (localL st false) = localL st false) := Lib.hid (by rw [e0]; rfl)
      have HP : (localL st false).length ≤ 0 := by rw [e0]; exact Nat.le_refl _
      obtain ⟨s1, s2⟩ := small_of (L := localL st false) (by rw [e0]; rfl)
      clear e0 h5
      skip
      as_aux_lemma =>
      go_enter Tryd.func6, Tryd.ntmps6
      go_wp2_with fail
      refine Calls.mono (shownRp hT G) ?_
      clear G; rintro e w ⟨rfl, G⟩
      go_wp2_with fail
      refine Calls.mono (localC hT G) ?_
      clear G; rintro e w ⟨v, rfl, G⟩
      generalize hLL : localL st false = L at G HR HF HP s1 s2
      clear hLL
      obtain ⟨ao, ac, rfl, j1, j2⟩ := G.hdr v
      unfold maxLen at j2
      have hl : ∀ {X : Assn} [Sub (sl 3 (.slice ao L.length ac) L.length (fds L)) X] (w : World), Own w0 X w → rd w 3 (.slice ao L.length ac) L.length (fds L) := fun w h => own_rd ((h.sub (sl 3 (.slice ao L.length ac) L.length (fds L))).eq (star_emp _).symm)
      go_wp2_with fail
      refine Calls.mono (responseC (L := L) s1 s2 G hl) ?_
      clear G; rintro e w ⟨rfl, G⟩
      rw [HR.out]
      go_wp2_with (first
        | (go_at_call 11; refine hold ?_)
        | ((with_reducible refine at_alloc ?_); refine wpu_new G ?_; clear G; intro w G)
        | ((with_reducible refine at_drew ?_); refine wpu_drew G ?_; clear G; intro w G)
        | go_big_skip
        | ((with_reducible refine at_load ?_); first
          | (refine wpu_load G rfl (by kernel_rfl) rfl rfl ?_; go_frame)
          | (refine wpu_loadB G rfl (by kernel_rfl) rfl (by rfl) ?_; go_frame)
          | (refine wpu_loadS G rfl (by kernel_rfl) rfl (by rfl) ?_; simp only [List.drop_succ_cons, List.drop_zero, List.take_succ_cons, List.take_zero]; go_frame))
        | ((with_reducible refine at_store ?_); first
          | (refine wpu_store G rfl (by kernel_rfl) rfl rfl (by first | rfl | assumption | simp [*]) rfl ?_; clear G; intro w G; go_frame)
          | (refine wpu_storeB G rfl (by kernel_rfl) rfl rfl (by rfl) (by rfl) (by first | rfl | assumption | simp [*]) ?_; clear G; intro w G; go_frame)
          | (refine wpu_storeS G rfl (by kernel_rfl) rfl rfl (by rfl) (by rfl) (by first | rfl | assumption | simp [*]) ?_; clear G; intro w G; go_frame))
        | ((with_reducible refine at_convert ?_); refine wpu_str G rfl (by kernel_rfl) rfl rfl ?_; go_frame)
        | fail)
      unfold Held
      refine Calls.mono (backC c false _) ?_
      rintro e w ⟨rfl, rfl⟩
      rw [HB1.out]
      go_wp2_with (first
        | (go_at_call 11; refine hold ?_)
        | fail)
      unfold Held
      refine Calls.mono (backC c true _) ?_
      rintro e w ⟨rfl, rfl⟩
      rw [HB2.out]
      have e1 : ((L.length : Int) == 0) = true := by rw [beq_iff_eq]; omega
      go_wp2_with (first
        | go_big_skip
        | ((with_reducible refine at_eql ?_); refine wpu_eql rfl (by kernel_rfl) rfl rfl e1 ?_; go_frame)
        | (go_at_call 8; refine hold ?_)
        | ((with_reducible refine at_alloc ?_); refine wpu_new G ?_; clear G; intro w G)
        | ((with_reducible refine at_drew ?_); refine wpu_drew G ?_; clear G; intro w G)
        | go_big_skip
        | ((with_reducible refine at_load ?_); first
          | (refine wpu_load G rfl (by kernel_rfl) rfl rfl ?_; go_frame)
          | (refine wpu_loadB G rfl (by kernel_rfl) rfl (by rfl) ?_; go_frame)
          | (refine wpu_loadS G rfl (by kernel_rfl) rfl (by rfl) ?_; simp only [List.drop_succ_cons, List.drop_zero, List.take_succ_cons, List.take_zero]; go_frame))
        | ((with_reducible refine at_store ?_); first
          | (refine wpu_store G rfl (by kernel_rfl) rfl rfl (by first | rfl | assumption | simp [*]) rfl ?_; clear G; intro w G; go_frame)
          | (refine wpu_storeB G rfl (by kernel_rfl) rfl rfl (by rfl) (by rfl) (by first | rfl | assumption | simp [*]) ?_; clear G; intro w G; go_frame)
          | (refine wpu_storeS G rfl (by kernel_rfl) rfl rfl (by rfl) (by rfl) (by first | rfl | assumption | simp [*]) ?_; clear G; intro w G; go_frame))
        | ((with_reducible refine at_convert ?_); refine wpu_str G rfl (by kernel_rfl) rfl rfl ?_; go_frame)
        | fail)
      unfold Held
      refine Calls.mono (localC hT G) ?_
      clear G; rintro e w ⟨v2, rfl, G⟩
      generalize localL n false = L2 at G H2
      obtain ⟨bo, bc, rfl, k1, k2⟩ := G.hdr v2
      unfold maxLen at k2
      have p1 : decide ((L2.length : Int) > 0) = true := by simp; omega
      go_wp2_with (first
        | go_big_skip
        | ((with_reducible refine at_gtr ?_); refine wpu_gtr rfl (by kernel_rfl) rfl rfl p1 ?_; go_frame)
        | ((with_reducible refine at_neq ?_); refine wpu_neqE rfl (by kernel_rfl) rfl rfl hd ?_; go_frame)
        | ((with_reducible refine at_alloc ?_); refine wpu_new G ?_; clear G; intro w G)
        | ((with_reducible refine at_drew ?_); refine wpu_drew G ?_; clear G; intro w G)
        | go_big_skip
        | ((with_reducible refine at_load ?_); first
          | (refine wpu_load G rfl (by kernel_rfl) rfl rfl ?_; go_frame)
          | (refine wpu_loadB G rfl (by kernel_rfl) rfl (by rfl) ?_; go_frame)
          | (refine wpu_loadS G rfl (by kernel_rfl) rfl (by rfl) ?_; simp only [List.drop_succ_cons, List.drop_zero, List.take_succ_cons, List.take_zero]; go_frame))
        | ((with_reducible refine at_store ?_); first
          | (refine wpu_store G rfl (by kernel_rfl) rfl rfl (by first | rfl | assumption | simp [*]) rfl ?_; clear G; intro w G; go_frame)
          | (refine wpu_storeB G rfl (by kernel_rfl) rfl rfl (by rfl) (by rfl) (by first | rfl | assumption | simp [*]) ?_; clear G; intro w G; go_frame)
          | (refine wpu_storeS G rfl (by kernel_rfl) rfl rfl (by rfl) (by rfl) (by first | rfl | assumption | simp [*]) ?_; clear G; intro w G; go_frame))
        | ((with_reducible refine at_convert ?_); refine wpu_str G rfl (by kernel_rfl) rfl rfl ?_; go_frame)
        | fail)
      go_ret
      exact ⟨rfl, G.below⟩
    · have HR : Hid (msgV (responseR (localL st true)) = .tuple #[.agg #[str [], str [], str [], str [], .int .i64 0, .int .i64 0], .bool false]) := Lib.hid (by rw [e0]; rfl)
      have HF : Hid (forwardR (localL st true) = localL st true) := Lib.hid (by rw [e0]; rfl)
      have HP : (localL st true).length ≤ 0 := by rw [e0]; exact Nat.le_refl _
      obtain ⟨s1, s2⟩ := small_of (L := localL st true) (by rw [e0]; rfl)
      clear e0 h5
      skip
      as_aux_lemma =>
      go_enter Tryd.func6, Tryd.ntmps6
      go_wp2_with fail
      refine Calls.mono (shownRp hT G) ?_
      clear G; rintro e w ⟨rfl, G⟩
      go_wp2_with fail
      refine Calls.mono (localC hT G) ?_
      clear G; rintro e w ⟨v, rfl, G⟩
      generalize hLL : localL st true = L at G HR HF HP s1 s2
      clear hLL
      obtain ⟨ao, ac, rfl, j1, j2⟩ := G.hdr v
      unfold maxLen at j2
      have hl : ∀ {X : Assn} [Sub (sl 3 (.slice ao L.length ac) L.length (fds L)) X] (w : World), Own w0 X w → rd w 3 (.slice ao L.length ac) L.length (fds L) := fun w h => own_rd ((h.sub (sl 3 (.slice ao L.length ac) L.length (fds L))).eq (star_emp _).symm)
      go_wp2_with fail
      refine Calls.mono (responseC (L := L) s1 s2 G hl) ?_
      clear G; rintro e w ⟨rfl, G⟩
      rw [HR.out]
      go_wp2_with (first
        | (go_at_call 11; refine hold ?_)
        | ((with_reducible refine at_alloc ?_); refine wpu_new G ?_; clear G; intro w G)
        | ((with_reducible refine at_drew ?_); refine wpu_drew G ?_; clear G; intro w G)
        | go_big_skip
        | ((with_reducible refine at_load ?_); first
          | (refine wpu_load G rfl (by kernel_rfl) rfl rfl ?_; go_frame)
          | (refine wpu_loadB G rfl (by kernel_rfl) rfl (by rfl) ?_; go_frame)
          | (refine wpu_loadS G rfl (by kernel_rfl) rfl (by rfl) ?_; simp only [List.drop_succ_cons, List.drop_zero, List.take_succ_cons, List.take_zero]; go_frame))
        | ((with_reducible refine at_store ?_); first
          | (refine wpu_store G rfl (by kernel_rfl) rfl rfl (by first | rfl | assumption | simp [*]) rfl ?_; clear G; intro w G; go_frame)
          | (refine wpu_storeB G rfl (by kernel_rfl) rfl rfl (by rfl) (by rfl) (by first | rfl | assumption | simp [*]) ?_; clear G; intro w G; go_frame)
          | (refine wpu_storeS G rfl (by kernel_rfl) rfl rfl (by rfl) (by rfl) (by first | rfl | assumption | simp [*]) ?_; clear G; intro w G; go_frame))
        | ((with_reducible refine at_convert ?_); refine wpu_str G rfl (by kernel_rfl) rfl rfl ?_; go_frame)
        | fail)
      unfold Held
      refine Calls.mono (backC c false _) ?_
      rintro e w ⟨rfl, rfl⟩
      rw [HB1.out]
      go_wp2_with (first
        | (go_at_call 11; refine hold ?_)
        | fail)
      unfold Held
      refine Calls.mono (backC c true _) ?_
      rintro e w ⟨rfl, rfl⟩
      rw [HB2.out]
      have e1 : ((L.length : Int) == 0) = true := by rw [beq_iff_eq]; omega
      go_wp2_with (first
        | go_big_skip
        | ((with_reducible refine at_eql ?_); refine wpu_eql rfl (by kernel_rfl) rfl rfl e1 ?_; go_frame)
        | (go_at_call 8; refine hold ?_)
        | ((with_reducible refine at_alloc ?_); refine wpu_new G ?_; clear G; intro w G)
        | ((with_reducible refine at_drew ?_); refine wpu_drew G ?_; clear G; intro w G)
        | go_big_skip
        | ((with_reducible refine at_load ?_); first
          | (refine wpu_load G rfl (by kernel_rfl) rfl rfl ?_; go_frame)
          | (refine wpu_loadB G rfl (by kernel_rfl) rfl (by rfl) ?_; go_frame)
          | (refine wpu_loadS G rfl (by kernel_rfl) rfl (by rfl) ?_; simp only [List.drop_succ_cons, List.drop_zero, List.take_succ_cons, List.take_zero]; go_frame))
        | ((with_reducible refine at_store ?_); first
          | (refine wpu_store G rfl (by kernel_rfl) rfl rfl (by first | rfl | assumption | simp [*]) rfl ?_; clear G; intro w G; go_frame)
          | (refine wpu_storeB G rfl (by kernel_rfl) rfl rfl (by rfl) (by rfl) (by first | rfl | assumption | simp [*]) ?_; clear G; intro w G; go_frame)
          | (refine wpu_storeS G rfl (by kernel_rfl) rfl rfl (by rfl) (by rfl) (by first | rfl | assumption | simp [*]) ?_; clear G; intro w G; go_frame))
        | ((with_reducible refine at_convert ?_); refine wpu_str G rfl (by kernel_rfl) rfl rfl ?_; go_frame)
        | fail)
      unfold Held
      refine Calls.mono (localC hT G) ?_
      clear G; rintro e w ⟨v2, rfl, G⟩
      generalize localL n true = L2 at G H2
      obtain ⟨bo, bc, rfl, k1, k2⟩ := G.hdr v2
      unfold maxLen at k2
      have p1 : decide ((L2.length : Int) > 0) = true := by simp; omega
      go_wp2_with (first
        | go_big_skip
        | ((with_reducible refine at_gtr ?_); refine wpu_gtr rfl (by kernel_rfl) rfl rfl p1 ?_; go_frame)
        | ((with_reducible refine at_neq ?_); refine wpu_neqE rfl (by kernel_rfl) rfl rfl hd ?_; go_frame)
        | ((with_reducible refine at_alloc ?_); refine wpu_new G ?_; clear G; intro w G)
        | ((with_reducible refine at_drew ?_); refine wpu_drew G ?_; clear G; intro w G)
        | go_big_skip
        | ((with_reducible refine at_load ?_); first
          | (refine wpu_load G rfl (by kernel_rfl) rfl rfl ?_; go_frame)
          | (refine wpu_loadB G rfl (by kernel_rfl) rfl (by rfl) ?_; go_frame)
          | (refine wpu_loadS G rfl (by kernel_rfl) rfl (by rfl) ?_; simp only [List.drop_succ_cons, List.drop_zero, List.take_succ_cons, List.take_zero]; go_frame))
        | ((with_reducible refine at_store ?_); first
          | (refine wpu_store G rfl (by kernel_rfl) rfl rfl (by first | rfl | assumption | simp [*]) rfl ?_; clear G; intro w G; go_frame)
          | (refine wpu_storeB G rfl (by kernel_rfl) rfl rfl (by rfl) (by rfl) (by first | rfl | assumption | simp [*]) ?_; clear G; intro w G; go_frame)
          | (refine wpu_storeS G rfl (by kernel_rfl) rfl rfl (by rfl) (by rfl) (by first | rfl | assumption | simp [*]) ?_; clear G; intro w G; go_frame))
        | ((with_reducible refine at_convert ?_); refine wpu_str G rfl (by kernel_rfl) rfl rfl ?_; go_frame)
        | fail)
      go_ret
      exact ⟨rfl, G.below⟩

theorem pow10_right {W : World} (hL : laidMetH Tryd.prog Rows.replyRightRow.laid W) : Pow10 W := by
  have h1 := (laidMetH_iff.1 hL).1
  have h2 : laidMet Tryd.prog (_ :: _ :: ("internal/strconv.uint64pow10", Lib.tabData .u64 Lib.pow10Tab) :: _) W := h1
  have h3 := laidMet.tail (laidMet.tail h2)
  exact Lib.tabIs_of_head (g := (Tryd.prog.globalNamed "internal/strconv.uint64pow10").get!) (by kernel_rfl) (by kernel_rfl) Tryd.underlying100 Tryd.underlying82 (by kernel_rfl) (by kernel_rfl) h3

theorem contract {H : Type} {enc : TypeId × Value → H} {W : World} {vs : List Value} {ds : List (DataW H)}
    (hA : Args enc Tryd.prog W [3, 4, 22] vs ds) (hsz : (DataW.weightsEach Tryd.prog [3, 4, 22] ds).all (· ≤ reachBytes) = true) (hL : laidMetH Tryd.prog Rows.replyRightRow.laid W) :
    Calls Tryd.prog 6 vs.toArray W fun e W' => e = .returned (.bool true) ∧ Below W.heap.size W W' := by
  obtain ⟨v0, _, d0, _, rfl, rfl, h0, hA⟩ := args_cons hA
  obtain ⟨v1, _, d1, _, rfl, rfl, h1, hA⟩ := args_cons hA
  obtain ⟨v2, _, d2, _, rfl, rfl, h2, hA⟩ := args_cons hA
  obtain ⟨rfl, rfl⟩ := args_nil hA
  obtain ⟨st, rfl, -⟩ := arg_i64 Tryd.underlying3 h0
  obtain ⟨g, rfl⟩ := arg_bool Tryd.underlying4 h1
  obtain ⟨n, rfl, -⟩ := arg_u32 Tryd.underlying22 h2
  exact rightW (pow10_right hL) st g n



theorem spec {H : Type} : ∀ ds : List (DataW H), ds.length = 3 → Rows.replyRightSpec.fn H ds = { results := [.lit (.bool true)], args := ds }
  | [_, _, _], _ => rfl
  | [], h => by cases h
  | [_], h => by cases h
  | [_, _], h => by cases h
  | _ :: _ :: _ :: _ :: _, h => by simp at h
theorem door_met (os : Os) (args : Array Value) : laidMetH Tryd.prog Rows.replyRightRow.laid ((World.setRow (World.doorLaid Tryd.prog 72 os) (Tryd.prog.globalNamed "unicode/utf8.first").get! (Go.Pinned.utf8FirstZ.map fun z : Nat => Value.int .u8 (z : Int)).toArray).forCall (fun _ _ => 0) ⟨#[], args, []⟩).memory :=
  laidMetH_of_parts3 (fuel := 8) (laidMet_of_run' 8 (by kernel_rfl) (by kernel_rfl)) (by kernel_rfl) (by kernel_rfl)
set_option maxRecDepth 100000 in
theorem lifted (os : Os) (started : os.Started) (H : Type) (enc : TypeId × Value → H) :
    ReturnsInHanded {} Tryd.checked os 6 .any (fun w args => (Rows.replyRightSpec.pre enc Tryd.prog Tryd.f6 Rows.replyRightRow.domain false w args ∧ laidMetH Tryd.prog Rows.replyRightRow.laid w) ∧ sizedMet enc Tryd.prog Tryd.f6 (OpenSpec.ofChange Rows.replyRightSpec) false w args)
      (Rows.replyRightSpec.post enc Tryd.prog Tryd.f6 false true false false) :=
  lifted_of_law_laid (C := Tryd.checked) (fn := Tryd.f6) (s := Rows.replyRightSpec) (tb := 4) (by kernel_rfl) started (by kernel_rfl) Tryd.func6
    (ChangeSpec.witness_shaped (enc := enc) (C := Tryd.checked) (os := os) (X := fun w _ => laidMetH Tryd.prog Rows.replyRightRow.laid w) false (World.setRow (World.doorLaid Tryd.prog 72 os) (Tryd.prog.globalNamed "unicode/utf8.first").get! (Go.Pinned.utf8FirstZ.map fun z : Nat => Value.int .u8 (z : Int)).toArray) #[.int .i64 0, .bool false, .int .u32 0] 8 rfl (World.shaped_of_RefB (by kernel_rfl) (by kernel_rfl)) (by kernel_rfl) (by kernel_rfl) (by kernel_rfl) (door_met os _))
    rfl spec (by kernel_rfl) Tryd.underlying4 (by kernel_rfl) (by kernel_rfl) (fun _ _ _ h1 h2 h3 => contract h1 h2 h3)

theorem holds : Rows.ReplyRightSaid :=
  OpenClaim.holds_of_wide 6 Tryd.f6 rfl rfl rfl rfl rfl rfl rfl ⟨rfl, rfl, rfl, rfl, rfl⟩ rfl rfl rfl rfl rfl (by kernel_rfl) Tryd.func6 (by kernel_rfl)
    (of_decide_eq_true (by kernel_rfl)) (by unfold Func.isWrapper; first | (rw [if_pos (by decide +kernel)]; kernel_rfl) | (rw [if_neg (by decide +kernel)]; exact ⟨rfl, rfl⟩))
    (fun os started H enc _ => lifted os started H enc)

theorem proved : Rows.ReplyRightCardSaid :=
  Claim7.holds_tied_plain_at .later [] [.data, .data, .data, .data, .sentinel, .sentinel, .pinned] true (true, "91958e7d5246677641cc4049b7f4c48f57ef06c8a56922628399f975944d2110") true
    holds (fun _ h => by cases h) (by kernel_rfl) (fun _ h => by cases h) replyRight_row_tie rfl ⟨rfl, rfl⟩ (by kernel_rfl) rfl
    (fun f fn hf hfn => by
      obtain rfl : f = 6 := Option.some.inj ((show Tryd.prog.funcNamed "flume/flumelaw17.ReplyRight" = some 6 by kernel_rfl).symm.trans hf) |>.symm
      obtain rfl : fn = Tryd.f6 := (Option.some.inj (Tryd.func6.symm.trans hfn)).symm
      exact ⟨by kernel_rfl, fun j t ht => by
        rw [Tryd.params6] at ht
        have hm : t ∈ [3, 4, 22] := by simpa using Array.mem_of_getElem? ht
        have hall : ([3, 4, 22].all fun u => !Tryd.prog.wantsStandIn u) = true := by kernel_rfl
        exact (show Tryd.prog.wantsStandIn t = false by simpa using List.all_eq_true.1 hall t hm)⟩)
    (by kernel_rfl)
end Go.Proofs.YtnjldofiogbolaaDoor.replyRight
