
/-
  StreamIds: each call answers what the document says.
-/
import Derived.Test.YtadbpekkmlblmaaStOps
import Derived.Test.YtadbpekkmlblmaaIdsRef4
import Derived.Test.YtadbpekkmlblmaaLaw
namespace Go.Proofs.Ytadbpekkmlblmaa.streamIds
open Go.RowKit Go.Sl Go.ChangeShapes



theorem opened_cells (s : IdS) (id : Int) : ∃ (x : Bool) (y z : Int), (s.opened id).2 = [.bool x, .int .u32 y, .int .i64 z] := by
  unfold IdS.opened
  split
  · split
    · exact ⟨_, _, _, rfl⟩
    · exact ⟨_, _, _, rfl⟩
  · exact ⟨_, _, _, rfl⟩


set_option maxHeartbeats 4000000 in
set_option maxRecDepth 100000 in
theorem idsW {w0 : World} {sv : Bool} {m : Int} {v : Value} {n : Nat} {xs : List Value} (m1 : -9223372036854775808 ≤ m) (m2 : m ≤ 9223372036854775807) (hr : rd w0 2 v n xs)
    (hel : ∀ i, i < n → ∃ a b : Int, (xs.drop (i * 2)).take 2 = [.int .i64 a, .int .i64 b] ∧ (-9223372036854775808 ≤ a ∧ a ≤ 9223372036854775807) ∧ (-9223372036854775808 ≤ b ∧ b ≤ 9223372036854775807)) :
    Calls Try.prog 7 #[.bool sv, .int .i64 m, v] w0 fun e w' => e = .returned (.bool true) ∧ Below w0.heap.size w0 w' := by
  have G := own_begin w0
  obtain ⟨ao, cap, rfl, j1, j2, -⟩ := id hr
  unfold maxLen at j2
  have HR := Lib.hid hr
  clear hr
  go_enter Try.func7, Try.ntmps7
  go_wp2_with fail
  refine Calls.mono (shownSt G) ?_
  clear G; rintro e w ⟨rfl, G⟩
  go_wp2_with fail
  refine Calls.mono (newIds G) ?_
  clear G; rintro e w ⟨a, rfl, G⟩
  go_wp2_with fail
  refine Calls.mono (newIdsR G) ?_
  clear G; rintro e w ⟨c, rfl, G⟩
  obtain ⟨s0, hs0⟩ : ∃ s, newIdS sv m = s := ⟨_, rfl⟩
  have hI0 : s0.In 0 := hs0 ▸ IdS.new_in sv m m1 m2
  rw [hs0] at G
  clear hs0
  go_wp2_with fail
  go_loopw [10] (fun i wr => ∃ (k : Nat) (s : IdS), k ≤ n ∧ k ≤ 100 ∧ i = .int .i64 k ∧ s.In k ∧ Own w0 (idsA a s * (idsR c s * emp)) wr) (fun i _ => n - (intOf i).toNat)
  case atStart => exact ⟨0, s0, Nat.zero_le _, by decide, rfl, hI0, G.give⟩
  case round =>
    clear G hI0 s0
    obtain ⟨k, s, hk, hk2, rfl, hI, G⟩ := hrel
    by_cases hlt : k < n ∧ k < 100
    · obtain ⟨hlt, hlt2⟩ := hlt
      obtain ⟨kd, id, hx, ⟨b1, b2⟩, b3, b4⟩ := hel k hlt
      obtain ⟨ad, rfl⟩ := rd_some HR.out (by omega)
      have HX := Lib.hid hx
      clear hx
      by_cases h1 : kd = 1
      · subst h1
        have hI' := hI.open id
        go_wp2_with (first
          | ((with_reducible refine at_alloc ?_); refine wpu_new G ?_; clear G; intro w G)
          | ((with_reducible refine at_drew ?_); refine wpu_drew G ?_; clear G; intro w G)
          | ((with_reducible refine at_load ?_); first
            | (refine wpu_load G rfl rfl rfl rfl ?_; go_frame)
            | (refine wpu_loadB G rfl rfl rfl (by rfl) ?_; go_frame)
            | (refine wpu_loadS G rfl rfl rfl (by rfl) ?_; simp only [List.drop_succ_cons, List.drop_zero, List.take_succ_cons, List.take_zero]; go_frame))
          | ((with_reducible refine at_store ?_); first
            | (refine wpu_store G rfl rfl rfl rfl (by first | rfl | assumption | simp [*]) rfl ?_; clear G; intro w G; go_frame)
            | (refine wpu_storeB G rfl rfl rfl rfl (by rfl) (by rfl) (by first | rfl | assumption | simp [*]) ?_; clear G; intro w G; go_frame)
            | (refine wpu_storeS G rfl rfl rfl rfl (by rfl) (by rfl) (by first | rfl | assumption | simp [*]) ?_; clear G; intro w G; go_frame))
          | ((with_reducible refine at_convert ?_); refine wpu_str G rfl rfl rfl rfl ?_; go_frame)
          | ((with_reducible refine at_slice ?_); first
            | (refine wpu_sliceLo rfl rfl rfl rfl (by first | rfl | omega) (by omega) (by omega) ?_; go_frame)
            | (refine wpu_sliceLH rfl rfl rfl rfl rfl (by first | rfl | omega) (by first | rfl | omega) (by omega) (by omega) ?_; go_frame))
          | ((with_reducible refine at_load ?_); refine wpu_loadF (HR.out.old G) HX.out rfl rfl rfl rfl ?_; go_frame)
          | ((with_reducible refine at_load ?_); refine wpu_loadF0 (HR.out.old G) HX.out rfl rfl rfl rfl ?_; go_frame)
          | fail)
        refine Calls.mono (openI (G.pullF (idsA a)) hI.ok (by omega) b3 b4) ?_
        clear G; rintro e w ⟨rfl, G⟩
        go_wp2_with (first
          | ((with_reducible refine at_alloc ?_); refine wpu_new G ?_; clear G; intro w G)
          | ((with_reducible refine at_drew ?_); refine wpu_drew G ?_; clear G; intro w G)
          | ((with_reducible refine at_load ?_); first
            | (refine wpu_load G rfl rfl rfl rfl ?_; go_frame)
            | (refine wpu_loadB G rfl rfl rfl (by rfl) ?_; go_frame)
            | (refine wpu_loadS G rfl rfl rfl (by rfl) ?_; simp only [List.drop_succ_cons, List.drop_zero, List.take_succ_cons, List.take_zero]; go_frame))
          | ((with_reducible refine at_store ?_); first
            | (refine wpu_store G rfl rfl rfl rfl (by first | rfl | assumption | simp [*]) rfl ?_; clear G; intro w G; go_frame)
            | (refine wpu_storeB G rfl rfl rfl rfl (by rfl) (by rfl) (by first | rfl | assumption | simp [*]) ?_; clear G; intro w G; go_frame)
            | (refine wpu_storeS G rfl rfl rfl rfl (by rfl) (by rfl) (by first | rfl | assumption | simp [*]) ?_; clear G; intro w G; go_frame))
          | ((with_reducible refine at_convert ?_); refine wpu_str G rfl rfl rfl rfl ?_; go_frame)
          | ((with_reducible refine at_slice ?_); first
            | (refine wpu_sliceLo rfl rfl rfl rfl (by first | rfl | omega) (by omega) (by omega) ?_; go_frame)
            | (refine wpu_sliceLH rfl rfl rfl rfl rfl (by first | rfl | omega) (by first | rfl | omega) (by omega) (by omega) ?_; go_frame))
          | ((with_reducible refine at_load ?_); refine wpu_loadF (HR.out.old G) HX.out rfl rfl rfl rfl ?_; go_frame)
          | ((with_reducible refine at_load ?_); refine wpu_loadF0 (HR.out.old G) HX.out rfl rfl rfl rfl ?_; go_frame)
          | fail)
        refine Calls.mono (openR (G.pullF (idsR c)) hI (by omega) b3 b4) ?_
        clear hI
        have hI := hI'
        clear hI'
        clear G; rintro e w ⟨rfl, G⟩
        obtain ⟨x, y, z, hq⟩ := opened_cells s id
        rw [hq]
        generalize (s.opened id).1 = s' at G hI
        clear hq
        go_wp2_with (first
          | ((with_reducible refine at_alloc ?_); refine wpu_new G ?_; clear G; intro w G)
          | ((with_reducible refine at_drew ?_); refine wpu_drew G ?_; clear G; intro w G)
          | ((with_reducible refine at_load ?_); first
            | (refine wpu_load G rfl rfl rfl rfl ?_; go_frame)
            | (refine wpu_loadB G rfl rfl rfl (by rfl) ?_; go_frame)
            | (refine wpu_loadS G rfl rfl rfl (by rfl) ?_; simp only [List.drop_succ_cons, List.drop_zero, List.take_succ_cons, List.take_zero]; go_frame))
          | ((with_reducible refine at_store ?_); first
            | (refine wpu_store G rfl rfl rfl rfl (by first | rfl | assumption | simp [*]) rfl ?_; clear G; intro w G; go_frame)
            | (refine wpu_storeB G rfl rfl rfl rfl (by rfl) (by rfl) (by first | rfl | assumption | simp [*]) ?_; clear G; intro w G; go_frame)
            | (refine wpu_storeS G rfl rfl rfl rfl (by rfl) (by rfl) (by first | rfl | assumption | simp [*]) ?_; clear G; intro w G; go_frame))
          | ((with_reducible refine at_convert ?_); refine wpu_str G rfl rfl rfl rfl ?_; go_frame)
          | ((with_reducible refine at_slice ?_); first
            | (refine wpu_sliceLo rfl rfl rfl rfl (by first | rfl | omega) (by omega) (by omega) ?_; go_frame)
            | (refine wpu_sliceLH rfl rfl rfl rfl rfl (by first | rfl | omega) (by first | rfl | omega) (by omega) (by omega) ?_; go_frame))
          | ((with_reducible refine at_load ?_); refine wpu_loadF (HR.out.old G) HX.out rfl rfl rfl rfl ?_; go_frame)
          | ((with_reducible refine at_load ?_); refine wpu_loadF0 (HR.out.old G) HX.out rfl rfl rfl rfl ?_; go_frame)
          | fail)
        refine Calls.mono (activeI (n := k + 1) (G.pullF (idsA a)) hI.ok (by omega)) ?_
        clear G; rintro e w ⟨rfl, G⟩
        go_wp2_with (first
          | ((with_reducible refine at_alloc ?_); refine wpu_new G ?_; clear G; intro w G)
          | ((with_reducible refine at_drew ?_); refine wpu_drew G ?_; clear G; intro w G)
          | ((with_reducible refine at_load ?_); first
            | (refine wpu_load G rfl rfl rfl rfl ?_; go_frame)
            | (refine wpu_loadB G rfl rfl rfl (by rfl) ?_; go_frame)
            | (refine wpu_loadS G rfl rfl rfl (by rfl) ?_; simp only [List.drop_succ_cons, List.drop_zero, List.take_succ_cons, List.take_zero]; go_frame))
          | ((with_reducible refine at_store ?_); first
            | (refine wpu_store G rfl rfl rfl rfl (by first | rfl | assumption | simp [*]) rfl ?_; clear G; intro w G; go_frame)
            | (refine wpu_storeB G rfl rfl rfl rfl (by rfl) (by rfl) (by first | rfl | assumption | simp [*]) ?_; clear G; intro w G; go_frame)
            | (refine wpu_storeS G rfl rfl rfl rfl (by rfl) (by rfl) (by first | rfl | assumption | simp [*]) ?_; clear G; intro w G; go_frame))
          | ((with_reducible refine at_convert ?_); refine wpu_str G rfl rfl rfl rfl ?_; go_frame)
          | ((with_reducible refine at_slice ?_); first
            | (refine wpu_sliceLo rfl rfl rfl rfl (by first | rfl | omega) (by omega) (by omega) ?_; go_frame)
            | (refine wpu_sliceLH rfl rfl rfl rfl rfl (by first | rfl | omega) (by first | rfl | omega) (by omega) (by omega) ?_; go_frame))
          | ((with_reducible refine at_load ?_); refine wpu_loadF (HR.out.old G) HX.out rfl rfl rfl rfl ?_; go_frame)
          | ((with_reducible refine at_load ?_); refine wpu_loadF0 (HR.out.old G) HX.out rfl rfl rfl rfl ?_; go_frame)
          | fail)
        refine Calls.mono (activeR (G.pullF (idsR c)) hI (by omega)) ?_
        clear G; rintro e w ⟨rfl, G⟩
        generalize s'.act.length - s'.theirs = q1
        generalize s'.theirs = q2
        go_wp2_with (first
          | ((with_reducible refine at_alloc ?_); refine wpu_new G ?_; clear G; intro w G)
          | ((with_reducible refine at_drew ?_); refine wpu_drew G ?_; clear G; intro w G)
          | ((with_reducible refine at_load ?_); first
            | (refine wpu_load G rfl rfl rfl rfl ?_; go_frame)
            | (refine wpu_loadB G rfl rfl rfl (by rfl) ?_; go_frame)
            | (refine wpu_loadS G rfl rfl rfl (by rfl) ?_; simp only [List.drop_succ_cons, List.drop_zero, List.take_succ_cons, List.take_zero]; go_frame))
          | ((with_reducible refine at_store ?_); first
            | (refine wpu_store G rfl rfl rfl rfl (by first | rfl | assumption | simp [*]) rfl ?_; clear G; intro w G; go_frame)
            | (refine wpu_storeB G rfl rfl rfl rfl (by rfl) (by rfl) (by first | rfl | assumption | simp [*]) ?_; clear G; intro w G; go_frame)
            | (refine wpu_storeS G rfl rfl rfl rfl (by rfl) (by rfl) (by first | rfl | assumption | simp [*]) ?_; clear G; intro w G; go_frame))
          | ((with_reducible refine at_convert ?_); refine wpu_str G rfl rfl rfl rfl ?_; go_frame)
          | ((with_reducible refine at_slice ?_); first
            | (refine wpu_sliceLo rfl rfl rfl rfl (by first | rfl | omega) (by omega) (by omega) ?_; go_frame)
            | (refine wpu_sliceLH rfl rfl rfl rfl rfl (by first | rfl | omega) (by first | rfl | omega) (by omega) (by omega) ?_; go_frame))
          | ((with_reducible refine at_load ?_); refine wpu_loadF (HR.out.old G) HX.out rfl rfl rfl rfl ?_; go_frame)
          | ((with_reducible refine at_load ?_); refine wpu_loadF0 (HR.out.old G) HX.out rfl rfl rfl rfl ?_; go_frame)
          | fail)
        refine Calls.mono (lastI (G.pullF (idsA a))) ?_
        clear G; rintro e w ⟨rfl, G⟩
        go_wp2_with (first
          | ((with_reducible refine at_alloc ?_); refine wpu_new G ?_; clear G; intro w G)
          | ((with_reducible refine at_drew ?_); refine wpu_drew G ?_; clear G; intro w G)
          | ((with_reducible refine at_load ?_); first
            | (refine wpu_load G rfl rfl rfl rfl ?_; go_frame)
            | (refine wpu_loadB G rfl rfl rfl (by rfl) ?_; go_frame)
            | (refine wpu_loadS G rfl rfl rfl (by rfl) ?_; simp only [List.drop_succ_cons, List.drop_zero, List.take_succ_cons, List.take_zero]; go_frame))
          | ((with_reducible refine at_store ?_); first
            | (refine wpu_store G rfl rfl rfl rfl (by first | rfl | assumption | simp [*]) rfl ?_; clear G; intro w G; go_frame)
            | (refine wpu_storeB G rfl rfl rfl rfl (by rfl) (by rfl) (by first | rfl | assumption | simp [*]) ?_; clear G; intro w G; go_frame)
            | (refine wpu_storeS G rfl rfl rfl rfl (by rfl) (by rfl) (by first | rfl | assumption | simp [*]) ?_; clear G; intro w G; go_frame))
          | ((with_reducible refine at_convert ?_); refine wpu_str G rfl rfl rfl rfl ?_; go_frame)
          | ((with_reducible refine at_slice ?_); first
            | (refine wpu_sliceLo rfl rfl rfl rfl (by first | rfl | omega) (by omega) (by omega) ?_; go_frame)
            | (refine wpu_sliceLH rfl rfl rfl rfl rfl (by first | rfl | omega) (by first | rfl | omega) (by omega) (by omega) ?_; go_frame))
          | ((with_reducible refine at_load ?_); refine wpu_loadF (HR.out.old G) HX.out rfl rfl rfl rfl ?_; go_frame)
          | ((with_reducible refine at_load ?_); refine wpu_loadF0 (HR.out.old G) HX.out rfl rfl rfl rfl ?_; go_frame)
          | fail)
        refine Calls.mono (lastR (G.pullF (idsR c))) ?_
        clear G; rintro e w ⟨rfl, G⟩
        generalize s'.last = q3
        go_wp2_with (first
          | ((with_reducible refine at_alloc ?_); refine wpu_new G ?_; clear G; intro w G)
          | ((with_reducible refine at_drew ?_); refine wpu_drew G ?_; clear G; intro w G)
          | ((with_reducible refine at_load ?_); first
            | (refine wpu_load G rfl rfl rfl rfl ?_; go_frame)
            | (refine wpu_loadB G rfl rfl rfl (by rfl) ?_; go_frame)
            | (refine wpu_loadS G rfl rfl rfl (by rfl) ?_; simp only [List.drop_succ_cons, List.drop_zero, List.take_succ_cons, List.take_zero]; go_frame))
          | ((with_reducible refine at_store ?_); first
            | (refine wpu_store G rfl rfl rfl rfl (by first | rfl | assumption | simp [*]) rfl ?_; clear G; intro w G; go_frame)
            | (refine wpu_storeB G rfl rfl rfl rfl (by rfl) (by rfl) (by first | rfl | assumption | simp [*]) ?_; clear G; intro w G; go_frame)
            | (refine wpu_storeS G rfl rfl rfl rfl (by rfl) (by rfl) (by first | rfl | assumption | simp [*]) ?_; clear G; intro w G; go_frame))
          | ((with_reducible refine at_convert ?_); refine wpu_str G rfl rfl rfl rfl ?_; go_frame)
          | ((with_reducible refine at_slice ?_); first
            | (refine wpu_sliceLo rfl rfl rfl rfl (by first | rfl | omega) (by omega) (by omega) ?_; go_frame)
            | (refine wpu_sliceLH rfl rfl rfl rfl rfl (by first | rfl | omega) (by first | rfl | omega) (by omega) (by omega) ?_; go_frame))
          | ((with_reducible refine at_load ?_); refine wpu_loadF (HR.out.old G) HX.out rfl rfl rfl rfl ?_; go_frame)
          | ((with_reducible refine at_load ?_); refine wpu_loadF0 (HR.out.old G) HX.out rfl rfl rfl rfl ?_; go_frame)
          | fail)
        go_roundw
        case rel => exact ⟨k + 1, s', by omega, by omega, by go_num, hI, G.give⟩
        case measure => simp [intOf] <;> omega
      · have h1b : (kd == 1) = false := by simpa using h1
        have h1d : decide (kd = 1) = false := by simpa using h1
        by_cases h2 : kd = 2
        · subst h2
          have hI' := hI.next
          go_wp2_with (first
            | ((with_reducible refine at_alloc ?_); refine wpu_new G ?_; clear G; intro w G)
            | ((with_reducible refine at_drew ?_); refine wpu_drew G ?_; clear G; intro w G)
            | ((with_reducible refine at_load ?_); first
              | (refine wpu_load G rfl rfl rfl rfl ?_; go_frame)
              | (refine wpu_loadB G rfl rfl rfl (by rfl) ?_; go_frame)
              | (refine wpu_loadS G rfl rfl rfl (by rfl) ?_; simp only [List.drop_succ_cons, List.drop_zero, List.take_succ_cons, List.take_zero]; go_frame))
            | ((with_reducible refine at_store ?_); first
              | (refine wpu_store G rfl rfl rfl rfl (by first | rfl | assumption | simp [*]) rfl ?_; clear G; intro w G; go_frame)
              | (refine wpu_storeB G rfl rfl rfl rfl (by rfl) (by rfl) (by first | rfl | assumption | simp [*]) ?_; clear G; intro w G; go_frame)
              | (refine wpu_storeS G rfl rfl rfl rfl (by rfl) (by rfl) (by first | rfl | assumption | simp [*]) ?_; clear G; intro w G; go_frame))
            | ((with_reducible refine at_convert ?_); refine wpu_str G rfl rfl rfl rfl ?_; go_frame)
            | ((with_reducible refine at_slice ?_); first
              | (refine wpu_sliceLo rfl rfl rfl rfl (by first | rfl | omega) (by omega) (by omega) ?_; go_frame)
              | (refine wpu_sliceLH rfl rfl rfl rfl rfl (by first | rfl | omega) (by first | rfl | omega) (by omega) (by omega) ?_; go_frame))
            | ((with_reducible refine at_load ?_); refine wpu_loadF (HR.out.old G) HX.out rfl rfl rfl rfl ?_; go_frame)
            | ((with_reducible refine at_load ?_); refine wpu_loadF0 (HR.out.old G) HX.out rfl rfl rfl rfl ?_; go_frame)
            | fail)
          refine Calls.mono (nextI (G.pullF (idsA a)) hI.ok (by omega)) ?_
          clear G; rintro e w ⟨rfl, G⟩
          go_wp2_with (first
            | ((with_reducible refine at_alloc ?_); refine wpu_new G ?_; clear G; intro w G)
            | ((with_reducible refine at_drew ?_); refine wpu_drew G ?_; clear G; intro w G)
            | ((with_reducible refine at_load ?_); first
              | (refine wpu_load G rfl rfl rfl rfl ?_; go_frame)
              | (refine wpu_loadB G rfl rfl rfl (by rfl) ?_; go_frame)
              | (refine wpu_loadS G rfl rfl rfl (by rfl) ?_; simp only [List.drop_succ_cons, List.drop_zero, List.take_succ_cons, List.take_zero]; go_frame))
            | ((with_reducible refine at_store ?_); first
              | (refine wpu_store G rfl rfl rfl rfl (by first | rfl | assumption | simp [*]) rfl ?_; clear G; intro w G; go_frame)
              | (refine wpu_storeB G rfl rfl rfl rfl (by rfl) (by rfl) (by first | rfl | assumption | simp [*]) ?_; clear G; intro w G; go_frame)
              | (refine wpu_storeS G rfl rfl rfl rfl (by rfl) (by rfl) (by first | rfl | assumption | simp [*]) ?_; clear G; intro w G; go_frame))
            | ((with_reducible refine at_convert ?_); refine wpu_str G rfl rfl rfl rfl ?_; go_frame)
            | ((with_reducible refine at_slice ?_); first
              | (refine wpu_sliceLo rfl rfl rfl rfl (by first | rfl | omega) (by omega) (by omega) ?_; go_frame)
              | (refine wpu_sliceLH rfl rfl rfl rfl rfl (by first | rfl | omega) (by first | rfl | omega) (by omega) (by omega) ?_; go_frame))
            | ((with_reducible refine at_load ?_); refine wpu_loadF (HR.out.old G) HX.out rfl rfl rfl rfl ?_; go_frame)
            | ((with_reducible refine at_load ?_); refine wpu_loadF0 (HR.out.old G) HX.out rfl rfl rfl rfl ?_; go_frame)
            | fail)
          refine Calls.mono (nextR (G.pullF (idsR c)) hI (by omega)) ?_
          clear hI
          have hI := hI'
          clear hI'
          clear G; rintro e w ⟨rfl, G⟩
          generalize s.nexted = r at G hI ⊢
          obtain ⟨s', x, y⟩ := r
          replace G : Own w0 (idsR c s' * (idsA a s' * emp)) w := G
          replace hI : s'.In (k + 1) := hI
          go_wp2_with (first
            | ((with_reducible refine at_alloc ?_); refine wpu_new G ?_; clear G; intro w G)
            | ((with_reducible refine at_drew ?_); refine wpu_drew G ?_; clear G; intro w G)
            | ((with_reducible refine at_load ?_); first
              | (refine wpu_load G rfl rfl rfl rfl ?_; go_frame)
              | (refine wpu_loadB G rfl rfl rfl (by rfl) ?_; go_frame)
              | (refine wpu_loadS G rfl rfl rfl (by rfl) ?_; simp only [List.drop_succ_cons, List.drop_zero, List.take_succ_cons, List.take_zero]; go_frame))
            | ((with_reducible refine at_store ?_); first
              | (refine wpu_store G rfl rfl rfl rfl (by first | rfl | assumption | simp [*]) rfl ?_; clear G; intro w G; go_frame)
              | (refine wpu_storeB G rfl rfl rfl rfl (by rfl) (by rfl) (by first | rfl | assumption | simp [*]) ?_; clear G; intro w G; go_frame)
              | (refine wpu_storeS G rfl rfl rfl rfl (by rfl) (by rfl) (by first | rfl | assumption | simp [*]) ?_; clear G; intro w G; go_frame))
            | ((with_reducible refine at_convert ?_); refine wpu_str G rfl rfl rfl rfl ?_; go_frame)
            | ((with_reducible refine at_slice ?_); first
              | (refine wpu_sliceLo rfl rfl rfl rfl (by first | rfl | omega) (by omega) (by omega) ?_; go_frame)
              | (refine wpu_sliceLH rfl rfl rfl rfl rfl (by first | rfl | omega) (by first | rfl | omega) (by omega) (by omega) ?_; go_frame))
            | ((with_reducible refine at_load ?_); refine wpu_loadF (HR.out.old G) HX.out rfl rfl rfl rfl ?_; go_frame)
            | ((with_reducible refine at_load ?_); refine wpu_loadF0 (HR.out.old G) HX.out rfl rfl rfl rfl ?_; go_frame)
            | fail)
          refine Calls.mono (activeI (n := k + 1) (G.pullF (idsA a)) hI.ok (by omega)) ?_
          clear G; rintro e w ⟨rfl, G⟩
          go_wp2_with (first
            | ((with_reducible refine at_alloc ?_); refine wpu_new G ?_; clear G; intro w G)
            | ((with_reducible refine at_drew ?_); refine wpu_drew G ?_; clear G; intro w G)
            | ((with_reducible refine at_load ?_); first
              | (refine wpu_load G rfl rfl rfl rfl ?_; go_frame)
              | (refine wpu_loadB G rfl rfl rfl (by rfl) ?_; go_frame)
              | (refine wpu_loadS G rfl rfl rfl (by rfl) ?_; simp only [List.drop_succ_cons, List.drop_zero, List.take_succ_cons, List.take_zero]; go_frame))
            | ((with_reducible refine at_store ?_); first
              | (refine wpu_store G rfl rfl rfl rfl (by first | rfl | assumption | simp [*]) rfl ?_; clear G; intro w G; go_frame)
              | (refine wpu_storeB G rfl rfl rfl rfl (by rfl) (by rfl) (by first | rfl | assumption | simp [*]) ?_; clear G; intro w G; go_frame)
              | (refine wpu_storeS G rfl rfl rfl rfl (by rfl) (by rfl) (by first | rfl | assumption | simp [*]) ?_; clear G; intro w G; go_frame))
            | ((with_reducible refine at_convert ?_); refine wpu_str G rfl rfl rfl rfl ?_; go_frame)
            | ((with_reducible refine at_slice ?_); first
              | (refine wpu_sliceLo rfl rfl rfl rfl (by first | rfl | omega) (by omega) (by omega) ?_; go_frame)
              | (refine wpu_sliceLH rfl rfl rfl rfl rfl (by first | rfl | omega) (by first | rfl | omega) (by omega) (by omega) ?_; go_frame))
            | ((with_reducible refine at_load ?_); refine wpu_loadF (HR.out.old G) HX.out rfl rfl rfl rfl ?_; go_frame)
            | ((with_reducible refine at_load ?_); refine wpu_loadF0 (HR.out.old G) HX.out rfl rfl rfl rfl ?_; go_frame)
            | fail)
          refine Calls.mono (activeR (G.pullF (idsR c)) hI (by omega)) ?_
          clear G; rintro e w ⟨rfl, G⟩
          generalize s'.act.length - s'.theirs = q1
          generalize s'.theirs = q2
          go_wp2_with (first
            | ((with_reducible refine at_alloc ?_); refine wpu_new G ?_; clear G; intro w G)
            | ((with_reducible refine at_drew ?_); refine wpu_drew G ?_; clear G; intro w G)
            | ((with_reducible refine at_load ?_); first
              | (refine wpu_load G rfl rfl rfl rfl ?_; go_frame)
              | (refine wpu_loadB G rfl rfl rfl (by rfl) ?_; go_frame)
              | (refine wpu_loadS G rfl rfl rfl (by rfl) ?_; simp only [List.drop_succ_cons, List.drop_zero, List.take_succ_cons, List.take_zero]; go_frame))
            | ((with_reducible refine at_store ?_); first
              | (refine wpu_store G rfl rfl rfl rfl (by first | rfl | assumption | simp [*]) rfl ?_; clear G; intro w G; go_frame)
              | (refine wpu_storeB G rfl rfl rfl rfl (by rfl) (by rfl) (by first | rfl | assumption | simp [*]) ?_; clear G; intro w G; go_frame)
              | (refine wpu_storeS G rfl rfl rfl rfl (by rfl) (by rfl) (by first | rfl | assumption | simp [*]) ?_; clear G; intro w G; go_frame))
            | ((with_reducible refine at_convert ?_); refine wpu_str G rfl rfl rfl rfl ?_; go_frame)
            | ((with_reducible refine at_slice ?_); first
              | (refine wpu_sliceLo rfl rfl rfl rfl (by first | rfl | omega) (by omega) (by omega) ?_; go_frame)
              | (refine wpu_sliceLH rfl rfl rfl rfl rfl (by first | rfl | omega) (by first | rfl | omega) (by omega) (by omega) ?_; go_frame))
            | ((with_reducible refine at_load ?_); refine wpu_loadF (HR.out.old G) HX.out rfl rfl rfl rfl ?_; go_frame)
            | ((with_reducible refine at_load ?_); refine wpu_loadF0 (HR.out.old G) HX.out rfl rfl rfl rfl ?_; go_frame)
            | fail)
          refine Calls.mono (lastI (G.pullF (idsA a))) ?_
          clear G; rintro e w ⟨rfl, G⟩
          go_wp2_with (first
            | ((with_reducible refine at_alloc ?_); refine wpu_new G ?_; clear G; intro w G)
            | ((with_reducible refine at_drew ?_); refine wpu_drew G ?_; clear G; intro w G)
            | ((with_reducible refine at_load ?_); first
              | (refine wpu_load G rfl rfl rfl rfl ?_; go_frame)
              | (refine wpu_loadB G rfl rfl rfl (by rfl) ?_; go_frame)
              | (refine wpu_loadS G rfl rfl rfl (by rfl) ?_; simp only [List.drop_succ_cons, List.drop_zero, List.take_succ_cons, List.take_zero]; go_frame))
            | ((with_reducible refine at_store ?_); first
              | (refine wpu_store G rfl rfl rfl rfl (by first | rfl | assumption | simp [*]) rfl ?_; clear G; intro w G; go_frame)
              | (refine wpu_storeB G rfl rfl rfl rfl (by rfl) (by rfl) (by first | rfl | assumption | simp [*]) ?_; clear G; intro w G; go_frame)
              | (refine wpu_storeS G rfl rfl rfl rfl (by rfl) (by rfl) (by first | rfl | assumption | simp [*]) ?_; clear G; intro w G; go_frame))
            | ((with_reducible refine at_convert ?_); refine wpu_str G rfl rfl rfl rfl ?_; go_frame)
            | ((with_reducible refine at_slice ?_); first
              | (refine wpu_sliceLo rfl rfl rfl rfl (by first | rfl | omega) (by omega) (by omega) ?_; go_frame)
              | (refine wpu_sliceLH rfl rfl rfl rfl rfl (by first | rfl | omega) (by first | rfl | omega) (by omega) (by omega) ?_; go_frame))
            | ((with_reducible refine at_load ?_); refine wpu_loadF (HR.out.old G) HX.out rfl rfl rfl rfl ?_; go_frame)
            | ((with_reducible refine at_load ?_); refine wpu_loadF0 (HR.out.old G) HX.out rfl rfl rfl rfl ?_; go_frame)
            | fail)
          refine Calls.mono (lastR (G.pullF (idsR c))) ?_
          clear G; rintro e w ⟨rfl, G⟩
          generalize s'.last = q3
          go_wp2_with (first
            | ((with_reducible refine at_alloc ?_); refine wpu_new G ?_; clear G; intro w G)
            | ((with_reducible refine at_drew ?_); refine wpu_drew G ?_; clear G; intro w G)
            | ((with_reducible refine at_load ?_); first
              | (refine wpu_load G rfl rfl rfl rfl ?_; go_frame)
              | (refine wpu_loadB G rfl rfl rfl (by rfl) ?_; go_frame)
              | (refine wpu_loadS G rfl rfl rfl (by rfl) ?_; simp only [List.drop_succ_cons, List.drop_zero, List.take_succ_cons, List.take_zero]; go_frame))
            | ((with_reducible refine at_store ?_); first
              | (refine wpu_store G rfl rfl rfl rfl (by first | rfl | assumption | simp [*]) rfl ?_; clear G; intro w G; go_frame)
              | (refine wpu_storeB G rfl rfl rfl rfl (by rfl) (by rfl) (by first | rfl | assumption | simp [*]) ?_; clear G; intro w G; go_frame)
              | (refine wpu_storeS G rfl rfl rfl rfl (by rfl) (by rfl) (by first | rfl | assumption | simp [*]) ?_; clear G; intro w G; go_frame))
            | ((with_reducible refine at_convert ?_); refine wpu_str G rfl rfl rfl rfl ?_; go_frame)
            | ((with_reducible refine at_slice ?_); first
              | (refine wpu_sliceLo rfl rfl rfl rfl (by first | rfl | omega) (by omega) (by omega) ?_; go_frame)
              | (refine wpu_sliceLH rfl rfl rfl rfl rfl (by first | rfl | omega) (by first | rfl | omega) (by omega) (by omega) ?_; go_frame))
            | ((with_reducible refine at_load ?_); refine wpu_loadF (HR.out.old G) HX.out rfl rfl rfl rfl ?_; go_frame)
            | ((with_reducible refine at_load ?_); refine wpu_loadF0 (HR.out.old G) HX.out rfl rfl rfl rfl ?_; go_frame)
            | fail)
          go_roundw
          case rel => exact ⟨k + 1, s', by omega, by omega, by go_num, hI, G.give⟩
          case measure => simp [intOf] <;> omega
        · have h2b : (kd == 2) = false := by simpa using h2
          have h2d : decide (kd = 2) = false := by simpa using h2
          by_cases h3 : kd = 3
          · subst h3
            have hI' := (hI.close id).mono (Nat.le_succ k)
            go_wp2_with (first
              | ((with_reducible refine at_alloc ?_); refine wpu_new G ?_; clear G; intro w G)
              | ((with_reducible refine at_drew ?_); refine wpu_drew G ?_; clear G; intro w G)
              | ((with_reducible refine at_load ?_); first
                | (refine wpu_load G rfl rfl rfl rfl ?_; go_frame)
                | (refine wpu_loadB G rfl rfl rfl (by rfl) ?_; go_frame)
                | (refine wpu_loadS G rfl rfl rfl (by rfl) ?_; simp only [List.drop_succ_cons, List.drop_zero, List.take_succ_cons, List.take_zero]; go_frame))
              | ((with_reducible refine at_store ?_); first
                | (refine wpu_store G rfl rfl rfl rfl (by first | rfl | assumption | simp [*]) rfl ?_; clear G; intro w G; go_frame)
                | (refine wpu_storeB G rfl rfl rfl rfl (by rfl) (by rfl) (by first | rfl | assumption | simp [*]) ?_; clear G; intro w G; go_frame)
                | (refine wpu_storeS G rfl rfl rfl rfl (by rfl) (by rfl) (by first | rfl | assumption | simp [*]) ?_; clear G; intro w G; go_frame))
              | ((with_reducible refine at_convert ?_); refine wpu_str G rfl rfl rfl rfl ?_; go_frame)
              | ((with_reducible refine at_slice ?_); first
                | (refine wpu_sliceLo rfl rfl rfl rfl (by first | rfl | omega) (by omega) (by omega) ?_; go_frame)
                | (refine wpu_sliceLH rfl rfl rfl rfl rfl (by first | rfl | omega) (by first | rfl | omega) (by omega) (by omega) ?_; go_frame))
              | ((with_reducible refine at_load ?_); refine wpu_loadF (HR.out.old G) HX.out rfl rfl rfl rfl ?_; go_frame)
              | ((with_reducible refine at_load ?_); refine wpu_loadF0 (HR.out.old G) HX.out rfl rfl rfl rfl ?_; go_frame)
              | fail)
            refine Calls.mono (closeI (G.pullF (idsA a)) hI.ok (by omega) (hI.pos id) b3 b4) ?_
            clear G; rintro e w ⟨rfl, G⟩
            go_wp2_with (first
              | ((with_reducible refine at_alloc ?_); refine wpu_new G ?_; clear G; intro w G)
              | ((with_reducible refine at_drew ?_); refine wpu_drew G ?_; clear G; intro w G)
              | ((with_reducible refine at_load ?_); first
                | (refine wpu_load G rfl rfl rfl rfl ?_; go_frame)
                | (refine wpu_loadB G rfl rfl rfl (by rfl) ?_; go_frame)
                | (refine wpu_loadS G rfl rfl rfl (by rfl) ?_; simp only [List.drop_succ_cons, List.drop_zero, List.take_succ_cons, List.take_zero]; go_frame))
              | ((with_reducible refine at_store ?_); first
                | (refine wpu_store G rfl rfl rfl rfl (by first | rfl | assumption | simp [*]) rfl ?_; clear G; intro w G; go_frame)
                | (refine wpu_storeB G rfl rfl rfl rfl (by rfl) (by rfl) (by first | rfl | assumption | simp [*]) ?_; clear G; intro w G; go_frame)
                | (refine wpu_storeS G rfl rfl rfl rfl (by rfl) (by rfl) (by first | rfl | assumption | simp [*]) ?_; clear G; intro w G; go_frame))
              | ((with_reducible refine at_convert ?_); refine wpu_str G rfl rfl rfl rfl ?_; go_frame)
              | ((with_reducible refine at_slice ?_); first
                | (refine wpu_sliceLo rfl rfl rfl rfl (by first | rfl | omega) (by omega) (by omega) ?_; go_frame)
                | (refine wpu_sliceLH rfl rfl rfl rfl rfl (by first | rfl | omega) (by first | rfl | omega) (by omega) (by omega) ?_; go_frame))
              | ((with_reducible refine at_load ?_); refine wpu_loadF (HR.out.old G) HX.out rfl rfl rfl rfl ?_; go_frame)
              | ((with_reducible refine at_load ?_); refine wpu_loadF0 (HR.out.old G) HX.out rfl rfl rfl rfl ?_; go_frame)
              | fail)
            refine Calls.mono (closeR (G.pullF (idsR c)) hI (by omega) b3 b4) ?_
            clear hI
            have hI := hI'
            clear hI'
            clear G; rintro e w ⟨rfl, G⟩
            generalize s.closed id = r at G hI ⊢
            obtain ⟨s', x⟩ := r
            replace G : Own w0 (idsR c s' * (idsA a s' * emp)) w := G
            replace hI : s'.In (k + 1) := hI
            go_wp2_with (first
              | ((with_reducible refine at_alloc ?_); refine wpu_new G ?_; clear G; intro w G)
              | ((with_reducible refine at_drew ?_); refine wpu_drew G ?_; clear G; intro w G)
              | ((with_reducible refine at_load ?_); first
                | (refine wpu_load G rfl rfl rfl rfl ?_; go_frame)
                | (refine wpu_loadB G rfl rfl rfl (by rfl) ?_; go_frame)
                | (refine wpu_loadS G rfl rfl rfl (by rfl) ?_; simp only [List.drop_succ_cons, List.drop_zero, List.take_succ_cons, List.take_zero]; go_frame))
              | ((with_reducible refine at_store ?_); first
                | (refine wpu_store G rfl rfl rfl rfl (by first | rfl | assumption | simp [*]) rfl ?_; clear G; intro w G; go_frame)
                | (refine wpu_storeB G rfl rfl rfl rfl (by rfl) (by rfl) (by first | rfl | assumption | simp [*]) ?_; clear G; intro w G; go_frame)
                | (refine wpu_storeS G rfl rfl rfl rfl (by rfl) (by rfl) (by first | rfl | assumption | simp [*]) ?_; clear G; intro w G; go_frame))
              | ((with_reducible refine at_convert ?_); refine wpu_str G rfl rfl rfl rfl ?_; go_frame)
              | ((with_reducible refine at_slice ?_); first
                | (refine wpu_sliceLo rfl rfl rfl rfl (by first | rfl | omega) (by omega) (by omega) ?_; go_frame)
                | (refine wpu_sliceLH rfl rfl rfl rfl rfl (by first | rfl | omega) (by first | rfl | omega) (by omega) (by omega) ?_; go_frame))
              | ((with_reducible refine at_load ?_); refine wpu_loadF (HR.out.old G) HX.out rfl rfl rfl rfl ?_; go_frame)
              | ((with_reducible refine at_load ?_); refine wpu_loadF0 (HR.out.old G) HX.out rfl rfl rfl rfl ?_; go_frame)
              | fail)
            refine Calls.mono (activeI (n := k + 1) (G.pullF (idsA a)) hI.ok (by omega)) ?_
            clear G; rintro e w ⟨rfl, G⟩
            go_wp2_with (first
              | ((with_reducible refine at_alloc ?_); refine wpu_new G ?_; clear G; intro w G)
              | ((with_reducible refine at_drew ?_); refine wpu_drew G ?_; clear G; intro w G)
              | ((with_reducible refine at_load ?_); first
                | (refine wpu_load G rfl rfl rfl rfl ?_; go_frame)
                | (refine wpu_loadB G rfl rfl rfl (by rfl) ?_; go_frame)
                | (refine wpu_loadS G rfl rfl rfl (by rfl) ?_; simp only [List.drop_succ_cons, List.drop_zero, List.take_succ_cons, List.take_zero]; go_frame))
              | ((with_reducible refine at_store ?_); first
                | (refine wpu_store G rfl rfl rfl rfl (by first | rfl | assumption | simp [*]) rfl ?_; clear G; intro w G; go_frame)
                | (refine wpu_storeB G rfl rfl rfl rfl (by rfl) (by rfl) (by first | rfl | assumption | simp [*]) ?_; clear G; intro w G; go_frame)
                | (refine wpu_storeS G rfl rfl rfl rfl (by rfl) (by rfl) (by first | rfl | assumption | simp [*]) ?_; clear G; intro w G; go_frame))
              | ((with_reducible refine at_convert ?_); refine wpu_str G rfl rfl rfl rfl ?_; go_frame)
              | ((with_reducible refine at_slice ?_); first
                | (refine wpu_sliceLo rfl rfl rfl rfl (by first | rfl | omega) (by omega) (by omega) ?_; go_frame)
                | (refine wpu_sliceLH rfl rfl rfl rfl rfl (by first | rfl | omega) (by first | rfl | omega) (by omega) (by omega) ?_; go_frame))
              | ((with_reducible refine at_load ?_); refine wpu_loadF (HR.out.old G) HX.out rfl rfl rfl rfl ?_; go_frame)
              | ((with_reducible refine at_load ?_); refine wpu_loadF0 (HR.out.old G) HX.out rfl rfl rfl rfl ?_; go_frame)
              | fail)
            refine Calls.mono (activeR (G.pullF (idsR c)) hI (by omega)) ?_
            clear G; rintro e w ⟨rfl, G⟩
            generalize s'.act.length - s'.theirs = q1
            generalize s'.theirs = q2
            go_wp2_with (first
              | ((with_reducible refine at_alloc ?_); refine wpu_new G ?_; clear G; intro w G)
              | ((with_reducible refine at_drew ?_); refine wpu_drew G ?_; clear G; intro w G)
              | ((with_reducible refine at_load ?_); first
                | (refine wpu_load G rfl rfl rfl rfl ?_; go_frame)
                | (refine wpu_loadB G rfl rfl rfl (by rfl) ?_; go_frame)
                | (refine wpu_loadS G rfl rfl rfl (by rfl) ?_; simp only [List.drop_succ_cons, List.drop_zero, List.take_succ_cons, List.take_zero]; go_frame))
              | ((with_reducible refine at_store ?_); first
                | (refine wpu_store G rfl rfl rfl rfl (by first | rfl | assumption | simp [*]) rfl ?_; clear G; intro w G; go_frame)
                | (refine wpu_storeB G rfl rfl rfl rfl (by rfl) (by rfl) (by first | rfl | assumption | simp [*]) ?_; clear G; intro w G; go_frame)
                | (refine wpu_storeS G rfl rfl rfl rfl (by rfl) (by rfl) (by first | rfl | assumption | simp [*]) ?_; clear G; intro w G; go_frame))
              | ((with_reducible refine at_convert ?_); refine wpu_str G rfl rfl rfl rfl ?_; go_frame)
              | ((with_reducible refine at_slice ?_); first
                | (refine wpu_sliceLo rfl rfl rfl rfl (by first | rfl | omega) (by omega) (by omega) ?_; go_frame)
                | (refine wpu_sliceLH rfl rfl rfl rfl rfl (by first | rfl | omega) (by first | rfl | omega) (by omega) (by omega) ?_; go_frame))
              | ((with_reducible refine at_load ?_); refine wpu_loadF (HR.out.old G) HX.out rfl rfl rfl rfl ?_; go_frame)
              | ((with_reducible refine at_load ?_); refine wpu_loadF0 (HR.out.old G) HX.out rfl rfl rfl rfl ?_; go_frame)
              | fail)
            refine Calls.mono (lastI (G.pullF (idsA a))) ?_
            clear G; rintro e w ⟨rfl, G⟩
            go_wp2_with (first
              | ((with_reducible refine at_alloc ?_); refine wpu_new G ?_; clear G; intro w G)
              | ((with_reducible refine at_drew ?_); refine wpu_drew G ?_; clear G; intro w G)
              | ((with_reducible refine at_load ?_); first
                | (refine wpu_load G rfl rfl rfl rfl ?_; go_frame)
                | (refine wpu_loadB G rfl rfl rfl (by rfl) ?_; go_frame)
                | (refine wpu_loadS G rfl rfl rfl (by rfl) ?_; simp only [List.drop_succ_cons, List.drop_zero, List.take_succ_cons, List.take_zero]; go_frame))
              | ((with_reducible refine at_store ?_); first
                | (refine wpu_store G rfl rfl rfl rfl (by first | rfl | assumption | simp [*]) rfl ?_; clear G; intro w G; go_frame)
                | (refine wpu_storeB G rfl rfl rfl rfl (by rfl) (by rfl) (by first | rfl | assumption | simp [*]) ?_; clear G; intro w G; go_frame)
                | (refine wpu_storeS G rfl rfl rfl rfl (by rfl) (by rfl) (by first | rfl | assumption | simp [*]) ?_; clear G; intro w G; go_frame))
              | ((with_reducible refine at_convert ?_); refine wpu_str G rfl rfl rfl rfl ?_; go_frame)
              | ((with_reducible refine at_slice ?_); first
                | (refine wpu_sliceLo rfl rfl rfl rfl (by first | rfl | omega) (by omega) (by omega) ?_; go_frame)
                | (refine wpu_sliceLH rfl rfl rfl rfl rfl (by first | rfl | omega) (by first | rfl | omega) (by omega) (by omega) ?_; go_frame))
              | ((with_reducible refine at_load ?_); refine wpu_loadF (HR.out.old G) HX.out rfl rfl rfl rfl ?_; go_frame)
              | ((with_reducible refine at_load ?_); refine wpu_loadF0 (HR.out.old G) HX.out rfl rfl rfl rfl ?_; go_frame)
              | fail)
            refine Calls.mono (lastR (G.pullF (idsR c))) ?_
            clear G; rintro e w ⟨rfl, G⟩
            generalize s'.last = q3
            go_wp2_with (first
              | ((with_reducible refine at_alloc ?_); refine wpu_new G ?_; clear G; intro w G)
              | ((with_reducible refine at_drew ?_); refine wpu_drew G ?_; clear G; intro w G)
              | ((with_reducible refine at_load ?_); first
                | (refine wpu_load G rfl rfl rfl rfl ?_; go_frame)
                | (refine wpu_loadB G rfl rfl rfl (by rfl) ?_; go_frame)
                | (refine wpu_loadS G rfl rfl rfl (by rfl) ?_; simp only [List.drop_succ_cons, List.drop_zero, List.take_succ_cons, List.take_zero]; go_frame))
              | ((with_reducible refine at_store ?_); first
                | (refine wpu_store G rfl rfl rfl rfl (by first | rfl | assumption | simp [*]) rfl ?_; clear G; intro w G; go_frame)
                | (refine wpu_storeB G rfl rfl rfl rfl (by rfl) (by rfl) (by first | rfl | assumption | simp [*]) ?_; clear G; intro w G; go_frame)
                | (refine wpu_storeS G rfl rfl rfl rfl (by rfl) (by rfl) (by first | rfl | assumption | simp [*]) ?_; clear G; intro w G; go_frame))
              | ((with_reducible refine at_convert ?_); refine wpu_str G rfl rfl rfl rfl ?_; go_frame)
              | ((with_reducible refine at_slice ?_); first
                | (refine wpu_sliceLo rfl rfl rfl rfl (by first | rfl | omega) (by omega) (by omega) ?_; go_frame)
                | (refine wpu_sliceLH rfl rfl rfl rfl rfl (by first | rfl | omega) (by first | rfl | omega) (by omega) (by omega) ?_; go_frame))
              | ((with_reducible refine at_load ?_); refine wpu_loadF (HR.out.old G) HX.out rfl rfl rfl rfl ?_; go_frame)
              | ((with_reducible refine at_load ?_); refine wpu_loadF0 (HR.out.old G) HX.out rfl rfl rfl rfl ?_; go_frame)
              | fail)
            go_roundw
            case rel => exact ⟨k + 1, s', by omega, by omega, by go_num, hI, G.give⟩
            case measure => simp [intOf] <;> omega
          · have h3b : (kd == 3) = false := by simpa using h3
            have h3d : decide (kd = 3) = false := by simpa using h3
            by_cases h4 : kd = 4
            · subst h4
              have hI' := (hI.setMost b3 b4).mono (Nat.le_succ k)
              go_wp2_with (first
                | ((with_reducible refine at_alloc ?_); refine wpu_new G ?_; clear G; intro w G)
                | ((with_reducible refine at_drew ?_); refine wpu_drew G ?_; clear G; intro w G)
                | ((with_reducible refine at_load ?_); first
                  | (refine wpu_load G rfl rfl rfl rfl ?_; go_frame)
                  | (refine wpu_loadB G rfl rfl rfl (by rfl) ?_; go_frame)
                  | (refine wpu_loadS G rfl rfl rfl (by rfl) ?_; simp only [List.drop_succ_cons, List.drop_zero, List.take_succ_cons, List.take_zero]; go_frame))
                | ((with_reducible refine at_store ?_); first
                  | (refine wpu_store G rfl rfl rfl rfl (by first | rfl | assumption | simp [*]) rfl ?_; clear G; intro w G; go_frame)
                  | (refine wpu_storeB G rfl rfl rfl rfl (by rfl) (by rfl) (by first | rfl | assumption | simp [*]) ?_; clear G; intro w G; go_frame)
                  | (refine wpu_storeS G rfl rfl rfl rfl (by rfl) (by rfl) (by first | rfl | assumption | simp [*]) ?_; clear G; intro w G; go_frame))
                | ((with_reducible refine at_convert ?_); refine wpu_str G rfl rfl rfl rfl ?_; go_frame)
                | ((with_reducible refine at_slice ?_); first
                  | (refine wpu_sliceLo rfl rfl rfl rfl (by first | rfl | omega) (by omega) (by omega) ?_; go_frame)
                  | (refine wpu_sliceLH rfl rfl rfl rfl rfl (by first | rfl | omega) (by first | rfl | omega) (by omega) (by omega) ?_; go_frame))
                | ((with_reducible refine at_load ?_); refine wpu_loadF (HR.out.old G) HX.out rfl rfl rfl rfl ?_; go_frame)
                | ((with_reducible refine at_load ?_); refine wpu_loadF0 (HR.out.old G) HX.out rfl rfl rfl rfl ?_; go_frame)
                | fail)
              refine Calls.mono (setMost (n := id) (G.pullF (idsA a))) ?_
              clear G; rintro e w ⟨rfl, G⟩
              go_wp2_with (first
                | ((with_reducible refine at_alloc ?_); refine wpu_new G ?_; clear G; intro w G)
                | ((with_reducible refine at_drew ?_); refine wpu_drew G ?_; clear G; intro w G)
                | ((with_reducible refine at_load ?_); first
                  | (refine wpu_load G rfl rfl rfl rfl ?_; go_frame)
                  | (refine wpu_loadB G rfl rfl rfl (by rfl) ?_; go_frame)
                  | (refine wpu_loadS G rfl rfl rfl (by rfl) ?_; simp only [List.drop_succ_cons, List.drop_zero, List.take_succ_cons, List.take_zero]; go_frame))
                | ((with_reducible refine at_store ?_); first
                  | (refine wpu_store G rfl rfl rfl rfl (by first | rfl | assumption | simp [*]) rfl ?_; clear G; intro w G; go_frame)
                  | (refine wpu_storeB G rfl rfl rfl rfl (by rfl) (by rfl) (by first | rfl | assumption | simp [*]) ?_; clear G; intro w G; go_frame)
                  | (refine wpu_storeS G rfl rfl rfl rfl (by rfl) (by rfl) (by first | rfl | assumption | simp [*]) ?_; clear G; intro w G; go_frame))
                | ((with_reducible refine at_convert ?_); refine wpu_str G rfl rfl rfl rfl ?_; go_frame)
                | ((with_reducible refine at_slice ?_); first
                  | (refine wpu_sliceLo rfl rfl rfl rfl (by first | rfl | omega) (by omega) (by omega) ?_; go_frame)
                  | (refine wpu_sliceLH rfl rfl rfl rfl rfl (by first | rfl | omega) (by first | rfl | omega) (by omega) (by omega) ?_; go_frame))
                | ((with_reducible refine at_load ?_); refine wpu_loadF (HR.out.old G) HX.out rfl rfl rfl rfl ?_; go_frame)
                | ((with_reducible refine at_load ?_); refine wpu_loadF0 (HR.out.old G) HX.out rfl rfl rfl rfl ?_; go_frame)
                | fail)
              refine Calls.mono (setMostR (n := id) (G.pullF (idsR c))) ?_
              clear hI
              have hI := hI'
              clear hI'
              clear G; rintro e w ⟨rfl, G⟩
              generalize ({ s with most := max id 0 } : IdS) = s' at G hI
              go_wp2_with (first
                | ((with_reducible refine at_alloc ?_); refine wpu_new G ?_; clear G; intro w G)
                | ((with_reducible refine at_drew ?_); refine wpu_drew G ?_; clear G; intro w G)
                | ((with_reducible refine at_load ?_); first
                  | (refine wpu_load G rfl rfl rfl rfl ?_; go_frame)
                  | (refine wpu_loadB G rfl rfl rfl (by rfl) ?_; go_frame)
                  | (refine wpu_loadS G rfl rfl rfl (by rfl) ?_; simp only [List.drop_succ_cons, List.drop_zero, List.take_succ_cons, List.take_zero]; go_frame))
                | ((with_reducible refine at_store ?_); first
                  | (refine wpu_store G rfl rfl rfl rfl (by first | rfl | assumption | simp [*]) rfl ?_; clear G; intro w G; go_frame)
                  | (refine wpu_storeB G rfl rfl rfl rfl (by rfl) (by rfl) (by first | rfl | assumption | simp [*]) ?_; clear G; intro w G; go_frame)
                  | (refine wpu_storeS G rfl rfl rfl rfl (by rfl) (by rfl) (by first | rfl | assumption | simp [*]) ?_; clear G; intro w G; go_frame))
                | ((with_reducible refine at_convert ?_); refine wpu_str G rfl rfl rfl rfl ?_; go_frame)
                | ((with_reducible refine at_slice ?_); first
                  | (refine wpu_sliceLo rfl rfl rfl rfl (by first | rfl | omega) (by omega) (by omega) ?_; go_frame)
                  | (refine wpu_sliceLH rfl rfl rfl rfl rfl (by first | rfl | omega) (by first | rfl | omega) (by omega) (by omega) ?_; go_frame))
                | ((with_reducible refine at_load ?_); refine wpu_loadF (HR.out.old G) HX.out rfl rfl rfl rfl ?_; go_frame)
                | ((with_reducible refine at_load ?_); refine wpu_loadF0 (HR.out.old G) HX.out rfl rfl rfl rfl ?_; go_frame)
                | fail)
              refine Calls.mono (activeI (n := k + 1) (G.pullF (idsA a)) hI.ok (by omega)) ?_
              clear G; rintro e w ⟨rfl, G⟩
              go_wp2_with (first
                | ((with_reducible refine at_alloc ?_); refine wpu_new G ?_; clear G; intro w G)
                | ((with_reducible refine at_drew ?_); refine wpu_drew G ?_; clear G; intro w G)
                | ((with_reducible refine at_load ?_); first
                  | (refine wpu_load G rfl rfl rfl rfl ?_; go_frame)
                  | (refine wpu_loadB G rfl rfl rfl (by rfl) ?_; go_frame)
                  | (refine wpu_loadS G rfl rfl rfl (by rfl) ?_; simp only [List.drop_succ_cons, List.drop_zero, List.take_succ_cons, List.take_zero]; go_frame))
                | ((with_reducible refine at_store ?_); first
                  | (refine wpu_store G rfl rfl rfl rfl (by first | rfl | assumption | simp [*]) rfl ?_; clear G; intro w G; go_frame)
                  | (refine wpu_storeB G rfl rfl rfl rfl (by rfl) (by rfl) (by first | rfl | assumption | simp [*]) ?_; clear G; intro w G; go_frame)
                  | (refine wpu_storeS G rfl rfl rfl rfl (by rfl) (by rfl) (by first | rfl | assumption | simp [*]) ?_; clear G; intro w G; go_frame))
                | ((with_reducible refine at_convert ?_); refine wpu_str G rfl rfl rfl rfl ?_; go_frame)
                | ((with_reducible refine at_slice ?_); first
                  | (refine wpu_sliceLo rfl rfl rfl rfl (by first | rfl | omega) (by omega) (by omega) ?_; go_frame)
                  | (refine wpu_sliceLH rfl rfl rfl rfl rfl (by first | rfl | omega) (by first | rfl | omega) (by omega) (by omega) ?_; go_frame))
                | ((with_reducible refine at_load ?_); refine wpu_loadF (HR.out.old G) HX.out rfl rfl rfl rfl ?_; go_frame)
                | ((with_reducible refine at_load ?_); refine wpu_loadF0 (HR.out.old G) HX.out rfl rfl rfl rfl ?_; go_frame)
                | fail)
              refine Calls.mono (activeR (G.pullF (idsR c)) hI (by omega)) ?_
              clear G; rintro e w ⟨rfl, G⟩
              generalize s'.act.length - s'.theirs = q1
              generalize s'.theirs = q2
              go_wp2_with (first
                | ((with_reducible refine at_alloc ?_); refine wpu_new G ?_; clear G; intro w G)
                | ((with_reducible refine at_drew ?_); refine wpu_drew G ?_; clear G; intro w G)
                | ((with_reducible refine at_load ?_); first
                  | (refine wpu_load G rfl rfl rfl rfl ?_; go_frame)
                  | (refine wpu_loadB G rfl rfl rfl (by rfl) ?_; go_frame)
                  | (refine wpu_loadS G rfl rfl rfl (by rfl) ?_; simp only [List.drop_succ_cons, List.drop_zero, List.take_succ_cons, List.take_zero]; go_frame))
                | ((with_reducible refine at_store ?_); first
                  | (refine wpu_store G rfl rfl rfl rfl (by first | rfl | assumption | simp [*]) rfl ?_; clear G; intro w G; go_frame)
                  | (refine wpu_storeB G rfl rfl rfl rfl (by rfl) (by rfl) (by first | rfl | assumption | simp [*]) ?_; clear G; intro w G; go_frame)
                  | (refine wpu_storeS G rfl rfl rfl rfl (by rfl) (by rfl) (by first | rfl | assumption | simp [*]) ?_; clear G; intro w G; go_frame))
                | ((with_reducible refine at_convert ?_); refine wpu_str G rfl rfl rfl rfl ?_; go_frame)
                | ((with_reducible refine at_slice ?_); first
                  | (refine wpu_sliceLo rfl rfl rfl rfl (by first | rfl | omega) (by omega) (by omega) ?_; go_frame)
                  | (refine wpu_sliceLH rfl rfl rfl rfl rfl (by first | rfl | omega) (by first | rfl | omega) (by omega) (by omega) ?_; go_frame))
                | ((with_reducible refine at_load ?_); refine wpu_loadF (HR.out.old G) HX.out rfl rfl rfl rfl ?_; go_frame)
                | ((with_reducible refine at_load ?_); refine wpu_loadF0 (HR.out.old G) HX.out rfl rfl rfl rfl ?_; go_frame)
                | fail)
              refine Calls.mono (lastI (G.pullF (idsA a))) ?_
              clear G; rintro e w ⟨rfl, G⟩
              go_wp2_with (first
                | ((with_reducible refine at_alloc ?_); refine wpu_new G ?_; clear G; intro w G)
                | ((with_reducible refine at_drew ?_); refine wpu_drew G ?_; clear G; intro w G)
                | ((with_reducible refine at_load ?_); first
                  | (refine wpu_load G rfl rfl rfl rfl ?_; go_frame)
                  | (refine wpu_loadB G rfl rfl rfl (by rfl) ?_; go_frame)
                  | (refine wpu_loadS G rfl rfl rfl (by rfl) ?_; simp only [List.drop_succ_cons, List.drop_zero, List.take_succ_cons, List.take_zero]; go_frame))
                | ((with_reducible refine at_store ?_); first
                  | (refine wpu_store G rfl rfl rfl rfl (by first | rfl | assumption | simp [*]) rfl ?_; clear G; intro w G; go_frame)
                  | (refine wpu_storeB G rfl rfl rfl rfl (by rfl) (by rfl) (by first | rfl | assumption | simp [*]) ?_; clear G; intro w G; go_frame)
                  | (refine wpu_storeS G rfl rfl rfl rfl (by rfl) (by rfl) (by first | rfl | assumption | simp [*]) ?_; clear G; intro w G; go_frame))
                | ((with_reducible refine at_convert ?_); refine wpu_str G rfl rfl rfl rfl ?_; go_frame)
                | ((with_reducible refine at_slice ?_); first
                  | (refine wpu_sliceLo rfl rfl rfl rfl (by first | rfl | omega) (by omega) (by omega) ?_; go_frame)
                  | (refine wpu_sliceLH rfl rfl rfl rfl rfl (by first | rfl | omega) (by first | rfl | omega) (by omega) (by omega) ?_; go_frame))
                | ((with_reducible refine at_load ?_); refine wpu_loadF (HR.out.old G) HX.out rfl rfl rfl rfl ?_; go_frame)
                | ((with_reducible refine at_load ?_); refine wpu_loadF0 (HR.out.old G) HX.out rfl rfl rfl rfl ?_; go_frame)
                | fail)
              refine Calls.mono (lastR (G.pullF (idsR c))) ?_
              clear G; rintro e w ⟨rfl, G⟩
              generalize s'.last = q3
              go_wp2_with (first
                | ((with_reducible refine at_alloc ?_); refine wpu_new G ?_; clear G; intro w G)
                | ((with_reducible refine at_drew ?_); refine wpu_drew G ?_; clear G; intro w G)
                | ((with_reducible refine at_load ?_); first
                  | (refine wpu_load G rfl rfl rfl rfl ?_; go_frame)
                  | (refine wpu_loadB G rfl rfl rfl (by rfl) ?_; go_frame)
                  | (refine wpu_loadS G rfl rfl rfl (by rfl) ?_; simp only [List.drop_succ_cons, List.drop_zero, List.take_succ_cons, List.take_zero]; go_frame))
                | ((with_reducible refine at_store ?_); first
                  | (refine wpu_store G rfl rfl rfl rfl (by first | rfl | assumption | simp [*]) rfl ?_; clear G; intro w G; go_frame)
                  | (refine wpu_storeB G rfl rfl rfl rfl (by rfl) (by rfl) (by first | rfl | assumption | simp [*]) ?_; clear G; intro w G; go_frame)
                  | (refine wpu_storeS G rfl rfl rfl rfl (by rfl) (by rfl) (by first | rfl | assumption | simp [*]) ?_; clear G; intro w G; go_frame))
                | ((with_reducible refine at_convert ?_); refine wpu_str G rfl rfl rfl rfl ?_; go_frame)
                | ((with_reducible refine at_slice ?_); first
                  | (refine wpu_sliceLo rfl rfl rfl rfl (by first | rfl | omega) (by omega) (by omega) ?_; go_frame)
                  | (refine wpu_sliceLH rfl rfl rfl rfl rfl (by first | rfl | omega) (by first | rfl | omega) (by omega) (by omega) ?_; go_frame))
                | ((with_reducible refine at_load ?_); refine wpu_loadF (HR.out.old G) HX.out rfl rfl rfl rfl ?_; go_frame)
                | ((with_reducible refine at_load ?_); refine wpu_loadF0 (HR.out.old G) HX.out rfl rfl rfl rfl ?_; go_frame)
                | fail)
              go_roundw
              case rel => exact ⟨k + 1, s', by omega, by omega, by go_num, hI, G.give⟩
              case measure => simp [intOf] <;> omega
            · have h4b : (kd == 4) = false := by simpa using h4
              have h4d : decide (kd = 4) = false := by simpa using h4
              by_cases h5 : kd = 5
              · subst h5
                have hI' := (hI.setLimit b3 b4).mono (Nat.le_succ k)
                go_wp2_with (first
                  | ((with_reducible refine at_alloc ?_); refine wpu_new G ?_; clear G; intro w G)
                  | ((with_reducible refine at_drew ?_); refine wpu_drew G ?_; clear G; intro w G)
                  | ((with_reducible refine at_load ?_); first
                    | (refine wpu_load G rfl rfl rfl rfl ?_; go_frame)
                    | (refine wpu_loadB G rfl rfl rfl (by rfl) ?_; go_frame)
                    | (refine wpu_loadS G rfl rfl rfl (by rfl) ?_; simp only [List.drop_succ_cons, List.drop_zero, List.take_succ_cons, List.take_zero]; go_frame))
                  | ((with_reducible refine at_store ?_); first
                    | (refine wpu_store G rfl rfl rfl rfl (by first | rfl | assumption | simp [*]) rfl ?_; clear G; intro w G; go_frame)
                    | (refine wpu_storeB G rfl rfl rfl rfl (by rfl) (by rfl) (by first | rfl | assumption | simp [*]) ?_; clear G; intro w G; go_frame)
                    | (refine wpu_storeS G rfl rfl rfl rfl (by rfl) (by rfl) (by first | rfl | assumption | simp [*]) ?_; clear G; intro w G; go_frame))
                  | ((with_reducible refine at_convert ?_); refine wpu_str G rfl rfl rfl rfl ?_; go_frame)
                  | ((with_reducible refine at_slice ?_); first
                    | (refine wpu_sliceLo rfl rfl rfl rfl (by first | rfl | omega) (by omega) (by omega) ?_; go_frame)
                    | (refine wpu_sliceLH rfl rfl rfl rfl rfl (by first | rfl | omega) (by first | rfl | omega) (by omega) (by omega) ?_; go_frame))
                  | ((with_reducible refine at_load ?_); refine wpu_loadF (HR.out.old G) HX.out rfl rfl rfl rfl ?_; go_frame)
                  | ((with_reducible refine at_load ?_); refine wpu_loadF0 (HR.out.old G) HX.out rfl rfl rfl rfl ?_; go_frame)
                  | fail)
                refine Calls.mono (setLimit (n := id) (G.pullF (idsA a))) ?_
                clear G; rintro e w ⟨rfl, G⟩
                go_wp2_with (first
                  | ((with_reducible refine at_alloc ?_); refine wpu_new G ?_; clear G; intro w G)
                  | ((with_reducible refine at_drew ?_); refine wpu_drew G ?_; clear G; intro w G)
                  | ((with_reducible refine at_load ?_); first
                    | (refine wpu_load G rfl rfl rfl rfl ?_; go_frame)
                    | (refine wpu_loadB G rfl rfl rfl (by rfl) ?_; go_frame)
                    | (refine wpu_loadS G rfl rfl rfl (by rfl) ?_; simp only [List.drop_succ_cons, List.drop_zero, List.take_succ_cons, List.take_zero]; go_frame))
                  | ((with_reducible refine at_store ?_); first
                    | (refine wpu_store G rfl rfl rfl rfl (by first | rfl | assumption | simp [*]) rfl ?_; clear G; intro w G; go_frame)
                    | (refine wpu_storeB G rfl rfl rfl rfl (by rfl) (by rfl) (by first | rfl | assumption | simp [*]) ?_; clear G; intro w G; go_frame)
                    | (refine wpu_storeS G rfl rfl rfl rfl (by rfl) (by rfl) (by first | rfl | assumption | simp [*]) ?_; clear G; intro w G; go_frame))
                  | ((with_reducible refine at_convert ?_); refine wpu_str G rfl rfl rfl rfl ?_; go_frame)
                  | ((with_reducible refine at_slice ?_); first
                    | (refine wpu_sliceLo rfl rfl rfl rfl (by first | rfl | omega) (by omega) (by omega) ?_; go_frame)
                    | (refine wpu_sliceLH rfl rfl rfl rfl rfl (by first | rfl | omega) (by first | rfl | omega) (by omega) (by omega) ?_; go_frame))
                  | ((with_reducible refine at_load ?_); refine wpu_loadF (HR.out.old G) HX.out rfl rfl rfl rfl ?_; go_frame)
                  | ((with_reducible refine at_load ?_); refine wpu_loadF0 (HR.out.old G) HX.out rfl rfl rfl rfl ?_; go_frame)
                  | fail)
                refine Calls.mono (setLimitR (n := id) (G.pullF (idsR c))) ?_
                clear hI
                have hI := hI'
                clear hI'
                clear G; rintro e w ⟨rfl, G⟩
                generalize ({ s with limit := max id 0 } : IdS) = s' at G hI
                go_wp2_with (first
                  | ((with_reducible refine at_alloc ?_); refine wpu_new G ?_; clear G; intro w G)
                  | ((with_reducible refine at_drew ?_); refine wpu_drew G ?_; clear G; intro w G)
                  | ((with_reducible refine at_load ?_); first
                    | (refine wpu_load G rfl rfl rfl rfl ?_; go_frame)
                    | (refine wpu_loadB G rfl rfl rfl (by rfl) ?_; go_frame)
                    | (refine wpu_loadS G rfl rfl rfl (by rfl) ?_; simp only [List.drop_succ_cons, List.drop_zero, List.take_succ_cons, List.take_zero]; go_frame))
                  | ((with_reducible refine at_store ?_); first
                    | (refine wpu_store G rfl rfl rfl rfl (by first | rfl | assumption | simp [*]) rfl ?_; clear G; intro w G; go_frame)
                    | (refine wpu_storeB G rfl rfl rfl rfl (by rfl) (by rfl) (by first | rfl | assumption | simp [*]) ?_; clear G; intro w G; go_frame)
                    | (refine wpu_storeS G rfl rfl rfl rfl (by rfl) (by rfl) (by first | rfl | assumption | simp [*]) ?_; clear G; intro w G; go_frame))
                  | ((with_reducible refine at_convert ?_); refine wpu_str G rfl rfl rfl rfl ?_; go_frame)
                  | ((with_reducible refine at_slice ?_); first
                    | (refine wpu_sliceLo rfl rfl rfl rfl (by first | rfl | omega) (by omega) (by omega) ?_; go_frame)
                    | (refine wpu_sliceLH rfl rfl rfl rfl rfl (by first | rfl | omega) (by first | rfl | omega) (by omega) (by omega) ?_; go_frame))
                  | ((with_reducible refine at_load ?_); refine wpu_loadF (HR.out.old G) HX.out rfl rfl rfl rfl ?_; go_frame)
                  | ((with_reducible refine at_load ?_); refine wpu_loadF0 (HR.out.old G) HX.out rfl rfl rfl rfl ?_; go_frame)
                  | fail)
                refine Calls.mono (activeI (n := k + 1) (G.pullF (idsA a)) hI.ok (by omega)) ?_
                clear G; rintro e w ⟨rfl, G⟩
                go_wp2_with (first
                  | ((with_reducible refine at_alloc ?_); refine wpu_new G ?_; clear G; intro w G)
                  | ((with_reducible refine at_drew ?_); refine wpu_drew G ?_; clear G; intro w G)
                  | ((with_reducible refine at_load ?_); first
                    | (refine wpu_load G rfl rfl rfl rfl ?_; go_frame)
                    | (refine wpu_loadB G rfl rfl rfl (by rfl) ?_; go_frame)
                    | (refine wpu_loadS G rfl rfl rfl (by rfl) ?_; simp only [List.drop_succ_cons, List.drop_zero, List.take_succ_cons, List.take_zero]; go_frame))
                  | ((with_reducible refine at_store ?_); first
                    | (refine wpu_store G rfl rfl rfl rfl (by first | rfl | assumption | simp [*]) rfl ?_; clear G; intro w G; go_frame)
                    | (refine wpu_storeB G rfl rfl rfl rfl (by rfl) (by rfl) (by first | rfl | assumption | simp [*]) ?_; clear G; intro w G; go_frame)
                    | (refine wpu_storeS G rfl rfl rfl rfl (by rfl) (by rfl) (by first | rfl | assumption | simp [*]) ?_; clear G; intro w G; go_frame))
                  | ((with_reducible refine at_convert ?_); refine wpu_str G rfl rfl rfl rfl ?_; go_frame)
                  | ((with_reducible refine at_slice ?_); first
                    | (refine wpu_sliceLo rfl rfl rfl rfl (by first | rfl | omega) (by omega) (by omega) ?_; go_frame)
                    | (refine wpu_sliceLH rfl rfl rfl rfl rfl (by first | rfl | omega) (by first | rfl | omega) (by omega) (by omega) ?_; go_frame))
                  | ((with_reducible refine at_load ?_); refine wpu_loadF (HR.out.old G) HX.out rfl rfl rfl rfl ?_; go_frame)
                  | ((with_reducible refine at_load ?_); refine wpu_loadF0 (HR.out.old G) HX.out rfl rfl rfl rfl ?_; go_frame)
                  | fail)
                refine Calls.mono (activeR (G.pullF (idsR c)) hI (by omega)) ?_
                clear G; rintro e w ⟨rfl, G⟩
                generalize s'.act.length - s'.theirs = q1
                generalize s'.theirs = q2
                go_wp2_with (first
                  | ((with_reducible refine at_alloc ?_); refine wpu_new G ?_; clear G; intro w G)
                  | ((with_reducible refine at_drew ?_); refine wpu_drew G ?_; clear G; intro w G)
                  | ((with_reducible refine at_load ?_); first
                    | (refine wpu_load G rfl rfl rfl rfl ?_; go_frame)
                    | (refine wpu_loadB G rfl rfl rfl (by rfl) ?_; go_frame)
                    | (refine wpu_loadS G rfl rfl rfl (by rfl) ?_; simp only [List.drop_succ_cons, List.drop_zero, List.take_succ_cons, List.take_zero]; go_frame))
                  | ((with_reducible refine at_store ?_); first
                    | (refine wpu_store G rfl rfl rfl rfl (by first | rfl | assumption | simp [*]) rfl ?_; clear G; intro w G; go_frame)
                    | (refine wpu_storeB G rfl rfl rfl rfl (by rfl) (by rfl) (by first | rfl | assumption | simp [*]) ?_; clear G; intro w G; go_frame)
                    | (refine wpu_storeS G rfl rfl rfl rfl (by rfl) (by rfl) (by first | rfl | assumption | simp [*]) ?_; clear G; intro w G; go_frame))
                  | ((with_reducible refine at_convert ?_); refine wpu_str G rfl rfl rfl rfl ?_; go_frame)
                  | ((with_reducible refine at_slice ?_); first
                    | (refine wpu_sliceLo rfl rfl rfl rfl (by first | rfl | omega) (by omega) (by omega) ?_; go_frame)
                    | (refine wpu_sliceLH rfl rfl rfl rfl rfl (by first | rfl | omega) (by first | rfl | omega) (by omega) (by omega) ?_; go_frame))
                  | ((with_reducible refine at_load ?_); refine wpu_loadF (HR.out.old G) HX.out rfl rfl rfl rfl ?_; go_frame)
                  | ((with_reducible refine at_load ?_); refine wpu_loadF0 (HR.out.old G) HX.out rfl rfl rfl rfl ?_; go_frame)
                  | fail)
                refine Calls.mono (lastI (G.pullF (idsA a))) ?_
                clear G; rintro e w ⟨rfl, G⟩
                go_wp2_with (first
                  | ((with_reducible refine at_alloc ?_); refine wpu_new G ?_; clear G; intro w G)
                  | ((with_reducible refine at_drew ?_); refine wpu_drew G ?_; clear G; intro w G)
                  | ((with_reducible refine at_load ?_); first
                    | (refine wpu_load G rfl rfl rfl rfl ?_; go_frame)
                    | (refine wpu_loadB G rfl rfl rfl (by rfl) ?_; go_frame)
                    | (refine wpu_loadS G rfl rfl rfl (by rfl) ?_; simp only [List.drop_succ_cons, List.drop_zero, List.take_succ_cons, List.take_zero]; go_frame))
                  | ((with_reducible refine at_store ?_); first
                    | (refine wpu_store G rfl rfl rfl rfl (by first | rfl | assumption | simp [*]) rfl ?_; clear G; intro w G; go_frame)
                    | (refine wpu_storeB G rfl rfl rfl rfl (by rfl) (by rfl) (by first | rfl | assumption | simp [*]) ?_; clear G; intro w G; go_frame)
                    | (refine wpu_storeS G rfl rfl rfl rfl (by rfl) (by rfl) (by first | rfl | assumption | simp [*]) ?_; clear G; intro w G; go_frame))
                  | ((with_reducible refine at_convert ?_); refine wpu_str G rfl rfl rfl rfl ?_; go_frame)
                  | ((with_reducible refine at_slice ?_); first
                    | (refine wpu_sliceLo rfl rfl rfl rfl (by first | rfl | omega) (by omega) (by omega) ?_; go_frame)
                    | (refine wpu_sliceLH rfl rfl rfl rfl rfl (by first | rfl | omega) (by first | rfl | omega) (by omega) (by omega) ?_; go_frame))
                  | ((with_reducible refine at_load ?_); refine wpu_loadF (HR.out.old G) HX.out rfl rfl rfl rfl ?_; go_frame)
                  | ((with_reducible refine at_load ?_); refine wpu_loadF0 (HR.out.old G) HX.out rfl rfl rfl rfl ?_; go_frame)
                  | fail)
                refine Calls.mono (lastR (G.pullF (idsR c))) ?_
                clear G; rintro e w ⟨rfl, G⟩
                generalize s'.last = q3
                go_wp2_with (first
                  | ((with_reducible refine at_alloc ?_); refine wpu_new G ?_; clear G; intro w G)
                  | ((with_reducible refine at_drew ?_); refine wpu_drew G ?_; clear G; intro w G)
                  | ((with_reducible refine at_load ?_); first
                    | (refine wpu_load G rfl rfl rfl rfl ?_; go_frame)
                    | (refine wpu_loadB G rfl rfl rfl (by rfl) ?_; go_frame)
                    | (refine wpu_loadS G rfl rfl rfl (by rfl) ?_; simp only [List.drop_succ_cons, List.drop_zero, List.take_succ_cons, List.take_zero]; go_frame))
                  | ((with_reducible refine at_store ?_); first
                    | (refine wpu_store G rfl rfl rfl rfl (by first | rfl | assumption | simp [*]) rfl ?_; clear G; intro w G; go_frame)
                    | (refine wpu_storeB G rfl rfl rfl rfl (by rfl) (by rfl) (by first | rfl | assumption | simp [*]) ?_; clear G; intro w G; go_frame)
                    | (refine wpu_storeS G rfl rfl rfl rfl (by rfl) (by rfl) (by first | rfl | assumption | simp [*]) ?_; clear G; intro w G; go_frame))
                  | ((with_reducible refine at_convert ?_); refine wpu_str G rfl rfl rfl rfl ?_; go_frame)
                  | ((with_reducible refine at_slice ?_); first
                    | (refine wpu_sliceLo rfl rfl rfl rfl (by first | rfl | omega) (by omega) (by omega) ?_; go_frame)
                    | (refine wpu_sliceLH rfl rfl rfl rfl rfl (by first | rfl | omega) (by first | rfl | omega) (by omega) (by omega) ?_; go_frame))
                  | ((with_reducible refine at_load ?_); refine wpu_loadF (HR.out.old G) HX.out rfl rfl rfl rfl ?_; go_frame)
                  | ((with_reducible refine at_load ?_); refine wpu_loadF0 (HR.out.old G) HX.out rfl rfl rfl rfl ?_; go_frame)
                  | fail)
                go_roundw
                case rel => exact ⟨k + 1, s', by omega, by omega, by go_num, hI, G.give⟩
                case measure => simp [intOf] <;> omega
              · have h5b : (kd == 5) = false := by simpa using h5
                have h5d : decide (kd = 5) = false := by simpa using h5
                have hI' := hI.mono (Nat.le_succ k)
                go_wp2_with (first
                  | ((with_reducible refine at_alloc ?_); refine wpu_new G ?_; clear G; intro w G)
                  | ((with_reducible refine at_drew ?_); refine wpu_drew G ?_; clear G; intro w G)
                  | ((with_reducible refine at_load ?_); first
                    | (refine wpu_load G rfl rfl rfl rfl ?_; go_frame)
                    | (refine wpu_loadB G rfl rfl rfl (by rfl) ?_; go_frame)
                    | (refine wpu_loadS G rfl rfl rfl (by rfl) ?_; simp only [List.drop_succ_cons, List.drop_zero, List.take_succ_cons, List.take_zero]; go_frame))
                  | ((with_reducible refine at_store ?_); first
                    | (refine wpu_store G rfl rfl rfl rfl (by first | rfl | assumption | simp [*]) rfl ?_; clear G; intro w G; go_frame)
                    | (refine wpu_storeB G rfl rfl rfl rfl (by rfl) (by rfl) (by first | rfl | assumption | simp [*]) ?_; clear G; intro w G; go_frame)
                    | (refine wpu_storeS G rfl rfl rfl rfl (by rfl) (by rfl) (by first | rfl | assumption | simp [*]) ?_; clear G; intro w G; go_frame))
                  | ((with_reducible refine at_convert ?_); refine wpu_str G rfl rfl rfl rfl ?_; go_frame)
                  | ((with_reducible refine at_slice ?_); first
                    | (refine wpu_sliceLo rfl rfl rfl rfl (by first | rfl | omega) (by omega) (by omega) ?_; go_frame)
                    | (refine wpu_sliceLH rfl rfl rfl rfl rfl (by first | rfl | omega) (by first | rfl | omega) (by omega) (by omega) ?_; go_frame))
                  | ((with_reducible refine at_load ?_); refine wpu_loadF (HR.out.old G) HX.out rfl rfl rfl rfl ?_; go_frame)
                  | ((with_reducible refine at_load ?_); refine wpu_loadF0 (HR.out.old G) HX.out rfl rfl rfl rfl ?_; go_frame)
                  | fail)
                refine Calls.mono (classI (G.pullF (idsA a)) b3 b4) ?_
                clear G; rintro e w ⟨rfl, G⟩
                go_wp2_with (first
                  | ((with_reducible refine at_alloc ?_); refine wpu_new G ?_; clear G; intro w G)
                  | ((with_reducible refine at_drew ?_); refine wpu_drew G ?_; clear G; intro w G)
                  | ((with_reducible refine at_load ?_); first
                    | (refine wpu_load G rfl rfl rfl rfl ?_; go_frame)
                    | (refine wpu_loadB G rfl rfl rfl (by rfl) ?_; go_frame)
                    | (refine wpu_loadS G rfl rfl rfl (by rfl) ?_; simp only [List.drop_succ_cons, List.drop_zero, List.take_succ_cons, List.take_zero]; go_frame))
                  | ((with_reducible refine at_store ?_); first
                    | (refine wpu_store G rfl rfl rfl rfl (by first | rfl | assumption | simp [*]) rfl ?_; clear G; intro w G; go_frame)
                    | (refine wpu_storeB G rfl rfl rfl rfl (by rfl) (by rfl) (by first | rfl | assumption | simp [*]) ?_; clear G; intro w G; go_frame)
                    | (refine wpu_storeS G rfl rfl rfl rfl (by rfl) (by rfl) (by first | rfl | assumption | simp [*]) ?_; clear G; intro w G; go_frame))
                  | ((with_reducible refine at_convert ?_); refine wpu_str G rfl rfl rfl rfl ?_; go_frame)
                  | ((with_reducible refine at_slice ?_); first
                    | (refine wpu_sliceLo rfl rfl rfl rfl (by first | rfl | omega) (by omega) (by omega) ?_; go_frame)
                    | (refine wpu_sliceLH rfl rfl rfl rfl rfl (by first | rfl | omega) (by first | rfl | omega) (by omega) (by omega) ?_; go_frame))
                  | ((with_reducible refine at_load ?_); refine wpu_loadF (HR.out.old G) HX.out rfl rfl rfl rfl ?_; go_frame)
                  | ((with_reducible refine at_load ?_); refine wpu_loadF0 (HR.out.old G) HX.out rfl rfl rfl rfl ?_; go_frame)
                  | fail)
                obtain ⟨v2, L2, hp2, G⟩ := idsR_open (G.pullF (idsR c))
                refine Calls.mono (classR (s := s) (v := v2) G b3 b4) ?_
                clear hI
                have hI := hI'
                clear hI'
                clear G; rintro e w ⟨rfl, G⟩
                replace G := idsR_close G s rfl hp2
                clear hp2 L2 v2
                generalize s.cls id = q0
                obtain ⟨s', hs'⟩ : ∃ s', s' = s := ⟨_, rfl⟩
                rw [← hs'] at G hI
                clear hs'
                go_wp2_with (first
                  | ((with_reducible refine at_alloc ?_); refine wpu_new G ?_; clear G; intro w G)
                  | ((with_reducible refine at_drew ?_); refine wpu_drew G ?_; clear G; intro w G)
                  | ((with_reducible refine at_load ?_); first
                    | (refine wpu_load G rfl rfl rfl rfl ?_; go_frame)
                    | (refine wpu_loadB G rfl rfl rfl (by rfl) ?_; go_frame)
                    | (refine wpu_loadS G rfl rfl rfl (by rfl) ?_; simp only [List.drop_succ_cons, List.drop_zero, List.take_succ_cons, List.take_zero]; go_frame))
                  | ((with_reducible refine at_store ?_); first
                    | (refine wpu_store G rfl rfl rfl rfl (by first | rfl | assumption | simp [*]) rfl ?_; clear G; intro w G; go_frame)
                    | (refine wpu_storeB G rfl rfl rfl rfl (by rfl) (by rfl) (by first | rfl | assumption | simp [*]) ?_; clear G; intro w G; go_frame)
                    | (refine wpu_storeS G rfl rfl rfl rfl (by rfl) (by rfl) (by first | rfl | assumption | simp [*]) ?_; clear G; intro w G; go_frame))
                  | ((with_reducible refine at_convert ?_); refine wpu_str G rfl rfl rfl rfl ?_; go_frame)
                  | ((with_reducible refine at_slice ?_); first
                    | (refine wpu_sliceLo rfl rfl rfl rfl (by first | rfl | omega) (by omega) (by omega) ?_; go_frame)
                    | (refine wpu_sliceLH rfl rfl rfl rfl rfl (by first | rfl | omega) (by first | rfl | omega) (by omega) (by omega) ?_; go_frame))
                  | ((with_reducible refine at_load ?_); refine wpu_loadF (HR.out.old G) HX.out rfl rfl rfl rfl ?_; go_frame)
                  | ((with_reducible refine at_load ?_); refine wpu_loadF0 (HR.out.old G) HX.out rfl rfl rfl rfl ?_; go_frame)
                  | fail)
                refine Calls.mono (activeI (n := k + 1) (G.pullF (idsA a)) hI.ok (by omega)) ?_
                clear G; rintro e w ⟨rfl, G⟩
                go_wp2_with (first
                  | ((with_reducible refine at_alloc ?_); refine wpu_new G ?_; clear G; intro w G)
                  | ((with_reducible refine at_drew ?_); refine wpu_drew G ?_; clear G; intro w G)
                  | ((with_reducible refine at_load ?_); first
                    | (refine wpu_load G rfl rfl rfl rfl ?_; go_frame)
                    | (refine wpu_loadB G rfl rfl rfl (by rfl) ?_; go_frame)
                    | (refine wpu_loadS G rfl rfl rfl (by rfl) ?_; simp only [List.drop_succ_cons, List.drop_zero, List.take_succ_cons, List.take_zero]; go_frame))
                  | ((with_reducible refine at_store ?_); first
                    | (refine wpu_store G rfl rfl rfl rfl (by first | rfl | assumption | simp [*]) rfl ?_; clear G; intro w G; go_frame)
                    | (refine wpu_storeB G rfl rfl rfl rfl (by rfl) (by rfl) (by first | rfl | assumption | simp [*]) ?_; clear G; intro w G; go_frame)
                    | (refine wpu_storeS G rfl rfl rfl rfl (by rfl) (by rfl) (by first | rfl | assumption | simp [*]) ?_; clear G; intro w G; go_frame))
                  | ((with_reducible refine at_convert ?_); refine wpu_str G rfl rfl rfl rfl ?_; go_frame)
                  | ((with_reducible refine at_slice ?_); first
                    | (refine wpu_sliceLo rfl rfl rfl rfl (by first | rfl | omega) (by omega) (by omega) ?_; go_frame)
                    | (refine wpu_sliceLH rfl rfl rfl rfl rfl (by first | rfl | omega) (by first | rfl | omega) (by omega) (by omega) ?_; go_frame))
                  | ((with_reducible refine at_load ?_); refine wpu_loadF (HR.out.old G) HX.out rfl rfl rfl rfl ?_; go_frame)
                  | ((with_reducible refine at_load ?_); refine wpu_loadF0 (HR.out.old G) HX.out rfl rfl rfl rfl ?_; go_frame)
                  | fail)
                refine Calls.mono (activeR (G.pullF (idsR c)) hI (by omega)) ?_
                clear G; rintro e w ⟨rfl, G⟩
                generalize s'.act.length - s'.theirs = q1
                generalize s'.theirs = q2
                go_wp2_with (first
                  | ((with_reducible refine at_alloc ?_); refine wpu_new G ?_; clear G; intro w G)
                  | ((with_reducible refine at_drew ?_); refine wpu_drew G ?_; clear G; intro w G)
                  | ((with_reducible refine at_load ?_); first
                    | (refine wpu_load G rfl rfl rfl rfl ?_; go_frame)
                    | (refine wpu_loadB G rfl rfl rfl (by rfl) ?_; go_frame)
                    | (refine wpu_loadS G rfl rfl rfl (by rfl) ?_; simp only [List.drop_succ_cons, List.drop_zero, List.take_succ_cons, List.take_zero]; go_frame))
                  | ((with_reducible refine at_store ?_); first
                    | (refine wpu_store G rfl rfl rfl rfl (by first | rfl | assumption | simp [*]) rfl ?_; clear G; intro w G; go_frame)
                    | (refine wpu_storeB G rfl rfl rfl rfl (by rfl) (by rfl) (by first | rfl | assumption | simp [*]) ?_; clear G; intro w G; go_frame)
                    | (refine wpu_storeS G rfl rfl rfl rfl (by rfl) (by rfl) (by first | rfl | assumption | simp [*]) ?_; clear G; intro w G; go_frame))
                  | ((with_reducible refine at_convert ?_); refine wpu_str G rfl rfl rfl rfl ?_; go_frame)
                  | ((with_reducible refine at_slice ?_); first
                    | (refine wpu_sliceLo rfl rfl rfl rfl (by first | rfl | omega) (by omega) (by omega) ?_; go_frame)
                    | (refine wpu_sliceLH rfl rfl rfl rfl rfl (by first | rfl | omega) (by first | rfl | omega) (by omega) (by omega) ?_; go_frame))
                  | ((with_reducible refine at_load ?_); refine wpu_loadF (HR.out.old G) HX.out rfl rfl rfl rfl ?_; go_frame)
                  | ((with_reducible refine at_load ?_); refine wpu_loadF0 (HR.out.old G) HX.out rfl rfl rfl rfl ?_; go_frame)
                  | fail)
                refine Calls.mono (lastI (G.pullF (idsA a))) ?_
                clear G; rintro e w ⟨rfl, G⟩
                go_wp2_with (first
                  | ((with_reducible refine at_alloc ?_); refine wpu_new G ?_; clear G; intro w G)
                  | ((with_reducible refine at_drew ?_); refine wpu_drew G ?_; clear G; intro w G)
                  | ((with_reducible refine at_load ?_); first
                    | (refine wpu_load G rfl rfl rfl rfl ?_; go_frame)
                    | (refine wpu_loadB G rfl rfl rfl (by rfl) ?_; go_frame)
                    | (refine wpu_loadS G rfl rfl rfl (by rfl) ?_; simp only [List.drop_succ_cons, List.drop_zero, List.take_succ_cons, List.take_zero]; go_frame))
                  | ((with_reducible refine at_store ?_); first
                    | (refine wpu_store G rfl rfl rfl rfl (by first | rfl | assumption | simp [*]) rfl ?_; clear G; intro w G; go_frame)
                    | (refine wpu_storeB G rfl rfl rfl rfl (by rfl) (by rfl) (by first | rfl | assumption | simp [*]) ?_; clear G; intro w G; go_frame)
                    | (refine wpu_storeS G rfl rfl rfl rfl (by rfl) (by rfl) (by first | rfl | assumption | simp [*]) ?_; clear G; intro w G; go_frame))
                  | ((with_reducible refine at_convert ?_); refine wpu_str G rfl rfl rfl rfl ?_; go_frame)
                  | ((with_reducible refine at_slice ?_); first
                    | (refine wpu_sliceLo rfl rfl rfl rfl (by first | rfl | omega) (by omega) (by omega) ?_; go_frame)
                    | (refine wpu_sliceLH rfl rfl rfl rfl rfl (by first | rfl | omega) (by first | rfl | omega) (by omega) (by omega) ?_; go_frame))
                  | ((with_reducible refine at_load ?_); refine wpu_loadF (HR.out.old G) HX.out rfl rfl rfl rfl ?_; go_frame)
                  | ((with_reducible refine at_load ?_); refine wpu_loadF0 (HR.out.old G) HX.out rfl rfl rfl rfl ?_; go_frame)
                  | fail)
                refine Calls.mono (lastR (G.pullF (idsR c))) ?_
                clear G; rintro e w ⟨rfl, G⟩
                generalize s'.last = q3
                go_wp2_with (first
                  | ((with_reducible refine at_alloc ?_); refine wpu_new G ?_; clear G; intro w G)
                  | ((with_reducible refine at_drew ?_); refine wpu_drew G ?_; clear G; intro w G)
                  | ((with_reducible refine at_load ?_); first
                    | (refine wpu_load G rfl rfl rfl rfl ?_; go_frame)
                    | (refine wpu_loadB G rfl rfl rfl (by rfl) ?_; go_frame)
                    | (refine wpu_loadS G rfl rfl rfl (by rfl) ?_; simp only [List.drop_succ_cons, List.drop_zero, List.take_succ_cons, List.take_zero]; go_frame))
                  | ((with_reducible refine at_store ?_); first
                    | (refine wpu_store G rfl rfl rfl rfl (by first | rfl | assumption | simp [*]) rfl ?_; clear G; intro w G; go_frame)
                    | (refine wpu_storeB G rfl rfl rfl rfl (by rfl) (by rfl) (by first | rfl | assumption | simp [*]) ?_; clear G; intro w G; go_frame)
                    | (refine wpu_storeS G rfl rfl rfl rfl (by rfl) (by rfl) (by first | rfl | assumption | simp [*]) ?_; clear G; intro w G; go_frame))
                  | ((with_reducible refine at_convert ?_); refine wpu_str G rfl rfl rfl rfl ?_; go_frame)
                  | ((with_reducible refine at_slice ?_); first
                    | (refine wpu_sliceLo rfl rfl rfl rfl (by first | rfl | omega) (by omega) (by omega) ?_; go_frame)
                    | (refine wpu_sliceLH rfl rfl rfl rfl rfl (by first | rfl | omega) (by first | rfl | omega) (by omega) (by omega) ?_; go_frame))
                  | ((with_reducible refine at_load ?_); refine wpu_loadF (HR.out.old G) HX.out rfl rfl rfl rfl ?_; go_frame)
                  | ((with_reducible refine at_load ?_); refine wpu_loadF0 (HR.out.old G) HX.out rfl rfl rfl rfl ?_; go_frame)
                  | fail)
                go_roundw
                case rel => exact ⟨k + 1, s', by omega, by omega, by go_num, hI, G.give⟩
                case measure => simp [intOf] <;> omega
    · skip
      go_wp2_with (first
        | ((with_reducible refine at_alloc ?_); refine wpu_new G ?_; clear G; intro w G)
        | ((with_reducible refine at_drew ?_); refine wpu_drew G ?_; clear G; intro w G)
        | ((with_reducible refine at_load ?_); first
          | (refine wpu_load G rfl rfl rfl rfl ?_; go_frame)
          | (refine wpu_loadB G rfl rfl rfl (by rfl) ?_; go_frame)
          | (refine wpu_loadS G rfl rfl rfl (by rfl) ?_; simp only [List.drop_succ_cons, List.drop_zero, List.take_succ_cons, List.take_zero]; go_frame))
        | ((with_reducible refine at_store ?_); first
          | (refine wpu_store G rfl rfl rfl rfl (by first | rfl | assumption | simp [*]) rfl ?_; clear G; intro w G; go_frame)
          | (refine wpu_storeB G rfl rfl rfl rfl (by rfl) (by rfl) (by first | rfl | assumption | simp [*]) ?_; clear G; intro w G; go_frame)
          | (refine wpu_storeS G rfl rfl rfl rfl (by rfl) (by rfl) (by first | rfl | assumption | simp [*]) ?_; clear G; intro w G; go_frame))
        | ((with_reducible refine at_convert ?_); refine wpu_str G rfl rfl rfl rfl ?_; go_frame)
        | ((with_reducible refine at_slice ?_); first
          | (refine wpu_sliceLo rfl rfl rfl rfl (by first | rfl | omega) (by omega) (by omega) ?_; go_frame)
          | (refine wpu_sliceLH rfl rfl rfl rfl rfl (by first | rfl | omega) (by first | rfl | omega) (by omega) (by omega) ?_; go_frame))
        | ((with_reducible refine at_load ?_); refine wpu_loadF (HR.out.old G) HX.out rfl rfl rfl rfl ?_; go_frame)
        | ((with_reducible refine at_load ?_); refine wpu_loadF0 (HR.out.old G) HX.out rfl rfl rfl rfl ?_; go_frame)
        | fail)
      all_goals
        go_ret
        exact ⟨rfl, G.below⟩

theorem contract {H : Type} {enc : TypeId × Value → H} {W : World} {vs : List Value} {ds : List (DataW H)}
    (hA : Args enc Try.prog W [4, 3, 42] vs ds) (hsz : (DataW.weightsEach Try.prog [4, 3, 42] ds).all (· ≤ reachBytes) = true) :
    Calls Try.prog 7 vs.toArray W fun e W' => e = .returned (.bool true) ∧ Below W.heap.size W W' := by
  obtain ⟨v0, _, d0, _, rfl, rfl, h0, hA⟩ := args_cons hA
  obtain ⟨v1, _, d1, _, rfl, rfl, h1, hA⟩ := args_cons hA
  obtain ⟨v2, _, d2, _, rfl, rfl, h2, hA⟩ := args_cons hA
  obtain ⟨rfl, rfl⟩ := args_nil hA
  obtain ⟨sv, rfl⟩ := arg_bool Try.underlying4 h0
  obtain ⟨m, rfl, m1, m2⟩ := arg_i64 Try.underlying3 h1
  obtain ⟨n, xs, hr, hel⟩ := ops_in h2
  exact idsW m1 m2 hr hel


theorem spec {H : Type} : ∀ ds : List (DataW H), ds.length = 3 → Rows.streamIdsSpec.fn H ds = { results := [.lit (.bool true)], args := ds }
  | [_, _, _], _ => rfl
  | [], h => by cases h
  | [_], h => by cases h
  | [_, _], h => by cases h
  | _ :: _ :: _ :: _ :: _, h => by simp at h
set_option maxRecDepth 100000 in
theorem lifted (os : Os) (started : os.Started) (H : Type) (enc : TypeId × Value → H) :
    ReturnsInHanded {} Try.checked os 7 .any (Rows.streamIdsSpec.pre6 enc Try.prog Try.f7 Rows.streamIdsRow.domain false) (Rows.streamIdsSpec.post enc Try.prog Try.f7 false true false false) :=
  lifted_of_law (C := Try.checked) (fn := Try.f7) (s := Rows.streamIdsSpec) (tb := 4) (by kernel_rfl) started (by kernel_rfl) Try.func7
    (ChangeSpec.witness6 (enc := enc) (C := Try.checked) false ⟨#[], #[.bool false, .int .i64 0, .slice none 0 0], []⟩ 8 (by kernel_rfl) (by kernel_rfl) (by kernel_rfl) (by kernel_rfl))
    rfl spec (by kernel_rfl) Try.underlying4 (by kernel_rfl) (by kernel_rfl) (fun _ _ _ h1 h2 => contract h1 h2)

theorem proved : Rows.StreamIdsSaid :=
  OpenClaim.holds_of_wide 7 Try.f7 rfl rfl rfl rfl rfl rfl rfl ⟨rfl, rfl, rfl, rfl, rfl⟩ rfl rfl rfl rfl rfl (by kernel_rfl) Try.func7 (by kernel_rfl)
    (of_decide_eq_true (by kernel_rfl)) (by unfold Func.isWrapper; first | (rw [if_pos (by decide +kernel)]; kernel_rfl) | (rw [if_neg (by decide +kernel)]; exact ⟨rfl, rfl⟩))
    (fun os started H enc _ => lifted os started H enc)
end Go.Proofs.Ytadbpekkmlblmaa.streamIds
