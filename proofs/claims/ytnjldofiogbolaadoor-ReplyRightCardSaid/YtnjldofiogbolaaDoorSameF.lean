

/-
  flumeref10.Same: are two lists of fields the same?
-/
import Derived.Test.YtnjldofiogbolaaDoorFlds
namespace Go.Proofs.YtnjldofiogbolaaDoor
open Go.RowKit Go.Sl Go.ChangeShapes

theorem fd_beq (x y : Fd) : (x.1 == y.1 && x.2.1 == y.2.1 && x.2.2 == y.2.2) = decide (x = y) := by
  obtain ⟨a, b, c⟩ := x
  obtain ⟨a', b', c'⟩ := y
  rw [Bool.eq_iff_iff]
  simp [and_assoc]

theorem take_step {X Y : List Fd} {j : Nat} {x y : Fd} (hx : X[j]? = some x) (hy : Y[j]? = some y) (h : X.take j = Y.take j) : (x = y ↔ X.take (j + 1) = Y.take (j + 1)) := by
  have hX : X.take (j + 1) = X.take j ++ [x] := by rw [List.take_add_one, hx]; rfl
  have hY : Y.take (j + 1) = Y.take j ++ [y] := by rw [List.take_add_one, hy]; rfl
  rw [hX, hY, h]
  simp

set_option maxHeartbeats 4000000 in
set_option maxRecDepth 100000 in
theorem sameC {w0 w : World} {A : Assn} {X Y : List Fd} {u v : Value} (h : Own w0 A w) (hu : ∀ w, Own w0 A w → rd w 3 u X.length (fds X)) (hv : ∀ w, Own w0 A w → rd w 3 v Y.length (fds Y)) :
    Calls Tryd.prog 9 #[u, v] w fun e w' => e = .returned (.bool (decide (X = Y))) ∧ Own w0 A w' := by
  obtain ⟨ao, ac, rfl, j1, j2, -⟩ := id (hu w h)
  obtain ⟨bo, bc, rfl, j3, j4, -⟩ := id (hv w h)
  unfold maxLen at j2 j4
  go_enter Tryd.func9, Tryd.ntmps9
  by_cases hl : X.length = Y.length
  · obtain ⟨n, hn⟩ : ∃ n, X.length = n := ⟨_, rfl⟩
    have hm : Y.length = n := by omega
    rw [hn] at hu j1 ⊢
    rw [hm] at hv j3 ⊢
    have HN := Lib.hid hn
    have HM := Lib.hid hm
    clear hl hn hm
    go_wp2_with fail
    go_loopw [5] (fun i wr => ∃ j : Nat, i = .int .i64 j ∧ j ≤ n ∧ Hid (X.take j = Y.take j) ∧ Own w0 A wr) (fun i _ => n - (intOf i).toNat)
    case atStart => exact ⟨0, rfl, Nat.zero_le _, Lib.hid (by simp), h⟩
    case round =>
      clear h
      obtain ⟨j, rfl, hj, HS, G⟩ := hrel
      by_cases hjn : j < n
      · obtain ⟨x, hx⟩ : ∃ x, X[j]? = some x := ⟨X[j]'(by rw [HN.out]; exact hjn), by simp⟩
        obtain ⟨y, hy⟩ : ∃ y, Y[j]? = some y := ⟨Y[j]'(by rw [HM.out]; exact hjn), by simp⟩
        obtain ⟨aad, rfl⟩ := rd_some (hu _ G) (by omega)
        obtain ⟨bad, rfl⟩ := rd_some (hv _ G) (by omega)
        have HX := Lib.hid (fds_at hx)
        have HY := Lib.hid (fds_at hy)
        have HST := Lib.hid (take_step hx hy HS.out)
        have HNE : Hid (x ≠ y → X ≠ Y) := Lib.hid fun h e => by
          rw [e] at hx
          rw [hx] at hy
          exact h (Option.some.inj hy)
        obtain ⟨r, hr⟩ : ∃ r, decide (x = y) = r := ⟨_, rfl⟩
        have hq : (x.1 == y.1 && x.2.1 == y.2.1 && x.2.2 == y.2.2) = r := by rw [fd_beq, hr]
        have HR := Lib.hid hr
        have HQ := Lib.hid hq
        clear hx hy hr hq
        as_aux_lemma =>
        go_wp2_with fail
        refine wp_region_calm (C := Own _ _) (by kernel_rfl) (by kernel_rfl) (own_drew G) ?_
        intro ι W hne hW hs
        repeat (first
          | go_big_quiet_skip
          | ((with_reducible refine atq_load ?_); first
            | (refine wpq_loadE (k := j) (fun i => hu _ (hW i)) HX.out rfl (by kernel_rfl) rfl rfl ?_; go_frame)
            | (refine wpq_loadE (k := j) (fun i => hv _ (hW i)) HY.out rfl (by kernel_rfl) rfl rfl ?_; go_frame))
          | ((with_reducible refine atq_neF ?_); refine wpq_val (by kernel_rfl) (fun i => exec_neF rfl rfl rfl) ?_; rw [HQ.out]; go_frame)
          | go_big_quiet_step (fail))
        refine wpQuiet_nil ?_
        intro i
        have g := hW i
        generalize W i = wg at g ⊢
        clear hs hW hne
        have G := g
        clear g
        cases r
        · have e : decide (X = Y) = false := by simpa using HNE.out (by simpa using HR.out)
          go_wp2_with fail
          go_ret
          exact ⟨by rw [e]; rfl, G⟩
        · go_wp2_with fail
          go_roundw
          case rel => exact ⟨j + 1, by go_num, by omega, Lib.hid (HST.out.1 (by simpa using HR.out)), G⟩
          case measure => simp [intOf] <;> omega
      · obtain rfl : j = n := by omega
        as_aux_lemma =>
        have e : decide (X = Y) = true := by
          have := HS.out
          rw [List.take_of_length_le (by rw [HN.out]; exact Nat.le_refl _), List.take_of_length_le (by rw [HM.out]; exact Nat.le_refl _)] at this
          simpa using this
        go_wp2_with fail
        go_ret
        exact ⟨by rw [e]; rfl, G⟩
  · have e : decide (X = Y) = false := by
      simp
      intro h
      exact hl (by rw [h])
    as_aux_lemma =>
    go_wp2_with fail
    go_ret
    exact ⟨by rw [e]; rfl, h⟩
end Go.Proofs.YtnjldofiogbolaaDoor
