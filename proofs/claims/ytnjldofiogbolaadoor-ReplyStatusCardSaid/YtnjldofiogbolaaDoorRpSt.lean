
/-
  ReplyStatus: there are just five answers.
-/
import Derived.Test.YtnjldofiogbolaaDoorRp3
import Derived.Test.YtnjldofiogbolaaDoorSameF
import Derived.Test.YtnjldofiogbolaaDoorLawD
import Derived.Test.YtnjldofiogbolaaDoorTie
import Derived.Test.YtnjldofiogbolaaDoorCards
import Derived.SevenTiedAt
namespace Go.Proofs.YtnjldofiogbolaaDoor.replyStatus
open Go.RowKit Go.Sl Go.ChangeShapes

theorem stats6 (c : Int) : c = 400 ∨ c = 404 ∨ c = 502 ∨ c = 503 ∨ c = 504 ∨ (c ≠ 400 ∧ c ≠ 404 ∧ c ≠ 502 ∧ c ≠ 503 ∧ c ≠ 504) := by omega

theorem local_len (st : Int) (g : Bool) : (localL st g).length = if st = 400 ∨ st = 404 ∨ st = 502 ∨ st = 503 ∨ st = 504 then (if g = true then 4 else 2) else 0 := by
  rcases stats6 st with rfl | rfl | rfl | rfl | rfl | ⟨h1, h2, h3, h4, h5⟩
  all_goals first
    | (cases g <;> rfl)
    | (unfold localL row; simp [h1, h2, h3, h4, h5])

/-- two of them that are the same are of one status -/
theorem local_inj {a b : Int} {g : Bool} (h : localL a g = localL b g) (hne : a ≠ b) : (localL a g).length = 0 := by
  rcases stats6 a with rfl | rfl | rfl | rfl | rfl | ⟨h1, h2, h3, h4, h5⟩
  all_goals first
    | (rw [local_len]; simp [h1, h2, h3, h4, h5]; done)
    | (rcases stats6 b with rfl | rfl | rfl | rfl | rfl | ⟨k1, k2, k3, k4, k5⟩
       all_goals first
         | exact absurd rfl hne
         | (cases g <;> exact absurd h (by decide))
         | (have := congrArg List.length h
            rw [local_len, local_len] at this
            simp [k1, k2, k3, k4, k5] at this
            cases g <;> simp at this))




set_option maxHeartbeats 8000000 in
set_option maxRecDepth 100000 in
theorem statusW {w0 : World} (hT : Pow10 w0) (a b : Int) (g : Bool) : Calls Tryd.prog 5 #[.int .i64 a, .int .i64 b, .bool g] w0 fun e w' => e = .returned (.bool true) ∧ Below w0.heap.size w0 w' := by
  have G := own_begin w0
  go_enter Tryd.func5, Tryd.ntmps5
  go_wp2_with fail
  refine Calls.mono (shownRp hT G) ?_
  clear G; rintro e w ⟨rfl, G⟩
  go_wp2_with fail
  refine Calls.mono (localC hT G) ?_
  clear G; rintro e w ⟨v, rfl, G⟩
  go_wp2_with fail
  refine Calls.mono (localC hT G) ?_
  clear G; rintro e w ⟨u, rfl, G⟩
  obtain ⟨m, hm⟩ : ∃ m, (localL b g).length = m := ⟨_, rfl⟩
  have HM := Lib.hid hm
  have hinj := @local_inj a b g
  rw [hm] at G
  obtain ⟨Y, hY⟩ : ∃ Y, localL b g = Y := ⟨_, rfl⟩
  rw [hY] at G HM hinj
  clear hm hY
  obtain ⟨ao, ac, rfl, j1, j2⟩ := G.hdr v
  obtain ⟨bo, bc, rfl, j3, j4⟩ := G.hdr u
  unfold maxLen at j2 j4
  rcases stats6 a with rfl | rfl | rfl | rfl | rfl | ⟨h1, h2, h3, h4, h5⟩
  · skip
    cases g
    · skip
      as_aux_lemma =>
      obtain ⟨X, hX⟩ : ∃ X, localL 400 false = X := ⟨_, rfl⟩
      have hn : X.length = 2 := by rw [← hX]; rfl
      rw [hX] at G hinj j1 ⊢
      rw [hn] at G hinj j1 ⊢
      have HNX := Lib.hid hn
      clear hX hn
      by_cases hab : (400 : Int) = b
      · have z1 : decide ((400 : Int) = b) = true := by simp [hab]
        have z2 : ((400 : Int) == b) = true := by simp [hab]
        clear hinj hab
        go_wp2_with fail
        go_ret
        exact ⟨rfl, G.below⟩
      · have z1 : decide ((400 : Int) = b) = false := by simp [hab]
        have z2 : ((400 : Int) == b) = false := by simp [hab]
        have HXY : Hid (X ≠ Y) := Lib.hid fun h => by have := hinj h hab; omega
        clear hinj hab
        by_cases hmn : m = 2
        · subst hmn
          obtain ⟨aad, rfl⟩ := rd_some (G.rd (.slice ao 2 ac) _ G) (by decide)
          obtain ⟨bad, rfl⟩ := rd_some (G.rd (.slice bo 2 bc) _ G) (by decide)
          go_wp2_with fail
          go_loopw [12, 13] (fun sm i wr => ∃ j : Nat, i = .int .i64 j ∧ j ≤ 2 ∧ sm = .bool (decide (X.take j = Y.take j)) ∧ Own w0 (sl 3 (.slice (some bad) 2 bc) 2 (fds Y) * (sl 3 (.slice (some aad) 2 ac) 2 (fds X) * emp)) wr) (fun _ i _ => 2 - (intOf i).toNat)
          case atStart => exact ⟨0, rfl, by decide, by simp, G⟩
          case round =>
            clear G
            obtain ⟨j, rfl, hj, rfl, G⟩ := hrel
            by_cases hjn : j < 2
            · obtain ⟨x, hx⟩ : ∃ x, X[j]? = some x := ⟨X[j]'(by rw [HNX.out]; exact hjn), List.getElem?_eq_getElem _⟩
              obtain ⟨y, hy⟩ : ∃ y, Y[j]? = some y := ⟨Y[j]'(by rw [HM.out]; exact hjn), List.getElem?_eq_getElem _⟩
              have HX := Lib.hid (fds_at hx)
              have HY := Lib.hid (fds_at hy)
              obtain ⟨sm, hsm⟩ : ∃ sm, decide (X.take j = Y.take j) = sm := ⟨_, rfl⟩
              obtain ⟨r, hr⟩ : ∃ r, decide (x = y) = r := ⟨_, rfl⟩
              have hq : (x.1 == y.1 && x.2.1 == y.2.1 && x.2.2 == y.2.2) = r := by rw [fd_beq, hr]
              have HST : Hid (decide (X.take (j + 1) = Y.take (j + 1)) = (sm && r)) := Lib.hid (by
                rw [← hsm, ← hr]
                by_cases e : X.take j = Y.take j
                · have := take_step hx hy e
                  simp [e, this]
                · have : X.take (j + 1) ≠ Y.take (j + 1) := fun e2 => e (by
                    have := congrArg (List.take j) e2
                    simpa [List.take_take, Nat.min_eq_left (Nat.le_succ j)] using this)
                  simp [e, this])
              rw [hsm]
              have HQ := Lib.hid hq
              clear hsm hr hq hx hy
              cases sm
              · go_wp2_with fail
                refine wp_region_calm (C := Own _ _) (by kernel_rfl) (by kernel_rfl) (own_drew G) ?_
                intro ι W hne hW hs
                repeat (first
                  | go_big_quiet_skip
                  | ((with_reducible refine atq_load ?_); first
                    | (refine wpq_loadE (k := j) (fun i => G.rd (.slice (some aad) 2 ac) _ (hW i)) HX.out rfl (by kernel_rfl) rfl rfl ?_; go_frame)
                    | (refine wpq_loadE (k := j) (fun i => G.rd (.slice (some bad) 2 bc) _ (hW i)) HY.out rfl (by kernel_rfl) rfl rfl ?_; go_frame))
                  | ((with_reducible refine atq_eqF ?_); refine wpq_val (by kernel_rfl) (fun i => exec_eqF rfl rfl rfl) ?_; rw [HQ.out]; go_frame)
                  | go_big_quiet_step (fail))
                refine wpQuiet_nil ?_
                intro i
                have g := hW i
                generalize W i = wg at g ⊢
                clear hs hW hne
                have G := g
                clear g
                go_wp2_with fail
                go_roundw
                case rel => exact ⟨j + 1, by go_num, by omega, by rw [HST.out]; rfl, G⟩
                case measure => simp [intOf] <;> omega
              · go_wp2_with fail
                refine wp_region_calm (C := Own _ _) (by kernel_rfl) (by kernel_rfl) (own_drew G) ?_
                intro ι W hne hW hs
                repeat (first
                  | go_big_quiet_skip
                  | ((with_reducible refine atq_load ?_); first
                    | (refine wpq_loadE (k := j) (fun i => G.rd (.slice (some aad) 2 ac) _ (hW i)) HX.out rfl (by kernel_rfl) rfl rfl ?_; go_frame)
                    | (refine wpq_loadE (k := j) (fun i => G.rd (.slice (some bad) 2 bc) _ (hW i)) HY.out rfl (by kernel_rfl) rfl rfl ?_; go_frame))
                  | ((with_reducible refine atq_eqF ?_); refine wpq_val (by kernel_rfl) (fun i => exec_eqF rfl rfl rfl) ?_; rw [HQ.out]; go_frame)
                  | go_big_quiet_step (fail))
                refine wpQuiet_nil ?_
                intro i
                have g := hW i
                generalize W i = wg at g ⊢
                clear hs hW hne
                have G := g
                clear g
                go_wp2_with fail
                go_roundw
                case rel => exact ⟨j + 1, by go_num, by omega, by rw [HST.out]; rfl, G⟩
                case measure => simp [intOf] <;> omega
            · obtain rfl : j = 2 := by omega
              have e : decide (X.take 2 = Y.take 2) = false := by
                rw [List.take_of_length_le (by rw [HNX.out]; exact Nat.le_refl _), List.take_of_length_le (by rw [HM.out]; exact Nat.le_refl _)]
                simpa using HXY.out
              rw [e]
              go_wp2_with fail
              go_ret
              exact ⟨rfl, G.below⟩
        · have x1 : ((m : Int) != 2) = true := by simp; omega
          have x2 : ((m : Int) == 2) = false := by simp; omega
          go_wp2_with fail
          go_ret
          exact ⟨rfl, G.below⟩
    · skip
      as_aux_lemma =>
      obtain ⟨X, hX⟩ : ∃ X, localL 400 true = X := ⟨_, rfl⟩
      have hn : X.length = 4 := by rw [← hX]; rfl
      rw [hX] at G hinj j1 ⊢
      rw [hn] at G hinj j1 ⊢
      have HNX := Lib.hid hn
      clear hX hn
      by_cases hab : (400 : Int) = b
      · have z1 : decide ((400 : Int) = b) = true := by simp [hab]
        have z2 : ((400 : Int) == b) = true := by simp [hab]
        clear hinj hab
        go_wp2_with fail
        go_ret
        exact ⟨rfl, G.below⟩
      · have z1 : decide ((400 : Int) = b) = false := by simp [hab]
        have z2 : ((400 : Int) == b) = false := by simp [hab]
        have HXY : Hid (X ≠ Y) := Lib.hid fun h => by have := hinj h hab; omega
        clear hinj hab
        by_cases hmn : m = 4
        · subst hmn
          obtain ⟨aad, rfl⟩ := rd_some (G.rd (.slice ao 4 ac) _ G) (by decide)
          obtain ⟨bad, rfl⟩ := rd_some (G.rd (.slice bo 4 bc) _ G) (by decide)
          go_wp2_with fail
          go_loopw [12, 13] (fun sm i wr => ∃ j : Nat, i = .int .i64 j ∧ j ≤ 4 ∧ sm = .bool (decide (X.take j = Y.take j)) ∧ Own w0 (sl 3 (.slice (some bad) 4 bc) 4 (fds Y) * (sl 3 (.slice (some aad) 4 ac) 4 (fds X) * emp)) wr) (fun _ i _ => 4 - (intOf i).toNat)
          case atStart => exact ⟨0, rfl, by decide, by simp, G⟩
          case round =>
            clear G
            obtain ⟨j, rfl, hj, rfl, G⟩ := hrel
            by_cases hjn : j < 4
            · obtain ⟨x, hx⟩ : ∃ x, X[j]? = some x := ⟨X[j]'(by rw [HNX.out]; exact hjn), List.getElem?_eq_getElem _⟩
              obtain ⟨y, hy⟩ : ∃ y, Y[j]? = some y := ⟨Y[j]'(by rw [HM.out]; exact hjn), List.getElem?_eq_getElem _⟩
              have HX := Lib.hid (fds_at hx)
              have HY := Lib.hid (fds_at hy)
              obtain ⟨sm, hsm⟩ : ∃ sm, decide (X.take j = Y.take j) = sm := ⟨_, rfl⟩
              obtain ⟨r, hr⟩ : ∃ r, decide (x = y) = r := ⟨_, rfl⟩
              have hq : (x.1 == y.1 && x.2.1 == y.2.1 && x.2.2 == y.2.2) = r := by rw [fd_beq, hr]
              have HST : Hid (decide (X.take (j + 1) = Y.take (j + 1)) = (sm && r)) := Lib.hid (by
                rw [← hsm, ← hr]
                by_cases e : X.take j = Y.take j
                · have := take_step hx hy e
                  simp [e, this]
                · have : X.take (j + 1) ≠ Y.take (j + 1) := fun e2 => e (by
                    have := congrArg (List.take j) e2
                    simpa [List.take_take, Nat.min_eq_left (Nat.le_succ j)] using this)
                  simp [e, this])
              rw [hsm]
              have HQ := Lib.hid hq
              clear hsm hr hq hx hy
              cases sm
              · go_wp2_with fail
                refine wp_region_calm (C := Own _ _) (by kernel_rfl) (by kernel_rfl) (own_drew G) ?_
                intro ι W hne hW hs
                repeat (first
                  | go_big_quiet_skip
                  | ((with_reducible refine atq_load ?_); first
                    | (refine wpq_loadE (k := j) (fun i => G.rd (.slice (some aad) 4 ac) _ (hW i)) HX.out rfl (by kernel_rfl) rfl rfl ?_; go_frame)
                    | (refine wpq_loadE (k := j) (fun i => G.rd (.slice (some bad) 4 bc) _ (hW i)) HY.out rfl (by kernel_rfl) rfl rfl ?_; go_frame))
                  | ((with_reducible refine atq_eqF ?_); refine wpq_val (by kernel_rfl) (fun i => exec_eqF rfl rfl rfl) ?_; rw [HQ.out]; go_frame)
                  | go_big_quiet_step (fail))
                refine wpQuiet_nil ?_
                intro i
                have g := hW i
                generalize W i = wg at g ⊢
                clear hs hW hne
                have G := g
                clear g
                go_wp2_with fail
                go_roundw
                case rel => exact ⟨j + 1, by go_num, by omega, by rw [HST.out]; rfl, G⟩
                case measure => simp [intOf] <;> omega
              · go_wp2_with fail
                refine wp_region_calm (C := Own _ _) (by kernel_rfl) (by kernel_rfl) (own_drew G) ?_
                intro ι W hne hW hs
                repeat (first
                  | go_big_quiet_skip
                  | ((with_reducible refine atq_load ?_); first
                    | (refine wpq_loadE (k := j) (fun i => G.rd (.slice (some aad) 4 ac) _ (hW i)) HX.out rfl (by kernel_rfl) rfl rfl ?_; go_frame)
                    | (refine wpq_loadE (k := j) (fun i => G.rd (.slice (some bad) 4 bc) _ (hW i)) HY.out rfl (by kernel_rfl) rfl rfl ?_; go_frame))
                  | ((with_reducible refine atq_eqF ?_); refine wpq_val (by kernel_rfl) (fun i => exec_eqF rfl rfl rfl) ?_; rw [HQ.out]; go_frame)
                  | go_big_quiet_step (fail))
                refine wpQuiet_nil ?_
                intro i
                have g := hW i
                generalize W i = wg at g ⊢
                clear hs hW hne
                have G := g
                clear g
                go_wp2_with fail
                go_roundw
                case rel => exact ⟨j + 1, by go_num, by omega, by rw [HST.out]; rfl, G⟩
                case measure => simp [intOf] <;> omega
            · obtain rfl : j = 4 := by omega
              have e : decide (X.take 4 = Y.take 4) = false := by
                rw [List.take_of_length_le (by rw [HNX.out]; exact Nat.le_refl _), List.take_of_length_le (by rw [HM.out]; exact Nat.le_refl _)]
                simpa using HXY.out
              rw [e]
              go_wp2_with fail
              go_ret
              exact ⟨rfl, G.below⟩
        · have x1 : ((m : Int) != 4) = true := by simp; omega
          have x2 : ((m : Int) == 4) = false := by simp; omega
          go_wp2_with fail
          go_ret
          exact ⟨rfl, G.below⟩
  · skip
    cases g
    · skip
      as_aux_lemma =>
      obtain ⟨X, hX⟩ : ∃ X, localL 404 false = X := ⟨_, rfl⟩
      have hn : X.length = 2 := by rw [← hX]; rfl
      rw [hX] at G hinj j1 ⊢
      rw [hn] at G hinj j1 ⊢
      have HNX := Lib.hid hn
      clear hX hn
      by_cases hab : (404 : Int) = b
      · have z1 : decide ((404 : Int) = b) = true := by simp [hab]
        have z2 : ((404 : Int) == b) = true := by simp [hab]
        clear hinj hab
        go_wp2_with fail
        go_ret
        exact ⟨rfl, G.below⟩
      · have z1 : decide ((404 : Int) = b) = false := by simp [hab]
        have z2 : ((404 : Int) == b) = false := by simp [hab]
        have HXY : Hid (X ≠ Y) := Lib.hid fun h => by have := hinj h hab; omega
        clear hinj hab
        by_cases hmn : m = 2
        · subst hmn
          obtain ⟨aad, rfl⟩ := rd_some (G.rd (.slice ao 2 ac) _ G) (by decide)
          obtain ⟨bad, rfl⟩ := rd_some (G.rd (.slice bo 2 bc) _ G) (by decide)
          go_wp2_with fail
          go_loopw [12, 13] (fun sm i wr => ∃ j : Nat, i = .int .i64 j ∧ j ≤ 2 ∧ sm = .bool (decide (X.take j = Y.take j)) ∧ Own w0 (sl 3 (.slice (some bad) 2 bc) 2 (fds Y) * (sl 3 (.slice (some aad) 2 ac) 2 (fds X) * emp)) wr) (fun _ i _ => 2 - (intOf i).toNat)
          case atStart => exact ⟨0, rfl, by decide, by simp, G⟩
          case round =>
            clear G
            obtain ⟨j, rfl, hj, rfl, G⟩ := hrel
            by_cases hjn : j < 2
            · obtain ⟨x, hx⟩ : ∃ x, X[j]? = some x := ⟨X[j]'(by rw [HNX.out]; exact hjn), List.getElem?_eq_getElem _⟩
              obtain ⟨y, hy⟩ : ∃ y, Y[j]? = some y := ⟨Y[j]'(by rw [HM.out]; exact hjn), List.getElem?_eq_getElem _⟩
              have HX := Lib.hid (fds_at hx)
              have HY := Lib.hid (fds_at hy)
              obtain ⟨sm, hsm⟩ : ∃ sm, decide (X.take j = Y.take j) = sm := ⟨_, rfl⟩
              obtain ⟨r, hr⟩ : ∃ r, decide (x = y) = r := ⟨_, rfl⟩
              have hq : (x.1 == y.1 && x.2.1 == y.2.1 && x.2.2 == y.2.2) = r := by rw [fd_beq, hr]
              have HST : Hid (decide (X.take (j + 1) = Y.take (j + 1)) = (sm && r)) := Lib.hid (by
                rw [← hsm, ← hr]
                by_cases e : X.take j = Y.take j
                · have := take_step hx hy e
                  simp [e, this]
                · have : X.take (j + 1) ≠ Y.take (j + 1) := fun e2 => e (by
                    have := congrArg (List.take j) e2
                    simpa [List.take_take, Nat.min_eq_left (Nat.le_succ j)] using this)
                  simp [e, this])
              rw [hsm]
              have HQ := Lib.hid hq
              clear hsm hr hq hx hy
              cases sm
              · go_wp2_with fail
                refine wp_region_calm (C := Own _ _) (by kernel_rfl) (by kernel_rfl) (own_drew G) ?_
                intro ι W hne hW hs
                repeat (first
                  | go_big_quiet_skip
                  | ((with_reducible refine atq_load ?_); first
                    | (refine wpq_loadE (k := j) (fun i => G.rd (.slice (some aad) 2 ac) _ (hW i)) HX.out rfl (by kernel_rfl) rfl rfl ?_; go_frame)
                    | (refine wpq_loadE (k := j) (fun i => G.rd (.slice (some bad) 2 bc) _ (hW i)) HY.out rfl (by kernel_rfl) rfl rfl ?_; go_frame))
                  | ((with_reducible refine atq_eqF ?_); refine wpq_val (by kernel_rfl) (fun i => exec_eqF rfl rfl rfl) ?_; rw [HQ.out]; go_frame)
                  | go_big_quiet_step (fail))
                refine wpQuiet_nil ?_
                intro i
                have g := hW i
                generalize W i = wg at g ⊢
                clear hs hW hne
                have G := g
                clear g
                go_wp2_with fail
                go_roundw
                case rel => exact ⟨j + 1, by go_num, by omega, by rw [HST.out]; rfl, G⟩
                case measure => simp [intOf] <;> omega
              · go_wp2_with fail
                refine wp_region_calm (C := Own _ _) (by kernel_rfl) (by kernel_rfl) (own_drew G) ?_
                intro ι W hne hW hs
                repeat (first
                  | go_big_quiet_skip
                  | ((with_reducible refine atq_load ?_); first
                    | (refine wpq_loadE (k := j) (fun i => G.rd (.slice (some aad) 2 ac) _ (hW i)) HX.out rfl (by kernel_rfl) rfl rfl ?_; go_frame)
                    | (refine wpq_loadE (k := j) (fun i => G.rd (.slice (some bad) 2 bc) _ (hW i)) HY.out rfl (by kernel_rfl) rfl rfl ?_; go_frame))
                  | ((with_reducible refine atq_eqF ?_); refine wpq_val (by kernel_rfl) (fun i => exec_eqF rfl rfl rfl) ?_; rw [HQ.out]; go_frame)
                  | go_big_quiet_step (fail))
                refine wpQuiet_nil ?_
                intro i
                have g := hW i
                generalize W i = wg at g ⊢
                clear hs hW hne
                have G := g
                clear g
                go_wp2_with fail
                go_roundw
                case rel => exact ⟨j + 1, by go_num, by omega, by rw [HST.out]; rfl, G⟩
                case measure => simp [intOf] <;> omega
            · obtain rfl : j = 2 := by omega
              have e : decide (X.take 2 = Y.take 2) = false := by
                rw [List.take_of_length_le (by rw [HNX.out]; exact Nat.le_refl _), List.take_of_length_le (by rw [HM.out]; exact Nat.le_refl _)]
                simpa using HXY.out
              rw [e]
              go_wp2_with fail
              go_ret
              exact ⟨rfl, G.below⟩
        · have x1 : ((m : Int) != 2) = true := by simp; omega
          have x2 : ((m : Int) == 2) = false := by simp; omega
          go_wp2_with fail
          go_ret
          exact ⟨rfl, G.below⟩
    · skip
      as_aux_lemma =>
      obtain ⟨X, hX⟩ : ∃ X, localL 404 true = X := ⟨_, rfl⟩
      have hn : X.length = 4 := by rw [← hX]; rfl
      rw [hX] at G hinj j1 ⊢
      rw [hn] at G hinj j1 ⊢
      have HNX := Lib.hid hn
      clear hX hn
      by_cases hab : (404 : Int) = b
      · have z1 : decide ((404 : Int) = b) = true := by simp [hab]
        have z2 : ((404 : Int) == b) = true := by simp [hab]
        clear hinj hab
        go_wp2_with fail
        go_ret
        exact ⟨rfl, G.below⟩
      · have z1 : decide ((404 : Int) = b) = false := by simp [hab]
        have z2 : ((404 : Int) == b) = false := by simp [hab]
        have HXY : Hid (X ≠ Y) := Lib.hid fun h => by have := hinj h hab; omega
        clear hinj hab
        by_cases hmn : m = 4
        · subst hmn
          obtain ⟨aad, rfl⟩ := rd_some (G.rd (.slice ao 4 ac) _ G) (by decide)
          obtain ⟨bad, rfl⟩ := rd_some (G.rd (.slice bo 4 bc) _ G) (by decide)
          go_wp2_with fail
          go_loopw [12, 13] (fun sm i wr => ∃ j : Nat, i = .int .i64 j ∧ j ≤ 4 ∧ sm = .bool (decide (X.take j = Y.take j)) ∧ Own w0 (sl 3 (.slice (some bad) 4 bc) 4 (fds Y) * (sl 3 (.slice (some aad) 4 ac) 4 (fds X) * emp)) wr) (fun _ i _ => 4 - (intOf i).toNat)
          case atStart => exact ⟨0, rfl, by decide, by simp, G⟩
          case round =>
            clear G
            obtain ⟨j, rfl, hj, rfl, G⟩ := hrel
            by_cases hjn : j < 4
            · obtain ⟨x, hx⟩ : ∃ x, X[j]? = some x := ⟨X[j]'(by rw [HNX.out]; exact hjn), List.getElem?_eq_getElem _⟩
              obtain ⟨y, hy⟩ : ∃ y, Y[j]? = some y := ⟨Y[j]'(by rw [HM.out]; exact hjn), List.getElem?_eq_getElem _⟩
              have HX := Lib.hid (fds_at hx)
              have HY := Lib.hid (fds_at hy)
              obtain ⟨sm, hsm⟩ : ∃ sm, decide (X.take j = Y.take j) = sm := ⟨_, rfl⟩
              obtain ⟨r, hr⟩ : ∃ r, decide (x = y) = r := ⟨_, rfl⟩
              have hq : (x.1 == y.1 && x.2.1 == y.2.1 && x.2.2 == y.2.2) = r := by rw [fd_beq, hr]
              have HST : Hid (decide (X.take (j + 1) = Y.take (j + 1)) = (sm && r)) := Lib.hid (by
                rw [← hsm, ← hr]
                by_cases e : X.take j = Y.take j
                · have := take_step hx hy e
                  simp [e, this]
                · have : X.take (j + 1) ≠ Y.take (j + 1) := fun e2 => e (by
                    have := congrArg (List.take j) e2
                    simpa [List.take_take, Nat.min_eq_left (Nat.le_succ j)] using this)
                  simp [e, this])
              rw [hsm]
              have HQ := Lib.hid hq
              clear hsm hr hq hx hy
              cases sm
              · go_wp2_with fail
                refine wp_region_calm (C := Own _ _) (by kernel_rfl) (by kernel_rfl) (own_drew G) ?_
                intro ι W hne hW hs
                repeat (first
                  | go_big_quiet_skip
                  | ((with_reducible refine atq_load ?_); first
                    | (refine wpq_loadE (k := j) (fun i => G.rd (.slice (some aad) 4 ac) _ (hW i)) HX.out rfl (by kernel_rfl) rfl rfl ?_; go_frame)
                    | (refine wpq_loadE (k := j) (fun i => G.rd (.slice (some bad) 4 bc) _ (hW i)) HY.out rfl (by kernel_rfl) rfl rfl ?_; go_frame))
                  | ((with_reducible refine atq_eqF ?_); refine wpq_val (by kernel_rfl) (fun i => exec_eqF rfl rfl rfl) ?_; rw [HQ.out]; go_frame)
                  | go_big_quiet_step (fail))
                refine wpQuiet_nil ?_
                intro i
                have g := hW i
                generalize W i = wg at g ⊢
                clear hs hW hne
                have G := g
                clear g
                go_wp2_with fail
                go_roundw
                case rel => exact ⟨j + 1, by go_num, by omega, by rw [HST.out]; rfl, G⟩
                case measure => simp [intOf] <;> omega
              · go_wp2_with fail
                refine wp_region_calm (C := Own _ _) (by kernel_rfl) (by kernel_rfl) (own_drew G) ?_
                intro ι W hne hW hs
                repeat (first
                  | go_big_quiet_skip
                  | ((with_reducible refine atq_load ?_); first
                    | (refine wpq_loadE (k := j) (fun i => G.rd (.slice (some aad) 4 ac) _ (hW i)) HX.out rfl (by kernel_rfl) rfl rfl ?_; go_frame)
                    | (refine wpq_loadE (k := j) (fun i => G.rd (.slice (some bad) 4 bc) _ (hW i)) HY.out rfl (by kernel_rfl) rfl rfl ?_; go_frame))
                  | ((with_reducible refine atq_eqF ?_); refine wpq_val (by kernel_rfl) (fun i => exec_eqF rfl rfl rfl) ?_; rw [HQ.out]; go_frame)
                  | go_big_quiet_step (fail))
                refine wpQuiet_nil ?_
                intro i
                have g := hW i
                generalize W i = wg at g ⊢
                clear hs hW hne
                have G := g
                clear g
                go_wp2_with fail
                go_roundw
                case rel => exact ⟨j + 1, by go_num, by omega, by rw [HST.out]; rfl, G⟩
                case measure => simp [intOf] <;> omega
            · obtain rfl : j = 4 := by omega
              have e : decide (X.take 4 = Y.take 4) = false := by
                rw [List.take_of_length_le (by rw [HNX.out]; exact Nat.le_refl _), List.take_of_length_le (by rw [HM.out]; exact Nat.le_refl _)]
                simpa using HXY.out
              rw [e]
              go_wp2_with fail
              go_ret
              exact ⟨rfl, G.below⟩
        · have x1 : ((m : Int) != 4) = true := by simp; omega
          have x2 : ((m : Int) == 4) = false := by simp; omega
          go_wp2_with fail
          go_ret
          exact ⟨rfl, G.below⟩
  · skip
    cases g
    · skip
      as_aux_lemma =>
      obtain ⟨X, hX⟩ : ∃ X, localL 502 false = X := ⟨_, rfl⟩
      have hn : X.length = 2 := by rw [← hX]; rfl
      rw [hX] at G hinj j1 ⊢
      rw [hn] at G hinj j1 ⊢
      have HNX := Lib.hid hn
      clear hX hn
      by_cases hab : (502 : Int) = b
      · have z1 : decide ((502 : Int) = b) = true := by simp [hab]
        have z2 : ((502 : Int) == b) = true := by simp [hab]
        clear hinj hab
        go_wp2_with fail
        go_ret
        exact ⟨rfl, G.below⟩
      · have z1 : decide ((502 : Int) = b) = false := by simp [hab]
        have z2 : ((502 : Int) == b) = false := by simp [hab]
        have HXY : Hid (X ≠ Y) := Lib.hid fun h => by have := hinj h hab; omega
        clear hinj hab
        by_cases hmn : m = 2
        · subst hmn
          obtain ⟨aad, rfl⟩ := rd_some (G.rd (.slice ao 2 ac) _ G) (by decide)
          obtain ⟨bad, rfl⟩ := rd_some (G.rd (.slice bo 2 bc) _ G) (by decide)
          go_wp2_with fail
          go_loopw [12, 13] (fun sm i wr => ∃ j : Nat, i = .int .i64 j ∧ j ≤ 2 ∧ sm = .bool (decide (X.take j = Y.take j)) ∧ Own w0 (sl 3 (.slice (some bad) 2 bc) 2 (fds Y) * (sl 3 (.slice (some aad) 2 ac) 2 (fds X) * emp)) wr) (fun _ i _ => 2 - (intOf i).toNat)
          case atStart => exact ⟨0, rfl, by decide, by simp, G⟩
          case round =>
            clear G
            obtain ⟨j, rfl, hj, rfl, G⟩ := hrel
            by_cases hjn : j < 2
            · obtain ⟨x, hx⟩ : ∃ x, X[j]? = some x := ⟨X[j]'(by rw [HNX.out]; exact hjn), List.getElem?_eq_getElem _⟩
              obtain ⟨y, hy⟩ : ∃ y, Y[j]? = some y := ⟨Y[j]'(by rw [HM.out]; exact hjn), List.getElem?_eq_getElem _⟩
              have HX := Lib.hid (fds_at hx)
              have HY := Lib.hid (fds_at hy)
              obtain ⟨sm, hsm⟩ : ∃ sm, decide (X.take j = Y.take j) = sm := ⟨_, rfl⟩
              obtain ⟨r, hr⟩ : ∃ r, decide (x = y) = r := ⟨_, rfl⟩
              have hq : (x.1 == y.1 && x.2.1 == y.2.1 && x.2.2 == y.2.2) = r := by rw [fd_beq, hr]
              have HST : Hid (decide (X.take (j + 1) = Y.take (j + 1)) = (sm && r)) := Lib.hid (by
                rw [← hsm, ← hr]
                by_cases e : X.take j = Y.take j
                · have := take_step hx hy e
                  simp [e, this]
                · have : X.take (j + 1) ≠ Y.take (j + 1) := fun e2 => e (by
                    have := congrArg (List.take j) e2
                    simpa [List.take_take, Nat.min_eq_left (Nat.le_succ j)] using this)
                  simp [e, this])
              rw [hsm]
              have HQ := Lib.hid hq
              clear hsm hr hq hx hy
              cases sm
              · go_wp2_with fail
                refine wp_region_calm (C := Own _ _) (by kernel_rfl) (by kernel_rfl) (own_drew G) ?_
                intro ι W hne hW hs
                repeat (first
                  | go_big_quiet_skip
                  | ((with_reducible refine atq_load ?_); first
                    | (refine wpq_loadE (k := j) (fun i => G.rd (.slice (some aad) 2 ac) _ (hW i)) HX.out rfl (by kernel_rfl) rfl rfl ?_; go_frame)
                    | (refine wpq_loadE (k := j) (fun i => G.rd (.slice (some bad) 2 bc) _ (hW i)) HY.out rfl (by kernel_rfl) rfl rfl ?_; go_frame))
                  | ((with_reducible refine atq_eqF ?_); refine wpq_val (by kernel_rfl) (fun i => exec_eqF rfl rfl rfl) ?_; rw [HQ.out]; go_frame)
                  | go_big_quiet_step (fail))
                refine wpQuiet_nil ?_
                intro i
                have g := hW i
                generalize W i = wg at g ⊢
                clear hs hW hne
                have G := g
                clear g
                go_wp2_with fail
                go_roundw
                case rel => exact ⟨j + 1, by go_num, by omega, by rw [HST.out]; rfl, G⟩
                case measure => simp [intOf] <;> omega
              · go_wp2_with fail
                refine wp_region_calm (C := Own _ _) (by kernel_rfl) (by kernel_rfl) (own_drew G) ?_
                intro ι W hne hW hs
                repeat (first
                  | go_big_quiet_skip
                  | ((with_reducible refine atq_load ?_); first
                    | (refine wpq_loadE (k := j) (fun i => G.rd (.slice (some aad) 2 ac) _ (hW i)) HX.out rfl (by kernel_rfl) rfl rfl ?_; go_frame)
                    | (refine wpq_loadE (k := j) (fun i => G.rd (.slice (some bad) 2 bc) _ (hW i)) HY.out rfl (by kernel_rfl) rfl rfl ?_; go_frame))
                  | ((with_reducible refine atq_eqF ?_); refine wpq_val (by kernel_rfl) (fun i => exec_eqF rfl rfl rfl) ?_; rw [HQ.out]; go_frame)
                  | go_big_quiet_step (fail))
                refine wpQuiet_nil ?_
                intro i
                have g := hW i
                generalize W i = wg at g ⊢
                clear hs hW hne
                have G := g
                clear g
                go_wp2_with fail
                go_roundw
                case rel => exact ⟨j + 1, by go_num, by omega, by rw [HST.out]; rfl, G⟩
                case measure => simp [intOf] <;> omega
            · obtain rfl : j = 2 := by omega
              have e : decide (X.take 2 = Y.take 2) = false := by
                rw [List.take_of_length_le (by rw [HNX.out]; exact Nat.le_refl _), List.take_of_length_le (by rw [HM.out]; exact Nat.le_refl _)]
                simpa using HXY.out
              rw [e]
              go_wp2_with fail
              go_ret
              exact ⟨rfl, G.below⟩
        · have x1 : ((m : Int) != 2) = true := by simp; omega
          have x2 : ((m : Int) == 2) = false := by simp; omega
          go_wp2_with fail
          go_ret
          exact ⟨rfl, G.below⟩
    · skip
      as_aux_lemma =>
      obtain ⟨X, hX⟩ : ∃ X, localL 502 true = X := ⟨_, rfl⟩
      have hn : X.length = 4 := by rw [← hX]; rfl
      rw [hX] at G hinj j1 ⊢
      rw [hn] at G hinj j1 ⊢
      have HNX := Lib.hid hn
      clear hX hn
      by_cases hab : (502 : Int) = b
      · have z1 : decide ((502 : Int) = b) = true := by simp [hab]
        have z2 : ((502 : Int) == b) = true := by simp [hab]
        clear hinj hab
        go_wp2_with fail
        go_ret
        exact ⟨rfl, G.below⟩
      · have z1 : decide ((502 : Int) = b) = false := by simp [hab]
        have z2 : ((502 : Int) == b) = false := by simp [hab]
        have HXY : Hid (X ≠ Y) := Lib.hid fun h => by have := hinj h hab; omega
        clear hinj hab
        by_cases hmn : m = 4
        · subst hmn
          obtain ⟨aad, rfl⟩ := rd_some (G.rd (.slice ao 4 ac) _ G) (by decide)
          obtain ⟨bad, rfl⟩ := rd_some (G.rd (.slice bo 4 bc) _ G) (by decide)
          go_wp2_with fail
          go_loopw [12, 13] (fun sm i wr => ∃ j : Nat, i = .int .i64 j ∧ j ≤ 4 ∧ sm = .bool (decide (X.take j = Y.take j)) ∧ Own w0 (sl 3 (.slice (some bad) 4 bc) 4 (fds Y) * (sl 3 (.slice (some aad) 4 ac) 4 (fds X) * emp)) wr) (fun _ i _ => 4 - (intOf i).toNat)
          case atStart => exact ⟨0, rfl, by decide, by simp, G⟩
          case round =>
            clear G
            obtain ⟨j, rfl, hj, rfl, G⟩ := hrel
            by_cases hjn : j < 4
            · obtain ⟨x, hx⟩ : ∃ x, X[j]? = some x := ⟨X[j]'(by rw [HNX.out]; exact hjn), List.getElem?_eq_getElem _⟩
              obtain ⟨y, hy⟩ : ∃ y, Y[j]? = some y := ⟨Y[j]'(by rw [HM.out]; exact hjn), List.getElem?_eq_getElem _⟩
              have HX := Lib.hid (fds_at hx)
              have HY := Lib.hid (fds_at hy)
              obtain ⟨sm, hsm⟩ : ∃ sm, decide (X.take j = Y.take j) = sm := ⟨_, rfl⟩
              obtain ⟨r, hr⟩ : ∃ r, decide (x = y) = r := ⟨_, rfl⟩
              have hq : (x.1 == y.1 && x.2.1 == y.2.1 && x.2.2 == y.2.2) = r := by rw [fd_beq, hr]
              have HST : Hid (decide (X.take (j + 1) = Y.take (j + 1)) = (sm && r)) := Lib.hid (by
                rw [← hsm, ← hr]
                by_cases e : X.take j = Y.take j
                · have := take_step hx hy e
                  simp [e, this]
                · have : X.take (j + 1) ≠ Y.take (j + 1) := fun e2 => e (by
                    have := congrArg (List.take j) e2
                    simpa [List.take_take, Nat.min_eq_left (Nat.le_succ j)] using this)
                  simp [e, this])
              rw [hsm]
              have HQ := Lib.hid hq
              clear hsm hr hq hx hy
              cases sm
              · go_wp2_with fail
                refine wp_region_calm (C := Own _ _) (by kernel_rfl) (by kernel_rfl) (own_drew G) ?_
                intro ι W hne hW hs
                repeat (first
                  | go_big_quiet_skip
                  | ((with_reducible refine atq_load ?_); first
                    | (refine wpq_loadE (k := j) (fun i => G.rd (.slice (some aad) 4 ac) _ (hW i)) HX.out rfl (by kernel_rfl) rfl rfl ?_; go_frame)
                    | (refine wpq_loadE (k := j) (fun i => G.rd (.slice (some bad) 4 bc) _ (hW i)) HY.out rfl (by kernel_rfl) rfl rfl ?_; go_frame))
                  | ((with_reducible refine atq_eqF ?_); refine wpq_val (by kernel_rfl) (fun i => exec_eqF rfl rfl rfl) ?_; rw [HQ.out]; go_frame)
                  | go_big_quiet_step (fail))
                refine wpQuiet_nil ?_
                intro i
                have g := hW i
                generalize W i = wg at g ⊢
                clear hs hW hne
                have G := g
                clear g
                go_wp2_with fail
                go_roundw
                case rel => exact ⟨j + 1, by go_num, by omega, by rw [HST.out]; rfl, G⟩
                case measure => simp [intOf] <;> omega
              · go_wp2_with fail
                refine wp_region_calm (C := Own _ _) (by kernel_rfl) (by kernel_rfl) (own_drew G) ?_
                intro ι W hne hW hs
                repeat (first
                  | go_big_quiet_skip
                  | ((with_reducible refine atq_load ?_); first
                    | (refine wpq_loadE (k := j) (fun i => G.rd (.slice (some aad) 4 ac) _ (hW i)) HX.out rfl (by kernel_rfl) rfl rfl ?_; go_frame)
                    | (refine wpq_loadE (k := j) (fun i => G.rd (.slice (some bad) 4 bc) _ (hW i)) HY.out rfl (by kernel_rfl) rfl rfl ?_; go_frame))
                  | ((with_reducible refine atq_eqF ?_); refine wpq_val (by kernel_rfl) (fun i => exec_eqF rfl rfl rfl) ?_; rw [HQ.out]; go_frame)
                  | go_big_quiet_step (fail))
                refine wpQuiet_nil ?_
                intro i
                have g := hW i
                generalize W i = wg at g ⊢
                clear hs hW hne
                have G := g
                clear g
                go_wp2_with fail
                go_roundw
                case rel => exact ⟨j + 1, by go_num, by omega, by rw [HST.out]; rfl, G⟩
                case measure => simp [intOf] <;> omega
            · obtain rfl : j = 4 := by omega
              have e : decide (X.take 4 = Y.take 4) = false := by
                rw [List.take_of_length_le (by rw [HNX.out]; exact Nat.le_refl _), List.take_of_length_le (by rw [HM.out]; exact Nat.le_refl _)]
                simpa using HXY.out
              rw [e]
              go_wp2_with fail
              go_ret
              exact ⟨rfl, G.below⟩
        · have x1 : ((m : Int) != 4) = true := by simp; omega
          have x2 : ((m : Int) == 4) = false := by simp; omega
          go_wp2_with fail
          go_ret
          exact ⟨rfl, G.below⟩
  · skip
    cases g
    · skip
      as_aux_lemma =>
      obtain ⟨X, hX⟩ : ∃ X, localL 503 false = X := ⟨_, rfl⟩
      have hn : X.length = 2 := by rw [← hX]; rfl
      rw [hX] at G hinj j1 ⊢
      rw [hn] at G hinj j1 ⊢
      have HNX := Lib.hid hn
      clear hX hn
      by_cases hab : (503 : Int) = b
      · have z1 : decide ((503 : Int) = b) = true := by simp [hab]
        have z2 : ((503 : Int) == b) = true := by simp [hab]
        clear hinj hab
        go_wp2_with fail
        go_ret
        exact ⟨rfl, G.below⟩
      · have z1 : decide ((503 : Int) = b) = false := by simp [hab]
        have z2 : ((503 : Int) == b) = false := by simp [hab]
        have HXY : Hid (X ≠ Y) := Lib.hid fun h => by have := hinj h hab; omega
        clear hinj hab
        by_cases hmn : m = 2
        · subst hmn
          obtain ⟨aad, rfl⟩ := rd_some (G.rd (.slice ao 2 ac) _ G) (by decide)
          obtain ⟨bad, rfl⟩ := rd_some (G.rd (.slice bo 2 bc) _ G) (by decide)
          go_wp2_with fail
          go_loopw [12, 13] (fun sm i wr => ∃ j : Nat, i = .int .i64 j ∧ j ≤ 2 ∧ sm = .bool (decide (X.take j = Y.take j)) ∧ Own w0 (sl 3 (.slice (some bad) 2 bc) 2 (fds Y) * (sl 3 (.slice (some aad) 2 ac) 2 (fds X) * emp)) wr) (fun _ i _ => 2 - (intOf i).toNat)
          case atStart => exact ⟨0, rfl, by decide, by simp, G⟩
          case round =>
            clear G
            obtain ⟨j, rfl, hj, rfl, G⟩ := hrel
            by_cases hjn : j < 2
            · obtain ⟨x, hx⟩ : ∃ x, X[j]? = some x := ⟨X[j]'(by rw [HNX.out]; exact hjn), List.getElem?_eq_getElem _⟩
              obtain ⟨y, hy⟩ : ∃ y, Y[j]? = some y := ⟨Y[j]'(by rw [HM.out]; exact hjn), List.getElem?_eq_getElem _⟩
              have HX := Lib.hid (fds_at hx)
              have HY := Lib.hid (fds_at hy)
              obtain ⟨sm, hsm⟩ : ∃ sm, decide (X.take j = Y.take j) = sm := ⟨_, rfl⟩
              obtain ⟨r, hr⟩ : ∃ r, decide (x = y) = r := ⟨_, rfl⟩
              have hq : (x.1 == y.1 && x.2.1 == y.2.1 && x.2.2 == y.2.2) = r := by rw [fd_beq, hr]
              have HST : Hid (decide (X.take (j + 1) = Y.take (j + 1)) = (sm && r)) := Lib.hid (by
                rw [← hsm, ← hr]
                by_cases e : X.take j = Y.take j
                · have := take_step hx hy e
                  simp [e, this]
                · have : X.take (j + 1) ≠ Y.take (j + 1) := fun e2 => e (by
                    have := congrArg (List.take j) e2
                    simpa [List.take_take, Nat.min_eq_left (Nat.le_succ j)] using this)
                  simp [e, this])
              rw [hsm]
              have HQ := Lib.hid hq
              clear hsm hr hq hx hy
              cases sm
              · go_wp2_with fail
                refine wp_region_calm (C := Own _ _) (by kernel_rfl) (by kernel_rfl) (own_drew G) ?_
                intro ι W hne hW hs
                repeat (first
                  | go_big_quiet_skip
                  | ((with_reducible refine atq_load ?_); first
                    | (refine wpq_loadE (k := j) (fun i => G.rd (.slice (some aad) 2 ac) _ (hW i)) HX.out rfl (by kernel_rfl) rfl rfl ?_; go_frame)
                    | (refine wpq_loadE (k := j) (fun i => G.rd (.slice (some bad) 2 bc) _ (hW i)) HY.out rfl (by kernel_rfl) rfl rfl ?_; go_frame))
                  | ((with_reducible refine atq_eqF ?_); refine wpq_val (by kernel_rfl) (fun i => exec_eqF rfl rfl rfl) ?_; rw [HQ.out]; go_frame)
                  | go_big_quiet_step (fail))
                refine wpQuiet_nil ?_
                intro i
                have g := hW i
                generalize W i = wg at g ⊢
                clear hs hW hne
                have G := g
                clear g
                go_wp2_with fail
                go_roundw
                case rel => exact ⟨j + 1, by go_num, by omega, by rw [HST.out]; rfl, G⟩
                case measure => simp [intOf] <;> omega
              · go_wp2_with fail
                refine wp_region_calm (C := Own _ _) (by kernel_rfl) (by kernel_rfl) (own_drew G) ?_
                intro ι W hne hW hs
                repeat (first
                  | go_big_quiet_skip
                  | ((with_reducible refine atq_load ?_); first
                    | (refine wpq_loadE (k := j) (fun i => G.rd (.slice (some aad) 2 ac) _ (hW i)) HX.out rfl (by kernel_rfl) rfl rfl ?_; go_frame)
                    | (refine wpq_loadE (k := j) (fun i => G.rd (.slice (some bad) 2 bc) _ (hW i)) HY.out rfl (by kernel_rfl) rfl rfl ?_; go_frame))
                  | ((with_reducible refine atq_eqF ?_); refine wpq_val (by kernel_rfl) (fun i => exec_eqF rfl rfl rfl) ?_; rw [HQ.out]; go_frame)
                  | go_big_quiet_step (fail))
                refine wpQuiet_nil ?_
                intro i
                have g := hW i
                generalize W i = wg at g ⊢
                clear hs hW hne
                have G := g
                clear g
                go_wp2_with fail
                go_roundw
                case rel => exact ⟨j + 1, by go_num, by omega, by rw [HST.out]; rfl, G⟩
                case measure => simp [intOf] <;> omega
            · obtain rfl : j = 2 := by omega
              have e : decide (X.take 2 = Y.take 2) = false := by
                rw [List.take_of_length_le (by rw [HNX.out]; exact Nat.le_refl _), List.take_of_length_le (by rw [HM.out]; exact Nat.le_refl _)]
                simpa using HXY.out
              rw [e]
              go_wp2_with fail
              go_ret
              exact ⟨rfl, G.below⟩
        · have x1 : ((m : Int) != 2) = true := by simp; omega
          have x2 : ((m : Int) == 2) = false := by simp; omega
          go_wp2_with fail
          go_ret
          exact ⟨rfl, G.below⟩
    · skip
      as_aux_lemma =>
      obtain ⟨X, hX⟩ : ∃ X, localL 503 true = X := ⟨_, rfl⟩
      have hn : X.length = 4 := by rw [← hX]; rfl
      rw [hX] at G hinj j1 ⊢
      rw [hn] at G hinj j1 ⊢
      have HNX := Lib.hid hn
      clear hX hn
      by_cases hab : (503 : Int) = b
      · have z1 : decide ((503 : Int) = b) = true := by simp [hab]
        have z2 : ((503 : Int) == b) = true := by simp [hab]
        clear hinj hab
        go_wp2_with fail
        go_ret
        exact ⟨rfl, G.below⟩
      · have z1 : decide ((503 : Int) = b) = false := by simp [hab]
        have z2 : ((503 : Int) == b) = false := by simp [hab]
        have HXY : Hid (X ≠ Y) := Lib.hid fun h => by have := hinj h hab; omega
        clear hinj hab
        by_cases hmn : m = 4
        · subst hmn
          obtain ⟨aad, rfl⟩ := rd_some (G.rd (.slice ao 4 ac) _ G) (by decide)
          obtain ⟨bad, rfl⟩ := rd_some (G.rd (.slice bo 4 bc) _ G) (by decide)
          go_wp2_with fail
          go_loopw [12, 13] (fun sm i wr => ∃ j : Nat, i = .int .i64 j ∧ j ≤ 4 ∧ sm = .bool (decide (X.take j = Y.take j)) ∧ Own w0 (sl 3 (.slice (some bad) 4 bc) 4 (fds Y) * (sl 3 (.slice (some aad) 4 ac) 4 (fds X) * emp)) wr) (fun _ i _ => 4 - (intOf i).toNat)
          case atStart => exact ⟨0, rfl, by decide, by simp, G⟩
          case round =>
            clear G
            obtain ⟨j, rfl, hj, rfl, G⟩ := hrel
            by_cases hjn : j < 4
            · obtain ⟨x, hx⟩ : ∃ x, X[j]? = some x := ⟨X[j]'(by rw [HNX.out]; exact hjn), List.getElem?_eq_getElem _⟩
              obtain ⟨y, hy⟩ : ∃ y, Y[j]? = some y := ⟨Y[j]'(by rw [HM.out]; exact hjn), List.getElem?_eq_getElem _⟩
              have HX := Lib.hid (fds_at hx)
              have HY := Lib.hid (fds_at hy)
              obtain ⟨sm, hsm⟩ : ∃ sm, decide (X.take j = Y.take j) = sm := ⟨_, rfl⟩
              obtain ⟨r, hr⟩ : ∃ r, decide (x = y) = r := ⟨_, rfl⟩
              have hq : (x.1 == y.1 && x.2.1 == y.2.1 && x.2.2 == y.2.2) = r := by rw [fd_beq, hr]
              have HST : Hid (decide (X.take (j + 1) = Y.take (j + 1)) = (sm && r)) := Lib.hid (by
                rw [← hsm, ← hr]
                by_cases e : X.take j = Y.take j
                · have := take_step hx hy e
                  simp [e, this]
                · have : X.take (j + 1) ≠ Y.take (j + 1) := fun e2 => e (by
                    have := congrArg (List.take j) e2
                    simpa [List.take_take, Nat.min_eq_left (Nat.le_succ j)] using this)
                  simp [e, this])
              rw [hsm]
              have HQ := Lib.hid hq
              clear hsm hr hq hx hy
              cases sm
              · go_wp2_with fail
                refine wp_region_calm (C := Own _ _) (by kernel_rfl) (by kernel_rfl) (own_drew G) ?_
                intro ι W hne hW hs
                repeat (first
                  | go_big_quiet_skip
                  | ((with_reducible refine atq_load ?_); first
                    | (refine wpq_loadE (k := j) (fun i => G.rd (.slice (some aad) 4 ac) _ (hW i)) HX.out rfl (by kernel_rfl) rfl rfl ?_; go_frame)
                    | (refine wpq_loadE (k := j) (fun i => G.rd (.slice (some bad) 4 bc) _ (hW i)) HY.out rfl (by kernel_rfl) rfl rfl ?_; go_frame))
                  | ((with_reducible refine atq_eqF ?_); refine wpq_val (by kernel_rfl) (fun i => exec_eqF rfl rfl rfl) ?_; rw [HQ.out]; go_frame)
                  | go_big_quiet_step (fail))
                refine wpQuiet_nil ?_
                intro i
                have g := hW i
                generalize W i = wg at g ⊢
                clear hs hW hne
                have G := g
                clear g
                go_wp2_with fail
                go_roundw
                case rel => exact ⟨j + 1, by go_num, by omega, by rw [HST.out]; rfl, G⟩
                case measure => simp [intOf] <;> omega
              · go_wp2_with fail
                refine wp_region_calm (C := Own _ _) (by kernel_rfl) (by kernel_rfl) (own_drew G) ?_
                intro ι W hne hW hs
                repeat (first
                  | go_big_quiet_skip
                  | ((with_reducible refine atq_load ?_); first
                    | (refine wpq_loadE (k := j) (fun i => G.rd (.slice (some aad) 4 ac) _ (hW i)) HX.out rfl (by kernel_rfl) rfl rfl ?_; go_frame)
                    | (refine wpq_loadE (k := j) (fun i => G.rd (.slice (some bad) 4 bc) _ (hW i)) HY.out rfl (by kernel_rfl) rfl rfl ?_; go_frame))
                  | ((with_reducible refine atq_eqF ?_); refine wpq_val (by kernel_rfl) (fun i => exec_eqF rfl rfl rfl) ?_; rw [HQ.out]; go_frame)
                  | go_big_quiet_step (fail))
                refine wpQuiet_nil ?_
                intro i
                have g := hW i
                generalize W i = wg at g ⊢
                clear hs hW hne
                have G := g
                clear g
                go_wp2_with fail
                go_roundw
                case rel => exact ⟨j + 1, by go_num, by omega, by rw [HST.out]; rfl, G⟩
                case measure => simp [intOf] <;> omega
            · obtain rfl : j = 4 := by omega
              have e : decide (X.take 4 = Y.take 4) = false := by
                rw [List.take_of_length_le (by rw [HNX.out]; exact Nat.le_refl _), List.take_of_length_le (by rw [HM.out]; exact Nat.le_refl _)]
                simpa using HXY.out
              rw [e]
              go_wp2_with fail
              go_ret
              exact ⟨rfl, G.below⟩
        · have x1 : ((m : Int) != 4) = true := by simp; omega
          have x2 : ((m : Int) == 4) = false := by simp; omega
          go_wp2_with fail
          go_ret
          exact ⟨rfl, G.below⟩
  · skip
    cases g
    · skip
      as_aux_lemma =>
      obtain ⟨X, hX⟩ : ∃ X, localL 504 false = X := ⟨_, rfl⟩
      have hn : X.length = 2 := by rw [← hX]; rfl
      rw [hX] at G hinj j1 ⊢
      rw [hn] at G hinj j1 ⊢
      have HNX := Lib.hid hn
      clear hX hn
      by_cases hab : (504 : Int) = b
      · have z1 : decide ((504 : Int) = b) = true := by simp [hab]
        have z2 : ((504 : Int) == b) = true := by simp [hab]
        clear hinj hab
        go_wp2_with fail
        go_ret
        exact ⟨rfl, G.below⟩
      · have z1 : decide ((504 : Int) = b) = false := by simp [hab]
        have z2 : ((504 : Int) == b) = false := by simp [hab]
        have HXY : Hid (X ≠ Y) := Lib.hid fun h => by have := hinj h hab; omega
        clear hinj hab
        by_cases hmn : m = 2
        · subst hmn
          obtain ⟨aad, rfl⟩ := rd_some (G.rd (.slice ao 2 ac) _ G) (by decide)
          obtain ⟨bad, rfl⟩ := rd_some (G.rd (.slice bo 2 bc) _ G) (by decide)
          go_wp2_with fail
          go_loopw [12, 13] (fun sm i wr => ∃ j : Nat, i = .int .i64 j ∧ j ≤ 2 ∧ sm = .bool (decide (X.take j = Y.take j)) ∧ Own w0 (sl 3 (.slice (some bad) 2 bc) 2 (fds Y) * (sl 3 (.slice (some aad) 2 ac) 2 (fds X) * emp)) wr) (fun _ i _ => 2 - (intOf i).toNat)
          case atStart => exact ⟨0, rfl, by decide, by simp, G⟩
          case round =>
            clear G
            obtain ⟨j, rfl, hj, rfl, G⟩ := hrel
            by_cases hjn : j < 2
            · obtain ⟨x, hx⟩ : ∃ x, X[j]? = some x := ⟨X[j]'(by rw [HNX.out]; exact hjn), List.getElem?_eq_getElem _⟩
              obtain ⟨y, hy⟩ : ∃ y, Y[j]? = some y := ⟨Y[j]'(by rw [HM.out]; exact hjn), List.getElem?_eq_getElem _⟩
              have HX := Lib.hid (fds_at hx)
              have HY := Lib.hid (fds_at hy)
              obtain ⟨sm, hsm⟩ : ∃ sm, decide (X.take j = Y.take j) = sm := ⟨_, rfl⟩
              obtain ⟨r, hr⟩ : ∃ r, decide (x = y) = r := ⟨_, rfl⟩
              have hq : (x.1 == y.1 && x.2.1 == y.2.1 && x.2.2 == y.2.2) = r := by rw [fd_beq, hr]
              have HST : Hid (decide (X.take (j + 1) = Y.take (j + 1)) = (sm && r)) := Lib.hid (by
                rw [← hsm, ← hr]
                by_cases e : X.take j = Y.take j
                · have := take_step hx hy e
                  simp [e, this]
                · have : X.take (j + 1) ≠ Y.take (j + 1) := fun e2 => e (by
                    have := congrArg (List.take j) e2
                    simpa [List.take_take, Nat.min_eq_left (Nat.le_succ j)] using this)
                  simp [e, this])
              rw [hsm]
              have HQ := Lib.hid hq
              clear hsm hr hq hx hy
              cases sm
              · go_wp2_with fail
                refine wp_region_calm (C := Own _ _) (by kernel_rfl) (by kernel_rfl) (own_drew G) ?_
                intro ι W hne hW hs
                repeat (first
                  | go_big_quiet_skip
                  | ((with_reducible refine atq_load ?_); first
                    | (refine wpq_loadE (k := j) (fun i => G.rd (.slice (some aad) 2 ac) _ (hW i)) HX.out rfl (by kernel_rfl) rfl rfl ?_; go_frame)
                    | (refine wpq_loadE (k := j) (fun i => G.rd (.slice (some bad) 2 bc) _ (hW i)) HY.out rfl (by kernel_rfl) rfl rfl ?_; go_frame))
                  | ((with_reducible refine atq_eqF ?_); refine wpq_val (by kernel_rfl) (fun i => exec_eqF rfl rfl rfl) ?_; rw [HQ.out]; go_frame)
                  | go_big_quiet_step (fail))
                refine wpQuiet_nil ?_
                intro i
                have g := hW i
                generalize W i = wg at g ⊢
                clear hs hW hne
                have G := g
                clear g
                go_wp2_with fail
                go_roundw
                case rel => exact ⟨j + 1, by go_num, by omega, by rw [HST.out]; rfl, G⟩
                case measure => simp [intOf] <;> omega
              · go_wp2_with fail
                refine wp_region_calm (C := Own _ _) (by kernel_rfl) (by kernel_rfl) (own_drew G) ?_
                intro ι W hne hW hs
                repeat (first
                  | go_big_quiet_skip
                  | ((with_reducible refine atq_load ?_); first
                    | (refine wpq_loadE (k := j) (fun i => G.rd (.slice (some aad) 2 ac) _ (hW i)) HX.out rfl (by kernel_rfl) rfl rfl ?_; go_frame)
                    | (refine wpq_loadE (k := j) (fun i => G.rd (.slice (some bad) 2 bc) _ (hW i)) HY.out rfl (by kernel_rfl) rfl rfl ?_; go_frame))
                  | ((with_reducible refine atq_eqF ?_); refine wpq_val (by kernel_rfl) (fun i => exec_eqF rfl rfl rfl) ?_; rw [HQ.out]; go_frame)
                  | go_big_quiet_step (fail))
                refine wpQuiet_nil ?_
                intro i
                have g := hW i
                generalize W i = wg at g ⊢
                clear hs hW hne
                have G := g
                clear g
                go_wp2_with fail
                go_roundw
                case rel => exact ⟨j + 1, by go_num, by omega, by rw [HST.out]; rfl, G⟩
                case measure => simp [intOf] <;> omega
            · obtain rfl : j = 2 := by omega
              have e : decide (X.take 2 = Y.take 2) = false := by
                rw [List.take_of_length_le (by rw [HNX.out]; exact Nat.le_refl _), List.take_of_length_le (by rw [HM.out]; exact Nat.le_refl _)]
                simpa using HXY.out
              rw [e]
              go_wp2_with fail
              go_ret
              exact ⟨rfl, G.below⟩
        · have x1 : ((m : Int) != 2) = true := by simp; omega
          have x2 : ((m : Int) == 2) = false := by simp; omega
          go_wp2_with fail
          go_ret
          exact ⟨rfl, G.below⟩
    · skip
      as_aux_lemma =>
      obtain ⟨X, hX⟩ : ∃ X, localL 504 true = X := ⟨_, rfl⟩
      have hn : X.length = 4 := by rw [← hX]; rfl
      rw [hX] at G hinj j1 ⊢
      rw [hn] at G hinj j1 ⊢
      have HNX := Lib.hid hn
      clear hX hn
      by_cases hab : (504 : Int) = b
      · have z1 : decide ((504 : Int) = b) = true := by simp [hab]
        have z2 : ((504 : Int) == b) = true := by simp [hab]
        clear hinj hab
        go_wp2_with fail
        go_ret
        exact ⟨rfl, G.below⟩
      · have z1 : decide ((504 : Int) = b) = false := by simp [hab]
        have z2 : ((504 : Int) == b) = false := by simp [hab]
        have HXY : Hid (X ≠ Y) := Lib.hid fun h => by have := hinj h hab; omega
        clear hinj hab
        by_cases hmn : m = 4
        · subst hmn
          obtain ⟨aad, rfl⟩ := rd_some (G.rd (.slice ao 4 ac) _ G) (by decide)
          obtain ⟨bad, rfl⟩ := rd_some (G.rd (.slice bo 4 bc) _ G) (by decide)
          go_wp2_with fail
          go_loopw [12, 13] (fun sm i wr => ∃ j : Nat, i = .int .i64 j ∧ j ≤ 4 ∧ sm = .bool (decide (X.take j = Y.take j)) ∧ Own w0 (sl 3 (.slice (some bad) 4 bc) 4 (fds Y) * (sl 3 (.slice (some aad) 4 ac) 4 (fds X) * emp)) wr) (fun _ i _ => 4 - (intOf i).toNat)
          case atStart => exact ⟨0, rfl, by decide, by simp, G⟩
          case round =>
            clear G
            obtain ⟨j, rfl, hj, rfl, G⟩ := hrel
            by_cases hjn : j < 4
            · obtain ⟨x, hx⟩ : ∃ x, X[j]? = some x := ⟨X[j]'(by rw [HNX.out]; exact hjn), List.getElem?_eq_getElem _⟩
              obtain ⟨y, hy⟩ : ∃ y, Y[j]? = some y := ⟨Y[j]'(by rw [HM.out]; exact hjn), List.getElem?_eq_getElem _⟩
              have HX := Lib.hid (fds_at hx)
              have HY := Lib.hid (fds_at hy)
              obtain ⟨sm, hsm⟩ : ∃ sm, decide (X.take j = Y.take j) = sm := ⟨_, rfl⟩
              obtain ⟨r, hr⟩ : ∃ r, decide (x = y) = r := ⟨_, rfl⟩
              have hq : (x.1 == y.1 && x.2.1 == y.2.1 && x.2.2 == y.2.2) = r := by rw [fd_beq, hr]
              have HST : Hid (decide (X.take (j + 1) = Y.take (j + 1)) = (sm && r)) := Lib.hid (by
                rw [← hsm, ← hr]
                by_cases e : X.take j = Y.take j
                · have := take_step hx hy e
                  simp [e, this]
                · have : X.take (j + 1) ≠ Y.take (j + 1) := fun e2 => e (by
                    have := congrArg (List.take j) e2
                    simpa [List.take_take, Nat.min_eq_left (Nat.le_succ j)] using this)
                  simp [e, this])
              rw [hsm]
              have HQ := Lib.hid hq
              clear hsm hr hq hx hy
              cases sm
              · go_wp2_with fail
                refine wp_region_calm (C := Own _ _) (by kernel_rfl) (by kernel_rfl) (own_drew G) ?_
                intro ι W hne hW hs
                repeat (first
                  | go_big_quiet_skip
                  | ((with_reducible refine atq_load ?_); first
                    | (refine wpq_loadE (k := j) (fun i => G.rd (.slice (some aad) 4 ac) _ (hW i)) HX.out rfl (by kernel_rfl) rfl rfl ?_; go_frame)
                    | (refine wpq_loadE (k := j) (fun i => G.rd (.slice (some bad) 4 bc) _ (hW i)) HY.out rfl (by kernel_rfl) rfl rfl ?_; go_frame))
                  | ((with_reducible refine atq_eqF ?_); refine wpq_val (by kernel_rfl) (fun i => exec_eqF rfl rfl rfl) ?_; rw [HQ.out]; go_frame)
                  | go_big_quiet_step (fail))
                refine wpQuiet_nil ?_
                intro i
                have g := hW i
                generalize W i = wg at g ⊢
                clear hs hW hne
                have G := g
                clear g
                go_wp2_with fail
                go_roundw
                case rel => exact ⟨j + 1, by go_num, by omega, by rw [HST.out]; rfl, G⟩
                case measure => simp [intOf] <;> omega
              · go_wp2_with fail
                refine wp_region_calm (C := Own _ _) (by kernel_rfl) (by kernel_rfl) (own_drew G) ?_
                intro ι W hne hW hs
                repeat (first
                  | go_big_quiet_skip
                  | ((with_reducible refine atq_load ?_); first
                    | (refine wpq_loadE (k := j) (fun i => G.rd (.slice (some aad) 4 ac) _ (hW i)) HX.out rfl (by kernel_rfl) rfl rfl ?_; go_frame)
                    | (refine wpq_loadE (k := j) (fun i => G.rd (.slice (some bad) 4 bc) _ (hW i)) HY.out rfl (by kernel_rfl) rfl rfl ?_; go_frame))
                  | ((with_reducible refine atq_eqF ?_); refine wpq_val (by kernel_rfl) (fun i => exec_eqF rfl rfl rfl) ?_; rw [HQ.out]; go_frame)
                  | go_big_quiet_step (fail))
                refine wpQuiet_nil ?_
                intro i
                have g := hW i
                generalize W i = wg at g ⊢
                clear hs hW hne
                have G := g
                clear g
                go_wp2_with fail
                go_roundw
                case rel => exact ⟨j + 1, by go_num, by omega, by rw [HST.out]; rfl, G⟩
                case measure => simp [intOf] <;> omega
            · obtain rfl : j = 4 := by omega
              have e : decide (X.take 4 = Y.take 4) = false := by
                rw [List.take_of_length_le (by rw [HNX.out]; exact Nat.le_refl _), List.take_of_length_le (by rw [HM.out]; exact Nat.le_refl _)]
                simpa using HXY.out
              rw [e]
              go_wp2_with fail
              go_ret
              exact ⟨rfl, G.below⟩
        · have x1 : ((m : Int) != 4) = true := by simp; omega
          have x2 : ((m : Int) == 4) = false := by simp; omega
          go_wp2_with fail
          go_ret
          exact ⟨rfl, G.below⟩
  · have e : localL a g = [] := by
      unfold localL row
      rw [if_neg h1, if_neg h2, if_neg h3, if_neg h4, if_neg h5]
    rw [e] at G ⊢
    have z1 : (a == 400) = false := by simp [h1]
    have z2 : (a == 404) = false := by simp [h2]
    have z3 : (a == 502) = false := by simp [h3]
    have z4 : (a == 503) = false := by simp [h4]
    have z5 : (a == 504) = false := by simp [h5]
    clear hinj e
    simp only [List.length_nil] at G ⊢
    by_cases hab : a = b
    · have y1 : (a == b) = true := by simp [hab]
      have y2 : decide (a = b) = true := by simp [hab]
      clear hab
      as_aux_lemma =>
      go_wp2_with fail
      go_ret
      exact ⟨rfl, G.below⟩
    · have y1 : (a == b) = false := by simp [hab]
      have y2 : decide (a = b) = false := by simp [hab]
      clear hab
      by_cases hm0 : m = 0
      · subst hm0
        as_aux_lemma =>
        go_wp2_with fail
        go_loopw [12, 13] (fun sm i wr => i = .int .i64 0 ∧ sm = .bool true ∧ ∃ A, Own w0 A wr) (fun _ i _ => 0)
        case atStart => exact ⟨rfl, rfl, _, G⟩
        case round =>
          clear G
          obtain ⟨rfl, rfl, A, G⟩ := hrel
          go_wp2_with fail
          go_ret
          exact ⟨rfl, G.below⟩
      · have x1 : ((m : Int) != 0) = true := by simp [hm0]
        have x2 : ((m : Int) == 0) = false := by simp [hm0]
        as_aux_lemma =>
        go_wp2_with fail
        go_ret
        exact ⟨rfl, G.below⟩

theorem contract {H : Type} {enc : TypeId × Value → H} {W : World} {vs : List Value} {ds : List (DataW H)}
    (hA : Args enc Tryd.prog W [3, 3, 4] vs ds) (hsz : (DataW.weightsEach Tryd.prog [3, 3, 4] ds).all (· ≤ reachBytes) = true) (hL : laidMetH Tryd.prog Rows.replyStatusRow.laid W) :
    Calls Tryd.prog 5 vs.toArray W fun e W' => e = .returned (.bool true) ∧ Below W.heap.size W W' := by
  obtain ⟨v0, _, d0, _, rfl, rfl, h0, hA⟩ := args_cons hA
  obtain ⟨v1, _, d1, _, rfl, rfl, h1, hA⟩ := args_cons hA
  obtain ⟨v2, _, d2, _, rfl, rfl, h2, hA⟩ := args_cons hA
  obtain ⟨rfl, rfl⟩ := args_nil hA
  obtain ⟨a, rfl, -⟩ := arg_i64 Tryd.underlying3 h0
  obtain ⟨b, rfl, -⟩ := arg_i64 Tryd.underlying3 h1
  obtain ⟨g, rfl⟩ := arg_bool Tryd.underlying4 h2
  exact statusW (pow10_laid hL) a b g


theorem spec {H : Type} : ∀ ds : List (DataW H), ds.length = 3 → Rows.replyStatusSpec.fn H ds = { results := [.lit (.bool true)], args := ds }
  | [_, _, _], _ => rfl
  | [], h => by cases h
  | [_], h => by cases h
  | [_, _], h => by cases h
  | _ :: _ :: _ :: _ :: _, h => by simp at h
theorem door_met (os : Os) (args : Array Value) : laidMetH Tryd.prog Rows.replyStatusRow.laid ((World.doorLaid Tryd.prog 72 os).forCall (fun _ _ => 0) ⟨#[], args, []⟩).memory :=
  laidMetH_of_parts3 (fuel := 8) (laidMet_of_run' 8 (by kernel_rfl) (by kernel_rfl)) (by kernel_rfl) (by kernel_rfl)
set_option maxRecDepth 100000 in
theorem lifted (os : Os) (started : os.Started) (H : Type) (enc : TypeId × Value → H) :
    ReturnsInHanded {} Tryd.checked os 5 .any (fun w args => (Rows.replyStatusSpec.pre enc Tryd.prog Tryd.f5 Rows.replyStatusRow.domain false w args ∧ laidMetH Tryd.prog Rows.replyStatusRow.laid w) ∧ sizedMet enc Tryd.prog Tryd.f5 (OpenSpec.ofChange Rows.replyStatusSpec) false w args)
      (Rows.replyStatusSpec.post enc Tryd.prog Tryd.f5 false true false false) :=
  lifted_of_law_laid (C := Tryd.checked) (fn := Tryd.f5) (s := Rows.replyStatusSpec) (tb := 4) (by kernel_rfl) started (by kernel_rfl) Tryd.func5
    (ChangeSpec.witness_shaped (enc := enc) (C := Tryd.checked) (os := os) (X := fun w _ => laidMetH Tryd.prog Rows.replyStatusRow.laid w) false (World.doorLaid Tryd.prog 72 os) #[.int .i64 0, .int .i64 0, .bool false] 8 rfl (World.shaped_of_RefB (by kernel_rfl) (by kernel_rfl)) (by kernel_rfl) (by kernel_rfl) (by kernel_rfl) (door_met os _))
    rfl spec (by kernel_rfl) Tryd.underlying4 (by kernel_rfl) (by kernel_rfl) (fun _ _ _ h1 h2 h3 => contract h1 h2 h3)

theorem holds : Rows.ReplyStatusSaid :=
  OpenClaim.holds_of_wide 5 Tryd.f5 rfl rfl rfl rfl rfl rfl rfl ⟨rfl, rfl, rfl, rfl, rfl⟩ rfl rfl rfl rfl rfl (by kernel_rfl) Tryd.func5 (by kernel_rfl)
    (of_decide_eq_true (by kernel_rfl)) (by unfold Func.isWrapper; first | (rw [if_pos (by decide +kernel)]; kernel_rfl) | (rw [if_neg (by decide +kernel)]; exact ⟨rfl, rfl⟩))
    (fun os started H enc _ => lifted os started H enc)

theorem proved : Rows.ReplyStatusCardSaid :=
  Claim7.holds_tied_plain_at .later [] [.data, .data, .data] true (true, "91958e7d5246677641cc4049b7f4c48f57ef06c8a56922628399f975944d2110") true
    holds (fun _ h => by cases h) (by kernel_rfl) (fun _ h => by cases h) replyStatus_row_tie rfl ⟨rfl, rfl⟩ (by kernel_rfl) rfl
    (fun f fn hf hfn => by
      obtain rfl : f = 5 := Option.some.inj ((show Tryd.prog.funcNamed "flume/flumelaw17.ReplyStatus" = some 5 by kernel_rfl).symm.trans hf) |>.symm
      obtain rfl : fn = Tryd.f5 := (Option.some.inj (Tryd.func5.symm.trans hfn)).symm
      exact ⟨by kernel_rfl, fun j t ht => by
        rw [Tryd.params5] at ht
        have hm : t ∈ [3, 3, 4] := by simpa using Array.mem_of_getElem? ht
        have hall : ([3, 3, 4].all fun u => !Tryd.prog.wantsStandIn u) = true := by kernel_rfl
        exact (show Tryd.prog.wantsStandIn t = false by simpa using List.all_eq_true.1 hall t hm)⟩)
    (by kernel_rfl)
end Go.Proofs.YtnjldofiogbolaaDoor.replyStatus
