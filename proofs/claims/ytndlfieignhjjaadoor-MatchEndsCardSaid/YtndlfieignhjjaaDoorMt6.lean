
/-
  Package match: hosts.
-/
import Derived.Test.YtndlfieignhjjaaDoorMt5
namespace Go.Proofs.YtndlfieignhjjaaDoor
open Go.RowKit Go.Sl Go.ChangeShapes

section
variable {w : World} {ops : Array Oper} {Q : Exit → Act → World → Prop} {P : Program} {rest : List Oper} {a : Act} {x y : Operand} {d : Option Tmp} {ty T' : TypeId} {pos : String} {after : Array Edge} {g : Option (Nat × Bool)} {o : Oper} {l m : Txt}
theorem exec_strNe {T : TypeId} (ho : o.op = .binOp .neq T x y T') (hx : evalO a x = some (str l)) (hy : evalO a y = some (str m)) [hT : TyStr P T] : (execOp a.eval o).run P w = .ok (.value (.bool (!decide (l = m)))) w := by
  unfold execOp
  rw [ho]
  simp only [evalO_eq hx, evalO_eq hy]
  simp [eqGuard, binOp_string_neq, str_toList]
  rw [Bool.eq_iff_iff]
  simp
theorem at_neS (h : wpList P ops Q (⟨d, .binOp .neq 9 x y T', ty, pos, after, g⟩ :: rest) a w) : wpList P ops Q (⟨d, .binOp .neq 9 x y T', ty, pos, after, g⟩ :: rest) a w := h
theorem wpu_neS (ho : o.op = .binOp .neq 9 x y T') (hw : Region.wanted o (yielded ops a.tmps) = true) (hx : evalO a x = some (str l)) (hy : evalO a y = some (str m)) {b : Bool} (hb : decide (l = m) = b) (kk : wpList Tryd.prog ops Q rest (a.put o.dst (.bool (!b))) w) : wpList Tryd.prog ops Q (o :: rest) a w := by
  subst hb
  exact wpu_val hw (exec_strNe ho hx hy) kk
end

def hostB (p n : Txt) : Int :=
  if p = [42] then 1
  else if ([42, 46] : Txt).isPrefixOf p = true then (if p.tail.isSuffixOf n = true ∧ n ≠ p.tail then 1 + p.length else 0)
  else if p = n then 1000 + p.length
  else 0
theorem host_small (pat auth : Txt) : hostR pat auth = hostB (smallL pat) (nameL auth) := by
  unfold hostR hostB
  have : (smallL pat).length = pat.length := by simp [smallL]
  rw [this]
theorem name_len (s : Txt) : (nameL s).length ≤ s.length := by
  unfold nameL
  split
  · split
    · simp [smallL]; omega
    · simp [smallL]
  · simp [smallL]



set_option maxHeartbeats 8000000 in
set_option maxRecDepth 100000 in
theorem hostC {B w : World} {A : Assn} {pat auth : Txt} (hp : pat.length ≤ 1000000) (ha : auth.length ≤ 1000000) (h : Own B A w) :
    Calls Tryd.prog 18 #[str pat, str auth] w fun e w' => e = .returned (.int .i64 (hostR pat auth)) ∧ Own B A w' := by
  have hn1 : (nameL auth).length ≤ 1000000 := Nat.le_trans (name_len auth) ha
  have hp1 : (smallL pat).length ≤ 1000000 := by simp [smallL]; omega
  have hc1 := nameC ha h
  have hc2 := fun {w} (h : Own B A w) => smallMC hp h
  rw [host_small]
  obtain ⟨n, hn⟩ : ∃ n, nameL auth = n := ⟨_, rfl⟩
  obtain ⟨p, hpp⟩ : ∃ p, smallL pat = p := ⟨_, rfl⟩
  rw [hn] at hc1 hn1 ⊢
  simp only [hpp] at hc2 hp1 ⊢
  have HC2 : Hid (∀ w, Own B A w → Calls Tryd.prog 36 #[str pat] w fun e w' => e = .returned (str p) ∧ Own B A w') := Lib.hid fun w h => hc2 h
  clear hn hpp hc2
  go_enter Tryd.func18, Tryd.ntmps18
  go_wp2_with fail
  refine Calls.mono hc1 ?_
  clear hc1 h; rintro e w ⟨rfl, h⟩
  go_wp2_with fail
  refine Calls.mono (HC2.out _ h) ?_
  clear HC2 h; rintro e w ⟨rfl, h⟩
  by_cases e1 : p = [42]
  · subst e1
    have HB : Hid (hostB [42] n = 1) := Lib.hid rfl
    have HCUT : Hid (∀ w, Calls Tryd.prog 28 #[str [42], str [42]] w fun e w' => e = .returned (.tuple #[str [], .bool true]) ∧ w' = w) := Lib.hid fun w => cutPrefixC [42] [42] w
    have HPRE := Lib.hid (hasPrefixC [] [46])
    have HSUF := HPRE
    skip
    as_aux_lemma =>
    go_wp2_with (first
      | (go_at_call 28; refine Calls.mono (HCUT.out _) ?_; rintro e w ⟨rfl, rfl⟩)
      | (go_at_call 37; refine Calls.mono (HPRE.out _) ?_; rintro e w ⟨rfl, rfl⟩)
      | (go_at_call 32; refine Calls.mono (HSUF.out _) ?_; rintro e w ⟨rfl, rfl⟩)
      | ((with_reducible refine at_eqS ?_); refine wpu_eqS rfl (by kernel_rfl) rfl rfl (by first | assumption | rfl) ?_; go_frame)
      | ((with_reducible refine at_neS ?_); refine wpu_neS rfl (by kernel_rfl) rfl rfl (by first | assumption | rfl) ?_; go_frame)
      | fail)
    go_ret
    exact ⟨by rw [HB.out]; rfl, h⟩
  · have y1 : decide (p = [42]) = false := by simp [e1]
    by_cases e2 : ([42] : Txt).isPrefixOf p = true
    · obtain ⟨t, rfl⟩ : ∃ t, p = 42 :: t := by
        cases p with
        | nil => simp at e2
        | cons x q =>
          have : x = 42 := by simp at e2; exact e2.symm
          exact ⟨q, by rw [this]⟩
      have HCUT : Hid (∀ w, Calls Tryd.prog 28 #[str (42 :: t), str [42]] w fun e w' => e = .returned (.tuple #[str t, .bool true]) ∧ w' = w) := Lib.hid fun w => by
        have := cutPrefixC (42 :: t) [42] w
        rwa [if_pos e2, e2] at this
      simp only [List.length_cons] at hp1
      obtain ⟨pr, hpr⟩ : ∃ pr, ([46] : Txt).isPrefixOf t = pr := ⟨_, rfl⟩
      have HPRE : Hid (∀ w, Calls Tryd.prog 37 #[str t, str [46]] w fun e w' => e = .returned (.bool pr) ∧ w' = w) := Lib.hid fun w => by
        have := hasPrefixC t [46] w
        rwa [hpr] at this
      have e3 : ([42, 46] : Txt).isPrefixOf (42 :: t) = pr := by rw [← hpr]; simp [List.isPrefixOf]
      cases pr
      · have HSUF := HPRE
        by_cases e4 : 42 :: t = n
        · have y4 : decide (42 :: t = n) = true := by simp [e4]
          have HB : Hid (hostB (42 :: t) n = 1000 + ((t.length : Int) + 1)) := Lib.hid (by
            unfold hostB
            rw [if_neg e1, e3, if_neg (by simp), if_pos e4]
            simp)
          clear e1 e2 e3 e4 hpr
          skip
          as_aux_lemma =>
          go_wp2_with (first
            | (go_at_call 28; refine Calls.mono (HCUT.out _) ?_; rintro e w ⟨rfl, rfl⟩)
            | (go_at_call 37; refine Calls.mono (HPRE.out _) ?_; rintro e w ⟨rfl, rfl⟩)
            | (go_at_call 32; refine Calls.mono (HSUF.out _) ?_; rintro e w ⟨rfl, rfl⟩)
            | ((with_reducible refine at_eqS ?_); refine wpu_eqS rfl (by kernel_rfl) rfl rfl (by first | assumption | rfl) ?_; go_frame)
            | ((with_reducible refine at_neS ?_); refine wpu_neS rfl (by kernel_rfl) rfl rfl (by first | assumption | rfl) ?_; go_frame)
            | fail)
          go_ret
          exact ⟨by rw [HB.out]; rfl, h⟩
        · have y4 : decide (42 :: t = n) = false := by simp [e4]
          have HB : Hid (hostB (42 :: t) n = 0) := Lib.hid (by
            unfold hostB
            rw [if_neg e1, e3, if_neg (by simp), if_neg e4])
          clear e1 e2 e3 e4 hpr
          skip
          as_aux_lemma =>
          go_wp2_with (first
            | (go_at_call 28; refine Calls.mono (HCUT.out _) ?_; rintro e w ⟨rfl, rfl⟩)
            | (go_at_call 37; refine Calls.mono (HPRE.out _) ?_; rintro e w ⟨rfl, rfl⟩)
            | (go_at_call 32; refine Calls.mono (HSUF.out _) ?_; rintro e w ⟨rfl, rfl⟩)
            | ((with_reducible refine at_eqS ?_); refine wpu_eqS rfl (by kernel_rfl) rfl rfl (by first | assumption | rfl) ?_; go_frame)
            | ((with_reducible refine at_neS ?_); refine wpu_neS rfl (by kernel_rfl) rfl rfl (by first | assumption | rfl) ?_; go_frame)
            | fail)
          go_ret
          exact ⟨by rw [HB.out]; rfl, h⟩
      · obtain ⟨sf, hsf⟩ : ∃ sf, t.isSuffixOf n = sf := ⟨_, rfl⟩
        have HSUF : Hid (∀ w, Calls Tryd.prog 32 #[str n, str t] w fun e w' => e = .returned (.bool sf) ∧ w' = w) := Lib.hid fun w => by
          have := hasSuffixC n t w (by omega)
          rwa [hsf] at this
        cases sf
        · have HB : Hid (hostB (42 :: t) n = 0) := Lib.hid (by
            unfold hostB
            rw [if_neg e1, e3, if_pos rfl]
            exact if_neg fun e => by have := e.1; rw [show (42 :: t).tail = t from rfl, hsf] at this; cases this)
          clear e1 e2 e3 hpr hsf
          skip
          as_aux_lemma =>
          go_wp2_with (first
            | (go_at_call 28; refine Calls.mono (HCUT.out _) ?_; rintro e w ⟨rfl, rfl⟩)
            | (go_at_call 37; refine Calls.mono (HPRE.out _) ?_; rintro e w ⟨rfl, rfl⟩)
            | (go_at_call 32; refine Calls.mono (HSUF.out _) ?_; rintro e w ⟨rfl, rfl⟩)
            | ((with_reducible refine at_eqS ?_); refine wpu_eqS rfl (by kernel_rfl) rfl rfl (by first | assumption | rfl) ?_; go_frame)
            | ((with_reducible refine at_neS ?_); refine wpu_neS rfl (by kernel_rfl) rfl rfl (by first | assumption | rfl) ?_; go_frame)
            | fail)
          go_ret
          exact ⟨by rw [HB.out]; rfl, h⟩
        · by_cases e4 : n = t
          · have y4 : decide (n = t) = true := by simp [e4]
            have HB : Hid (hostB (42 :: t) n = 0) := Lib.hid (by
              unfold hostB
              rw [if_neg e1, e3, if_pos rfl]
              simp [e4])
            clear e1 e2 e3 e4 hpr hsf
            skip
            as_aux_lemma =>
            go_wp2_with (first
              | (go_at_call 28; refine Calls.mono (HCUT.out _) ?_; rintro e w ⟨rfl, rfl⟩)
              | (go_at_call 37; refine Calls.mono (HPRE.out _) ?_; rintro e w ⟨rfl, rfl⟩)
              | (go_at_call 32; refine Calls.mono (HSUF.out _) ?_; rintro e w ⟨rfl, rfl⟩)
              | ((with_reducible refine at_eqS ?_); refine wpu_eqS rfl (by kernel_rfl) rfl rfl (by first | assumption | rfl) ?_; go_frame)
              | ((with_reducible refine at_neS ?_); refine wpu_neS rfl (by kernel_rfl) rfl rfl (by first | assumption | rfl) ?_; go_frame)
              | fail)
            go_ret
            exact ⟨by rw [HB.out]; rfl, h⟩
          · have y4 : decide (n = t) = false := by simp [e4]
            have HB : Hid (hostB (42 :: t) n = 1 + ((t.length : Int) + 1)) := Lib.hid (by
              unfold hostB
              rw [if_neg e1, e3, if_pos rfl]
              exact (if_pos ⟨hsf, e4⟩).trans (by simp))
            clear e1 e2 e3 e4 hpr hsf
            skip
            as_aux_lemma =>
            go_wp2_with (first
              | (go_at_call 28; refine Calls.mono (HCUT.out _) ?_; rintro e w ⟨rfl, rfl⟩)
              | (go_at_call 37; refine Calls.mono (HPRE.out _) ?_; rintro e w ⟨rfl, rfl⟩)
              | (go_at_call 32; refine Calls.mono (HSUF.out _) ?_; rintro e w ⟨rfl, rfl⟩)
              | ((with_reducible refine at_eqS ?_); refine wpu_eqS rfl (by kernel_rfl) rfl rfl (by first | assumption | rfl) ?_; go_frame)
              | ((with_reducible refine at_neS ?_); refine wpu_neS rfl (by kernel_rfl) rfl rfl (by first | assumption | rfl) ?_; go_frame)
              | fail)
            go_ret
            exact ⟨by rw [HB.out]; rfl, h⟩
    · have e2' : ([42] : Txt).isPrefixOf p = false := by cases hx : ([42] : Txt).isPrefixOf p; rfl; exact absurd hx e2
      have HCUT : Hid (∀ w, Calls Tryd.prog 28 #[str p, str [42]] w fun e w' => e = .returned (.tuple #[str p, .bool false]) ∧ w' = w) := Lib.hid fun w => by
        have := cutPrefixC p [42] w
        rwa [if_neg e2, e2'] at this
      have HPRE := HCUT
      have HSUF := HCUT
      have e3 : ¬ ([42, 46] : Txt).isPrefixOf p = true := by
        intro e
        cases p with
        | nil => simp at e
        | cons x q =>
          simp [List.isPrefixOf] at e e2
          exact e2 e.1
      by_cases e4 : p = n
      · have y4 : decide (p = n) = true := by simp [e4]
        have HB : Hid (hostB p n = 1000 + (p.length : Int)) := Lib.hid (by
          unfold hostB
          rw [if_neg e1, if_neg e3, if_pos e4])
        clear e1 e2 e2' e3 e4
        skip
        as_aux_lemma =>
        go_wp2_with (first
          | (go_at_call 28; refine Calls.mono (HCUT.out _) ?_; rintro e w ⟨rfl, rfl⟩)
          | (go_at_call 37; refine Calls.mono (HPRE.out _) ?_; rintro e w ⟨rfl, rfl⟩)
          | (go_at_call 32; refine Calls.mono (HSUF.out _) ?_; rintro e w ⟨rfl, rfl⟩)
          | ((with_reducible refine at_eqS ?_); refine wpu_eqS rfl (by kernel_rfl) rfl rfl (by first | assumption | rfl) ?_; go_frame)
          | ((with_reducible refine at_neS ?_); refine wpu_neS rfl (by kernel_rfl) rfl rfl (by first | assumption | rfl) ?_; go_frame)
          | fail)
        go_ret
        exact ⟨by rw [HB.out]; rfl, h⟩
      · have y4 : decide (p = n) = false := by simp [e4]
        have HB : Hid (hostB p n = 0) := Lib.hid (by
          unfold hostB
          rw [if_neg e1, if_neg e3, if_neg e4])
        clear e1 e2 e2' e3 e4
        skip
        as_aux_lemma =>
        go_wp2_with (first
          | (go_at_call 28; refine Calls.mono (HCUT.out _) ?_; rintro e w ⟨rfl, rfl⟩)
          | (go_at_call 37; refine Calls.mono (HPRE.out _) ?_; rintro e w ⟨rfl, rfl⟩)
          | (go_at_call 32; refine Calls.mono (HSUF.out _) ?_; rintro e w ⟨rfl, rfl⟩)
          | ((with_reducible refine at_eqS ?_); refine wpu_eqS rfl (by kernel_rfl) rfl rfl (by first | assumption | rfl) ?_; go_frame)
          | ((with_reducible refine at_neS ?_); refine wpu_neS rfl (by kernel_rfl) rfl rfl (by first | assumption | rfl) ?_; go_frame)
          | fail)
        go_ret
        exact ⟨by rw [HB.out]; rfl, h⟩


set_option maxHeartbeats 8000000 in
set_option maxRecDepth 100000 in
theorem hostRefC {B w : World} {A : Assn} {pat auth : Txt} (hp : pat.length ≤ 1000000) (ha : auth.length ≤ 1000000) (h : Own B A w) :
    Calls Tryd.prog 19 #[str pat, str auth] w fun e w' => e = .returned (.int .i64 (hostR pat auth)) ∧ Own B A w' := by
  have hn1 : (nameL auth).length ≤ 1000000 := Nat.le_trans (name_len auth) ha
  have hp1 : (smallL pat).length ≤ 1000000 := by simp [smallL]; omega
  have hc1 := nameRefC ha h
  have hc2 := fun {w} (h : Own B A w) => smallRefC hp h
  rw [host_small]
  obtain ⟨n, hn⟩ : ∃ n, nameL auth = n := ⟨_, rfl⟩
  obtain ⟨p, hpp⟩ : ∃ p, smallL pat = p := ⟨_, rfl⟩
  rw [hn] at hc1 hn1 ⊢
  simp only [hpp] at hc2 hp1 ⊢
  have HC2 : Hid (∀ w, Own B A w → Calls Tryd.prog 39 #[str pat] w fun e w' => e = .returned (str p) ∧ Own B A w') := Lib.hid fun w h => hc2 h
  clear hn hpp hc2
  go_enter Tryd.func19, Tryd.ntmps19
  go_wp2_with fail
  refine Calls.mono hc1 ?_
  clear hc1 h; rintro e w ⟨rfl, h⟩
  go_wp2_with fail
  refine Calls.mono (HC2.out _ h) ?_
  clear HC2 h; rintro e w ⟨rfl, h⟩
  by_cases e1 : p = [42]
  · have y1 : decide (p = [42]) = true := by simp [e1]
    have HB : Hid (hostB p n = 1) := Lib.hid (by rw [e1]; rfl)
    clear e1
    as_aux_lemma =>
    go_wp2_with (first
      | ((with_reducible refine at_eqS ?_); refine wpu_eqS rfl (by kernel_rfl) rfl rfl (by first | assumption | rfl) ?_; go_frame)
      | ((with_reducible refine at_neS ?_); refine wpu_neS rfl (by kernel_rfl) rfl rfl (by first | assumption | rfl) ?_; go_frame)
      | fail)
    go_ret
    exact ⟨by rw [HB.out]; rfl, h⟩
  · have y1 : decide (p = [42]) = false := by simp [e1]
    by_cases e3 : ([42, 46] : Txt).isPrefixOf p = true
    · obtain ⟨t, rfl⟩ : ∃ t, p = 42 :: 46 :: t := by
        obtain ⟨t, ht⟩ := List.isPrefixOf_iff_prefix.1 e3
        exact ⟨t, ht.symm⟩
      simp only [List.length_cons] at hp1
      obtain ⟨sf, hsf⟩ : ∃ sf, (46 :: t : Txt).isSuffixOf n = sf := ⟨_, rfl⟩
      have HSUF : Hid (∀ w, Calls Tryd.prog 34 #[str n, str (46 :: t)] w fun e w' => e = .returned (.bool sf) ∧ w' = w) := Lib.hid fun w => by
        have := endsC (s := n) (t := 46 :: t) hn1 (by simp; omega) w
        rwa [hsf] at this
      have y2 : decide (([42, 46] : Txt) = [42, 46]) = true := rfl
      cases sf
      · have HB : Hid (hostB (42 :: 46 :: t) n = 0) := Lib.hid (by
          unfold hostB
          rw [if_neg e1, if_pos e3]
          exact if_neg fun e => by have := e.1; rw [show (42 :: 46 :: t).tail = 46 :: t from rfl, hsf] at this; cases this)
        clear e1 e3 hsf
        skip
        as_aux_lemma =>
        go_wp2_with (first
          | (go_at_call 34; refine Calls.mono (HSUF.out _) ?_; rintro e w ⟨rfl, rfl⟩)
          | ((with_reducible refine at_sliceAny ?_); first
            | (refine wpu_strH (j := 2) rfl (by kernel_rfl) rfl rfl rfl (by simp) ?_; go_frame)
            | (refine wpu_strL (i := 1) rfl (by kernel_rfl) rfl rfl rfl (by simp) ?_; go_frame))
          | ((with_reducible refine at_eqS ?_); refine wpu_eqS rfl (by kernel_rfl) rfl rfl (by first | assumption | rfl) ?_; go_frame)
          | ((with_reducible refine at_neS ?_); refine wpu_neS rfl (by kernel_rfl) rfl rfl (by first | assumption | rfl) ?_; go_frame)
          | fail)
        go_ret
        exact ⟨by rw [HB.out]; rfl, h⟩
      · have hsl : (46 :: t).length ≤ n.length := (List.isSuffixOf_iff_suffix.1 hsf).length_le
        simp only [List.length_cons] at hsl
        by_cases e4 : n = 46 :: t
        · have HB : Hid (hostB (42 :: 46 :: t) n = 0) := Lib.hid (by
            unfold hostB
            rw [if_neg e1, if_pos e3]
            exact if_neg fun e => e.2 e4)
          have hnl : n.length = t.length + 1 := by rw [e4]; simp
          have y4 : decide ((t.length : Int) + 1 < (n.length : Int)) = false := by simp; omega
          have y5 : decide (t.length + 1 < n.length) = false := by simp; omega
          have y6 : decide ((t.length : Int) + 2 - 1 < (n.length : Int)) = false := by simp; omega
          have y7 : decide ((t.length : Int) + 1 + 1 - 1 < (n.length : Int)) = false := by simp; omega
          clear e1 e3 e4 hsf hnl
          skip
          as_aux_lemma =>
          go_wp2_with (first
            | (go_at_call 34; refine Calls.mono (HSUF.out _) ?_; rintro e w ⟨rfl, rfl⟩)
            | ((with_reducible refine at_sliceAny ?_); first
              | (refine wpu_strH (j := 2) rfl (by kernel_rfl) rfl rfl rfl (by simp) ?_; go_frame)
              | (refine wpu_strL (i := 1) rfl (by kernel_rfl) rfl rfl rfl (by simp) ?_; go_frame))
            | ((with_reducible refine at_eqS ?_); refine wpu_eqS rfl (by kernel_rfl) rfl rfl (by first | assumption | rfl) ?_; go_frame)
            | ((with_reducible refine at_neS ?_); refine wpu_neS rfl (by kernel_rfl) rfl rfl (by first | assumption | rfl) ?_; go_frame)
            | fail)
          go_ret
          exact ⟨by rw [HB.out]; rfl, h⟩
        · have hlt : t.length + 1 < n.length := by
            rcases Nat.lt_or_ge (t.length + 1) n.length with g | g
            · exact g
            · exfalso
              apply e4
              exact ((List.isSuffixOf_iff_suffix.1 hsf).eq_of_length (by simp; omega)).symm
          have HB : Hid (hostB (42 :: 46 :: t) n = 1 + ((t.length : Int) + 2)) := Lib.hid (by
            unfold hostB
            rw [if_neg e1, if_pos e3]
            exact (if_pos ⟨hsf, e4⟩).trans (by simp; omega))
          have y4 : decide ((t.length : Int) + 1 < (n.length : Int)) = true := by simp; omega
          have y5 : decide (t.length + 1 < n.length) = true := by simp; omega
          have y6 : decide ((t.length : Int) + 2 - 1 < (n.length : Int)) = true := by simp; omega
          have y7 : decide ((t.length : Int) + 1 + 1 - 1 < (n.length : Int)) = true := by simp; omega
          clear e1 e3 e4 hsf
          skip
          as_aux_lemma =>
          go_wp2_with (first
            | (go_at_call 34; refine Calls.mono (HSUF.out _) ?_; rintro e w ⟨rfl, rfl⟩)
            | ((with_reducible refine at_sliceAny ?_); first
              | (refine wpu_strH (j := 2) rfl (by kernel_rfl) rfl rfl rfl (by simp) ?_; go_frame)
              | (refine wpu_strL (i := 1) rfl (by kernel_rfl) rfl rfl rfl (by simp) ?_; go_frame))
            | ((with_reducible refine at_eqS ?_); refine wpu_eqS rfl (by kernel_rfl) rfl rfl (by first | assumption | rfl) ?_; go_frame)
            | ((with_reducible refine at_neS ?_); refine wpu_neS rfl (by kernel_rfl) rfl rfl (by first | assumption | rfl) ?_; go_frame)
            | fail)
          go_ret
          exact ⟨by rw [HB.out]; rfl, h⟩
    · have y2 : ∀ t, p = 42 :: 46 :: t → False := fun t e => e3 (by rw [e]; rfl)
      have y3 : 2 ≤ p.length → decide (p.take 2 = [42, 46]) = false := fun hl => by
        cases hx : decide (p.take 2 = [42, 46]) with
        | false => rfl
        | true =>
          exfalso
          apply e3
          simp at hx
          rw [List.isPrefixOf_iff_prefix, ← hx]
          exact List.take_prefix _ _
      have Y3 := Lib.hid y3
      clear y2 y3
      by_cases hl : 2 ≤ p.length
      · have y3 := Y3.out hl
        have y5 : decide ((2 : Int) ≤ (p.length : Int)) = true := by simp; omega
        have y6 : decide (2 ≤ p.length) = true := by simp; omega
        by_cases e4 : p = n
        · have y4 : decide (p = n) = true := by simp [e4]
          have HB : Hid (hostB p n = 1000 + (p.length : Int)) := Lib.hid (by
            unfold hostB
            rw [if_neg e1, if_neg e3, if_pos e4])
          clear e1 e3 e4 Y3
          as_aux_lemma =>
          go_wp2_with (first
            | ((with_reducible refine at_sliceAny ?_); refine wpu_strH (j := 2) rfl (by kernel_rfl) rfl rfl rfl hl ?_; go_frame)
            | ((with_reducible refine at_eqS ?_); refine wpu_eqS rfl (by kernel_rfl) rfl rfl (by first | assumption | rfl) ?_; go_frame)
            | ((with_reducible refine at_neS ?_); refine wpu_neS rfl (by kernel_rfl) rfl rfl (by first | assumption | rfl) ?_; go_frame)
            | fail)
          go_ret
          exact ⟨by rw [HB.out]; rfl, h⟩
        · have y4 : decide (p = n) = false := by simp [e4]
          have HB : Hid (hostB p n = 0) := Lib.hid (by
            unfold hostB
            rw [if_neg e1, if_neg e3, if_neg e4])
          clear e1 e3 e4 Y3
          as_aux_lemma =>
          go_wp2_with (first
            | ((with_reducible refine at_sliceAny ?_); refine wpu_strH (j := 2) rfl (by kernel_rfl) rfl rfl rfl hl ?_; go_frame)
            | ((with_reducible refine at_eqS ?_); refine wpu_eqS rfl (by kernel_rfl) rfl rfl (by first | assumption | rfl) ?_; go_frame)
            | ((with_reducible refine at_neS ?_); refine wpu_neS rfl (by kernel_rfl) rfl rfl (by first | assumption | rfl) ?_; go_frame)
            | fail)
          go_ret
          exact ⟨by rw [HB.out]; rfl, h⟩
      · have y5 : decide ((2 : Int) ≤ (p.length : Int)) = false := by simp; omega
        have y6 : decide (2 ≤ p.length) = false := by simp; omega
        by_cases e4 : p = n
        · have y4 : decide (p = n) = true := by simp [e4]
          have HB : Hid (hostB p n = 1000 + (p.length : Int)) := Lib.hid (by
            unfold hostB
            rw [if_neg e1, if_neg e3, if_pos e4])
          clear e1 e3 e4 Y3
          as_aux_lemma =>
          go_wp2_with (first
            | ((with_reducible refine at_eqS ?_); refine wpu_eqS rfl (by kernel_rfl) rfl rfl (by first | assumption | rfl) ?_; go_frame)
            | ((with_reducible refine at_neS ?_); refine wpu_neS rfl (by kernel_rfl) rfl rfl (by first | assumption | rfl) ?_; go_frame)
            | fail)
          go_ret
          exact ⟨by rw [HB.out]; rfl, h⟩
        · have y4 : decide (p = n) = false := by simp [e4]
          have HB : Hid (hostB p n = 0) := Lib.hid (by
            unfold hostB
            rw [if_neg e1, if_neg e3, if_neg e4])
          clear e1 e3 e4 Y3
          as_aux_lemma =>
          go_wp2_with (first
            | ((with_reducible refine at_eqS ?_); refine wpu_eqS rfl (by kernel_rfl) rfl rfl (by first | assumption | rfl) ?_; go_frame)
            | ((with_reducible refine at_neS ?_); refine wpu_neS rfl (by kernel_rfl) rfl rfl (by first | assumption | rfl) ?_; go_frame)
            | fail)
          go_ret
          exact ⟨by rw [HB.out]; rfl, h⟩
end Go.Proofs.YtndlfieignhjjaaDoor
