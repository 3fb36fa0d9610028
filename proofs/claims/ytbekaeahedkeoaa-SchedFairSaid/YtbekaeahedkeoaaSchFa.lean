
/-
  SchedFair: while somebody is ready nobody else is served twice ahead.
-/
import Derived.Test.YtbekaeahedkeoaaSchFaP
namespace Go.Proofs.Ytbekaeahedkeoaa.schedFair
open Go.RowKit Go.Sl Go.ChangeShapes

def ints (l : List Int) : List Value := l.map (.int .i64 ·)
theorem ints_len (l : List Int) : (ints l).length = l.length := by simp [ints]
theorem ints_set (l : List Int) (i : Nat) (b : Int) : (ints l).set i (.int .i64 b) = ints (l.set i b) := by simp [ints]
theorem ints_at {l : List Int} {i : Nat} {b : Int} (h : l[i]? = some b) : (ints l)[i]? = some (.int .i64 b) := by simp [ints, h]
theorem quo_two (j : Nat) : (2 * (j : Int) + 1).tdiv 2 = j := by
  rw [Int.tdiv_eq_ediv_of_nonneg (by omega)]
  omega

def lefts (vs : List Int) : List Int := vs ++ List.replicate (30 - vs.length) 0
theorem lefts_len {vs : List Int} (h : vs.length ≤ 30) : (lefts vs).length = 30 := by simp [lefts]; omega
theorem lefts_set {vs : List Int} (h : vs.length < 30) (v : Int) : (lefts vs).set vs.length v = lefts (vs ++ [v]) := by
  unfold lefts
  rw [List.set_append_right _ _ (Nat.le_refl _), Nat.sub_self]
  obtain ⟨m, hm⟩ : ∃ m, 30 - vs.length = m + 1 := ⟨29 - vs.length, by omega⟩
  have hm' : 30 - (vs ++ [v]).length = m := by simp; omega
  rw [hm, hm', List.replicate_succ]
  simp

def f3 (v : Int) : F3 := (1048576, v, true)

theorem waits_mkQ (k : Nat) (vs : List Int) : waits (mkQ k (vs.map f3)) = vs.sum := by
  induction vs generalizing k with
  | nil => rfl
  | cons v vs ih =>
    simp only [List.map_cons, mkQ, waits_cons, ih, List.sum_cons]
    rfl
theorem sum_le {vs : List Int} (h : ∀ v ∈ vs, 1 ≤ v ∧ v ≤ 1024) : 0 ≤ vs.sum ∧ vs.sum ≤ 1024 * vs.length := by
  induction vs with
  | nil => simp
  | cons v vs ih =>
    have := ih fun x hx => h x (List.mem_cons_of_mem _ hx)
    have := h v (List.mem_cons_self ..)
    simp only [List.sum_cons, List.length_cons]
    omega
theorem mkQ_pair (k : Nat) (F : List F3) : (mkQ k F).Pairwise (fun f g => f.id ≠ g.id) := by
  induction F generalizing k with
  | nil => exact List.Pairwise.nil
  | cons f F ih =>
    refine List.Pairwise.cons ?_ (ih (k + 1))
    intro g hg
    obtain ⟨j, x, _, rfl⟩ := mkQ_mem hg
    simp only
    omega
theorem mkQ_at {k j : Nat} {F : List F3} {g : F3} (h : F[j]? = some g) : (⟨2 * ((k + j : Nat) : Int) + 1, g.1, g.2.1, g.2.2⟩ : Fl) ∈ mkQ k F := by
  induction F generalizing k j with
  | nil => simp at h
  | cons f F ih =>
    cases j with
    | zero => simp at h; subst h; exact List.mem_cons_self ..
    | succ j =>
      have := ih (k := k + 1) (j := j) (by simpa using h)
      have e : k + 1 + j = k + (j + 1) := by omega
      rw [e] at this
      exact List.mem_cons_of_mem _ this

theorem Inv.start {vs : List Int} (hl : vs.length ≤ 30) (hv : ∀ v ∈ vs, 1 ≤ v ∧ v ≤ 1024) {fr : Int} (f1 : 1 ≤ fr) (f2 : fr ≤ 16384) :
    Inv vs.length (lefts vs) (List.replicate 30 0) ⟨[], mkQ 0 (vs.map f3), 1073807359, fr⟩ 0 := by
  have hs := sum_le hv
  have hmem : ∀ f ∈ mkQ 0 (vs.map f3), ∃ (j : Nat) (v : Int), vs[j]? = some v ∧ f = ⟨2 * (j : Int) + 1, 1048576, v, true⟩ := by
    intro f hf
    obtain ⟨j, g, h1, rfl⟩ := mkQ_mem hf
    rw [List.getElem?_map, Option.map_eq_some_iff] at h1
    obtain ⟨v, h1, rfl⟩ := h1
    exact ⟨j, v, h1, by simp [f3]⟩
  refine ⟨⟨?_, by show (-2147483647 : Int) ≤ 1073807359; decide, by show (1073807359 : Int) ≤ 2147483647; decide, f1, by show fr ≤ 16777215; omega⟩, rfl, lefts_len hl, by simp, hl, f2, ?_, ?_, mkQ_pair _ _, ?_, ?_, ⟨0, mkQ 0 (vs.map f3), [], by simp, ?_, by simp⟩, ?_, by rw [mkQ_len]; simpa using hl⟩
  · intro f hf
    obtain ⟨j, v, h1, rfl⟩ := hmem f hf
    have := hv v (List.mem_of_getElem? h1)
    have := (List.getElem?_eq_some_iff.1 h1).1
    exact ⟨by show (-2147483647 : Int) ≤ 1048576; decide, by show (1048576 : Int) ≤ 2147483647; decide, by show 0 ≤ v; omega, by show v ≤ 2147483647; omega, by show 1 ≤ 2 * (j : Int) + 1; omega, by show 2 * (j : Int) + 1 ≤ 2147483647; omega⟩
  · intro f hf
    obtain ⟨j, v, h1, rfl⟩ := hmem f hf
    have hv' := hv v (List.mem_of_getElem? h1)
    have hj := (List.getElem?_eq_some_iff.1 h1).1
    exact ⟨j, hj, rfl, by unfold lefts; rw [List.getElem?_append_left hj, h1], hv'.1, by show v ≤ 1048576; omega, rfl⟩
  · intro j hj
    right
    have h1 : (vs.map f3)[j]? = some (f3 vs[j]) := by simp [hj]
    exact ⟨_, mkQ_at (k := 0) h1, by simp⟩
  · show waits (mkQ 0 (vs.map f3)) ≤ 1073807359
    rw [waits_mkQ]; omega
  · show waits (mkQ 0 (vs.map f3)) ≤ 30720 - ((0 : Nat) : Int)
    rw [waits_mkQ]; omega
  · intro f hf i hi
    obtain ⟨j, v, h1, rfl⟩ := hmem f hf
    have hj := (List.getElem?_eq_some_iff.1 h1).1
    have : j = i := by simp only at hi; omega
    subst this
    rw [List.getElem?_replicate, if_pos (by omega)]
  · intro j x hx
    rw [List.getElem?_replicate] at hx
    split at hx
    · cases hx; simp
    · cases hx



set_option maxHeartbeats 40000000 in
set_option maxRecDepth 100000 in
theorem fairW {w0 : World} {most : Int} {fv : Value} {nf : Nat} {xf : List Value} (hf : rd w0 3 fv nf xf) (hfe : ∀ i, i < nf → ∃ (a b : Int) (e : Bool), (xf.drop (i * 3)).take 3 = [.int .i64 a, .int .i64 b, .bool e]) :
    Calls Try.prog 7 #[.int .i64 most, fv] w0 fun e w' => e = .returned (.bool true) ∧ Below w0.heap.size w0 w' := by
  have G := own_begin w0
  obtain ⟨fo, fc, rfl, j5, j6, -⟩ := id hf
  unfold maxLen at j6
  obtain ⟨mo, hmo, hmo'⟩ := and_i64 most 16383 (by decide)
  replace hmo : bits .and .i64 most 16383 = (mo : Int) := hmo
  have HR := Lib.hid hf
  clear hf
  go_enter Try.func7, Try.ntmps7
  go_wp2_with fail
  refine Calls.mono (shownSch G) ?_
  clear G; rintro e w ⟨rfl, G⟩
  go_wp2_with fail
  refine Calls.mono (newC G (by omega) (by omega)) ?_
  clear G hmo; rintro e w ⟨a, rfl, G⟩
  obtain ⟨fr, hfr⟩ : ∃ fr : Int, min (max (1 + (mo : Int)) 1) 16777215 = fr := ⟨_, rfl⟩
  rw [hfr] at G
  have fr1 : 1 ≤ fr := by omega
  have fr2 : fr ≤ 16384 := by omega
  clear hfr
  go_wp2_with fail
  refine Calls.mono (grant0 G (by decide) (by decide) (by show (65535 : Int) + _ ≤ _; decide) (by show (-2147483647 : Int) ≤ 65535; decide)) ?_
  clear G; rintro e w ⟨rfl, G⟩
  replace G : Own w0 (schA a ⟨[], [], 1073807359, fr⟩ * emp) w := G
  go_wp2_with fail
  have G1 := own_new G (ints (List.replicate 30 0)) 54
  clear G
  have GN := own_new G1 (ints (List.replicate 30 0)) 54
  clear G1
  rw [show (w.alloc (.cells (ints (List.replicate 30 0)).toArray 54)).heap.size = w.heap.size + 1 from Array.size_push ..] at GN
  generalize w.heap.size + 1 = tb at GN ⊢
  generalize w.heap.size = lb at GN ⊢
  go_loopw [9, 10] (fun nv i wr => ∃ (vs : List Int), i = .int .i64 vs.length ∧ nv = .int .i64 vs.length ∧ vs.length ≤ nf ∧ vs.length ≤ 30 ∧ (∀ v ∈ vs, 1 ≤ v ∧ v ≤ 1024) ∧ Own w0 (blk tb (ints (List.replicate 30 0)) * (blk lb (ints (lefts vs)) * (schA a ⟨[], mkQ 0 (vs.map f3), 1073807359, fr⟩ * emp))) wr) (fun _ i _ => nf - (intOf i).toNat)
  case atStart => exact ⟨[], rfl, rfl, Nat.zero_le _, by decide, by simp, GN⟩
  case round =>
    clear GN
    obtain ⟨vs, rfl, rfl, hvn, hv30, hvs, G⟩ := hrel
    by_cases hlt : vs.length < nf ∧ vs.length < 30
    · obtain ⟨hlt, hlt2⟩ := hlt
      as_aux_lemma =>
      obtain ⟨a0, b0, e0, hx⟩ := hfe vs.length hlt
      obtain ⟨ad, rfl⟩ := rd_some HR.out (by omega)
      have HX := Lib.hid hx
      clear hx
      obtain ⟨m, hm, hm'⟩ := and_i64 b0 1023 (by decide)
      replace hm : bits .and .i64 b0 1023 = (m : Int) := hm
      have hil : decide (vs.length < (ints (lefts vs)).length) = true := by rw [ints_len, lefts_len hv30]; simpa using hlt2
      have HV : Hid (((ints (lefts vs)).set vs.length (.int .i64 (1 + (m : Int))))[vs.length]? = some (.int .i64 (1 + (m : Int)))) := Lib.hid (by
        rw [List.getElem?_set_self (by rw [ints_len, lefts_len hv30]; exact hlt2)])
      have hne : ∀ f ∈ mkQ 0 (vs.map f3), f.id ≠ 2 * (vs.length : Int) + 1 := by
        intro f hf
        obtain ⟨j, g, h1, rfl⟩ := mkQ_mem hf
        have := (List.getElem?_eq_some_iff.1 h1).1
        simp only [List.length_map] at this
        simp only
        omega
      have hql : (mkQ 0 (vs.map f3)).length ≤ 1000000 := by rw [mkQ_len, List.length_map]; omega
      go_wp2_with (first
        | ((with_reducible refine at_alloc ?_); refine wpu_new G ?_; clear G; intro w G)
        | ((with_reducible refine at_drew ?_); refine wpu_drew G ?_; clear G; intro w G)
        | ((with_reducible refine at_load ?_); first
          | (refine wpu_load G rfl rfl rfl rfl ?_; go_frame)
          | (refine wpu_loadB G rfl rfl rfl (by rfl) ?_; go_frame)
          | (refine wpu_loadS G rfl rfl rfl (by rfl) ?_; simp only [List.drop_succ_cons, List.drop_zero, List.take_succ_cons, List.take_zero]; go_frame))
        | ((with_reducible refine at_store ?_); first
          | (refine wpu_store G rfl rfl rfl rfl (by first | rfl | assumption | simp [*]) rfl ?_; clear G; intro w G; go_frame)
          | (refine wpu_storeB G rfl rfl rfl rfl (by rfl) (by rfl) (by first | rfl | assumption | simp [*]) ?_; clear G; intro w G; go_frame)
          | (refine wpu_storeS G rfl rfl rfl rfl (by rfl) (by rfl) (by first | rfl | assumption | simp [*]) ?_; clear G; intro w G; go_frame))
        | ((with_reducible refine at_convert ?_); refine wpu_str G rfl rfl rfl rfl ?_; go_frame)
        | ((with_reducible refine at_slice ?_); first
          | (refine wpu_sliceLo rfl rfl rfl rfl (by first | rfl | omega) (by omega) (by omega) ?_; go_frame)
          | (refine wpu_sliceLH rfl rfl rfl rfl rfl (by first | rfl | omega) (by first | rfl | omega) (by omega) (by omega) ?_; go_frame))
        | ((with_reducible refine at_load ?_); refine wpu_loadF (HR.out.old G) HX.out rfl rfl rfl rfl ?_; go_frame)
        | ((with_reducible refine at_store ?_); refine wpu_store G rfl rfl rfl rfl rfl hil ?_; clear G; intro w G; go_frame)
        | fail)
      refine Calls.mono (openC (G.pullF (schA a)) (by omega) (by omega) (by decide) (by decide) hne hql) ?_
      clear G; rintro e w ⟨rfl, G⟩
      go_wp2_with (first
        | ((with_reducible refine at_alloc ?_); refine wpu_new G ?_; clear G; intro w G)
        | ((with_reducible refine at_drew ?_); refine wpu_drew G ?_; clear G; intro w G)
        | ((with_reducible refine at_load ?_); first
          | (refine wpu_load G rfl rfl rfl rfl ?_; go_frame)
          | (refine wpu_loadB G rfl rfl rfl (by rfl) ?_; go_frame)
          | (refine wpu_loadS G rfl rfl rfl (by rfl) ?_; simp only [List.drop_succ_cons, List.drop_zero, List.take_succ_cons, List.take_zero]; go_frame))
        | ((with_reducible refine at_store ?_); first
          | (refine wpu_store G rfl rfl rfl rfl (by first | rfl | assumption | simp [*]) rfl ?_; clear G; intro w G; go_frame)
          | (refine wpu_storeB G rfl rfl rfl rfl (by rfl) (by rfl) (by first | rfl | assumption | simp [*]) ?_; clear G; intro w G; go_frame)
          | (refine wpu_storeS G rfl rfl rfl rfl (by rfl) (by rfl) (by first | rfl | assumption | simp [*]) ?_; clear G; intro w G; go_frame))
        | ((with_reducible refine at_convert ?_); refine wpu_str G rfl rfl rfl rfl ?_; go_frame)
        | ((with_reducible refine at_slice ?_); first
          | (refine wpu_sliceLo rfl rfl rfl rfl (by first | rfl | omega) (by omega) (by omega) ?_; go_frame)
          | (refine wpu_sliceLH rfl rfl rfl rfl rfl (by first | rfl | omega) (by first | rfl | omega) (by omega) (by omega) ?_; go_frame))
        | ((with_reducible refine at_load ?_); refine wpu_load G rfl rfl rfl HV.out ?_; go_frame)
        | fail)
      refine Calls.mono (putC (l1 := mkQ 0 (vs.map f3)) (l2 := []) (G.pullF (schA a)) rfl rfl hne rfl (by simp) (by omega) (by simp; omega)) ?_
      clear G; rintro e w ⟨rfl, G⟩
      go_wp2_with fail
      have e1 : mkQ 0 ((vs ++ [1 + (m : Int)]).map f3) = mkQ 0 (vs.map f3) ++ [⟨2 * (vs.length : Int) + 1, 1048576, 0 + (1 + (m : Int)), true⟩] := by
        rw [List.map_append, List.map_singleton, mkQ_snoc, List.length_map, Int.zero_add, Nat.zero_add]
        rfl
      have e2 : (ints (lefts vs)).set vs.length (.int .i64 (1 + (m : Int))) = ints (lefts (vs ++ [1 + (m : Int)])) := by rw [ints_set, lefts_set hlt2]
      have G1 := G.eq (A' := blk tb (ints (List.replicate 30 0)) * (blk lb (ints (lefts (vs ++ [1 + (m : Int)]))) * (schA a ⟨[], mkQ 0 ((vs ++ [1 + (m : Int)]).map f3), 1073807359, fr⟩ * emp))) (by rw [e1, e2]; ac_rfl)
      clear e1 e2 G HV
      go_roundw
      case rel => exact ⟨vs ++ [1 + (m : Int)], by simp, by simp, by simp; omega, by simp; omega, fun v hv => by (rcases List.mem_append.1 hv with hv | hv; exact hvs v hv; rw [List.mem_singleton.1 hv]; omega), G1⟩
      case measure => simp [intOf] <;> omega
    · obtain ⟨n, hnv⟩ : ∃ n, vs.length = n := ⟨_, rfl⟩
      have hI0 := Inv.start hv30 hvs fr1 fr2
      obtain ⟨lf0, hlf0⟩ : ∃ l, lefts vs = l := ⟨_, rfl⟩
      obtain ⟨q0, hq0⟩ : ∃ q, mkQ 0 (vs.map f3) = q := ⟨_, rfl⟩
      rw [hlf0, hq0] at G hI0
      rw [hnv] at hI0 hlt ⊢
      clear hlf0 hq0 hvs hvn hv30 hnv vs
      go_wp2_with fail
      all_goals
        as_aux_lemma =>
        obtain ⟨N, hN⟩ : ∃ N : Nat, (N : Int) = 30720 := ⟨30720, rfl⟩
        have HN := Lib.hid hN
        clear hN
        go_loopw [11] (fun i wr => ∃ (k : Nat) (s : Sc) (lf tn : List Int), i = .int .i64 k ∧ k ≤ N ∧ Inv n lf tn s k ∧ Own w0 (blk tb (ints tn) * (blk lb (ints lf) * (schA a s * emp))) wr) (fun i _ => N - (intOf i).toNat)
        case atStart => exact ⟨0, _, lf0, _, rfl, Nat.zero_le _, hI0, G⟩
        case round =>
          clear G hI0
          obtain ⟨k, s, lf, tn, rfl, hk, hI, G⟩ := hrel
          have hok := hI.ok
          have hct := hI.ctl
          have hql : s.q.length ≤ 1000000 := by have := hI.qlen; omega
          by_cases hlt2 : (k : Int) < 30720
          · go_wp2_with fail
            refine Calls.mono (nextD (G.pullF (schA a)) hok hct (by decide) (by decide) hql) ?_
            clear G; rintro e w ⟨p, s', hn, rfl, G⟩
            clear hok hct hql
            rcases p with _ | ⟨id, m, e⟩
            · obtain ⟨hq0, hall⟩ := hI.done (.inl hn)
              obtain rfl := Sc.next_none hn
              have hct := hI.ctl
              have hl30 := hI.l30
              have hn30 := hI.n30
              clear hn hI hlt2
              as_aux_lemma =>
              go_wp2_with (first
                | ((with_reducible refine at_alloc ?_); refine wpu_new G ?_; clear G; intro w G)
                | ((with_reducible refine at_drew ?_); refine wpu_drew G ?_; clear G; intro w G)
                | ((with_reducible refine at_load ?_); first
                  | (refine wpu_load G rfl rfl rfl rfl ?_; go_frame)
                  | (refine wpu_loadB G rfl rfl rfl (by rfl) ?_; go_frame)
                  | (refine wpu_loadS G rfl rfl rfl (by rfl) ?_; simp only [List.drop_succ_cons, List.drop_zero, List.take_succ_cons, List.take_zero]; go_frame))
                | ((with_reducible refine at_store ?_); first
                  | (refine wpu_store G rfl rfl rfl rfl (by first | rfl | assumption | simp [*]) rfl ?_; clear G; intro w G; go_frame)
                  | (refine wpu_storeB G rfl rfl rfl rfl (by rfl) (by rfl) (by first | rfl | assumption | simp [*]) ?_; clear G; intro w G; go_frame)
                  | (refine wpu_storeS G rfl rfl rfl rfl (by rfl) (by rfl) (by first | rfl | assumption | simp [*]) ?_; clear G; intro w G; go_frame))
                | ((with_reducible refine at_convert ?_); refine wpu_str G rfl rfl rfl rfl ?_; go_frame)
                | ((with_reducible refine at_slice ?_); first
                  | (refine wpu_sliceLo rfl rfl rfl rfl (by first | rfl | omega) (by omega) (by omega) ?_; go_frame)
                  | (refine wpu_sliceLH rfl rfl rfl rfl rfl (by first | rfl | omega) (by first | rfl | omega) (by omega) (by omega) ?_; go_frame))
                | fail)
              have HQ0 := Lib.hid hq0
              have HALL := Lib.hid hall
              clear hq0 hall
              go_loopw [16] (fun i wr => ∃ q : Nat, i = .int .i64 q ∧ q ≤ n ∧ Own w0 (schA a s' * (blk tb (ints tn) * (blk lb (ints lf) * emp))) wr) (fun i _ => n - (intOf i).toNat)
              case atStart => exact ⟨0, rfl, Nat.zero_le _, (G.sub _)⟩
              case round =>
                clear G
                obtain ⟨q, rfl, hq, G⟩ := hrel
                by_cases hqn : q < n
                · have HV := Lib.hid (ints_at (HALL.out q hqn))
                  go_wp2_with (first
                    | ((with_reducible refine at_load ?_); refine wpu_load (b := lb) (i := q) G rfl rfl rfl HV.out ?_; go_frame)
                    | fail)
                  go_roundw
                  case rel => exact ⟨q + 1, by go_num, by omega, G⟩
                  case measure => simp [intOf] <;> omega
                · go_wp2_with fail
                  refine Calls.mono (lenC G) ?_
                  clear G; rintro e w ⟨rfl, G⟩
                  rw [hct, HQ0.out]
                  go_wp2_with fail
                  go_ret
                  exact ⟨rfl, G.below⟩
            · obtain ⟨j, lj, tj, hj, rfl, hlj, htj, hm1, hm2, hlj2, he, hres, hI'⟩ := hI.step hn
              have hn30 := hI.n30
              have hl30 := hI.l30
              have ht30 := hI.t30
              have hbt := hI.bnd j tj htj
              obtain ⟨hb1, hb2⟩ := hbt
              have hb3 : tj ≤ 2147483647 := by omega
              have hk3 : (k : Int) ≤ 2147483647 := by omega
              have HLT := Lib.hid hlt2
              clear hb2 hlt2
              clear hn hI
              subst he
              have hq2 := quo_two j
              have t1 : decide (2 * (j : Int) + 1 < 1) = false := by simp; omega
              have t2 : decide ((n : Int) ≤ (j : Int)) = false := by simp; omega
              have t2' : decide (n ≤ j) = false := by simp; omega
              have t3 : decide (m < 1) = false := by simp; omega
              have HLJ := Lib.hid (ints_at hlj)
              have HTJ := Lib.hid (ints_at htj)
              have hjt : decide (j < (ints tn).length) = true := by rw [ints_len, ht30]; simp; omega
              have hjl : decide (j < (ints lf).length) = true := by rw [ints_len, hl30]; simp; omega
              have HRES := Lib.hid hres
              have HI := Lib.hid hI'
              clear hlj htj hres hI'
              go_wp2_with (first
                | ((with_reducible refine at_store ?_); refine wpu_store (b := tb) G rfl rfl rfl rfl rfl hjt ?_; clear G; intro w G; go_frame)
                | ((with_reducible refine at_load ?_); refine wpu_load (b := tb) G rfl rfl rfl HTJ.out ?_; go_frame)
                | ((with_reducible refine at_alloc ?_); refine wpu_new G ?_; clear G; intro w G)
                | ((with_reducible refine at_drew ?_); refine wpu_drew G ?_; clear G; intro w G)
                | ((with_reducible refine at_load ?_); first
                  | (refine wpu_load G rfl rfl rfl rfl ?_; go_frame)
                  | (refine wpu_loadB G rfl rfl rfl (by rfl) ?_; go_frame)
                  | (refine wpu_loadS G rfl rfl rfl (by rfl) ?_; simp only [List.drop_succ_cons, List.drop_zero, List.take_succ_cons, List.take_zero]; go_frame))
                | ((with_reducible refine at_store ?_); first
                  | (refine wpu_store G rfl rfl rfl rfl (by first | rfl | assumption | simp [*]) rfl ?_; clear G; intro w G; go_frame)
                  | (refine wpu_storeB G rfl rfl rfl rfl (by rfl) (by rfl) (by first | rfl | assumption | simp [*]) ?_; clear G; intro w G; go_frame)
                  | (refine wpu_storeS G rfl rfl rfl rfl (by rfl) (by rfl) (by first | rfl | assumption | simp [*]) ?_; clear G; intro w G; go_frame))
                | ((with_reducible refine at_convert ?_); refine wpu_str G rfl rfl rfl rfl ?_; go_frame)
                | ((with_reducible refine at_slice ?_); first
                  | (refine wpu_sliceLo rfl rfl rfl rfl (by first | rfl | omega) (by omega) (by omega) ?_; go_frame)
                  | (refine wpu_sliceLH rfl rfl rfl rfl rfl (by first | rfl | omega) (by first | rfl | omega) (by omega) (by omega) ?_; go_frame))
                | fail)
              rw [ints_set] at G
              refine wp_region_mix (List.replicate 8 0 ++ [2]) (Own w0 _) (by kernel_rfl) (by kernel_rfl) (own_drew G) ?_
              refine mix_calm 8 ((own_drew G)) (by rfl) (by rfl) ?_
              intro ι W hne hW
              dsimp only [List.take, List.drop]
              repeat (first | ((with_reducible refine atq_load ?_); first | (refine wpq_load hW rfl rfl rfl rfl ?_; go_frame) | (refine wpq_loadB hW rfl rfl rfl (by rfl) ?_; go_frame) | (refine wpq_loadS hW rfl rfl rfl (by rfl) ?_; simp only [List.drop_succ_cons, List.drop_zero, List.take_succ_cons, List.take_zero]; go_frame)) | ((with_reducible refine atq_load ?_); refine wpq_load (b := lb) (i := j) hW rfl rfl rfl HLJ.out ?_; go_frame) | go_big_quiet_step (fail))
              refine wpQuiet_nil ?_
              clear  hW hne W ι
              refine mix_last rfl (fun K hK => ?_)
              refine wpk_store (own_drew G) rfl rfl rfl rfl hjl fun w G => hK _ _ (mix_nil ?_)
              clear hK
              try go_frame
              rw [ints_set] at G
              have hlj' : (lf.set j (lj - m))[j]? = some (lj - m) := by rw [List.getElem?_set_self (by rw [hl30]; omega)]
              have htj' : (tn.set j (tj + 1))[j]? = some (tj + 1) := by rw [List.getElem?_set_self (by rw [ht30]; omega)]
              have HLJ2 := Lib.hid (ints_at hlj')
              have HTJ2 := Lib.hid (ints_at htj')
              obtain ⟨lf', hlf'⟩ : ∃ l, lf.set j (lj - m) = l := ⟨_, rfl⟩
              obtain ⟨tn', htn'⟩ : ∃ l, tn.set j (tj + 1) = l := ⟨_, rfl⟩
              rw [hlf', htn'] at HI HRES G
              rw [hlf'] at HLJ2
              rw [htn'] at HTJ2
              clear hlj' htj' hlf' htn' HLJ HTJ hjt hjl
              obtain ⟨en, z2⟩ : ∃ en, decide (lj - m = 0) = en := ⟨_, rfl⟩
              have z1 : (lj - m == 0) = en := by rw [← z2]; rfl
              go_wp2_with fail
              refine wp_region_calm (C := Own _ _) (by kernel_rfl) (by kernel_rfl) (own_drew G) ?_
              intro ι W hne hW hs
              repeat (first | ((with_reducible refine atq_load ?_); first | (refine wpq_load hW rfl rfl rfl rfl ?_; go_frame) | (refine wpq_loadB hW rfl rfl rfl (by rfl) ?_; go_frame) | (refine wpq_loadS hW rfl rfl rfl (by rfl) ?_; simp only [List.drop_succ_cons, List.drop_zero, List.take_succ_cons, List.take_zero]; go_frame)) | ((with_reducible refine atq_load ?_); refine wpq_load (b := lb) (i := j) hW rfl rfl rfl HLJ2.out ?_; go_frame) | go_big_quiet_step (fail))
              refine wpQuiet_nil ?_
              intro i
              have g := hW i
              generalize W i = wg at g ⊢
              clear  hs hW hne
              have G := g
              clear g z1 z2 HLJ2
              go_wp2_with fail
              replace G := G.right
              go_loopw [15] (fun i wr => ∃ q : Nat, i = .int .i64 q ∧ q ≤ n ∧ Own w0 (schA a s' * (blk tb (ints tn') * (blk lb (ints lf') * emp))) wr) (fun i _ => n - (intOf i).toNat)
              case atStart => exact ⟨0, rfl, Nat.zero_le _, G⟩
              case round =>
                clear G
                obtain ⟨q, rfl, hq, G⟩ := hrel
                by_cases hqn : q < n
                · have hI2 := HI.out
                  obtain ⟨x, hx⟩ : ∃ x, lf'[q]? = some x := ⟨lf'[q]'(by rw [hI2.l30]; omega), by simp⟩
                  obtain ⟨y, hy⟩ : ∃ y, tn'[q]? = some y := ⟨tn'[q]'(by rw [hI2.t30]; omega), by simp⟩
                  have hr := HRES.out q x y hqn hx hy
                  have hyb := hI2.bnd q y hy
                  obtain ⟨y1, y2⟩ := hyb
                  have y3 : y ≤ 2147483647 := by have := HLT.out; omega
                  have HXq := Lib.hid (ints_at hx)
                  have HYq := Lib.hid (ints_at hy)
                  clear hx hy hI2 y2
                  by_cases hx0 : 0 < x
                  · have d1 : decide (0 < x) = true := by simp [hx0]
                    have d2 : decide (y + 1 < tj + 1) = false := by simp; omega
                    have d3 : decide (y < tj) = false := by simp; omega
                    clear hr
                    as_aux_lemma =>
                    go_wp2_with fail
                    refine wp_region_calm (C := Own _ _) (by kernel_rfl) (by kernel_rfl) (own_drew G) ?_
                    intro ι W hne hW hs
                    repeat (first | go_big_quiet_skip | (((with_reducible refine atq_load ?_); first | (refine wpq_load (b := lb) (i := q) hW rfl (by kernel_rfl) rfl HXq.out ?_; go_frame) | (refine wpq_load (b := tb) (i := j) hW rfl (by kernel_rfl) rfl HTJ2.out ?_; go_frame) | (refine wpq_load (b := tb) (i := q) hW rfl (by kernel_rfl) rfl HYq.out ?_; go_frame))) | go_big_quiet_step (fail))
                    refine wpQuiet_nil ?_
                    intro i
                    have g := hW i
                    generalize W i = wg at g ⊢
                    clear hs hW hne
                    have G := g
                    clear g
                    go_wp2_with fail
                    go_roundw
                    case rel => exact ⟨q + 1, by go_num, by omega, G⟩
                    case measure => simp [intOf] <;> omega
                  · have d1 : decide (0 < x) = false := by simp; omega
                    clear hr
                    as_aux_lemma =>
                    go_wp2_with fail
                    refine wp_region_calm (C := Own _ _) (by kernel_rfl) (by kernel_rfl) (own_drew G) ?_
                    intro ι W hne hW hs
                    repeat (first | go_big_quiet_skip | (((with_reducible refine atq_load ?_); first | (refine wpq_load (b := lb) (i := q) hW rfl (by kernel_rfl) rfl HXq.out ?_; go_frame) | (refine wpq_load (b := tb) (i := j) hW rfl (by kernel_rfl) rfl HTJ2.out ?_; go_frame) | (refine wpq_load (b := tb) (i := q) hW rfl (by kernel_rfl) rfl HYq.out ?_; go_frame))) | go_big_quiet_step (fail))
                    refine wpQuiet_nil ?_
                    intro i
                    have g := hW i
                    generalize W i = wg at g ⊢
                    clear hs hW hne
                    have G := g
                    clear g
                    go_wp2_with fail
                    go_roundw
                    case rel => exact ⟨q + 1, by go_num, by omega, G⟩
                    case measure => simp [intOf] <;> omega
                · go_wp2_with fail
                  go_roundw
                  case rel => exact ⟨k + 1, s', lf', tn', by go_num, by have := HLT.out; have := HN.out; omega, HI.out, G.eq (by ac_rfl)⟩
                  case measure => have := HLT.out; have := HN.out; simp [intOf] <;> omega
          · obtain ⟨hq0, hall⟩ := hI.done (s' := s) (.inr (by have := HN.out; omega))
            have hl30 := hI.l30
            have hn30 := hI.n30
            have hlt3 : ¬ (k : Int) < 30720 := hlt2
            clear hI hok hql
            as_aux_lemma =>
            go_wp2_with fail
            have HQ0 := Lib.hid hq0
            have HALL := Lib.hid hall
            clear hq0 hall
            go_loopw [16] (fun i wr => ∃ q : Nat, i = .int .i64 q ∧ q ≤ n ∧ Own w0 (schA a s * (blk tb (ints tn) * (blk lb (ints lf) * emp))) wr) (fun i _ => n - (intOf i).toNat)
            case atStart => exact ⟨0, rfl, Nat.zero_le _, (G.sub _)⟩
            case round =>
              clear G
              obtain ⟨q, rfl, hq, G⟩ := hrel
              by_cases hqn : q < n
              · have HV := Lib.hid (ints_at (HALL.out q hqn))
                go_wp2_with (first
                  | ((with_reducible refine at_load ?_); refine wpu_load (b := lb) (i := q) G rfl rfl rfl HV.out ?_; go_frame)
                  | fail)
                go_roundw
                case rel => exact ⟨q + 1, by go_num, by omega, G⟩
                case measure => simp [intOf] <;> omega
              · go_wp2_with fail
                refine Calls.mono (lenC G) ?_
                clear G; rintro e w ⟨rfl, G⟩
                rw [hct, HQ0.out]
                go_wp2_with fail
                go_ret
                exact ⟨rfl, G.below⟩

theorem contract {H : Type} {enc : TypeId × Value → H} {W : World} {vs : List Value} {ds : List (DataW H)}
    (hA : Args enc Try.prog W [3, 22] vs ds) (hsz : (DataW.weightsEach Try.prog [3, 22] ds).all (· ≤ reachBytes) = true) :
    Calls Try.prog 7 vs.toArray W fun e W' => e = .returned (.bool true) ∧ Below W.heap.size W W' := by
  obtain ⟨v0, _, d0, _, rfl, rfl, h0, hA⟩ := args_cons hA
  obtain ⟨v1, _, d1, _, rfl, rfl, h1, hA⟩ := args_cons hA
  obtain ⟨rfl, rfl⟩ := args_nil hA
  obtain ⟨m, rfl, m1, m2⟩ := arg_i64 Try.underlying3 h0
  obtain ⟨nf, xf, hf, hfe⟩ := flows_in h1
  exact fairW hf (fun i hi => let ⟨a, b, e, h, _⟩ := hfe i hi; ⟨a, b, e, h⟩)


theorem spec {H : Type} : ∀ ds : List (DataW H), ds.length = 2 → Rows.schedFairSpec.fn H ds = { results := [.lit (.bool true)], args := ds }
  | [_, _], _ => rfl
  | [], h => by cases h
  | [_], h => by cases h
  | _ :: _ :: _ :: _, h => by simp at h
set_option maxRecDepth 100000 in
theorem lifted (os : Os) (started : os.Started) (H : Type) (enc : TypeId × Value → H) :
    ReturnsInHanded {} Try.checked os 7 .any (Rows.schedFairSpec.pre6 enc Try.prog Try.f7 Rows.schedFairRow.domain false) (Rows.schedFairSpec.post enc Try.prog Try.f7 false true false false) :=
  lifted_of_law (C := Try.checked) (fn := Try.f7) (s := Rows.schedFairSpec) (tb := 4) (by kernel_rfl) started (by kernel_rfl) Try.func7
    (ChangeSpec.witness6 (enc := enc) (C := Try.checked) false ⟨#[], #[.int .i64 0, .slice none 0 0], []⟩ 8 (by kernel_rfl) (by kernel_rfl) (by kernel_rfl) (by kernel_rfl))
    rfl spec (by kernel_rfl) Try.underlying4 (by kernel_rfl) (by kernel_rfl) (fun _ _ _ h1 h2 => contract h1 h2)

theorem proved : Rows.SchedFairSaid :=
  OpenClaim.holds_of_wide 7 Try.f7 rfl rfl rfl rfl rfl rfl rfl ⟨rfl, rfl, rfl, rfl, rfl⟩ rfl rfl rfl rfl rfl (by kernel_rfl) Try.func7 (by kernel_rfl)
    (of_decide_eq_true (by kernel_rfl)) (by unfold Func.isWrapper; first | (rw [if_pos (by decide +kernel)]; kernel_rfl) | (rw [if_neg (by decide +kernel)]; exact ⟨rfl, rfl⟩))
    (fun os started H enc _ => lifted os started H enc)
end Go.Proofs.Ytbekaeahedkeoaa.schedFair
