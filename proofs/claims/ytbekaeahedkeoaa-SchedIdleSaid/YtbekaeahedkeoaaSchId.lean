
/-
  SchedIdle: nothing waits without need.
-/
import Derived.Test.YtbekaeahedkeoaaSchIdP
namespace Go.Proofs.Ytbekaeahedkeoaa.schedIdle
open Go.RowKit Go.Sl Go.ChangeShapes

def bls (l : List Bool) : List Value := l.map (.bool ·)
theorem bls_set (l : List Bool) (i : Nat) (b : Bool) : (bls l).set i (.bool b) = bls (l.set i b) := by simp [bls]
theorem bls_at {l : List Bool} {i : Nat} {b : Bool} (h : l[i]? = some b) : (bls l)[i]? = some (.bool b) := by simp [bls, h]
theorem quo_two (j : Nat) : (2 * (j : Int) + 1).tdiv 2 = j := by
  rw [Int.tdiv_eq_ediv_of_nonneg (by omega)]
  omega

theorem fcs_at {F : List F3} {i : Nat} {g : F3} (h : F[i]? = some g) : ((fcs F).drop (i * 3)).take 3 = g.cs := by
  induction F generalizing i with
  | nil => simp at h
  | cons f F ih =>
    cases i with
    | zero => simp at h; subst h; simp [fcs, F3.cs]
    | succ i =>
      have := ih (i := i) (by simpa using h)
      have e : (i + 1) * 3 = i * 3 + 3 := by omega
      rw [e, ← this]
      simp [fcs, F3.cs]





set_option maxHeartbeats 40000000 in
set_option maxRecDepth 100000 in
theorem idleW {w0 : World} {most drain : Int} {fv : Value} {nf : Nat} {xf : List Value} (hf : rd w0 3 fv nf xf) (hfe : ∀ i, i < nf → ∃ (a b : Int) (e : Bool), (xf.drop (i * 3)).take 3 = [.int .i64 a, .int .i64 b, .bool e]) (m1 : -9223372036854775808 ≤ most) (m2 : most ≤ 9223372036854775807) :
    Calls Try.prog 4 #[.int .i64 most, fv, .int .i64 drain] w0 fun e w' => e = .returned (.bool true) ∧ Below w0.heap.size w0 w' := by
  have G := own_begin w0
  obtain ⟨fo', fc', rfl, j5, j6, -⟩ := id hf
  unfold maxLen at j6
  obtain ⟨dr, hdr, hdr'⟩ := and_i64 drain 127 (by decide)
  replace hdr : bits .and .i64 drain 127 = (dr : Int) := hdr
  have HDR := Lib.hid hdr
  clear hdr
  go_enter Try.func4, Try.ntmps4
  go_wp2_with fail
  refine Calls.mono (shownSch G) ?_
  clear G; rintro e w ⟨rfl, G⟩
  go_wp2_with fail
  refine Calls.mono (putL hf hfe G m1 m2) ?_
  clear G hf hfe; rintro e w ⟨a, vo, F, rfl, hF, hFO, G⟩
  have hI0 := Inv.start hF hFO (fr := min (max most 1) 16777215) (by omega) (by omega)
  obtain ⟨fo, fc, rfl, j7, j8⟩ := G.hdr vo
  go_wp2_with (first
    | ((with_reducible refine at_alloc ?_); refine wpu_new G ?_; clear G; intro w G)
    | ((with_reducible refine at_drew ?_); refine wpu_drew G ?_; clear G; intro w G)
    | ((with_reducible refine at_load ?_); first
      | (refine wpu_load G rfl rfl rfl rfl ?_; go_frame)
      | (refine wpu_loadB G rfl rfl rfl (by rfl) ?_; go_frame)
      | (refine wpu_loadS G rfl rfl rfl (by rfl) ?_; simp only [List.drop_succ_cons, List.drop_zero, List.take_succ_cons, List.take_zero]; go_frame))
    | ((with_reducible refine at_store ?_); first
      | (refine wpu_store G rfl rfl rfl rfl (by first | rfl | assumption | simp [*]) rfl ?_; clear G; intro w G; go_frame)
      | (refine wpu_storeB G rfl rfl rfl rfl (by rfl) (by rfl) (by first | rfl | assumption | simp [*]) ?_; clear G; intro w G; go_frame)
      | (refine wpu_storeS G rfl rfl rfl rfl (by rfl) (by rfl) (by first | rfl | assumption | simp [*]) ?_; clear G; intro w G; go_frame))
    | ((with_reducible refine at_convert ?_); refine wpu_str G rfl rfl rfl rfl ?_; go_frame)
    | ((with_reducible refine at_slice ?_); first
      | (refine wpu_sliceLo rfl rfl rfl rfl (by first | rfl | omega) (by omega) (by omega) ?_; go_frame)
      | (refine wpu_sliceLH rfl rfl rfl rfl rfl (by first | rfl | omega) (by first | rfl | omega) (by omega) (by omega) ?_; go_frame))
    | fail)
  have GN := own_new G (bls (List.replicate 30 false)) 39
  clear G
  generalize w.heap.size = gb at GN ⊢
  go_loopw [11] (fun i wr => ∃ (k : Nat) (s : Sc) (gl : List Bool), i = .int .i64 k ∧ k ≤ dr ∧ Inv F s gl ∧ Own w0 (blk gb (bls gl) * (schA a s * (sl 3 (.slice fo F.length fc) F.length (fcs F) * emp))) wr) (fun i _ => dr - (intOf i).toNat)
  case atStart => exact ⟨0, _, _, rfl, Nat.zero_le _, hI0, GN⟩
  case round =>
    clear GN hI0
    obtain ⟨k, s, gl, rfl, hk, hI, G⟩ := hrel
    have hdr := HDR.out
    have hok := hI.ok
    have hct := hI.ctl
    have hql : s.q.length ≤ 1000000 := by have := hI.qlen; omega
    by_cases hlt : k < dr
    · go_wp2_with fail
      refine Calls.mono (nextD (G.pullF (schA a)) hok hct (by decide) (by decide) hql) ?_
      clear G; rintro e w ⟨p, s', hn, rfl, G⟩
      clear hok hct hql
      rcases p with _ | ⟨id, m, e⟩
      · as_aux_lemma =>
        obtain rfl := Sc.next_none hn
        clear hn
        go_wp2_with (first
          | ((with_reducible refine at_alloc ?_); refine wpu_new G ?_; clear G; intro w G)
          | ((with_reducible refine at_drew ?_); refine wpu_drew G ?_; clear G; intro w G)
          | ((with_reducible refine at_load ?_); first
            | (refine wpu_load G rfl rfl rfl rfl ?_; go_frame)
            | (refine wpu_loadB G rfl rfl rfl (by rfl) ?_; go_frame)
            | (refine wpu_loadS G rfl rfl rfl (by rfl) ?_; simp only [List.drop_succ_cons, List.drop_zero, List.take_succ_cons, List.take_zero]; go_frame))
          | ((with_reducible refine at_store ?_); first
            | (refine wpu_store G rfl rfl rfl rfl (by first | rfl | assumption | simp [*]) rfl ?_; clear G; intro w G; go_frame)
            | (refine wpu_storeB G rfl rfl rfl rfl (by rfl) (by rfl) (by first | rfl | assumption | simp [*]) ?_; clear G; intro w G; go_frame)
            | (refine wpu_storeS G rfl rfl rfl rfl (by rfl) (by rfl) (by first | rfl | assumption | simp [*]) ?_; clear G; intro w G; go_frame))
          | ((with_reducible refine at_convert ?_); refine wpu_str G rfl rfl rfl rfl ?_; go_frame)
          | ((with_reducible refine at_slice ?_); first
            | (refine wpu_sliceLo rfl rfl rfl rfl (by first | rfl | omega) (by omega) (by omega) ?_; go_frame)
            | (refine wpu_sliceLH rfl rfl rfl rfl rfl (by first | rfl | omega) (by first | rfl | omega) (by omega) (by omega) ?_; go_frame))
          | fail)
        go_roundw
        case rel => exact ⟨k + 1, s', gl, by go_num, by omega, hI, G.right.eq (by ac_rfl)⟩
        case measure => simp [intOf] <;> omega
      · obtain ⟨j, hj, rfl, hI'⟩ := hI.next hn
        have hF30 := hI.fl
        have hgl := hI.len
        clear hn hI
        cases e
        · as_aux_lemma =>
          go_wp2_with (first
            | ((with_reducible refine at_alloc ?_); refine wpu_new G ?_; clear G; intro w G)
            | ((with_reducible refine at_drew ?_); refine wpu_drew G ?_; clear G; intro w G)
            | ((with_reducible refine at_load ?_); first
              | (refine wpu_load G rfl rfl rfl rfl ?_; go_frame)
              | (refine wpu_loadB G rfl rfl rfl (by rfl) ?_; go_frame)
              | (refine wpu_loadS G rfl rfl rfl (by rfl) ?_; simp only [List.drop_succ_cons, List.drop_zero, List.take_succ_cons, List.take_zero]; go_frame))
            | ((with_reducible refine at_store ?_); first
              | (refine wpu_store G rfl rfl rfl rfl (by first | rfl | assumption | simp [*]) rfl ?_; clear G; intro w G; go_frame)
              | (refine wpu_storeB G rfl rfl rfl rfl (by rfl) (by rfl) (by first | rfl | assumption | simp [*]) ?_; clear G; intro w G; go_frame)
              | (refine wpu_storeS G rfl rfl rfl rfl (by rfl) (by rfl) (by first | rfl | assumption | simp [*]) ?_; clear G; intro w G; go_frame))
            | ((with_reducible refine at_convert ?_); refine wpu_str G rfl rfl rfl rfl ?_; go_frame)
            | ((with_reducible refine at_slice ?_); first
              | (refine wpu_sliceLo rfl rfl rfl rfl (by first | rfl | omega) (by omega) (by omega) ?_; go_frame)
              | (refine wpu_sliceLH rfl rfl rfl rfl rfl (by first | rfl | omega) (by first | rfl | omega) (by omega) (by omega) ?_; go_frame))
            | fail)
          go_roundw
          case rel => exact ⟨k + 1, s', gl, by go_num, by omega, hI', G.right.eq (by ac_rfl)⟩
          case measure => simp [intOf] <;> omega
        · have hq2 := quo_two j
          have t1 : decide ((1 : Int) ≤ 2 * (j : Int) + 1) = true := by simp; omega
          have t2 : decide (2 * (j : Int) + 1 < 60) = true := by simp; omega
          have hjl : decide (j < (bls gl).length) = true := by simp [bls, hgl]; omega
          replace hI' : Inv F s' (gl.set j true) := hI'
          as_aux_lemma =>
          go_wp2_with (first
            | ((with_reducible refine at_alloc ?_); refine wpu_new G ?_; clear G; intro w G)
            | ((with_reducible refine at_drew ?_); refine wpu_drew G ?_; clear G; intro w G)
            | ((with_reducible refine at_load ?_); first
              | (refine wpu_load G rfl rfl rfl rfl ?_; go_frame)
              | (refine wpu_loadB G rfl rfl rfl (by rfl) ?_; go_frame)
              | (refine wpu_loadS G rfl rfl rfl (by rfl) ?_; simp only [List.drop_succ_cons, List.drop_zero, List.take_succ_cons, List.take_zero]; go_frame))
            | ((with_reducible refine at_store ?_); first
              | (refine wpu_store G rfl rfl rfl rfl (by first | rfl | assumption | simp [*]) rfl ?_; clear G; intro w G; go_frame)
              | (refine wpu_storeB G rfl rfl rfl rfl (by rfl) (by rfl) (by first | rfl | assumption | simp [*]) ?_; clear G; intro w G; go_frame)
              | (refine wpu_storeS G rfl rfl rfl rfl (by rfl) (by rfl) (by first | rfl | assumption | simp [*]) ?_; clear G; intro w G; go_frame))
            | ((with_reducible refine at_convert ?_); refine wpu_str G rfl rfl rfl rfl ?_; go_frame)
            | ((with_reducible refine at_slice ?_); first
              | (refine wpu_sliceLo rfl rfl rfl rfl (by first | rfl | omega) (by omega) (by omega) ?_; go_frame)
              | (refine wpu_sliceLH rfl rfl rfl rfl rfl (by first | rfl | omega) (by first | rfl | omega) (by omega) (by omega) ?_; go_frame))
            | ((with_reducible refine at_store ?_); refine wpu_store G rfl rfl rfl rfl rfl hjl ?_; clear G; intro w G; go_frame)
            | fail)
          go_roundw
          case rel => exact ⟨k + 1, s', gl.set j true, by go_num, by omega, hI', (G.right.eq (by rw [bls_set]; ac_rfl))⟩
          case measure => simp [intOf] <;> omega
    · clear hok hct hql
      go_wp2_with fail
      go_loopw [14, 15] (fun mv i wr => ∃ (i' : Nat) (b : Bool), mv = .bool b ∧ i = .int .i64 i' ∧ i' ≤ F.length ∧ (b = true ↔ may s i') ∧ Own w0 (blk gb (bls gl) * (schA a s * (sl 3 (.slice fo F.length fc) F.length (fcs F) * emp))) wr) (fun _ i _ => F.length - (intOf i).toNat)
      case atStart => exact ⟨0, false, rfl, rfl, Nat.zero_le _, by simp [may_zero hI], G⟩
      case round =>
        clear G
        obtain ⟨i, b, rfl, rfl, hi, hb, G⟩ := hrel
        have HB := Lib.hid hb
        clear hb
        by_cases hlt2 : i < F.length
        · obtain ⟨g0, hg0⟩ : ∃ g0, gl[i]? = some g0 := ⟨gl[i]'(by rw [hI.len]; have := hI.fl; omega), by simp⟩
          have HV := Lib.hid (bls_at hg0)
          cases g0
          · obtain ⟨l1, f, l2, g, hq, hfi, hne, hFi, hff, hfo⟩ := hI.found hlt2 hg0
            have HM := Lib.hid (may_next hI hq hfi)
            obtain ⟨fad, hfad⟩ := rd_some (G.rd (.slice fo F.length fc) _ G) (by omega)
            subst hfad
            have HX := Lib.hid (fcs_at hFi)
            obtain ⟨g1, g2, g3⟩ := g
            obtain ⟨fi, fw, fo2, ff⟩ := f
            simp only at hfi hff
            subst hfi hff
            obtain ⟨-, -, k3, -, -, -⟩ := hfo
            simp only at k3
            have HQ := Lib.hid hq
            have HNE := Lib.hid hne
            clear hq hne hg0 hFi
            simp only [F3.cs] at HX
            cases b
            · by_cases h0 : 0 < fo2
              · have d1 : decide (0 < fo2) = true := by simp [h0]
                have d2 : (fo2 == 0) = false := by simp; omega
                have d2' : decide (fo2 = 0) = false := by simp; omega
                by_cases h1 : 0 < fw
                · have d3 : decide (0 < fw) = true := by simp [h1]
                  by_cases h2 : 0 < s.win
                  · have d4 : decide (0 < s.win) = true := by simp [h2]
                    as_aux_lemma =>
                    go_wp2_with fail
                    refine Calls.mono (waitC (G.pullF (schA a)) HQ.out rfl HNE.out) ?_
                    clear G; rintro e w ⟨rfl, G⟩
                    go_wp2_with (first
                      | ((with_reducible refine at_alloc ?_); refine wpu_new G ?_; clear G; intro w G)
                      | ((with_reducible refine at_drew ?_); refine wpu_drew G ?_; clear G; intro w G)
                      | ((with_reducible refine at_load ?_); first
                        | (refine wpu_load G rfl rfl rfl rfl ?_; go_frame)
                        | (refine wpu_loadB G rfl rfl rfl (by rfl) ?_; go_frame)
                        | (refine wpu_loadS G rfl rfl rfl (by rfl) ?_; simp only [List.drop_succ_cons, List.drop_zero, List.take_succ_cons, List.take_zero]; go_frame))
                      | ((with_reducible refine at_store ?_); first
                        | (refine wpu_store G rfl rfl rfl rfl (by first | rfl | assumption | simp [*]) rfl ?_; clear G; intro w G; go_frame)
                        | (refine wpu_storeB G rfl rfl rfl rfl (by rfl) (by rfl) (by first | rfl | assumption | simp [*]) ?_; clear G; intro w G; go_frame)
                        | (refine wpu_storeS G rfl rfl rfl rfl (by rfl) (by rfl) (by first | rfl | assumption | simp [*]) ?_; clear G; intro w G; go_frame))
                      | ((with_reducible refine at_convert ?_); refine wpu_str G rfl rfl rfl rfl ?_; go_frame)
                      | ((with_reducible refine at_slice ?_); first
                        | (refine wpu_sliceLo rfl rfl rfl rfl (by first | rfl | omega) (by omega) (by omega) ?_; go_frame)
                        | (refine wpu_sliceLH rfl rfl rfl rfl rfl (by first | rfl | omega) (by first | rfl | omega) (by omega) (by omega) ?_; go_frame))
                      | ((with_reducible refine at_load ?_); refine wpu_load G rfl rfl rfl HV.out ?_; go_frame)
                      | ((with_reducible refine at_load ?_); refine wpu_loadF (G.rd (.slice (some fad) F.length fc) _ G) HX.out rfl rfl rfl rfl ?_; go_frame)
                      | fail)
                    refine Calls.mono (windowC (G.pullF (schA a))) ?_
                    clear G; rintro e w ⟨rfl, G⟩
                    go_wp2_with (first
                      | ((with_reducible refine at_alloc ?_); refine wpu_new G ?_; clear G; intro w G)
                      | ((with_reducible refine at_drew ?_); refine wpu_drew G ?_; clear G; intro w G)
                      | ((with_reducible refine at_load ?_); first
                        | (refine wpu_load G rfl rfl rfl rfl ?_; go_frame)
                        | (refine wpu_loadB G rfl rfl rfl (by rfl) ?_; go_frame)
                        | (refine wpu_loadS G rfl rfl rfl (by rfl) ?_; simp only [List.drop_succ_cons, List.drop_zero, List.take_succ_cons, List.take_zero]; go_frame))
                      | ((with_reducible refine at_store ?_); first
                        | (refine wpu_store G rfl rfl rfl rfl (by first | rfl | assumption | simp [*]) rfl ?_; clear G; intro w G; go_frame)
                        | (refine wpu_storeB G rfl rfl rfl rfl (by rfl) (by rfl) (by first | rfl | assumption | simp [*]) ?_; clear G; intro w G; go_frame)
                        | (refine wpu_storeS G rfl rfl rfl rfl (by rfl) (by rfl) (by first | rfl | assumption | simp [*]) ?_; clear G; intro w G; go_frame))
                      | ((with_reducible refine at_convert ?_); refine wpu_str G rfl rfl rfl rfl ?_; go_frame)
                      | ((with_reducible refine at_slice ?_); first
                        | (refine wpu_sliceLo rfl rfl rfl rfl (by first | rfl | omega) (by omega) (by omega) ?_; go_frame)
                        | (refine wpu_sliceLH rfl rfl rfl rfl rfl (by first | rfl | omega) (by first | rfl | omega) (by omega) (by omega) ?_; go_frame))
                      | ((with_reducible refine at_load ?_); refine wpu_load G rfl rfl rfl HV.out ?_; go_frame)
                      | ((with_reducible refine at_load ?_); refine wpu_loadF (G.rd (.slice (some fad) F.length fc) _ G) HX.out rfl rfl rfl rfl ?_; go_frame)
                      | fail)
                    go_roundw
                    case rel => exact ⟨i + 1, _, rfl, by go_num, by omega, by rw [HM.out, ← HB.out]; simp [Fl.ready, *], G.eq (by ac_rfl)⟩
                    case measure => simp [intOf] <;> omega
                  · have d4 : decide (0 < s.win) = false := by simp; omega
                    as_aux_lemma =>
                    go_wp2_with fail
                    refine Calls.mono (waitC (G.pullF (schA a)) HQ.out rfl HNE.out) ?_
                    clear G; rintro e w ⟨rfl, G⟩
                    go_wp2_with (first
                      | ((with_reducible refine at_alloc ?_); refine wpu_new G ?_; clear G; intro w G)
                      | ((with_reducible refine at_drew ?_); refine wpu_drew G ?_; clear G; intro w G)
                      | ((with_reducible refine at_load ?_); first
                        | (refine wpu_load G rfl rfl rfl rfl ?_; go_frame)
                        | (refine wpu_loadB G rfl rfl rfl (by rfl) ?_; go_frame)
                        | (refine wpu_loadS G rfl rfl rfl (by rfl) ?_; simp only [List.drop_succ_cons, List.drop_zero, List.take_succ_cons, List.take_zero]; go_frame))
                      | ((with_reducible refine at_store ?_); first
                        | (refine wpu_store G rfl rfl rfl rfl (by first | rfl | assumption | simp [*]) rfl ?_; clear G; intro w G; go_frame)
                        | (refine wpu_storeB G rfl rfl rfl rfl (by rfl) (by rfl) (by first | rfl | assumption | simp [*]) ?_; clear G; intro w G; go_frame)
                        | (refine wpu_storeS G rfl rfl rfl rfl (by rfl) (by rfl) (by first | rfl | assumption | simp [*]) ?_; clear G; intro w G; go_frame))
                      | ((with_reducible refine at_convert ?_); refine wpu_str G rfl rfl rfl rfl ?_; go_frame)
                      | ((with_reducible refine at_slice ?_); first
                        | (refine wpu_sliceLo rfl rfl rfl rfl (by first | rfl | omega) (by omega) (by omega) ?_; go_frame)
                        | (refine wpu_sliceLH rfl rfl rfl rfl rfl (by first | rfl | omega) (by first | rfl | omega) (by omega) (by omega) ?_; go_frame))
                      | ((with_reducible refine at_load ?_); refine wpu_load G rfl rfl rfl HV.out ?_; go_frame)
                      | ((with_reducible refine at_load ?_); refine wpu_loadF (G.rd (.slice (some fad) F.length fc) _ G) HX.out rfl rfl rfl rfl ?_; go_frame)
                      | fail)
                    refine Calls.mono (windowC (G.pullF (schA a))) ?_
                    clear G; rintro e w ⟨rfl, G⟩
                    go_wp2_with (first
                      | ((with_reducible refine at_alloc ?_); refine wpu_new G ?_; clear G; intro w G)
                      | ((with_reducible refine at_drew ?_); refine wpu_drew G ?_; clear G; intro w G)
                      | ((with_reducible refine at_load ?_); first
                        | (refine wpu_load G rfl rfl rfl rfl ?_; go_frame)
                        | (refine wpu_loadB G rfl rfl rfl (by rfl) ?_; go_frame)
                        | (refine wpu_loadS G rfl rfl rfl (by rfl) ?_; simp only [List.drop_succ_cons, List.drop_zero, List.take_succ_cons, List.take_zero]; go_frame))
                      | ((with_reducible refine at_store ?_); first
                        | (refine wpu_store G rfl rfl rfl rfl (by first | rfl | assumption | simp [*]) rfl ?_; clear G; intro w G; go_frame)
                        | (refine wpu_storeB G rfl rfl rfl rfl (by rfl) (by rfl) (by first | rfl | assumption | simp [*]) ?_; clear G; intro w G; go_frame)
                        | (refine wpu_storeS G rfl rfl rfl rfl (by rfl) (by rfl) (by first | rfl | assumption | simp [*]) ?_; clear G; intro w G; go_frame))
                      | ((with_reducible refine at_convert ?_); refine wpu_str G rfl rfl rfl rfl ?_; go_frame)
                      | ((with_reducible refine at_slice ?_); first
                        | (refine wpu_sliceLo rfl rfl rfl rfl (by first | rfl | omega) (by omega) (by omega) ?_; go_frame)
                        | (refine wpu_sliceLH rfl rfl rfl rfl rfl (by first | rfl | omega) (by first | rfl | omega) (by omega) (by omega) ?_; go_frame))
                      | ((with_reducible refine at_load ?_); refine wpu_load G rfl rfl rfl HV.out ?_; go_frame)
                      | ((with_reducible refine at_load ?_); refine wpu_loadF (G.rd (.slice (some fad) F.length fc) _ G) HX.out rfl rfl rfl rfl ?_; go_frame)
                      | fail)
                    go_roundw
                    case rel => exact ⟨i + 1, _, rfl, by go_num, by omega, by rw [HM.out, ← HB.out]; simp [Fl.ready, *], G.eq (by ac_rfl)⟩
                    case measure => simp [intOf] <;> omega
                · have d3 : decide (0 < fw) = false := by simp; omega
                  as_aux_lemma =>
                  go_wp2_with fail
                  refine Calls.mono (waitC (G.pullF (schA a)) HQ.out rfl HNE.out) ?_
                  clear G; rintro e w ⟨rfl, G⟩
                  go_wp2_with (first
                    | ((with_reducible refine at_alloc ?_); refine wpu_new G ?_; clear G; intro w G)
                    | ((with_reducible refine at_drew ?_); refine wpu_drew G ?_; clear G; intro w G)
                    | ((with_reducible refine at_load ?_); first
                      | (refine wpu_load G rfl rfl rfl rfl ?_; go_frame)
                      | (refine wpu_loadB G rfl rfl rfl (by rfl) ?_; go_frame)
                      | (refine wpu_loadS G rfl rfl rfl (by rfl) ?_; simp only [List.drop_succ_cons, List.drop_zero, List.take_succ_cons, List.take_zero]; go_frame))
                    | ((with_reducible refine at_store ?_); first
                      | (refine wpu_store G rfl rfl rfl rfl (by first | rfl | assumption | simp [*]) rfl ?_; clear G; intro w G; go_frame)
                      | (refine wpu_storeB G rfl rfl rfl rfl (by rfl) (by rfl) (by first | rfl | assumption | simp [*]) ?_; clear G; intro w G; go_frame)
                      | (refine wpu_storeS G rfl rfl rfl rfl (by rfl) (by rfl) (by first | rfl | assumption | simp [*]) ?_; clear G; intro w G; go_frame))
                    | ((with_reducible refine at_convert ?_); refine wpu_str G rfl rfl rfl rfl ?_; go_frame)
                    | ((with_reducible refine at_slice ?_); first
                      | (refine wpu_sliceLo rfl rfl rfl rfl (by first | rfl | omega) (by omega) (by omega) ?_; go_frame)
                      | (refine wpu_sliceLH rfl rfl rfl rfl rfl (by first | rfl | omega) (by first | rfl | omega) (by omega) (by omega) ?_; go_frame))
                    | ((with_reducible refine at_load ?_); refine wpu_load G rfl rfl rfl HV.out ?_; go_frame)
                    | ((with_reducible refine at_load ?_); refine wpu_loadF (G.rd (.slice (some fad) F.length fc) _ G) HX.out rfl rfl rfl rfl ?_; go_frame)
                    | fail)
                  go_roundw
                  case rel => exact ⟨i + 1, _, rfl, by go_num, by omega, by rw [HM.out, ← HB.out]; simp [Fl.ready, *], G.eq (by ac_rfl)⟩
                  case measure => simp [intOf] <;> omega
              · have hz : fo2 = 0 := by omega
                subst hz
                cases ff
                · skip
                  as_aux_lemma =>
                  go_wp2_with fail
                  refine Calls.mono (waitC (G.pullF (schA a)) HQ.out rfl HNE.out) ?_
                  clear G; rintro e w ⟨rfl, G⟩
                  go_wp2_with (first
                    | ((with_reducible refine at_alloc ?_); refine wpu_new G ?_; clear G; intro w G)
                    | ((with_reducible refine at_drew ?_); refine wpu_drew G ?_; clear G; intro w G)
                    | ((with_reducible refine at_load ?_); first
                      | (refine wpu_load G rfl rfl rfl rfl ?_; go_frame)
                      | (refine wpu_loadB G rfl rfl rfl (by rfl) ?_; go_frame)
                      | (refine wpu_loadS G rfl rfl rfl (by rfl) ?_; simp only [List.drop_succ_cons, List.drop_zero, List.take_succ_cons, List.take_zero]; go_frame))
                    | ((with_reducible refine at_store ?_); first
                      | (refine wpu_store G rfl rfl rfl rfl (by first | rfl | assumption | simp [*]) rfl ?_; clear G; intro w G; go_frame)
                      | (refine wpu_storeB G rfl rfl rfl rfl (by rfl) (by rfl) (by first | rfl | assumption | simp [*]) ?_; clear G; intro w G; go_frame)
                      | (refine wpu_storeS G rfl rfl rfl rfl (by rfl) (by rfl) (by first | rfl | assumption | simp [*]) ?_; clear G; intro w G; go_frame))
                    | ((with_reducible refine at_convert ?_); refine wpu_str G rfl rfl rfl rfl ?_; go_frame)
                    | ((with_reducible refine at_slice ?_); first
                      | (refine wpu_sliceLo rfl rfl rfl rfl (by first | rfl | omega) (by omega) (by omega) ?_; go_frame)
                      | (refine wpu_sliceLH rfl rfl rfl rfl rfl (by first | rfl | omega) (by first | rfl | omega) (by omega) (by omega) ?_; go_frame))
                    | ((with_reducible refine at_load ?_); refine wpu_load G rfl rfl rfl HV.out ?_; go_frame)
                    | ((with_reducible refine at_load ?_); refine wpu_loadF (G.rd (.slice (some fad) F.length fc) _ G) HX.out rfl rfl rfl rfl ?_; go_frame)
                    | fail)
                  go_roundw
                  case rel => exact ⟨i + 1, _, rfl, by go_num, by omega, by rw [HM.out, ← HB.out]; simp [Fl.ready, *], G.eq (by ac_rfl)⟩
                  case measure => simp [intOf] <;> omega
                · skip
                  as_aux_lemma =>
                  go_wp2_with fail
                  refine Calls.mono (waitC (G.pullF (schA a)) HQ.out rfl HNE.out) ?_
                  clear G; rintro e w ⟨rfl, G⟩
                  go_wp2_with (first
                    | ((with_reducible refine at_alloc ?_); refine wpu_new G ?_; clear G; intro w G)
                    | ((with_reducible refine at_drew ?_); refine wpu_drew G ?_; clear G; intro w G)
                    | ((with_reducible refine at_load ?_); first
                      | (refine wpu_load G rfl rfl rfl rfl ?_; go_frame)
                      | (refine wpu_loadB G rfl rfl rfl (by rfl) ?_; go_frame)
                      | (refine wpu_loadS G rfl rfl rfl (by rfl) ?_; simp only [List.drop_succ_cons, List.drop_zero, List.take_succ_cons, List.take_zero]; go_frame))
                    | ((with_reducible refine at_store ?_); first
                      | (refine wpu_store G rfl rfl rfl rfl (by first | rfl | assumption | simp [*]) rfl ?_; clear G; intro w G; go_frame)
                      | (refine wpu_storeB G rfl rfl rfl rfl (by rfl) (by rfl) (by first | rfl | assumption | simp [*]) ?_; clear G; intro w G; go_frame)
                      | (refine wpu_storeS G rfl rfl rfl rfl (by rfl) (by rfl) (by first | rfl | assumption | simp [*]) ?_; clear G; intro w G; go_frame))
                    | ((with_reducible refine at_convert ?_); refine wpu_str G rfl rfl rfl rfl ?_; go_frame)
                    | ((with_reducible refine at_slice ?_); first
                      | (refine wpu_sliceLo rfl rfl rfl rfl (by first | rfl | omega) (by omega) (by omega) ?_; go_frame)
                      | (refine wpu_sliceLH rfl rfl rfl rfl rfl (by first | rfl | omega) (by first | rfl | omega) (by omega) (by omega) ?_; go_frame))
                    | ((with_reducible refine at_load ?_); refine wpu_load G rfl rfl rfl HV.out ?_; go_frame)
                    | ((with_reducible refine at_load ?_); refine wpu_loadF (G.rd (.slice (some fad) F.length fc) _ G) HX.out rfl rfl rfl rfl ?_; go_frame)
                    | fail)
                  go_roundw
                  case rel => exact ⟨i + 1, _, rfl, by go_num, by omega, by rw [HM.out, ← HB.out]; simp [Fl.ready, *], G.eq (by ac_rfl)⟩
                  case measure => simp [intOf] <;> omega
            · skip
              as_aux_lemma =>
              go_wp2_with fail
              refine Calls.mono (waitC (G.pullF (schA a)) HQ.out rfl HNE.out) ?_
              clear G; rintro e w ⟨rfl, G⟩
              go_wp2_with (first
                | ((with_reducible refine at_alloc ?_); refine wpu_new G ?_; clear G; intro w G)
                | ((with_reducible refine at_drew ?_); refine wpu_drew G ?_; clear G; intro w G)
                | ((with_reducible refine at_load ?_); first
                  | (refine wpu_load G rfl rfl rfl rfl ?_; go_frame)
                  | (refine wpu_loadB G rfl rfl rfl (by rfl) ?_; go_frame)
                  | (refine wpu_loadS G rfl rfl rfl (by rfl) ?_; simp only [List.drop_succ_cons, List.drop_zero, List.take_succ_cons, List.take_zero]; go_frame))
                | ((with_reducible refine at_store ?_); first
                  | (refine wpu_store G rfl rfl rfl rfl (by first | rfl | assumption | simp [*]) rfl ?_; clear G; intro w G; go_frame)
                  | (refine wpu_storeB G rfl rfl rfl rfl (by rfl) (by rfl) (by first | rfl | assumption | simp [*]) ?_; clear G; intro w G; go_frame)
                  | (refine wpu_storeS G rfl rfl rfl rfl (by rfl) (by rfl) (by first | rfl | assumption | simp [*]) ?_; clear G; intro w G; go_frame))
                | ((with_reducible refine at_convert ?_); refine wpu_str G rfl rfl rfl rfl ?_; go_frame)
                | ((with_reducible refine at_slice ?_); first
                  | (refine wpu_sliceLo rfl rfl rfl rfl (by first | rfl | omega) (by omega) (by omega) ?_; go_frame)
                  | (refine wpu_sliceLH rfl rfl rfl rfl rfl (by first | rfl | omega) (by first | rfl | omega) (by omega) (by omega) ?_; go_frame))
                | ((with_reducible refine at_load ?_); refine wpu_load G rfl rfl rfl HV.out ?_; go_frame)
                | ((with_reducible refine at_load ?_); refine wpu_loadF (G.rd (.slice (some fad) F.length fc) _ G) HX.out rfl rfl rfl rfl ?_; go_frame)
                | fail)
              go_roundw
              case rel => exact ⟨i + 1, _, rfl, by go_num, by omega, by rw [HM.out, ← HB.out]; simp [Fl.ready, *], G.eq (by ac_rfl)⟩
              case measure => simp [intOf] <;> omega
          · have HNE := Lib.hid (hI.gone hg0)
            have HM := Lib.hid (may_gone hI hg0)
            clear hg0
            as_aux_lemma =>
            cases b
            all_goals
              go_wp2_with fail
              refine Calls.mono (waitN (G.pullF (schA a)) HNE.out) ?_
              clear G; rintro e w ⟨rfl, G⟩
              go_wp2_with (first
                | ((with_reducible refine at_alloc ?_); refine wpu_new G ?_; clear G; intro w G)
                | ((with_reducible refine at_drew ?_); refine wpu_drew G ?_; clear G; intro w G)
                | ((with_reducible refine at_load ?_); first
                  | (refine wpu_load G rfl rfl rfl rfl ?_; go_frame)
                  | (refine wpu_loadB G rfl rfl rfl (by rfl) ?_; go_frame)
                  | (refine wpu_loadS G rfl rfl rfl (by rfl) ?_; simp only [List.drop_succ_cons, List.drop_zero, List.take_succ_cons, List.take_zero]; go_frame))
                | ((with_reducible refine at_store ?_); first
                  | (refine wpu_store G rfl rfl rfl rfl (by first | rfl | assumption | simp [*]) rfl ?_; clear G; intro w G; go_frame)
                  | (refine wpu_storeB G rfl rfl rfl rfl (by rfl) (by rfl) (by first | rfl | assumption | simp [*]) ?_; clear G; intro w G; go_frame)
                  | (refine wpu_storeS G rfl rfl rfl rfl (by rfl) (by rfl) (by first | rfl | assumption | simp [*]) ?_; clear G; intro w G; go_frame))
                | ((with_reducible refine at_convert ?_); refine wpu_str G rfl rfl rfl rfl ?_; go_frame)
                | ((with_reducible refine at_slice ?_); first
                  | (refine wpu_sliceLo rfl rfl rfl rfl (by first | rfl | omega) (by omega) (by omega) ?_; go_frame)
                  | (refine wpu_sliceLH rfl rfl rfl rfl rfl (by first | rfl | omega) (by first | rfl | omega) (by omega) (by omega) ?_; go_frame))
                | ((with_reducible refine at_load ?_); refine wpu_load G rfl rfl rfl HV.out ?_; go_frame)
                | ((with_reducible refine at_load ?_); refine wpu_loadF (G.rd (.slice (some fad) F.length fc) _ G) HX.out rfl rfl rfl rfl ?_; go_frame)
                | fail)
              go_roundw
              case rel => exact ⟨i + 1, _, rfl, by go_num, by omega, by (rw [HM.out, ← HB.out]; try simp), G.eq (by ac_rfl)⟩
              case measure => simp [intOf] <;> omega
        · have hiF : i = F.length := by omega
          have HIF := Lib.hid hiF
          clear hiF
          have hok := hI.ok
          have hct := hI.ctl
          have hql : s.q.length ≤ 1000000 := by have := hI.qlen; have := hI.fl; omega
          go_wp2_with fail
          refine Calls.mono (nextE (next_low (c := 8) (by decide)) (G.pullF (schA a)) hok hct (by decide) (by decide) hql) ?_
          clear G; rintro e w ⟨rfl, G⟩
          go_wp2_with (first
            | ((with_reducible refine at_alloc ?_); refine wpu_new G ?_; clear G; intro w G)
            | ((with_reducible refine at_drew ?_); refine wpu_drew G ?_; clear G; intro w G)
            | ((with_reducible refine at_load ?_); first
              | (refine wpu_load G rfl rfl rfl rfl ?_; go_frame)
              | (refine wpu_loadB G rfl rfl rfl (by rfl) ?_; go_frame)
              | (refine wpu_loadS G rfl rfl rfl (by rfl) ?_; simp only [List.drop_succ_cons, List.drop_zero, List.take_succ_cons, List.take_zero]; go_frame))
            | ((with_reducible refine at_store ?_); first
              | (refine wpu_store G rfl rfl rfl rfl (by first | rfl | assumption | simp [*]) rfl ?_; clear G; intro w G; go_frame)
              | (refine wpu_storeB G rfl rfl rfl rfl (by rfl) (by rfl) (by first | rfl | assumption | simp [*]) ?_; clear G; intro w G; go_frame)
              | (refine wpu_storeS G rfl rfl rfl rfl (by rfl) (by rfl) (by first | rfl | assumption | simp [*]) ?_; clear G; intro w G; go_frame))
            | ((with_reducible refine at_convert ?_); refine wpu_str G rfl rfl rfl rfl ?_; go_frame)
            | ((with_reducible refine at_slice ?_); first
              | (refine wpu_sliceLo rfl rfl rfl rfl (by first | rfl | omega) (by omega) (by omega) ?_; go_frame)
              | (refine wpu_sliceLH rfl rfl rfl rfl rfl (by first | rfl | omega) (by first | rfl | omega) (by omega) (by omega) ?_; go_frame))
            | fail)
          refine Calls.mono (nextD (G.pullF (schA a)) hok hct (by decide) (by decide) hql) ?_
          clear G; rintro e w ⟨p, s', hn, rfl, G⟩
          have hp := hI.last hn
          rw [← HIF.out, ← HB.out] at hp
          clear hn hok hct hql hI
          rcases p with _ | ⟨id, m, e⟩
          · have hb' : b = false := by simpa using hp
            subst hb'
            clear hp
            as_aux_lemma =>
            go_wp2_with (first
              | ((with_reducible refine at_alloc ?_); refine wpu_new G ?_; clear G; intro w G)
              | ((with_reducible refine at_drew ?_); refine wpu_drew G ?_; clear G; intro w G)
              | ((with_reducible refine at_load ?_); first
                | (refine wpu_load G rfl rfl rfl rfl ?_; go_frame)
                | (refine wpu_loadB G rfl rfl rfl (by rfl) ?_; go_frame)
                | (refine wpu_loadS G rfl rfl rfl (by rfl) ?_; simp only [List.drop_succ_cons, List.drop_zero, List.take_succ_cons, List.take_zero]; go_frame))
              | ((with_reducible refine at_store ?_); first
                | (refine wpu_store G rfl rfl rfl rfl (by first | rfl | assumption | simp [*]) rfl ?_; clear G; intro w G; go_frame)
                | (refine wpu_storeB G rfl rfl rfl rfl (by rfl) (by rfl) (by first | rfl | assumption | simp [*]) ?_; clear G; intro w G; go_frame)
                | (refine wpu_storeS G rfl rfl rfl rfl (by rfl) (by rfl) (by first | rfl | assumption | simp [*]) ?_; clear G; intro w G; go_frame))
              | ((with_reducible refine at_convert ?_); refine wpu_str G rfl rfl rfl rfl ?_; go_frame)
              | ((with_reducible refine at_slice ?_); first
                | (refine wpu_sliceLo rfl rfl rfl rfl (by first | rfl | omega) (by omega) (by omega) ?_; go_frame)
                | (refine wpu_sliceLH rfl rfl rfl rfl rfl (by first | rfl | omega) (by first | rfl | omega) (by omega) (by omega) ?_; go_frame))
              | fail)
            go_ret
            exact ⟨rfl, G.below⟩
          · have hb' : b = true := by simpa using hp
            subst hb'
            clear hp
            as_aux_lemma =>
            go_wp2_with (first
              | ((with_reducible refine at_alloc ?_); refine wpu_new G ?_; clear G; intro w G)
              | ((with_reducible refine at_drew ?_); refine wpu_drew G ?_; clear G; intro w G)
              | ((with_reducible refine at_load ?_); first
                | (refine wpu_load G rfl rfl rfl rfl ?_; go_frame)
                | (refine wpu_loadB G rfl rfl rfl (by rfl) ?_; go_frame)
                | (refine wpu_loadS G rfl rfl rfl (by rfl) ?_; simp only [List.drop_succ_cons, List.drop_zero, List.take_succ_cons, List.take_zero]; go_frame))
              | ((with_reducible refine at_store ?_); first
                | (refine wpu_store G rfl rfl rfl rfl (by first | rfl | assumption | simp [*]) rfl ?_; clear G; intro w G; go_frame)
                | (refine wpu_storeB G rfl rfl rfl rfl (by rfl) (by rfl) (by first | rfl | assumption | simp [*]) ?_; clear G; intro w G; go_frame)
                | (refine wpu_storeS G rfl rfl rfl rfl (by rfl) (by rfl) (by first | rfl | assumption | simp [*]) ?_; clear G; intro w G; go_frame))
              | ((with_reducible refine at_convert ?_); refine wpu_str G rfl rfl rfl rfl ?_; go_frame)
              | ((with_reducible refine at_slice ?_); first
                | (refine wpu_sliceLo rfl rfl rfl rfl (by first | rfl | omega) (by omega) (by omega) ?_; go_frame)
                | (refine wpu_sliceLH rfl rfl rfl rfl rfl (by first | rfl | omega) (by first | rfl | omega) (by omega) (by omega) ?_; go_frame))
              | fail)
            go_ret
            exact ⟨rfl, G.below⟩

theorem contract {H : Type} {enc : TypeId × Value → H} {W : World} {vs : List Value} {ds : List (DataW H)}
    (hA : Args enc Try.prog W [3, 22, 3] vs ds) (hsz : (DataW.weightsEach Try.prog [3, 22, 3] ds).all (· ≤ reachBytes) = true) :
    Calls Try.prog 4 vs.toArray W fun e W' => e = .returned (.bool true) ∧ Below W.heap.size W W' := by
  obtain ⟨v0, _, d0, _, rfl, rfl, h0, hA⟩ := args_cons hA
  obtain ⟨v1, _, d1, _, rfl, rfl, h1, hA⟩ := args_cons hA
  obtain ⟨v2, _, d2, _, rfl, rfl, h2, hA⟩ := args_cons hA
  obtain ⟨rfl, rfl⟩ := args_nil hA
  obtain ⟨m, rfl, m1, m2⟩ := arg_i64 Try.underlying3 h0
  obtain ⟨nf, xf, hf, hfe⟩ := flows_in h1
  obtain ⟨d, rfl, _, _⟩ := arg_i64 Try.underlying3 h2
  exact idleW hf (fun i hi => let ⟨a, b, e, h, _⟩ := hfe i hi; ⟨a, b, e, h⟩) m1 m2


theorem spec {H : Type} : ∀ ds : List (DataW H), ds.length = 3 → Rows.schedIdleSpec.fn H ds = { results := [.lit (.bool true)], args := ds }
  | [_, _, _], _ => rfl
  | [], h => by cases h
  | [_], h => by cases h
  | [_, _], h => by cases h
  | _ :: _ :: _ :: _ :: _, h => by simp at h
set_option maxRecDepth 100000 in
theorem lifted (os : Os) (started : os.Started) (H : Type) (enc : TypeId × Value → H) :
    ReturnsInHanded {} Try.checked os 4 .any (Rows.schedIdleSpec.pre6 enc Try.prog Try.f4 Rows.schedIdleRow.domain false) (Rows.schedIdleSpec.post enc Try.prog Try.f4 false true false false) :=
  lifted_of_law (C := Try.checked) (fn := Try.f4) (s := Rows.schedIdleSpec) (tb := 4) (by kernel_rfl) started (by kernel_rfl) Try.func4
    (ChangeSpec.witness6 (enc := enc) (C := Try.checked) false ⟨#[], #[.int .i64 0, .slice none 0 0, .int .i64 0], []⟩ 8 (by kernel_rfl) (by kernel_rfl) (by kernel_rfl) (by kernel_rfl))
    rfl spec (by kernel_rfl) Try.underlying4 (by kernel_rfl) (by kernel_rfl) (fun _ _ _ h1 h2 => contract h1 h2)

theorem proved : Rows.SchedIdleSaid :=
  OpenClaim.holds_of_wide 4 Try.f4 rfl rfl rfl rfl rfl rfl rfl ⟨rfl, rfl, rfl, rfl, rfl⟩ rfl rfl rfl rfl rfl (by kernel_rfl) Try.func4 (by kernel_rfl)
    (of_decide_eq_true (by kernel_rfl)) (by unfold Func.isWrapper; first | (rw [if_pos (by decide +kernel)]; kernel_rfl) | (rw [if_neg (by decide +kernel)]; exact ⟨rfl, rfl⟩))
    (fun os started H enc _ => lifted os started H enc)
end Go.Proofs.Ytbekaeahedkeoaa.schedIdle
