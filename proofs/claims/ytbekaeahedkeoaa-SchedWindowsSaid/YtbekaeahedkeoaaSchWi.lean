
/-
  SchedWindows: nobody sends more than may be.
-/
import Derived.Test.YtbekaeahedkeoaaSchWiP
namespace Go.Proofs.Ytbekaeahedkeoaa.schedWindows
open Go.RowKit Go.Sl Go.ChangeShapes

theorem quo_two (j : Nat) : (2 * (j : Int) + 1).tdiv 2 = j := by
  rw [Int.tdiv_eq_ediv_of_nonneg (by omega)]
  omega

theorem odd_and {j : Nat} (h : j < 31) : bits .and .i64 (2 * (j : Int) + 1) 1 = 1 := by
  have : ∀ j : Fin 31, bits .and .i64 (2 * ((j.val : Nat) : Int) + 1) 1 = 1 := by decide
  exact this ⟨j, h⟩








set_option maxHeartbeats 40000000 in
set_option maxRecDepth 100000 in
theorem windowsW {w0 : World} {most : Int} {fv cv gv : Value} {nf nc ng : Nat} {xf xc xg : List Value} (hf : rd w0 3 fv nf xf) (hfe : ∀ i, i < nf → ∃ (a b : Int) (e : Bool), (xf.drop (i * 3)).take 3 = [.int .i64 a, .int .i64 b, .bool e])
    (hc : rd w0 1 cv nc xc) (hce : ∀ i, i < nc → ∃ x, xc[i]? = some (.int .i64 x) ∧ -9223372036854775808 ≤ x ∧ x ≤ 9223372036854775807) (hg : rd w0 1 gv ng xg) (hge : ∀ i, i < ng → ∃ x, xg[i]? = some (.int .i64 x) ∧ -9223372036854775808 ≤ x ∧ x ≤ 9223372036854775807) (m1 : -9223372036854775808 ≤ most) (m2 : most ≤ 9223372036854775807) :
    Calls Try.prog 6 #[.int .i64 most, fv, cv, gv] w0 fun e w' => e = .returned (.bool true) ∧ Below w0.heap.size w0 w' := by
  have G := own_begin w0
  obtain ⟨go, gc, rfl, j1, j2, -⟩ := id hg
  obtain ⟨co, cc, rfl, j3, j4, -⟩ := id hc
  obtain ⟨fo', fc', rfl, j5, j6, -⟩ := id hf
  unfold maxLen at j2 j4 j6
  have HG := Lib.hid hg
  have HC := Lib.hid hc
  clear hg hc
  go_enter Try.func6, Try.ntmps6
  go_wp2_with fail
  refine Calls.mono (shownSch G) ?_
  clear G; rintro e w ⟨rfl, G⟩
  go_wp2_with fail
  refine Calls.mono (putL hf hfe G m1 m2) ?_
  clear G hf hfe; rintro e w ⟨a, vo, F, rfl, hF, hFO, G⟩
  have hI0 := Inv.start (most := most) hF hFO
  obtain ⟨s0, hs0⟩ : ∃ s0, Sc.mk [] (mkQ 0 F) 65535 (min (max most 1) 16777215) = s0 := ⟨_, rfl⟩
  have hs1 : s0.win = 65535 := by rw [← hs0]
  rw [hs0] at hI0 G
  obtain ⟨N, hN⟩ : ∃ N, F.length = N := ⟨_, rfl⟩
  rw [hN] at G hF
  replace G : Own w0 (schA a s0 * (sl 3 vo N (fcs F) * emp)) w := G
  clear hs0
  obtain ⟨fo, fc, rfl, j7, j8⟩ := G.hdr vo
  unfold maxLen at j8
  go_wp2_with fail
  go_loopw [12, 13] (fun al i wr => ∃ (k : Nat) (F : List F3) (s : Sc), i = .int .i64 k ∧ al = .int .i64 s.win ∧ k ≤ nc ∧ k ≤ 200 ∧ Inv most F s k ∧ F.length = N ∧ Own w0 (schA a s * (sl 3 (.slice fo N fc) N (fcs F) * emp)) wr) (fun _ i _ => nc - (intOf i).toNat)
  case atStart => exact ⟨0, F, s0, rfl, by rw [hs1], Nat.zero_le _, by decide, hI0, hN, G⟩
  case round =>
    clear G hI0 hFO hN hs1
    obtain ⟨k, F, s, rfl, rfl, hk, hk2, hI, hN, G⟩ := hrel
    have HN := Lib.hid hN
    clear hN
    have b0 := hI.w0
    have b1 : s.win ≤ 13172535 := by have := hI.w1; omega
    by_cases hlt : k < nc ∧ k < 200
    · obtain ⟨hlt, hlt2⟩ := hlt
      obtain ⟨cad, rfl⟩ := rd_some HC.out (by omega)
      obtain ⟨c, hcx, c1, c2⟩ := hce k hlt
      have HCX := Lib.hid hcx
      clear hcx
      by_cases hA : k < ng
      · obtain ⟨gad, rfl⟩ := rd_some HG.out (by omega)
        obtain ⟨x, hgx, x1, x2⟩ := hge k hA
        have HGX := Lib.hid hgx
        clear hgx
        obtain ⟨nn, hnn, hnn'⟩ := and_i64 x 65535 (by decide)
        replace hnn : bits .and .i64 x 65535 = (nn : Int) := hnn
        obtain ⟨t, ht, ht'⟩ := and_i64 (x / 65536) 31 (by decide)
        replace ht : bits .and .i64 (x / 65536) 31 = (t : Int) := ht
        have hgr := hI.grant (t := t) hnn' hk2
        go_wp2_with (first
          | ((with_reducible refine at_load ?_); refine wpu_loadC (HG.out.old G) HGX.out rfl rfl rfl ?_; go_frame)
          | fail)
        refine Calls.mono (grant0 G (by omega) (by omega) (by omega) (by omega)) ?_
        clear G; rintro e w ⟨rfl, G⟩
        rcases hgr with ⟨hne, hI2⟩ | ⟨l1, f, l2, g, hq, hne, hid, hgF, b4, b5, hgw, hI2⟩
        · go_wp2_with fail
          refine Calls.mono (grantN (n := (nn : Int)) G hne (by omega)) ?_
          clear G hne hI; rintro e w ⟨rfl, G⟩
          obtain ⟨s, hs2, hsw⟩ : ∃ s2, { s with win := s.win + (nn : Int) } = s2 ∧ s.win + (nn : Int) = s2.win := ⟨_, rfl, rfl⟩
          rw [hs2] at hI2 G
          rw [hsw]
          clear hs2 hsw b0 b1 hnn ht hnn' ht' HG HGX
          have hI := hI2
          clear hI2
          skip
          have b2 := hI.w0
          have b3 : s.win ≤ 13238070 := by have := hI.w1; omega
          have hok := hI.ok (by omega)
          have hct := hI.ct
          have hql : s.q.length ≤ 1000000 := by have := hI.ql; omega
          go_wp2_with (first
            | ((with_reducible refine at_load ?_); refine wpu_loadC (HC.out.old G) HCX.out rfl rfl rfl ?_; go_frame)
            | fail)
          refine Calls.mono (nextD (G.pullF (schA a)) hok hct c1 c2 hql) ?_
          clear G hok hct hql; rintro e w ⟨p, s', hn, rfl, G⟩
          rcases p with _ | ⟨id, m, e⟩
          · as_aux_lemma =>
            obtain rfl := Sc.next_none hn
            have HI := Lib.hid hI
            clear hn hI
            go_wp2_with (first
              | ((with_reducible refine at_alloc ?_); refine wpu_new G ?_; clear G; intro w G)
              | ((with_reducible refine at_drew ?_); refine wpu_drew G ?_; clear G; intro w G)
              | ((with_reducible refine at_load ?_); first
                | (refine wpu_load G rfl rfl rfl rfl ?_; go_frame)
                | (refine wpu_loadB G rfl rfl rfl (by rfl) ?_; go_frame)
                | (refine wpu_loadS G rfl rfl rfl (by rfl) ?_; simp only [List.drop_succ_cons, List.drop_zero, List.take_succ_cons, List.take_zero]; go_frame))
              | ((with_reducible refine at_store ?_); first
                | (refine wpu_store G rfl rfl rfl rfl (by first | rfl | assumption | simp [*]) rfl ?_; clear G; intro w G; go_frame)
                | (refine wpu_storeB G rfl rfl rfl rfl (by rfl) (by rfl) (by first | rfl | assumption | simp [*]) ?_; clear G; intro w G; go_frame)
                | (refine wpu_storeS G rfl rfl rfl rfl (by rfl) (by rfl) (by first | rfl | assumption | simp [*]) ?_; clear G; intro w G; go_frame))
              | ((with_reducible refine at_convert ?_); refine wpu_str G rfl rfl rfl rfl ?_; go_frame)
              | ((with_reducible refine at_slice ?_); first
                | (refine wpu_sliceLo rfl rfl rfl rfl (by first | rfl | omega) (by omega) (by omega) ?_; go_frame)
                | (refine wpu_sliceLH rfl rfl rfl rfl rfl (by first | rfl | omega) (by first | rfl | omega) (by omega) (by omega) ?_; go_frame))
              | fail)
            go_roundw
            case rel => exact ⟨k + 1, F, s', by go_num, rfl, by omega, by omega, HI.out, HN.out, G.sub _⟩
            case measure => simp [intOf] <;> omega
          · obtain ⟨j, gw, go, ge, hg, rfl, p1, p2, p3, p4, p5, p6, p7, p8, p9, ⟨p10, p11, p12, p13⟩, hI'⟩ := hI.next hn
            have p14 : gw ≤ 14285645 := by omega
            have hjN : j < N := by rw [← HN.out]; exact (List.getElem?_eq_some_iff.1 hg).1
            have t0 : bits .and .i64 (2 * (j : Int) + 1) 1 = 1 := odd_and (by omega)
            have hq2 := quo_two j
            have t1 : decide (2 * (j : Int) + 1 < 1) = false := by simp; omega
            have t2 : decide ((N : Int) ≤ (j : Int)) = false := by simp; omega
            have t2' : decide (N ≤ j) = false := by simp; omega
            have t3 : decide (m < 0) = false := by simp; omega
            have t4 : decide (c < m + 9) = false := by simp; omega
            have t5 : decide (max most 1 < m) = false := by simp; omega
            have HX := Lib.hid (fcs_at hg)
            have HI := Lib.hid hI'
            have HW := Lib.hid p9
            obtain ⟨fad, rfl⟩ := rd_some (G.rd (.slice fo N fc) _ G) (by omega)
            clear hn hI hI' p9 p11
            by_cases hm0 : m = 0
            · have t6 : decide (m = 0) = true := by simp [hm0]
              have t7 : (m == 0) = true := by simp [hm0]
              have t8 : decide (0 < m) = false := by simp [hm0]
              obtain rfl := p5 hm0
              obtain ⟨q1, rfl⟩ := p8 rfl
              have t9 : decide (go - m = 0) = true := by simp [q1]
              have t10 : (go - m == 0) = true := by simp [q1]
              have t11 : decide (go - m < 0) = false := by simp; omega
              have HQ := Lib.hid q1
              clear p5 p6 p8 hm0 q1
              as_aux_lemma =>
              go_wp2_with (first
                | ((with_reducible refine at_alloc ?_); refine wpu_new G ?_; clear G; intro w G)
                | ((with_reducible refine at_drew ?_); refine wpu_drew G ?_; clear G; intro w G)
                | ((with_reducible refine at_load ?_); first
                  | (refine wpu_load G rfl rfl rfl rfl ?_; go_frame)
                  | (refine wpu_loadB G rfl rfl rfl (by rfl) ?_; go_frame)
                  | (refine wpu_loadS G rfl rfl rfl (by rfl) ?_; simp only [List.drop_succ_cons, List.drop_zero, List.take_succ_cons, List.take_zero]; go_frame))
                | ((with_reducible refine at_store ?_); first
                  | (refine wpu_store G rfl rfl rfl rfl (by first | rfl | assumption | simp [*]) rfl ?_; clear G; intro w G; go_frame)
                  | (refine wpu_storeB G rfl rfl rfl rfl (by rfl) (by rfl) (by first | rfl | assumption | simp [*]) ?_; clear G; intro w G; go_frame)
                  | (refine wpu_storeS G rfl rfl rfl rfl (by rfl) (by rfl) (by first | rfl | assumption | simp [*]) ?_; clear G; intro w G; go_frame))
                | ((with_reducible refine at_convert ?_); refine wpu_str G rfl rfl rfl rfl ?_; go_frame)
                | ((with_reducible refine at_slice ?_); first
                  | (refine wpu_sliceLo rfl rfl rfl rfl (by first | rfl | omega) (by omega) (by omega) ?_; go_frame)
                  | (refine wpu_sliceLH rfl rfl rfl rfl rfl (by first | rfl | omega) (by first | rfl | omega) (by omega) (by omega) ?_; go_frame))
                | fail)
              refine wp_region_calm (C := Own _ _) (by kernel_rfl) (by kernel_rfl) (own_drew G) ?_
              intro ι W hne hW hs
              repeat (first
                | go_big_quiet_skip
                | ((with_reducible refine atq_load ?_); first
                  | (refine wpq_load hW rfl (by kernel_rfl) rfl rfl ?_; go_frame)
                  | (refine wpq_loadC (fun i => HC.out.old (hW i)) HCX.out rfl (by kernel_rfl) rfl ?_; go_frame))
                | go_big_quiet_step (fail))
              refine wpQuiet_nil ?_
              intro i
              have g := hW i
              generalize W i = wg at g ⊢
              clear hs hW hne
              have G := g
              clear g
              go_wp2_with fail
              refine wp_region_mix (List.replicate 12 0 ++ [2]) (Own w0 _) (by kernel_rfl) (by kernel_rfl) (own_drew G) ?_
              refine mix_calm 12 ((own_drew G)) (by rfl) (by rfl) ?_
              intro ι W hne hW
              dsimp only [List.take, List.drop]
              repeat (first | ((with_reducible refine atq_load ?_); first | (refine wpq_load hW rfl rfl rfl rfl ?_; go_frame) | (refine wpq_loadB hW rfl rfl rfl (by rfl) ?_; go_frame) | (refine wpq_loadS hW rfl rfl rfl (by rfl) ?_; simp only [List.drop_succ_cons, List.drop_zero, List.take_succ_cons, List.take_zero]; go_frame)) | ((with_reducible refine atq_load ?_); refine wpq_loadF0 (k := j) (fun i => G.rd (.slice (some fad) N fc) _ (hW i)) HX.out rfl rfl rfl rfl ?_; go_frame) | go_big_quiet_step (fail))
              refine wpQuiet_nil ?_
              clear  hW hne W ι
              refine mix_last rfl (fun K hK => ?_)
              refine wpk_storeF0 (s := fad) (n := N) (cap := fc) (k := j) (own_drew G) rfl rfl rfl rfl (by omega) fun w G => hK _ _ (mix_nil ?_)
              clear hK
              try go_frame
              rw [fcs_set0 hg] at G
              have hg1 : (F.set j (gw - m, go, true))[j]? = some (gw - m, go, true) := List.getElem?_set_self (by rw [HN.out]; exact hjN)
              obtain ⟨F1, hF1⟩ : ∃ F1, F.set j (gw - m, go, true) = F1 := ⟨_, rfl⟩
              rw [show F.set j (gw - m, (gw, go, true).2.1, (gw, go, true).2.2) = F1 from hF1] at G
              rw [hF1] at hg1
              have HX1 := Lib.hid (fcs_at hg1)
              go_wp2_with fail
              refine wp_region_mix (List.replicate 12 0 ++ [2]) (Own w0 _) (by kernel_rfl) (by kernel_rfl) (own_drew G) ?_
              refine mix_calm 12 ((own_drew G)) (by rfl) (by rfl) ?_
              intro ι W hne hW
              dsimp only [List.take, List.drop]
              repeat (first | ((with_reducible refine atq_load ?_); first | (refine wpq_load hW rfl rfl rfl rfl ?_; go_frame) | (refine wpq_loadB hW rfl rfl rfl (by rfl) ?_; go_frame) | (refine wpq_loadS hW rfl rfl rfl (by rfl) ?_; simp only [List.drop_succ_cons, List.drop_zero, List.take_succ_cons, List.take_zero]; go_frame)) | ((with_reducible refine atq_load ?_); refine wpq_loadF (k := j) (fun i => G.rd (.slice (some fad) N fc) _ (hW i)) HX1.out rfl rfl rfl rfl ?_; go_frame) | go_big_quiet_step (fail))
              refine wpQuiet_nil ?_
              clear  hW hne W ι
              refine mix_last rfl (fun K hK => ?_)
              refine wpk_storeF (s := fad) (n := N) (cap := fc) (k := j) (j := 0) (own_drew G) rfl rfl rfl rfl (by omega) fun w G => hK _ _ (mix_nil ?_)
              clear hK
              try go_frame
              rw [fcs_set1 hg1] at G
              have hg2 : (F1.set j (gw - m, go - m, true))[j]? = some (gw - m, go - m, true) := List.getElem?_set_self (List.getElem?_eq_some_iff.1 hg1).1
              obtain ⟨F2, hF2⟩ : ∃ F2, F1.set j (gw - m, go - m, true) = F2 := ⟨_, rfl⟩
              rw [show F1.set j ((gw - m, go, true).1, go - m, (gw - m, go, true).2.2) = F2 from hF2] at G
              rw [hF2] at hg2
              have HX2 := Lib.hid (fcs_at hg2)
              have HF2 : Hid (F2 = F.set j (gw - m, go - m, true)) := Lib.hid (by rw [← hF2, ← hF1, List.set_set])
              have HG2 := Lib.hid hg2
              clear hF1 hF2 HX1 HX hg1 hg hg2 t4 t5
              go_wp2_with (first
                | ((with_reducible refine at_load ?_); first
                  | (refine wpu_load G rfl (by kernel_rfl) rfl rfl ?_; go_frame)
                  | (refine wpu_loadF0 (k := j) (G.rd (.slice (some fad) N fc) _ G) HX2.out rfl (by kernel_rfl) rfl rfl ?_; go_frame)
                  | (refine wpu_loadF (k := j) (G.rd (.slice (some fad) N fc) _ G) HX2.out rfl (by kernel_rfl) rfl rfl ?_; go_frame))
                | ((with_reducible refine at_store ?_); refine wpu_storeE (s := fad) (n := N) (cap := fc) (k := j) (sz := 3) G rfl (by kernel_rfl) rfl rfl (by rfl) (by rfl) hjN ?_; clear G; intro w G; go_frame)
                | fail)
              all_goals first | (exfalso; have := HQ.out; contradiction) | skip
              have G3 : Own w0 (schA a s' * (sl 3 (.slice (some fad) N fc) N (fcs (F2.set j (0, 0, false))) * emp)) w := by
                rw [← fcs_put HG2.out (0, 0, false)]
                show Own w0 (schA a s' * (sl 3 (.slice (some fad) N fc) N ((fcs F2).take (j * 3) ++ [.int .i64 0, .int .i64 0, .bool false] ++ (fcs F2).drop (j * 3 + 3)) * emp)) w
                exact G.sub _
              rw [HF2.out, List.set_set] at G3
              go_roundw
              case rel => exact ⟨k + 1, F.set j (0, 0, false), s', by go_num, by rw [HW.out], by omega, by omega, by simpa using HI.out, by rw [List.length_set]; exact HN.out, G3⟩
              case measure => simp [intOf] <;> omega
            · have t6 : decide (m = 0) = false := by simp [hm0]
              have t7 : (m == 0) = false := by simp [hm0]
              have t8 : decide (0 < m) = true := by simp; omega
              obtain ⟨q2, q3⟩ := p6 (by omega)
              have t11 : decide (go - m < 0) = false := by simp; omega
              have t12 : decide (gw - m < 0) = false := by simp; omega
              have t13 : decide (s.win - m < 0) = false := by simp; omega
              clear p5 p6 hm0
              cases e
              · clear p8
                as_aux_lemma =>
                go_wp2_with (first
                  | ((with_reducible refine at_alloc ?_); refine wpu_new G ?_; clear G; intro w G)
                  | ((with_reducible refine at_drew ?_); refine wpu_drew G ?_; clear G; intro w G)
                  | ((with_reducible refine at_load ?_); first
                    | (refine wpu_load G rfl rfl rfl rfl ?_; go_frame)
                    | (refine wpu_loadB G rfl rfl rfl (by rfl) ?_; go_frame)
                    | (refine wpu_loadS G rfl rfl rfl (by rfl) ?_; simp only [List.drop_succ_cons, List.drop_zero, List.take_succ_cons, List.take_zero]; go_frame))
                  | ((with_reducible refine at_store ?_); first
                    | (refine wpu_store G rfl rfl rfl rfl (by first | rfl | assumption | simp [*]) rfl ?_; clear G; intro w G; go_frame)
                    | (refine wpu_storeB G rfl rfl rfl rfl (by rfl) (by rfl) (by first | rfl | assumption | simp [*]) ?_; clear G; intro w G; go_frame)
                    | (refine wpu_storeS G rfl rfl rfl rfl (by rfl) (by rfl) (by first | rfl | assumption | simp [*]) ?_; clear G; intro w G; go_frame))
                  | ((with_reducible refine at_convert ?_); refine wpu_str G rfl rfl rfl rfl ?_; go_frame)
                  | ((with_reducible refine at_slice ?_); first
                    | (refine wpu_sliceLo rfl rfl rfl rfl (by first | rfl | omega) (by omega) (by omega) ?_; go_frame)
                    | (refine wpu_sliceLH rfl rfl rfl rfl rfl (by first | rfl | omega) (by first | rfl | omega) (by omega) (by omega) ?_; go_frame))
                  | fail)
                refine wp_region_calm (C := Own _ _) (by kernel_rfl) (by kernel_rfl) (own_drew G) ?_
                intro ι W hne hW hs
                repeat (first
                  | go_big_quiet_skip
                  | ((with_reducible refine atq_load ?_); first
                    | (refine wpq_load hW rfl (by kernel_rfl) rfl rfl ?_; go_frame)
                    | (refine wpq_loadC (fun i => HC.out.old (hW i)) HCX.out rfl (by kernel_rfl) rfl ?_; go_frame))
                  | go_big_quiet_step (fail))
                refine wpQuiet_nil ?_
                intro i
                have g := hW i
                generalize W i = wg at g ⊢
                clear hs hW hne
                have G := g
                clear g
                go_wp2_with fail
                refine wp_region_mix (List.replicate 12 0 ++ [2]) (Own w0 _) (by kernel_rfl) (by kernel_rfl) (own_drew G) ?_
                refine mix_calm 12 ((own_drew G)) (by rfl) (by rfl) ?_
                intro ι W hne hW
                dsimp only [List.take, List.drop]
                repeat (first | ((with_reducible refine atq_load ?_); first | (refine wpq_load hW rfl rfl rfl rfl ?_; go_frame) | (refine wpq_loadB hW rfl rfl rfl (by rfl) ?_; go_frame) | (refine wpq_loadS hW rfl rfl rfl (by rfl) ?_; simp only [List.drop_succ_cons, List.drop_zero, List.take_succ_cons, List.take_zero]; go_frame)) | ((with_reducible refine atq_load ?_); refine wpq_loadF0 (k := j) (fun i => G.rd (.slice (some fad) N fc) _ (hW i)) HX.out rfl rfl rfl rfl ?_; go_frame) | go_big_quiet_step (fail))
                refine wpQuiet_nil ?_
                clear  hW hne W ι
                refine mix_last rfl (fun K hK => ?_)
                refine wpk_storeF0 (s := fad) (n := N) (cap := fc) (k := j) (own_drew G) rfl rfl rfl rfl (by omega) fun w G => hK _ _ (mix_nil ?_)
                clear hK
                try go_frame
                rw [fcs_set0 hg] at G
                have hg1 : (F.set j (gw - m, go, ge))[j]? = some (gw - m, go, ge) := List.getElem?_set_self (by rw [HN.out]; exact hjN)
                obtain ⟨F1, hF1⟩ : ∃ F1, F.set j (gw - m, go, ge) = F1 := ⟨_, rfl⟩
                rw [show F.set j (gw - m, (gw, go, ge).2.1, (gw, go, ge).2.2) = F1 from hF1] at G
                rw [hF1] at hg1
                have HX1 := Lib.hid (fcs_at hg1)
                go_wp2_with fail
                refine wp_region_mix (List.replicate 12 0 ++ [2]) (Own w0 _) (by kernel_rfl) (by kernel_rfl) (own_drew G) ?_
                refine mix_calm 12 ((own_drew G)) (by rfl) (by rfl) ?_
                intro ι W hne hW
                dsimp only [List.take, List.drop]
                repeat (first | ((with_reducible refine atq_load ?_); first | (refine wpq_load hW rfl rfl rfl rfl ?_; go_frame) | (refine wpq_loadB hW rfl rfl rfl (by rfl) ?_; go_frame) | (refine wpq_loadS hW rfl rfl rfl (by rfl) ?_; simp only [List.drop_succ_cons, List.drop_zero, List.take_succ_cons, List.take_zero]; go_frame)) | ((with_reducible refine atq_load ?_); refine wpq_loadF (k := j) (fun i => G.rd (.slice (some fad) N fc) _ (hW i)) HX1.out rfl rfl rfl rfl ?_; go_frame) | go_big_quiet_step (fail))
                refine wpQuiet_nil ?_
                clear  hW hne W ι
                refine mix_last rfl (fun K hK => ?_)
                refine wpk_storeF (s := fad) (n := N) (cap := fc) (k := j) (j := 0) (own_drew G) rfl rfl rfl rfl (by omega) fun w G => hK _ _ (mix_nil ?_)
                clear hK
                try go_frame
                rw [fcs_set1 hg1] at G
                have hg2 : (F1.set j (gw - m, go - m, ge))[j]? = some (gw - m, go - m, ge) := List.getElem?_set_self (List.getElem?_eq_some_iff.1 hg1).1
                obtain ⟨F2, hF2⟩ : ∃ F2, F1.set j (gw - m, go - m, ge) = F2 := ⟨_, rfl⟩
                rw [show F1.set j ((gw - m, go, ge).1, go - m, (gw - m, go, ge).2.2) = F2 from hF2] at G
                rw [hF2] at hg2
                have HX2 := Lib.hid (fcs_at hg2)
                have HF2 : Hid (F2 = F.set j (gw - m, go - m, ge)) := Lib.hid (by rw [← hF2, ← hF1, List.set_set])
                have HG2 := Lib.hid hg2
                clear hF1 hF2 HX1 HX hg1 hg hg2 t4 t5
                go_wp2_with (first
                  | ((with_reducible refine at_load ?_); first
                    | (refine wpu_load G rfl (by kernel_rfl) rfl rfl ?_; go_frame)
                    | (refine wpu_loadF0 (k := j) (G.rd (.slice (some fad) N fc) _ G) HX2.out rfl (by kernel_rfl) rfl rfl ?_; go_frame)
                    | (refine wpu_loadF (k := j) (G.rd (.slice (some fad) N fc) _ G) HX2.out rfl (by kernel_rfl) rfl rfl ?_; go_frame))
                  | ((with_reducible refine at_store ?_); refine wpu_storeE (s := fad) (n := N) (cap := fc) (k := j) (sz := 3) G rfl (by kernel_rfl) rfl rfl (by rfl) (by rfl) hjN ?_; clear G; intro w G; go_frame)
                  | fail)
                have G3 : Own w0 (schA a s' * (sl 3 (.slice (some fad) N fc) N (fcs F2) * emp)) w := G.sub _
                rw [HF2.out] at G3
                go_roundw
                case rel => exact ⟨k + 1, F.set j (gw - m, go - m, ge), s', by go_num, by rw [HW.out], by omega, by omega, by simpa using HI.out, by rw [List.length_set]; exact HN.out, G3⟩
                case measure => simp [intOf] <;> omega
              · obtain ⟨q1, rfl⟩ := p8 rfl
                have t9 : decide (go - m = 0) = true := by simp [q1]
                have t10 : (go - m == 0) = true := by simp [q1]
                have HQ := Lib.hid q1
                clear p8 q1
                as_aux_lemma =>
                go_wp2_with (first
                  | ((with_reducible refine at_alloc ?_); refine wpu_new G ?_; clear G; intro w G)
                  | ((with_reducible refine at_drew ?_); refine wpu_drew G ?_; clear G; intro w G)
                  | ((with_reducible refine at_load ?_); first
                    | (refine wpu_load G rfl rfl rfl rfl ?_; go_frame)
                    | (refine wpu_loadB G rfl rfl rfl (by rfl) ?_; go_frame)
                    | (refine wpu_loadS G rfl rfl rfl (by rfl) ?_; simp only [List.drop_succ_cons, List.drop_zero, List.take_succ_cons, List.take_zero]; go_frame))
                  | ((with_reducible refine at_store ?_); first
                    | (refine wpu_store G rfl rfl rfl rfl (by first | rfl | assumption | simp [*]) rfl ?_; clear G; intro w G; go_frame)
                    | (refine wpu_storeB G rfl rfl rfl rfl (by rfl) (by rfl) (by first | rfl | assumption | simp [*]) ?_; clear G; intro w G; go_frame)
                    | (refine wpu_storeS G rfl rfl rfl rfl (by rfl) (by rfl) (by first | rfl | assumption | simp [*]) ?_; clear G; intro w G; go_frame))
                  | ((with_reducible refine at_convert ?_); refine wpu_str G rfl rfl rfl rfl ?_; go_frame)
                  | ((with_reducible refine at_slice ?_); first
                    | (refine wpu_sliceLo rfl rfl rfl rfl (by first | rfl | omega) (by omega) (by omega) ?_; go_frame)
                    | (refine wpu_sliceLH rfl rfl rfl rfl rfl (by first | rfl | omega) (by first | rfl | omega) (by omega) (by omega) ?_; go_frame))
                  | fail)
                refine wp_region_calm (C := Own _ _) (by kernel_rfl) (by kernel_rfl) (own_drew G) ?_
                intro ι W hne hW hs
                repeat (first
                  | go_big_quiet_skip
                  | ((with_reducible refine atq_load ?_); first
                    | (refine wpq_load hW rfl (by kernel_rfl) rfl rfl ?_; go_frame)
                    | (refine wpq_loadC (fun i => HC.out.old (hW i)) HCX.out rfl (by kernel_rfl) rfl ?_; go_frame))
                  | go_big_quiet_step (fail))
                refine wpQuiet_nil ?_
                intro i
                have g := hW i
                generalize W i = wg at g ⊢
                clear hs hW hne
                have G := g
                clear g
                go_wp2_with fail
                refine wp_region_mix (List.replicate 12 0 ++ [2]) (Own w0 _) (by kernel_rfl) (by kernel_rfl) (own_drew G) ?_
                refine mix_calm 12 ((own_drew G)) (by rfl) (by rfl) ?_
                intro ι W hne hW
                dsimp only [List.take, List.drop]
                repeat (first | ((with_reducible refine atq_load ?_); first | (refine wpq_load hW rfl rfl rfl rfl ?_; go_frame) | (refine wpq_loadB hW rfl rfl rfl (by rfl) ?_; go_frame) | (refine wpq_loadS hW rfl rfl rfl (by rfl) ?_; simp only [List.drop_succ_cons, List.drop_zero, List.take_succ_cons, List.take_zero]; go_frame)) | ((with_reducible refine atq_load ?_); refine wpq_loadF0 (k := j) (fun i => G.rd (.slice (some fad) N fc) _ (hW i)) HX.out rfl rfl rfl rfl ?_; go_frame) | go_big_quiet_step (fail))
                refine wpQuiet_nil ?_
                clear  hW hne W ι
                refine mix_last rfl (fun K hK => ?_)
                refine wpk_storeF0 (s := fad) (n := N) (cap := fc) (k := j) (own_drew G) rfl rfl rfl rfl (by omega) fun w G => hK _ _ (mix_nil ?_)
                clear hK
                try go_frame
                rw [fcs_set0 hg] at G
                have hg1 : (F.set j (gw - m, go, true))[j]? = some (gw - m, go, true) := List.getElem?_set_self (by rw [HN.out]; exact hjN)
                obtain ⟨F1, hF1⟩ : ∃ F1, F.set j (gw - m, go, true) = F1 := ⟨_, rfl⟩
                rw [show F.set j (gw - m, (gw, go, true).2.1, (gw, go, true).2.2) = F1 from hF1] at G
                rw [hF1] at hg1
                have HX1 := Lib.hid (fcs_at hg1)
                go_wp2_with fail
                refine wp_region_mix (List.replicate 12 0 ++ [2]) (Own w0 _) (by kernel_rfl) (by kernel_rfl) (own_drew G) ?_
                refine mix_calm 12 ((own_drew G)) (by rfl) (by rfl) ?_
                intro ι W hne hW
                dsimp only [List.take, List.drop]
                repeat (first | ((with_reducible refine atq_load ?_); first | (refine wpq_load hW rfl rfl rfl rfl ?_; go_frame) | (refine wpq_loadB hW rfl rfl rfl (by rfl) ?_; go_frame) | (refine wpq_loadS hW rfl rfl rfl (by rfl) ?_; simp only [List.drop_succ_cons, List.drop_zero, List.take_succ_cons, List.take_zero]; go_frame)) | ((with_reducible refine atq_load ?_); refine wpq_loadF (k := j) (fun i => G.rd (.slice (some fad) N fc) _ (hW i)) HX1.out rfl rfl rfl rfl ?_; go_frame) | go_big_quiet_step (fail))
                refine wpQuiet_nil ?_
                clear  hW hne W ι
                refine mix_last rfl (fun K hK => ?_)
                refine wpk_storeF (s := fad) (n := N) (cap := fc) (k := j) (j := 0) (own_drew G) rfl rfl rfl rfl (by omega) fun w G => hK _ _ (mix_nil ?_)
                clear hK
                try go_frame
                rw [fcs_set1 hg1] at G
                have hg2 : (F1.set j (gw - m, go - m, true))[j]? = some (gw - m, go - m, true) := List.getElem?_set_self (List.getElem?_eq_some_iff.1 hg1).1
                obtain ⟨F2, hF2⟩ : ∃ F2, F1.set j (gw - m, go - m, true) = F2 := ⟨_, rfl⟩
                rw [show F1.set j ((gw - m, go, true).1, go - m, (gw - m, go, true).2.2) = F2 from hF2] at G
                rw [hF2] at hg2
                have HX2 := Lib.hid (fcs_at hg2)
                have HF2 : Hid (F2 = F.set j (gw - m, go - m, true)) := Lib.hid (by rw [← hF2, ← hF1, List.set_set])
                have HG2 := Lib.hid hg2
                clear hF1 hF2 HX1 HX hg1 hg hg2 t4 t5
                go_wp2_with (first
                  | ((with_reducible refine at_load ?_); first
                    | (refine wpu_load G rfl (by kernel_rfl) rfl rfl ?_; go_frame)
                    | (refine wpu_loadF0 (k := j) (G.rd (.slice (some fad) N fc) _ G) HX2.out rfl (by kernel_rfl) rfl rfl ?_; go_frame)
                    | (refine wpu_loadF (k := j) (G.rd (.slice (some fad) N fc) _ G) HX2.out rfl (by kernel_rfl) rfl rfl ?_; go_frame))
                  | ((with_reducible refine at_store ?_); refine wpu_storeE (s := fad) (n := N) (cap := fc) (k := j) (sz := 3) G rfl (by kernel_rfl) rfl rfl (by rfl) (by rfl) hjN ?_; clear G; intro w G; go_frame)
                  | fail)
                all_goals first | (exfalso; have := HQ.out; contradiction) | skip
                have G3 : Own w0 (schA a s' * (sl 3 (.slice (some fad) N fc) N (fcs (F2.set j (0, 0, false))) * emp)) w := by
                  rw [← fcs_put HG2.out (0, 0, false)]
                  show Own w0 (schA a s' * (sl 3 (.slice (some fad) N fc) N ((fcs F2).take (j * 3) ++ [.int .i64 0, .int .i64 0, .bool false] ++ (fcs F2).drop (j * 3 + 3)) * emp)) w
                  exact G.sub _
                rw [HF2.out, List.set_set] at G3
                go_roundw
                case rel => exact ⟨k + 1, F.set j (0, 0, false), s', by go_num, by rw [HW.out], by omega, by omega, by simpa using HI.out, by rw [List.length_set]; exact HN.out, G3⟩
                case measure => simp [intOf] <;> omega
        · obtain ⟨g0, g1, g2⟩ := g
          obtain ⟨fad, rfl⟩ := rd_some (G.rd (.slice fo N fc) _ G) (by have := (List.getElem?_eq_some_iff.1 hgF).1; have := HN.out; omega)
          have htN : t < N := by rw [← HN.out]; exact (List.getElem?_eq_some_iff.1 hgF).1
          have u1 : decide ((t : Int) < (N : Int)) = true := by simp; omega
          have u2 : decide (t < N) = true := by simp; omega
          have u3 := quo_two t
          have u4 : g0 + (nn : Int) ≤ 2147483647 := by simp only at hgw; omega
          have u5 : -2147483647 ≤ g0 := by simp only at hgw; omega
          have HT := Lib.hid (fcs_at hgF)
          go_wp2_with fail
          refine Calls.mono (grantC (n := (nn : Int)) (f := f) (l1 := l1) (l2 := l2) G hq hid hne (by omega) (by omega) (by omega) b4 b5) ?_
          clear G hne hI; rintro e w ⟨rfl, G⟩
          replace G : Own w0 (schA a { s with q := l1 ++ { f with win := f.win + (nn : Int) } :: l2, win := s.win + (nn : Int) } * (sl 3 (.slice (some fad) N fc) N (fcs F) * emp)) w := G
          obtain ⟨s, hs2, hsw⟩ : ∃ s2, { s with q := l1 ++ { f with win := f.win + (nn : Int) } :: l2, win := s.win + (nn : Int) } = s2 ∧ s.win + (nn : Int) = s2.win := ⟨_, rfl, rfl⟩
          rw [hs2] at hI2 G
          rw [hsw]
          clear hs2 hsw b0 b1 hnn ht hq hid hgw
          go_wp2_with (first
            | ((with_reducible refine at_load ?_); refine wpu_loadC (HC.out.old G) HCX.out rfl rfl rfl ?_; go_frame)
            | ((with_reducible refine at_load ?_); refine wpu_loadF0 (k := t) (G.rd (.slice (some fad) N fc) _ G) HT.out rfl rfl rfl rfl ?_; go_frame)
            | ((with_reducible refine at_store ?_); refine wpu_storeF0 (s := fad) (n := N) (cap := fc) (k := t) G rfl rfl rfl rfl rfl (by omega) ?_; clear G; intro w G; go_frame)
            | fail)
          rw [fcs_set0 hgF] at G
          have HN2 : Hid ((F.set t (g0 + (nn : Int), g1, g2)).length = N) := Lib.hid (by rw [List.length_set]; exact HN.out)
          obtain ⟨F, hF2⟩ : ∃ F2, F.set t (g0 + (nn : Int), g1, g2) = F2 := ⟨_, rfl⟩
          rw [hF2] at HN2
          have hI : Inv most F s (k + 1) := by rw [← hF2]; exact hI2
          replace G : Own w0 (sl 3 (.slice (some fad) N fc) N (fcs F) * (schA a s * emp)) w := by rw [← hF2]; exact G
          have HN := HN2
          clear hI2 HN2 hF2 hgF HT u1 u2 u3 u4 u5 b4 b5 hnn' ht' HG HGX htN
          skip
          have b2 := hI.w0
          have b3 : s.win ≤ 13238070 := by have := hI.w1; omega
          have hok := hI.ok (by omega)
          have hct := hI.ct
          have hql : s.q.length ≤ 1000000 := by have := hI.ql; omega
          go_wp2_with (first
            | ((with_reducible refine at_load ?_); refine wpu_loadC (HC.out.old G) HCX.out rfl rfl rfl ?_; go_frame)
            | fail)
          refine Calls.mono (nextD (G.pullF (schA a)) hok hct c1 c2 hql) ?_
          clear G hok hct hql; rintro e w ⟨p, s', hn, rfl, G⟩
          rcases p with _ | ⟨id, m, e⟩
          · as_aux_lemma =>
            obtain rfl := Sc.next_none hn
            have HI := Lib.hid hI
            clear hn hI
            go_wp2_with (first
              | ((with_reducible refine at_alloc ?_); refine wpu_new G ?_; clear G; intro w G)
              | ((with_reducible refine at_drew ?_); refine wpu_drew G ?_; clear G; intro w G)
              | ((with_reducible refine at_load ?_); first
                | (refine wpu_load G rfl rfl rfl rfl ?_; go_frame)
                | (refine wpu_loadB G rfl rfl rfl (by rfl) ?_; go_frame)
                | (refine wpu_loadS G rfl rfl rfl (by rfl) ?_; simp only [List.drop_succ_cons, List.drop_zero, List.take_succ_cons, List.take_zero]; go_frame))
              | ((with_reducible refine at_store ?_); first
                | (refine wpu_store G rfl rfl rfl rfl (by first | rfl | assumption | simp [*]) rfl ?_; clear G; intro w G; go_frame)
                | (refine wpu_storeB G rfl rfl rfl rfl (by rfl) (by rfl) (by first | rfl | assumption | simp [*]) ?_; clear G; intro w G; go_frame)
                | (refine wpu_storeS G rfl rfl rfl rfl (by rfl) (by rfl) (by first | rfl | assumption | simp [*]) ?_; clear G; intro w G; go_frame))
              | ((with_reducible refine at_convert ?_); refine wpu_str G rfl rfl rfl rfl ?_; go_frame)
              | ((with_reducible refine at_slice ?_); first
                | (refine wpu_sliceLo rfl rfl rfl rfl (by first | rfl | omega) (by omega) (by omega) ?_; go_frame)
                | (refine wpu_sliceLH rfl rfl rfl rfl rfl (by first | rfl | omega) (by first | rfl | omega) (by omega) (by omega) ?_; go_frame))
              | fail)
            go_roundw
            case rel => exact ⟨k + 1, F, s', by go_num, rfl, by omega, by omega, HI.out, HN.out, G.sub _⟩
            case measure => simp [intOf] <;> omega
          · obtain ⟨j, gw, go, ge, hg, rfl, p1, p2, p3, p4, p5, p6, p7, p8, p9, ⟨p10, p11, p12, p13⟩, hI'⟩ := hI.next hn
            have p14 : gw ≤ 14285645 := by omega
            have hjN : j < N := by rw [← HN.out]; exact (List.getElem?_eq_some_iff.1 hg).1
            have t0 : bits .and .i64 (2 * (j : Int) + 1) 1 = 1 := odd_and (by omega)
            have hq2 := quo_two j
            have t1 : decide (2 * (j : Int) + 1 < 1) = false := by simp; omega
            have t2 : decide ((N : Int) ≤ (j : Int)) = false := by simp; omega
            have t2' : decide (N ≤ j) = false := by simp; omega
            have t3 : decide (m < 0) = false := by simp; omega
            have t4 : decide (c < m + 9) = false := by simp; omega
            have t5 : decide (max most 1 < m) = false := by simp; omega
            have HX := Lib.hid (fcs_at hg)
            have HI := Lib.hid hI'
            have HW := Lib.hid p9
            skip
            clear hn hI hI' p9 p11
            by_cases hm0 : m = 0
            · have t6 : decide (m = 0) = true := by simp [hm0]
              have t7 : (m == 0) = true := by simp [hm0]
              have t8 : decide (0 < m) = false := by simp [hm0]
              obtain rfl := p5 hm0
              obtain ⟨q1, rfl⟩ := p8 rfl
              have t9 : decide (go - m = 0) = true := by simp [q1]
              have t10 : (go - m == 0) = true := by simp [q1]
              have t11 : decide (go - m < 0) = false := by simp; omega
              have HQ := Lib.hid q1
              clear p5 p6 p8 hm0 q1
              as_aux_lemma =>
              go_wp2_with (first
                | ((with_reducible refine at_alloc ?_); refine wpu_new G ?_; clear G; intro w G)
                | ((with_reducible refine at_drew ?_); refine wpu_drew G ?_; clear G; intro w G)
                | ((with_reducible refine at_load ?_); first
                  | (refine wpu_load G rfl rfl rfl rfl ?_; go_frame)
                  | (refine wpu_loadB G rfl rfl rfl (by rfl) ?_; go_frame)
                  | (refine wpu_loadS G rfl rfl rfl (by rfl) ?_; simp only [List.drop_succ_cons, List.drop_zero, List.take_succ_cons, List.take_zero]; go_frame))
                | ((with_reducible refine at_store ?_); first
                  | (refine wpu_store G rfl rfl rfl rfl (by first | rfl | assumption | simp [*]) rfl ?_; clear G; intro w G; go_frame)
                  | (refine wpu_storeB G rfl rfl rfl rfl (by rfl) (by rfl) (by first | rfl | assumption | simp [*]) ?_; clear G; intro w G; go_frame)
                  | (refine wpu_storeS G rfl rfl rfl rfl (by rfl) (by rfl) (by first | rfl | assumption | simp [*]) ?_; clear G; intro w G; go_frame))
                | ((with_reducible refine at_convert ?_); refine wpu_str G rfl rfl rfl rfl ?_; go_frame)
                | ((with_reducible refine at_slice ?_); first
                  | (refine wpu_sliceLo rfl rfl rfl rfl (by first | rfl | omega) (by omega) (by omega) ?_; go_frame)
                  | (refine wpu_sliceLH rfl rfl rfl rfl rfl (by first | rfl | omega) (by first | rfl | omega) (by omega) (by omega) ?_; go_frame))
                | fail)
              refine wp_region_calm (C := Own _ _) (by kernel_rfl) (by kernel_rfl) (own_drew G) ?_
              intro ι W hne hW hs
              repeat (first
                | go_big_quiet_skip
                | ((with_reducible refine atq_load ?_); first
                  | (refine wpq_load hW rfl (by kernel_rfl) rfl rfl ?_; go_frame)
                  | (refine wpq_loadC (fun i => HC.out.old (hW i)) HCX.out rfl (by kernel_rfl) rfl ?_; go_frame))
                | go_big_quiet_step (fail))
              refine wpQuiet_nil ?_
              intro i
              have g := hW i
              generalize W i = wg at g ⊢
              clear hs hW hne
              have G := g
              clear g
              go_wp2_with fail
              refine wp_region_mix (List.replicate 12 0 ++ [2]) (Own w0 _) (by kernel_rfl) (by kernel_rfl) (own_drew G) ?_
              refine mix_calm 12 ((own_drew G)) (by rfl) (by rfl) ?_
              intro ι W hne hW
              dsimp only [List.take, List.drop]
              repeat (first | ((with_reducible refine atq_load ?_); first | (refine wpq_load hW rfl rfl rfl rfl ?_; go_frame) | (refine wpq_loadB hW rfl rfl rfl (by rfl) ?_; go_frame) | (refine wpq_loadS hW rfl rfl rfl (by rfl) ?_; simp only [List.drop_succ_cons, List.drop_zero, List.take_succ_cons, List.take_zero]; go_frame)) | ((with_reducible refine atq_load ?_); refine wpq_loadF0 (k := j) (fun i => G.rd (.slice (some fad) N fc) _ (hW i)) HX.out rfl rfl rfl rfl ?_; go_frame) | go_big_quiet_step (fail))
              refine wpQuiet_nil ?_
              clear  hW hne W ι
              refine mix_last rfl (fun K hK => ?_)
              refine wpk_storeF0 (s := fad) (n := N) (cap := fc) (k := j) (own_drew G) rfl rfl rfl rfl (by omega) fun w G => hK _ _ (mix_nil ?_)
              clear hK
              try go_frame
              rw [fcs_set0 hg] at G
              have hg1 : (F.set j (gw - m, go, true))[j]? = some (gw - m, go, true) := List.getElem?_set_self (by rw [HN.out]; exact hjN)
              obtain ⟨F1, hF1⟩ : ∃ F1, F.set j (gw - m, go, true) = F1 := ⟨_, rfl⟩
              rw [show F.set j (gw - m, (gw, go, true).2.1, (gw, go, true).2.2) = F1 from hF1] at G
              rw [hF1] at hg1
              have HX1 := Lib.hid (fcs_at hg1)
              go_wp2_with fail
              refine wp_region_mix (List.replicate 12 0 ++ [2]) (Own w0 _) (by kernel_rfl) (by kernel_rfl) (own_drew G) ?_
              refine mix_calm 12 ((own_drew G)) (by rfl) (by rfl) ?_
              intro ι W hne hW
              dsimp only [List.take, List.drop]
              repeat (first | ((with_reducible refine atq_load ?_); first | (refine wpq_load hW rfl rfl rfl rfl ?_; go_frame) | (refine wpq_loadB hW rfl rfl rfl (by rfl) ?_; go_frame) | (refine wpq_loadS hW rfl rfl rfl (by rfl) ?_; simp only [List.drop_succ_cons, List.drop_zero, List.take_succ_cons, List.take_zero]; go_frame)) | ((with_reducible refine atq_load ?_); refine wpq_loadF (k := j) (fun i => G.rd (.slice (some fad) N fc) _ (hW i)) HX1.out rfl rfl rfl rfl ?_; go_frame) | go_big_quiet_step (fail))
              refine wpQuiet_nil ?_
              clear  hW hne W ι
              refine mix_last rfl (fun K hK => ?_)
              refine wpk_storeF (s := fad) (n := N) (cap := fc) (k := j) (j := 0) (own_drew G) rfl rfl rfl rfl (by omega) fun w G => hK _ _ (mix_nil ?_)
              clear hK
              try go_frame
              rw [fcs_set1 hg1] at G
              have hg2 : (F1.set j (gw - m, go - m, true))[j]? = some (gw - m, go - m, true) := List.getElem?_set_self (List.getElem?_eq_some_iff.1 hg1).1
              obtain ⟨F2, hF2⟩ : ∃ F2, F1.set j (gw - m, go - m, true) = F2 := ⟨_, rfl⟩
              rw [show F1.set j ((gw - m, go, true).1, go - m, (gw - m, go, true).2.2) = F2 from hF2] at G
              rw [hF2] at hg2
              have HX2 := Lib.hid (fcs_at hg2)
              have HF2 : Hid (F2 = F.set j (gw - m, go - m, true)) := Lib.hid (by rw [← hF2, ← hF1, List.set_set])
              have HG2 := Lib.hid hg2
              clear hF1 hF2 HX1 HX hg1 hg hg2 t4 t5
              go_wp2_with (first
                | ((with_reducible refine at_load ?_); first
                  | (refine wpu_load G rfl (by kernel_rfl) rfl rfl ?_; go_frame)
                  | (refine wpu_loadF0 (k := j) (G.rd (.slice (some fad) N fc) _ G) HX2.out rfl (by kernel_rfl) rfl rfl ?_; go_frame)
                  | (refine wpu_loadF (k := j) (G.rd (.slice (some fad) N fc) _ G) HX2.out rfl (by kernel_rfl) rfl rfl ?_; go_frame))
                | ((with_reducible refine at_store ?_); refine wpu_storeE (s := fad) (n := N) (cap := fc) (k := j) (sz := 3) G rfl (by kernel_rfl) rfl rfl (by rfl) (by rfl) hjN ?_; clear G; intro w G; go_frame)
                | fail)
              all_goals first | (exfalso; have := HQ.out; contradiction) | skip
              have G3 : Own w0 (schA a s' * (sl 3 (.slice (some fad) N fc) N (fcs (F2.set j (0, 0, false))) * emp)) w := by
                rw [← fcs_put HG2.out (0, 0, false)]
                show Own w0 (schA a s' * (sl 3 (.slice (some fad) N fc) N ((fcs F2).take (j * 3) ++ [.int .i64 0, .int .i64 0, .bool false] ++ (fcs F2).drop (j * 3 + 3)) * emp)) w
                exact G.sub _
              rw [HF2.out, List.set_set] at G3
              go_roundw
              case rel => exact ⟨k + 1, F.set j (0, 0, false), s', by go_num, by rw [HW.out], by omega, by omega, by simpa using HI.out, by rw [List.length_set]; exact HN.out, G3⟩
              case measure => simp [intOf] <;> omega
            · have t6 : decide (m = 0) = false := by simp [hm0]
              have t7 : (m == 0) = false := by simp [hm0]
              have t8 : decide (0 < m) = true := by simp; omega
              obtain ⟨q2, q3⟩ := p6 (by omega)
              have t11 : decide (go - m < 0) = false := by simp; omega
              have t12 : decide (gw - m < 0) = false := by simp; omega
              have t13 : decide (s.win - m < 0) = false := by simp; omega
              clear p5 p6 hm0
              cases e
              · clear p8
                as_aux_lemma =>
                go_wp2_with (first
                  | ((with_reducible refine at_alloc ?_); refine wpu_new G ?_; clear G; intro w G)
                  | ((with_reducible refine at_drew ?_); refine wpu_drew G ?_; clear G; intro w G)
                  | ((with_reducible refine at_load ?_); first
                    | (refine wpu_load G rfl rfl rfl rfl ?_; go_frame)
                    | (refine wpu_loadB G rfl rfl rfl (by rfl) ?_; go_frame)
                    | (refine wpu_loadS G rfl rfl rfl (by rfl) ?_; simp only [List.drop_succ_cons, List.drop_zero, List.take_succ_cons, List.take_zero]; go_frame))
                  | ((with_reducible refine at_store ?_); first
                    | (refine wpu_store G rfl rfl rfl rfl (by first | rfl | assumption | simp [*]) rfl ?_; clear G; intro w G; go_frame)
                    | (refine wpu_storeB G rfl rfl rfl rfl (by rfl) (by rfl) (by first | rfl | assumption | simp [*]) ?_; clear G; intro w G; go_frame)
                    | (refine wpu_storeS G rfl rfl rfl rfl (by rfl) (by rfl) (by first | rfl | assumption | simp [*]) ?_; clear G; intro w G; go_frame))
                  | ((with_reducible refine at_convert ?_); refine wpu_str G rfl rfl rfl rfl ?_; go_frame)
                  | ((with_reducible refine at_slice ?_); first
                    | (refine wpu_sliceLo rfl rfl rfl rfl (by first | rfl | omega) (by omega) (by omega) ?_; go_frame)
                    | (refine wpu_sliceLH rfl rfl rfl rfl rfl (by first | rfl | omega) (by first | rfl | omega) (by omega) (by omega) ?_; go_frame))
                  | fail)
                refine wp_region_calm (C := Own _ _) (by kernel_rfl) (by kernel_rfl) (own_drew G) ?_
                intro ι W hne hW hs
                repeat (first
                  | go_big_quiet_skip
                  | ((with_reducible refine atq_load ?_); first
                    | (refine wpq_load hW rfl (by kernel_rfl) rfl rfl ?_; go_frame)
                    | (refine wpq_loadC (fun i => HC.out.old (hW i)) HCX.out rfl (by kernel_rfl) rfl ?_; go_frame))
                  | go_big_quiet_step (fail))
                refine wpQuiet_nil ?_
                intro i
                have g := hW i
                generalize W i = wg at g ⊢
                clear hs hW hne
                have G := g
                clear g
                go_wp2_with fail
                refine wp_region_mix (List.replicate 12 0 ++ [2]) (Own w0 _) (by kernel_rfl) (by kernel_rfl) (own_drew G) ?_
                refine mix_calm 12 ((own_drew G)) (by rfl) (by rfl) ?_
                intro ι W hne hW
                dsimp only [List.take, List.drop]
                repeat (first | ((with_reducible refine atq_load ?_); first | (refine wpq_load hW rfl rfl rfl rfl ?_; go_frame) | (refine wpq_loadB hW rfl rfl rfl (by rfl) ?_; go_frame) | (refine wpq_loadS hW rfl rfl rfl (by rfl) ?_; simp only [List.drop_succ_cons, List.drop_zero, List.take_succ_cons, List.take_zero]; go_frame)) | ((with_reducible refine atq_load ?_); refine wpq_loadF0 (k := j) (fun i => G.rd (.slice (some fad) N fc) _ (hW i)) HX.out rfl rfl rfl rfl ?_; go_frame) | go_big_quiet_step (fail))
                refine wpQuiet_nil ?_
                clear  hW hne W ι
                refine mix_last rfl (fun K hK => ?_)
                refine wpk_storeF0 (s := fad) (n := N) (cap := fc) (k := j) (own_drew G) rfl rfl rfl rfl (by omega) fun w G => hK _ _ (mix_nil ?_)
                clear hK
                try go_frame
                rw [fcs_set0 hg] at G
                have hg1 : (F.set j (gw - m, go, ge))[j]? = some (gw - m, go, ge) := List.getElem?_set_self (by rw [HN.out]; exact hjN)
                obtain ⟨F1, hF1⟩ : ∃ F1, F.set j (gw - m, go, ge) = F1 := ⟨_, rfl⟩
                rw [show F.set j (gw - m, (gw, go, ge).2.1, (gw, go, ge).2.2) = F1 from hF1] at G
                rw [hF1] at hg1
                have HX1 := Lib.hid (fcs_at hg1)
                go_wp2_with fail
                refine wp_region_mix (List.replicate 12 0 ++ [2]) (Own w0 _) (by kernel_rfl) (by kernel_rfl) (own_drew G) ?_
                refine mix_calm 12 ((own_drew G)) (by rfl) (by rfl) ?_
                intro ι W hne hW
                dsimp only [List.take, List.drop]
                repeat (first | ((with_reducible refine atq_load ?_); first | (refine wpq_load hW rfl rfl rfl rfl ?_; go_frame) | (refine wpq_loadB hW rfl rfl rfl (by rfl) ?_; go_frame) | (refine wpq_loadS hW rfl rfl rfl (by rfl) ?_; simp only [List.drop_succ_cons, List.drop_zero, List.take_succ_cons, List.take_zero]; go_frame)) | ((with_reducible refine atq_load ?_); refine wpq_loadF (k := j) (fun i => G.rd (.slice (some fad) N fc) _ (hW i)) HX1.out rfl rfl rfl rfl ?_; go_frame) | go_big_quiet_step (fail))
                refine wpQuiet_nil ?_
                clear  hW hne W ι
                refine mix_last rfl (fun K hK => ?_)
                refine wpk_storeF (s := fad) (n := N) (cap := fc) (k := j) (j := 0) (own_drew G) rfl rfl rfl rfl (by omega) fun w G => hK _ _ (mix_nil ?_)
                clear hK
                try go_frame
                rw [fcs_set1 hg1] at G
                have hg2 : (F1.set j (gw - m, go - m, ge))[j]? = some (gw - m, go - m, ge) := List.getElem?_set_self (List.getElem?_eq_some_iff.1 hg1).1
                obtain ⟨F2, hF2⟩ : ∃ F2, F1.set j (gw - m, go - m, ge) = F2 := ⟨_, rfl⟩
                rw [show F1.set j ((gw - m, go, ge).1, go - m, (gw - m, go, ge).2.2) = F2 from hF2] at G
                rw [hF2] at hg2
                have HX2 := Lib.hid (fcs_at hg2)
                have HF2 : Hid (F2 = F.set j (gw - m, go - m, ge)) := Lib.hid (by rw [← hF2, ← hF1, List.set_set])
                have HG2 := Lib.hid hg2
                clear hF1 hF2 HX1 HX hg1 hg hg2 t4 t5
                go_wp2_with (first
                  | ((with_reducible refine at_load ?_); first
                    | (refine wpu_load G rfl (by kernel_rfl) rfl rfl ?_; go_frame)
                    | (refine wpu_loadF0 (k := j) (G.rd (.slice (some fad) N fc) _ G) HX2.out rfl (by kernel_rfl) rfl rfl ?_; go_frame)
                    | (refine wpu_loadF (k := j) (G.rd (.slice (some fad) N fc) _ G) HX2.out rfl (by kernel_rfl) rfl rfl ?_; go_frame))
                  | ((with_reducible refine at_store ?_); refine wpu_storeE (s := fad) (n := N) (cap := fc) (k := j) (sz := 3) G rfl (by kernel_rfl) rfl rfl (by rfl) (by rfl) hjN ?_; clear G; intro w G; go_frame)
                  | fail)
                have G3 : Own w0 (schA a s' * (sl 3 (.slice (some fad) N fc) N (fcs F2) * emp)) w := G.sub _
                rw [HF2.out] at G3
                go_roundw
                case rel => exact ⟨k + 1, F.set j (gw - m, go - m, ge), s', by go_num, by rw [HW.out], by omega, by omega, by simpa using HI.out, by rw [List.length_set]; exact HN.out, G3⟩
                case measure => simp [intOf] <;> omega
              · obtain ⟨q1, rfl⟩ := p8 rfl
                have t9 : decide (go - m = 0) = true := by simp [q1]
                have t10 : (go - m == 0) = true := by simp [q1]
                have HQ := Lib.hid q1
                clear p8 q1
                as_aux_lemma =>
                go_wp2_with (first
                  | ((with_reducible refine at_alloc ?_); refine wpu_new G ?_; clear G; intro w G)
                  | ((with_reducible refine at_drew ?_); refine wpu_drew G ?_; clear G; intro w G)
                  | ((with_reducible refine at_load ?_); first
                    | (refine wpu_load G rfl rfl rfl rfl ?_; go_frame)
                    | (refine wpu_loadB G rfl rfl rfl (by rfl) ?_; go_frame)
                    | (refine wpu_loadS G rfl rfl rfl (by rfl) ?_; simp only [List.drop_succ_cons, List.drop_zero, List.take_succ_cons, List.take_zero]; go_frame))
                  | ((with_reducible refine at_store ?_); first
                    | (refine wpu_store G rfl rfl rfl rfl (by first | rfl | assumption | simp [*]) rfl ?_; clear G; intro w G; go_frame)
                    | (refine wpu_storeB G rfl rfl rfl rfl (by rfl) (by rfl) (by first | rfl | assumption | simp [*]) ?_; clear G; intro w G; go_frame)
                    | (refine wpu_storeS G rfl rfl rfl rfl (by rfl) (by rfl) (by first | rfl | assumption | simp [*]) ?_; clear G; intro w G; go_frame))
                  | ((with_reducible refine at_convert ?_); refine wpu_str G rfl rfl rfl rfl ?_; go_frame)
                  | ((with_reducible refine at_slice ?_); first
                    | (refine wpu_sliceLo rfl rfl rfl rfl (by first | rfl | omega) (by omega) (by omega) ?_; go_frame)
                    | (refine wpu_sliceLH rfl rfl rfl rfl rfl (by first | rfl | omega) (by first | rfl | omega) (by omega) (by omega) ?_; go_frame))
                  | fail)
                refine wp_region_calm (C := Own _ _) (by kernel_rfl) (by kernel_rfl) (own_drew G) ?_
                intro ι W hne hW hs
                repeat (first
                  | go_big_quiet_skip
                  | ((with_reducible refine atq_load ?_); first
                    | (refine wpq_load hW rfl (by kernel_rfl) rfl rfl ?_; go_frame)
                    | (refine wpq_loadC (fun i => HC.out.old (hW i)) HCX.out rfl (by kernel_rfl) rfl ?_; go_frame))
                  | go_big_quiet_step (fail))
                refine wpQuiet_nil ?_
                intro i
                have g := hW i
                generalize W i = wg at g ⊢
                clear hs hW hne
                have G := g
                clear g
                go_wp2_with fail
                refine wp_region_mix (List.replicate 12 0 ++ [2]) (Own w0 _) (by kernel_rfl) (by kernel_rfl) (own_drew G) ?_
                refine mix_calm 12 ((own_drew G)) (by rfl) (by rfl) ?_
                intro ι W hne hW
                dsimp only [List.take, List.drop]
                repeat (first | ((with_reducible refine atq_load ?_); first | (refine wpq_load hW rfl rfl rfl rfl ?_; go_frame) | (refine wpq_loadB hW rfl rfl rfl (by rfl) ?_; go_frame) | (refine wpq_loadS hW rfl rfl rfl (by rfl) ?_; simp only [List.drop_succ_cons, List.drop_zero, List.take_succ_cons, List.take_zero]; go_frame)) | ((with_reducible refine atq_load ?_); refine wpq_loadF0 (k := j) (fun i => G.rd (.slice (some fad) N fc) _ (hW i)) HX.out rfl rfl rfl rfl ?_; go_frame) | go_big_quiet_step (fail))
                refine wpQuiet_nil ?_
                clear  hW hne W ι
                refine mix_last rfl (fun K hK => ?_)
                refine wpk_storeF0 (s := fad) (n := N) (cap := fc) (k := j) (own_drew G) rfl rfl rfl rfl (by omega) fun w G => hK _ _ (mix_nil ?_)
                clear hK
                try go_frame
                rw [fcs_set0 hg] at G
                have hg1 : (F.set j (gw - m, go, true))[j]? = some (gw - m, go, true) := List.getElem?_set_self (by rw [HN.out]; exact hjN)
                obtain ⟨F1, hF1⟩ : ∃ F1, F.set j (gw - m, go, true) = F1 := ⟨_, rfl⟩
                rw [show F.set j (gw - m, (gw, go, true).2.1, (gw, go, true).2.2) = F1 from hF1] at G
                rw [hF1] at hg1
                have HX1 := Lib.hid (fcs_at hg1)
                go_wp2_with fail
                refine wp_region_mix (List.replicate 12 0 ++ [2]) (Own w0 _) (by kernel_rfl) (by kernel_rfl) (own_drew G) ?_
                refine mix_calm 12 ((own_drew G)) (by rfl) (by rfl) ?_
                intro ι W hne hW
                dsimp only [List.take, List.drop]
                repeat (first | ((with_reducible refine atq_load ?_); first | (refine wpq_load hW rfl rfl rfl rfl ?_; go_frame) | (refine wpq_loadB hW rfl rfl rfl (by rfl) ?_; go_frame) | (refine wpq_loadS hW rfl rfl rfl (by rfl) ?_; simp only [List.drop_succ_cons, List.drop_zero, List.take_succ_cons, List.take_zero]; go_frame)) | ((with_reducible refine atq_load ?_); refine wpq_loadF (k := j) (fun i => G.rd (.slice (some fad) N fc) _ (hW i)) HX1.out rfl rfl rfl rfl ?_; go_frame) | go_big_quiet_step (fail))
                refine wpQuiet_nil ?_
                clear  hW hne W ι
                refine mix_last rfl (fun K hK => ?_)
                refine wpk_storeF (s := fad) (n := N) (cap := fc) (k := j) (j := 0) (own_drew G) rfl rfl rfl rfl (by omega) fun w G => hK _ _ (mix_nil ?_)
                clear hK
                try go_frame
                rw [fcs_set1 hg1] at G
                have hg2 : (F1.set j (gw - m, go - m, true))[j]? = some (gw - m, go - m, true) := List.getElem?_set_self (List.getElem?_eq_some_iff.1 hg1).1
                obtain ⟨F2, hF2⟩ : ∃ F2, F1.set j (gw - m, go - m, true) = F2 := ⟨_, rfl⟩
                rw [show F1.set j ((gw - m, go, true).1, go - m, (gw - m, go, true).2.2) = F2 from hF2] at G
                rw [hF2] at hg2
                have HX2 := Lib.hid (fcs_at hg2)
                have HF2 : Hid (F2 = F.set j (gw - m, go - m, true)) := Lib.hid (by rw [← hF2, ← hF1, List.set_set])
                have HG2 := Lib.hid hg2
                clear hF1 hF2 HX1 HX hg1 hg hg2 t4 t5
                go_wp2_with (first
                  | ((with_reducible refine at_load ?_); first
                    | (refine wpu_load G rfl (by kernel_rfl) rfl rfl ?_; go_frame)
                    | (refine wpu_loadF0 (k := j) (G.rd (.slice (some fad) N fc) _ G) HX2.out rfl (by kernel_rfl) rfl rfl ?_; go_frame)
                    | (refine wpu_loadF (k := j) (G.rd (.slice (some fad) N fc) _ G) HX2.out rfl (by kernel_rfl) rfl rfl ?_; go_frame))
                  | ((with_reducible refine at_store ?_); refine wpu_storeE (s := fad) (n := N) (cap := fc) (k := j) (sz := 3) G rfl (by kernel_rfl) rfl rfl (by rfl) (by rfl) hjN ?_; clear G; intro w G; go_frame)
                  | fail)
                all_goals first | (exfalso; have := HQ.out; contradiction) | skip
                have G3 : Own w0 (schA a s' * (sl 3 (.slice (some fad) N fc) N (fcs (F2.set j (0, 0, false))) * emp)) w := by
                  rw [← fcs_put HG2.out (0, 0, false)]
                  show Own w0 (schA a s' * (sl 3 (.slice (some fad) N fc) N ((fcs F2).take (j * 3) ++ [.int .i64 0, .int .i64 0, .bool false] ++ (fcs F2).drop (j * 3 + 3)) * emp)) w
                  exact G.sub _
                rw [HF2.out, List.set_set] at G3
                go_roundw
                case rel => exact ⟨k + 1, F.set j (0, 0, false), s', by go_num, by rw [HW.out], by omega, by omega, by simpa using HI.out, by rw [List.length_set]; exact HN.out, G3⟩
                case measure => simp [intOf] <;> omega
      · replace hI := hI.up
        skip
        have b2 := hI.w0
        have b3 : s.win ≤ 13238070 := by have := hI.w1; omega
        have hok := hI.ok (by omega)
        have hct := hI.ct
        have hql : s.q.length ≤ 1000000 := by have := hI.ql; omega
        go_wp2_with (first
          | ((with_reducible refine at_load ?_); refine wpu_loadC (HC.out.old G) HCX.out rfl rfl rfl ?_; go_frame)
          | fail)
        refine Calls.mono (nextD (G.pullF (schA a)) hok hct c1 c2 hql) ?_
        clear G hok hct hql; rintro e w ⟨p, s', hn, rfl, G⟩
        rcases p with _ | ⟨id, m, e⟩
        · as_aux_lemma =>
          obtain rfl := Sc.next_none hn
          have HI := Lib.hid hI
          clear hn hI
          go_wp2_with (first
            | ((with_reducible refine at_alloc ?_); refine wpu_new G ?_; clear G; intro w G)
            | ((with_reducible refine at_drew ?_); refine wpu_drew G ?_; clear G; intro w G)
            | ((with_reducible refine at_load ?_); first
              | (refine wpu_load G rfl rfl rfl rfl ?_; go_frame)
              | (refine wpu_loadB G rfl rfl rfl (by rfl) ?_; go_frame)
              | (refine wpu_loadS G rfl rfl rfl (by rfl) ?_; simp only [List.drop_succ_cons, List.drop_zero, List.take_succ_cons, List.take_zero]; go_frame))
            | ((with_reducible refine at_store ?_); first
              | (refine wpu_store G rfl rfl rfl rfl (by first | rfl | assumption | simp [*]) rfl ?_; clear G; intro w G; go_frame)
              | (refine wpu_storeB G rfl rfl rfl rfl (by rfl) (by rfl) (by first | rfl | assumption | simp [*]) ?_; clear G; intro w G; go_frame)
              | (refine wpu_storeS G rfl rfl rfl rfl (by rfl) (by rfl) (by first | rfl | assumption | simp [*]) ?_; clear G; intro w G; go_frame))
            | ((with_reducible refine at_convert ?_); refine wpu_str G rfl rfl rfl rfl ?_; go_frame)
            | ((with_reducible refine at_slice ?_); first
              | (refine wpu_sliceLo rfl rfl rfl rfl (by first | rfl | omega) (by omega) (by omega) ?_; go_frame)
              | (refine wpu_sliceLH rfl rfl rfl rfl rfl (by first | rfl | omega) (by first | rfl | omega) (by omega) (by omega) ?_; go_frame))
            | fail)
          go_roundw
          case rel => exact ⟨k + 1, F, s', by go_num, rfl, by omega, by omega, HI.out, HN.out, G.sub _⟩
          case measure => simp [intOf] <;> omega
        · obtain ⟨j, gw, go, ge, hg, rfl, p1, p2, p3, p4, p5, p6, p7, p8, p9, ⟨p10, p11, p12, p13⟩, hI'⟩ := hI.next hn
          have p14 : gw ≤ 14285645 := by omega
          have hjN : j < N := by rw [← HN.out]; exact (List.getElem?_eq_some_iff.1 hg).1
          have t0 : bits .and .i64 (2 * (j : Int) + 1) 1 = 1 := odd_and (by omega)
          have hq2 := quo_two j
          have t1 : decide (2 * (j : Int) + 1 < 1) = false := by simp; omega
          have t2 : decide ((N : Int) ≤ (j : Int)) = false := by simp; omega
          have t2' : decide (N ≤ j) = false := by simp; omega
          have t3 : decide (m < 0) = false := by simp; omega
          have t4 : decide (c < m + 9) = false := by simp; omega
          have t5 : decide (max most 1 < m) = false := by simp; omega
          have HX := Lib.hid (fcs_at hg)
          have HI := Lib.hid hI'
          have HW := Lib.hid p9
          obtain ⟨fad, rfl⟩ := rd_some (G.rd (.slice fo N fc) _ G) (by omega)
          clear hn hI hI' p9 p11
          by_cases hm0 : m = 0
          · have t6 : decide (m = 0) = true := by simp [hm0]
            have t7 : (m == 0) = true := by simp [hm0]
            have t8 : decide (0 < m) = false := by simp [hm0]
            obtain rfl := p5 hm0
            obtain ⟨q1, rfl⟩ := p8 rfl
            have t9 : decide (go - m = 0) = true := by simp [q1]
            have t10 : (go - m == 0) = true := by simp [q1]
            have t11 : decide (go - m < 0) = false := by simp; omega
            have HQ := Lib.hid q1
            clear p5 p6 p8 hm0 q1
            as_aux_lemma =>
            go_wp2_with (first
              | ((with_reducible refine at_alloc ?_); refine wpu_new G ?_; clear G; intro w G)
              | ((with_reducible refine at_drew ?_); refine wpu_drew G ?_; clear G; intro w G)
              | ((with_reducible refine at_load ?_); first
                | (refine wpu_load G rfl rfl rfl rfl ?_; go_frame)
                | (refine wpu_loadB G rfl rfl rfl (by rfl) ?_; go_frame)
                | (refine wpu_loadS G rfl rfl rfl (by rfl) ?_; simp only [List.drop_succ_cons, List.drop_zero, List.take_succ_cons, List.take_zero]; go_frame))
              | ((with_reducible refine at_store ?_); first
                | (refine wpu_store G rfl rfl rfl rfl (by first | rfl | assumption | simp [*]) rfl ?_; clear G; intro w G; go_frame)
                | (refine wpu_storeB G rfl rfl rfl rfl (by rfl) (by rfl) (by first | rfl | assumption | simp [*]) ?_; clear G; intro w G; go_frame)
                | (refine wpu_storeS G rfl rfl rfl rfl (by rfl) (by rfl) (by first | rfl | assumption | simp [*]) ?_; clear G; intro w G; go_frame))
              | ((with_reducible refine at_convert ?_); refine wpu_str G rfl rfl rfl rfl ?_; go_frame)
              | ((with_reducible refine at_slice ?_); first
                | (refine wpu_sliceLo rfl rfl rfl rfl (by first | rfl | omega) (by omega) (by omega) ?_; go_frame)
                | (refine wpu_sliceLH rfl rfl rfl rfl rfl (by first | rfl | omega) (by first | rfl | omega) (by omega) (by omega) ?_; go_frame))
              | fail)
            refine wp_region_calm (C := Own _ _) (by kernel_rfl) (by kernel_rfl) (own_drew G) ?_
            intro ι W hne hW hs
            repeat (first
              | go_big_quiet_skip
              | ((with_reducible refine atq_load ?_); first
                | (refine wpq_load hW rfl (by kernel_rfl) rfl rfl ?_; go_frame)
                | (refine wpq_loadC (fun i => HC.out.old (hW i)) HCX.out rfl (by kernel_rfl) rfl ?_; go_frame))
              | go_big_quiet_step (fail))
            refine wpQuiet_nil ?_
            intro i
            have g := hW i
            generalize W i = wg at g ⊢
            clear hs hW hne
            have G := g
            clear g
            go_wp2_with fail
            refine wp_region_mix (List.replicate 12 0 ++ [2]) (Own w0 _) (by kernel_rfl) (by kernel_rfl) (own_drew G) ?_
            refine mix_calm 12 ((own_drew G)) (by rfl) (by rfl) ?_
            intro ι W hne hW
            dsimp only [List.take, List.drop]
            repeat (first | ((with_reducible refine atq_load ?_); first | (refine wpq_load hW rfl rfl rfl rfl ?_; go_frame) | (refine wpq_loadB hW rfl rfl rfl (by rfl) ?_; go_frame) | (refine wpq_loadS hW rfl rfl rfl (by rfl) ?_; simp only [List.drop_succ_cons, List.drop_zero, List.take_succ_cons, List.take_zero]; go_frame)) | ((with_reducible refine atq_load ?_); refine wpq_loadF0 (k := j) (fun i => G.rd (.slice (some fad) N fc) _ (hW i)) HX.out rfl rfl rfl rfl ?_; go_frame) | go_big_quiet_step (fail))
            refine wpQuiet_nil ?_
            clear  hW hne W ι
            refine mix_last rfl (fun K hK => ?_)
            refine wpk_storeF0 (s := fad) (n := N) (cap := fc) (k := j) (own_drew G) rfl rfl rfl rfl (by omega) fun w G => hK _ _ (mix_nil ?_)
            clear hK
            try go_frame
            rw [fcs_set0 hg] at G
            have hg1 : (F.set j (gw - m, go, true))[j]? = some (gw - m, go, true) := List.getElem?_set_self (by rw [HN.out]; exact hjN)
            obtain ⟨F1, hF1⟩ : ∃ F1, F.set j (gw - m, go, true) = F1 := ⟨_, rfl⟩
            rw [show F.set j (gw - m, (gw, go, true).2.1, (gw, go, true).2.2) = F1 from hF1] at G
            rw [hF1] at hg1
            have HX1 := Lib.hid (fcs_at hg1)
            go_wp2_with fail
            refine wp_region_mix (List.replicate 12 0 ++ [2]) (Own w0 _) (by kernel_rfl) (by kernel_rfl) (own_drew G) ?_
            refine mix_calm 12 ((own_drew G)) (by rfl) (by rfl) ?_
            intro ι W hne hW
            dsimp only [List.take, List.drop]
            repeat (first | ((with_reducible refine atq_load ?_); first | (refine wpq_load hW rfl rfl rfl rfl ?_; go_frame) | (refine wpq_loadB hW rfl rfl rfl (by rfl) ?_; go_frame) | (refine wpq_loadS hW rfl rfl rfl (by rfl) ?_; simp only [List.drop_succ_cons, List.drop_zero, List.take_succ_cons, List.take_zero]; go_frame)) | ((with_reducible refine atq_load ?_); refine wpq_loadF (k := j) (fun i => G.rd (.slice (some fad) N fc) _ (hW i)) HX1.out rfl rfl rfl rfl ?_; go_frame) | go_big_quiet_step (fail))
            refine wpQuiet_nil ?_
            clear  hW hne W ι
            refine mix_last rfl (fun K hK => ?_)
            refine wpk_storeF (s := fad) (n := N) (cap := fc) (k := j) (j := 0) (own_drew G) rfl rfl rfl rfl (by omega) fun w G => hK _ _ (mix_nil ?_)
            clear hK
            try go_frame
            rw [fcs_set1 hg1] at G
            have hg2 : (F1.set j (gw - m, go - m, true))[j]? = some (gw - m, go - m, true) := List.getElem?_set_self (List.getElem?_eq_some_iff.1 hg1).1
            obtain ⟨F2, hF2⟩ : ∃ F2, F1.set j (gw - m, go - m, true) = F2 := ⟨_, rfl⟩
            rw [show F1.set j ((gw - m, go, true).1, go - m, (gw - m, go, true).2.2) = F2 from hF2] at G
            rw [hF2] at hg2
            have HX2 := Lib.hid (fcs_at hg2)
            have HF2 : Hid (F2 = F.set j (gw - m, go - m, true)) := Lib.hid (by rw [← hF2, ← hF1, List.set_set])
            have HG2 := Lib.hid hg2
            clear hF1 hF2 HX1 HX hg1 hg hg2 t4 t5
            go_wp2_with (first
              | ((with_reducible refine at_load ?_); first
                | (refine wpu_load G rfl (by kernel_rfl) rfl rfl ?_; go_frame)
                | (refine wpu_loadF0 (k := j) (G.rd (.slice (some fad) N fc) _ G) HX2.out rfl (by kernel_rfl) rfl rfl ?_; go_frame)
                | (refine wpu_loadF (k := j) (G.rd (.slice (some fad) N fc) _ G) HX2.out rfl (by kernel_rfl) rfl rfl ?_; go_frame))
              | ((with_reducible refine at_store ?_); refine wpu_storeE (s := fad) (n := N) (cap := fc) (k := j) (sz := 3) G rfl (by kernel_rfl) rfl rfl (by rfl) (by rfl) hjN ?_; clear G; intro w G; go_frame)
              | fail)
            all_goals first | (exfalso; have := HQ.out; contradiction) | skip
            have G3 : Own w0 (schA a s' * (sl 3 (.slice (some fad) N fc) N (fcs (F2.set j (0, 0, false))) * emp)) w := by
              rw [← fcs_put HG2.out (0, 0, false)]
              show Own w0 (schA a s' * (sl 3 (.slice (some fad) N fc) N ((fcs F2).take (j * 3) ++ [.int .i64 0, .int .i64 0, .bool false] ++ (fcs F2).drop (j * 3 + 3)) * emp)) w
              exact G.sub _
            rw [HF2.out, List.set_set] at G3
            go_roundw
            case rel => exact ⟨k + 1, F.set j (0, 0, false), s', by go_num, by rw [HW.out], by omega, by omega, by simpa using HI.out, by rw [List.length_set]; exact HN.out, G3⟩
            case measure => simp [intOf] <;> omega
          · have t6 : decide (m = 0) = false := by simp [hm0]
            have t7 : (m == 0) = false := by simp [hm0]
            have t8 : decide (0 < m) = true := by simp; omega
            obtain ⟨q2, q3⟩ := p6 (by omega)
            have t11 : decide (go - m < 0) = false := by simp; omega
            have t12 : decide (gw - m < 0) = false := by simp; omega
            have t13 : decide (s.win - m < 0) = false := by simp; omega
            clear p5 p6 hm0
            cases e
            · clear p8
              as_aux_lemma =>
              go_wp2_with (first
                | ((with_reducible refine at_alloc ?_); refine wpu_new G ?_; clear G; intro w G)
                | ((with_reducible refine at_drew ?_); refine wpu_drew G ?_; clear G; intro w G)
                | ((with_reducible refine at_load ?_); first
                  | (refine wpu_load G rfl rfl rfl rfl ?_; go_frame)
                  | (refine wpu_loadB G rfl rfl rfl (by rfl) ?_; go_frame)
                  | (refine wpu_loadS G rfl rfl rfl (by rfl) ?_; simp only [List.drop_succ_cons, List.drop_zero, List.take_succ_cons, List.take_zero]; go_frame))
                | ((with_reducible refine at_store ?_); first
                  | (refine wpu_store G rfl rfl rfl rfl (by first | rfl | assumption | simp [*]) rfl ?_; clear G; intro w G; go_frame)
                  | (refine wpu_storeB G rfl rfl rfl rfl (by rfl) (by rfl) (by first | rfl | assumption | simp [*]) ?_; clear G; intro w G; go_frame)
                  | (refine wpu_storeS G rfl rfl rfl rfl (by rfl) (by rfl) (by first | rfl | assumption | simp [*]) ?_; clear G; intro w G; go_frame))
                | ((with_reducible refine at_convert ?_); refine wpu_str G rfl rfl rfl rfl ?_; go_frame)
                | ((with_reducible refine at_slice ?_); first
                  | (refine wpu_sliceLo rfl rfl rfl rfl (by first | rfl | omega) (by omega) (by omega) ?_; go_frame)
                  | (refine wpu_sliceLH rfl rfl rfl rfl rfl (by first | rfl | omega) (by first | rfl | omega) (by omega) (by omega) ?_; go_frame))
                | fail)
              refine wp_region_calm (C := Own _ _) (by kernel_rfl) (by kernel_rfl) (own_drew G) ?_
              intro ι W hne hW hs
              repeat (first
                | go_big_quiet_skip
                | ((with_reducible refine atq_load ?_); first
                  | (refine wpq_load hW rfl (by kernel_rfl) rfl rfl ?_; go_frame)
                  | (refine wpq_loadC (fun i => HC.out.old (hW i)) HCX.out rfl (by kernel_rfl) rfl ?_; go_frame))
                | go_big_quiet_step (fail))
              refine wpQuiet_nil ?_
              intro i
              have g := hW i
              generalize W i = wg at g ⊢
              clear hs hW hne
              have G := g
              clear g
              go_wp2_with fail
              refine wp_region_mix (List.replicate 12 0 ++ [2]) (Own w0 _) (by kernel_rfl) (by kernel_rfl) (own_drew G) ?_
              refine mix_calm 12 ((own_drew G)) (by rfl) (by rfl) ?_
              intro ι W hne hW
              dsimp only [List.take, List.drop]
              repeat (first | ((with_reducible refine atq_load ?_); first | (refine wpq_load hW rfl rfl rfl rfl ?_; go_frame) | (refine wpq_loadB hW rfl rfl rfl (by rfl) ?_; go_frame) | (refine wpq_loadS hW rfl rfl rfl (by rfl) ?_; simp only [List.drop_succ_cons, List.drop_zero, List.take_succ_cons, List.take_zero]; go_frame)) | ((with_reducible refine atq_load ?_); refine wpq_loadF0 (k := j) (fun i => G.rd (.slice (some fad) N fc) _ (hW i)) HX.out rfl rfl rfl rfl ?_; go_frame) | go_big_quiet_step (fail))
              refine wpQuiet_nil ?_
              clear  hW hne W ι
              refine mix_last rfl (fun K hK => ?_)
              refine wpk_storeF0 (s := fad) (n := N) (cap := fc) (k := j) (own_drew G) rfl rfl rfl rfl (by omega) fun w G => hK _ _ (mix_nil ?_)
              clear hK
              try go_frame
              rw [fcs_set0 hg] at G
              have hg1 : (F.set j (gw - m, go, ge))[j]? = some (gw - m, go, ge) := List.getElem?_set_self (by rw [HN.out]; exact hjN)
              obtain ⟨F1, hF1⟩ : ∃ F1, F.set j (gw - m, go, ge) = F1 := ⟨_, rfl⟩
              rw [show F.set j (gw - m, (gw, go, ge).2.1, (gw, go, ge).2.2) = F1 from hF1] at G
              rw [hF1] at hg1
              have HX1 := Lib.hid (fcs_at hg1)
              go_wp2_with fail
              refine wp_region_mix (List.replicate 12 0 ++ [2]) (Own w0 _) (by kernel_rfl) (by kernel_rfl) (own_drew G) ?_
              refine mix_calm 12 ((own_drew G)) (by rfl) (by rfl) ?_
              intro ι W hne hW
              dsimp only [List.take, List.drop]
              repeat (first | ((with_reducible refine atq_load ?_); first | (refine wpq_load hW rfl rfl rfl rfl ?_; go_frame) | (refine wpq_loadB hW rfl rfl rfl (by rfl) ?_; go_frame) | (refine wpq_loadS hW rfl rfl rfl (by rfl) ?_; simp only [List.drop_succ_cons, List.drop_zero, List.take_succ_cons, List.take_zero]; go_frame)) | ((with_reducible refine atq_load ?_); refine wpq_loadF (k := j) (fun i => G.rd (.slice (some fad) N fc) _ (hW i)) HX1.out rfl rfl rfl rfl ?_; go_frame) | go_big_quiet_step (fail))
              refine wpQuiet_nil ?_
              clear  hW hne W ι
              refine mix_last rfl (fun K hK => ?_)
              refine wpk_storeF (s := fad) (n := N) (cap := fc) (k := j) (j := 0) (own_drew G) rfl rfl rfl rfl (by omega) fun w G => hK _ _ (mix_nil ?_)
              clear hK
              try go_frame
              rw [fcs_set1 hg1] at G
              have hg2 : (F1.set j (gw - m, go - m, ge))[j]? = some (gw - m, go - m, ge) := List.getElem?_set_self (List.getElem?_eq_some_iff.1 hg1).1
              obtain ⟨F2, hF2⟩ : ∃ F2, F1.set j (gw - m, go - m, ge) = F2 := ⟨_, rfl⟩
              rw [show F1.set j ((gw - m, go, ge).1, go - m, (gw - m, go, ge).2.2) = F2 from hF2] at G
              rw [hF2] at hg2
              have HX2 := Lib.hid (fcs_at hg2)
              have HF2 : Hid (F2 = F.set j (gw - m, go - m, ge)) := Lib.hid (by rw [← hF2, ← hF1, List.set_set])
              have HG2 := Lib.hid hg2
              clear hF1 hF2 HX1 HX hg1 hg hg2 t4 t5
              go_wp2_with (first
                | ((with_reducible refine at_load ?_); first
                  | (refine wpu_load G rfl (by kernel_rfl) rfl rfl ?_; go_frame)
                  | (refine wpu_loadF0 (k := j) (G.rd (.slice (some fad) N fc) _ G) HX2.out rfl (by kernel_rfl) rfl rfl ?_; go_frame)
                  | (refine wpu_loadF (k := j) (G.rd (.slice (some fad) N fc) _ G) HX2.out rfl (by kernel_rfl) rfl rfl ?_; go_frame))
                | ((with_reducible refine at_store ?_); refine wpu_storeE (s := fad) (n := N) (cap := fc) (k := j) (sz := 3) G rfl (by kernel_rfl) rfl rfl (by rfl) (by rfl) hjN ?_; clear G; intro w G; go_frame)
                | fail)
              have G3 : Own w0 (schA a s' * (sl 3 (.slice (some fad) N fc) N (fcs F2) * emp)) w := G.sub _
              rw [HF2.out] at G3
              go_roundw
              case rel => exact ⟨k + 1, F.set j (gw - m, go - m, ge), s', by go_num, by rw [HW.out], by omega, by omega, by simpa using HI.out, by rw [List.length_set]; exact HN.out, G3⟩
              case measure => simp [intOf] <;> omega
            · obtain ⟨q1, rfl⟩ := p8 rfl
              have t9 : decide (go - m = 0) = true := by simp [q1]
              have t10 : (go - m == 0) = true := by simp [q1]
              have HQ := Lib.hid q1
              clear p8 q1
              as_aux_lemma =>
              go_wp2_with (first
                | ((with_reducible refine at_alloc ?_); refine wpu_new G ?_; clear G; intro w G)
                | ((with_reducible refine at_drew ?_); refine wpu_drew G ?_; clear G; intro w G)
                | ((with_reducible refine at_load ?_); first
                  | (refine wpu_load G rfl rfl rfl rfl ?_; go_frame)
                  | (refine wpu_loadB G rfl rfl rfl (by rfl) ?_; go_frame)
                  | (refine wpu_loadS G rfl rfl rfl (by rfl) ?_; simp only [List.drop_succ_cons, List.drop_zero, List.take_succ_cons, List.take_zero]; go_frame))
                | ((with_reducible refine at_store ?_); first
                  | (refine wpu_store G rfl rfl rfl rfl (by first | rfl | assumption | simp [*]) rfl ?_; clear G; intro w G; go_frame)
                  | (refine wpu_storeB G rfl rfl rfl rfl (by rfl) (by rfl) (by first | rfl | assumption | simp [*]) ?_; clear G; intro w G; go_frame)
                  | (refine wpu_storeS G rfl rfl rfl rfl (by rfl) (by rfl) (by first | rfl | assumption | simp [*]) ?_; clear G; intro w G; go_frame))
                | ((with_reducible refine at_convert ?_); refine wpu_str G rfl rfl rfl rfl ?_; go_frame)
                | ((with_reducible refine at_slice ?_); first
                  | (refine wpu_sliceLo rfl rfl rfl rfl (by first | rfl | omega) (by omega) (by omega) ?_; go_frame)
                  | (refine wpu_sliceLH rfl rfl rfl rfl rfl (by first | rfl | omega) (by first | rfl | omega) (by omega) (by omega) ?_; go_frame))
                | fail)
              refine wp_region_calm (C := Own _ _) (by kernel_rfl) (by kernel_rfl) (own_drew G) ?_
              intro ι W hne hW hs
              repeat (first
                | go_big_quiet_skip
                | ((with_reducible refine atq_load ?_); first
                  | (refine wpq_load hW rfl (by kernel_rfl) rfl rfl ?_; go_frame)
                  | (refine wpq_loadC (fun i => HC.out.old (hW i)) HCX.out rfl (by kernel_rfl) rfl ?_; go_frame))
                | go_big_quiet_step (fail))
              refine wpQuiet_nil ?_
              intro i
              have g := hW i
              generalize W i = wg at g ⊢
              clear hs hW hne
              have G := g
              clear g
              go_wp2_with fail
              refine wp_region_mix (List.replicate 12 0 ++ [2]) (Own w0 _) (by kernel_rfl) (by kernel_rfl) (own_drew G) ?_
              refine mix_calm 12 ((own_drew G)) (by rfl) (by rfl) ?_
              intro ι W hne hW
              dsimp only [List.take, List.drop]
              repeat (first | ((with_reducible refine atq_load ?_); first | (refine wpq_load hW rfl rfl rfl rfl ?_; go_frame) | (refine wpq_loadB hW rfl rfl rfl (by rfl) ?_; go_frame) | (refine wpq_loadS hW rfl rfl rfl (by rfl) ?_; simp only [List.drop_succ_cons, List.drop_zero, List.take_succ_cons, List.take_zero]; go_frame)) | ((with_reducible refine atq_load ?_); refine wpq_loadF0 (k := j) (fun i => G.rd (.slice (some fad) N fc) _ (hW i)) HX.out rfl rfl rfl rfl ?_; go_frame) | go_big_quiet_step (fail))
              refine wpQuiet_nil ?_
              clear  hW hne W ι
              refine mix_last rfl (fun K hK => ?_)
              refine wpk_storeF0 (s := fad) (n := N) (cap := fc) (k := j) (own_drew G) rfl rfl rfl rfl (by omega) fun w G => hK _ _ (mix_nil ?_)
              clear hK
              try go_frame
              rw [fcs_set0 hg] at G
              have hg1 : (F.set j (gw - m, go, true))[j]? = some (gw - m, go, true) := List.getElem?_set_self (by rw [HN.out]; exact hjN)
              obtain ⟨F1, hF1⟩ : ∃ F1, F.set j (gw - m, go, true) = F1 := ⟨_, rfl⟩
              rw [show F.set j (gw - m, (gw, go, true).2.1, (gw, go, true).2.2) = F1 from hF1] at G
              rw [hF1] at hg1
              have HX1 := Lib.hid (fcs_at hg1)
              go_wp2_with fail
              refine wp_region_mix (List.replicate 12 0 ++ [2]) (Own w0 _) (by kernel_rfl) (by kernel_rfl) (own_drew G) ?_
              refine mix_calm 12 ((own_drew G)) (by rfl) (by rfl) ?_
              intro ι W hne hW
              dsimp only [List.take, List.drop]
              repeat (first | ((with_reducible refine atq_load ?_); first | (refine wpq_load hW rfl rfl rfl rfl ?_; go_frame) | (refine wpq_loadB hW rfl rfl rfl (by rfl) ?_; go_frame) | (refine wpq_loadS hW rfl rfl rfl (by rfl) ?_; simp only [List.drop_succ_cons, List.drop_zero, List.take_succ_cons, List.take_zero]; go_frame)) | ((with_reducible refine atq_load ?_); refine wpq_loadF (k := j) (fun i => G.rd (.slice (some fad) N fc) _ (hW i)) HX1.out rfl rfl rfl rfl ?_; go_frame) | go_big_quiet_step (fail))
              refine wpQuiet_nil ?_
              clear  hW hne W ι
              refine mix_last rfl (fun K hK => ?_)
              refine wpk_storeF (s := fad) (n := N) (cap := fc) (k := j) (j := 0) (own_drew G) rfl rfl rfl rfl (by omega) fun w G => hK _ _ (mix_nil ?_)
              clear hK
              try go_frame
              rw [fcs_set1 hg1] at G
              have hg2 : (F1.set j (gw - m, go - m, true))[j]? = some (gw - m, go - m, true) := List.getElem?_set_self (List.getElem?_eq_some_iff.1 hg1).1
              obtain ⟨F2, hF2⟩ : ∃ F2, F1.set j (gw - m, go - m, true) = F2 := ⟨_, rfl⟩
              rw [show F1.set j ((gw - m, go, true).1, go - m, (gw - m, go, true).2.2) = F2 from hF2] at G
              rw [hF2] at hg2
              have HX2 := Lib.hid (fcs_at hg2)
              have HF2 : Hid (F2 = F.set j (gw - m, go - m, true)) := Lib.hid (by rw [← hF2, ← hF1, List.set_set])
              have HG2 := Lib.hid hg2
              clear hF1 hF2 HX1 HX hg1 hg hg2 t4 t5
              go_wp2_with (first
                | ((with_reducible refine at_load ?_); first
                  | (refine wpu_load G rfl (by kernel_rfl) rfl rfl ?_; go_frame)
                  | (refine wpu_loadF0 (k := j) (G.rd (.slice (some fad) N fc) _ G) HX2.out rfl (by kernel_rfl) rfl rfl ?_; go_frame)
                  | (refine wpu_loadF (k := j) (G.rd (.slice (some fad) N fc) _ G) HX2.out rfl (by kernel_rfl) rfl rfl ?_; go_frame))
                | ((with_reducible refine at_store ?_); refine wpu_storeE (s := fad) (n := N) (cap := fc) (k := j) (sz := 3) G rfl (by kernel_rfl) rfl rfl (by rfl) (by rfl) hjN ?_; clear G; intro w G; go_frame)
                | fail)
              all_goals first | (exfalso; have := HQ.out; contradiction) | skip
              have G3 : Own w0 (schA a s' * (sl 3 (.slice (some fad) N fc) N (fcs (F2.set j (0, 0, false))) * emp)) w := by
                rw [← fcs_put HG2.out (0, 0, false)]
                show Own w0 (schA a s' * (sl 3 (.slice (some fad) N fc) N ((fcs F2).take (j * 3) ++ [.int .i64 0, .int .i64 0, .bool false] ++ (fcs F2).drop (j * 3 + 3)) * emp)) w
                exact G.sub _
              rw [HF2.out, List.set_set] at G3
              go_roundw
              case rel => exact ⟨k + 1, F.set j (0, 0, false), s', by go_num, by rw [HW.out], by omega, by omega, by simpa using HI.out, by rw [List.length_set]; exact HN.out, G3⟩
              case measure => simp [intOf] <;> omega
    · go_wp2_with fail
      all_goals
        as_aux_lemma =>
        refine Calls.mono (windowC G) ?_
        clear G; rintro e w ⟨rfl, G⟩
        go_wp2_with fail
        go_ret
        exact ⟨rfl, G.below⟩

theorem contract {H : Type} {enc : TypeId × Value → H} {W : World} {vs : List Value} {ds : List (DataW H)}
    (hA : Args enc Try.prog W [3, 22, 24, 24] vs ds) (hsz : (DataW.weightsEach Try.prog [3, 22, 24, 24] ds).all (· ≤ reachBytes) = true) :
    Calls Try.prog 6 vs.toArray W fun e W' => e = .returned (.bool true) ∧ Below W.heap.size W W' := by
  obtain ⟨v0, _, d0, _, rfl, rfl, h0, hA⟩ := args_cons hA
  obtain ⟨v1, _, d1, _, rfl, rfl, h1, hA⟩ := args_cons hA
  obtain ⟨v2, _, d2, _, rfl, rfl, h2, hA⟩ := args_cons hA
  obtain ⟨v3, _, d3, _, rfl, rfl, h3, hA⟩ := args_cons hA
  obtain ⟨rfl, rfl⟩ := args_nil hA
  obtain ⟨m, rfl, m1, m2⟩ := arg_i64 Try.underlying3 h0
  obtain ⟨nf, xf, hf, hfe⟩ := flows_in h1
  obtain ⟨nc, xc, hc, -, hce⟩ := arg_ints Try.underlying24 (by kernel_rfl) Try.underlying3 h2
  obtain ⟨ng, xg, hg, -, hge⟩ := arg_ints Try.underlying24 (by kernel_rfl) Try.underlying3 h3
  exact windowsW hf (fun i hi => let ⟨a, b, e, h, _⟩ := hfe i hi; ⟨a, b, e, h⟩) hc hce hg hge m1 m2


theorem spec {H : Type} : ∀ ds : List (DataW H), ds.length = 4 → Rows.schedWindowsSpec.fn H ds = { results := [.lit (.bool true)], args := ds }
  | [_, _, _, _], _ => rfl
  | [], h => by cases h
  | [_], h => by cases h
  | [_, _], h => by cases h
  | [_, _, _], h => by cases h
  | _ :: _ :: _ :: _ :: _ :: _, h => by simp at h
set_option maxRecDepth 100000 in
theorem lifted (os : Os) (started : os.Started) (H : Type) (enc : TypeId × Value → H) :
    ReturnsInHanded {} Try.checked os 6 .any (Rows.schedWindowsSpec.pre6 enc Try.prog Try.f6 Rows.schedWindowsRow.domain false) (Rows.schedWindowsSpec.post enc Try.prog Try.f6 false true false false) :=
  lifted_of_law (C := Try.checked) (fn := Try.f6) (s := Rows.schedWindowsSpec) (tb := 4) (by kernel_rfl) started (by kernel_rfl) Try.func6
    (ChangeSpec.witness6 (enc := enc) (C := Try.checked) false ⟨#[], #[.int .i64 0, .slice none 0 0, .slice none 0 0, .slice none 0 0], []⟩ 8 (by kernel_rfl) (by kernel_rfl) (by kernel_rfl) (by kernel_rfl))
    rfl spec (by kernel_rfl) Try.underlying4 (by kernel_rfl) (by kernel_rfl) (fun _ _ _ h1 h2 => contract h1 h2)

theorem proved : Rows.SchedWindowsSaid :=
  OpenClaim.holds_of_wide 6 Try.f6 rfl rfl rfl rfl rfl rfl rfl ⟨rfl, rfl, rfl, rfl, rfl⟩ rfl rfl rfl rfl rfl (by kernel_rfl) Try.func6 (by kernel_rfl)
    (of_decide_eq_true (by kernel_rfl)) (by unfold Func.isWrapper; first | (rw [if_pos (by decide +kernel)]; kernel_rfl) | (rw [if_neg (by decide +kernel)]; exact ⟨rfl, rfl⟩))
    (fun os started H enc _ => lifted os started H enc)
end Go.Proofs.Ytbekaeahedkeoaa.schedWindows
