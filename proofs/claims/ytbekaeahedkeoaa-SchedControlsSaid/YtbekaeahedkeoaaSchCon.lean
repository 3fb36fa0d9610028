
/-
  SchedControls: control frames go first, in order, each whole.
-/
import Derived.Test.YtbekaeahedkeoaaSchArg
namespace Go.Proofs.Ytbekaeahedkeoaa.schedControls
open Go.RowKit Go.Sl Go.ChangeShapes

def strs (c : List (List UInt8)) : List Value := c.map str


set_option maxHeartbeats 40000000 in
set_option maxRecDepth 100000 in
theorem controlsW {w0 : World} {fv bv cv : Value} {nf nb nc : Nat} {xf xb xc : List Value} (hf : rd w0 3 fv nf xf) (hfe : ∀ i, i < nf → ∃ (a b : Int) (e : Bool), (xf.drop (i * 3)).take 3 = [.int .i64 a, .int .i64 b, .bool e]) (hb : rd w0 1 bv nb xb) (hbe : ∀ i, i < nb → ∃ v l, xb[i]? = some v ∧ rd w0 1 v l.length (bs l)) (hc : rd w0 1 cv nc xc) (hce : ∀ i, i < nc → ∃ x, xc[i]? = some (.int .i64 x) ∧ -9223372036854775808 ≤ x ∧ x ≤ 9223372036854775807) :
    Calls Try.prog 3 #[fv, bv, cv] w0 fun e w' => e = .returned (.bool true) ∧ Below w0.heap.size w0 w' := by
  have G := own_begin w0
  obtain ⟨bo, bc, rfl, j1, j2, -⟩ := id hb
  obtain ⟨co, cc, rfl, j3, j4, -⟩ := id hc
  obtain ⟨fo', fc', rfl, j5, j6, -⟩ := id hf
  unfold maxLen at j2 j4 j6
  have HB := Lib.hid hb
  have HC := Lib.hid hc
  clear hb hc
  go_enter Try.func3, Try.ntmps3
  go_wp2_with fail
  refine Calls.mono (shownSch G) ?_
  clear G; rintro e w ⟨rfl, G⟩
  go_wp2_with fail
  refine Calls.mono (putL hf hfe G (by decide) (by decide)) ?_
  clear G hf hfe; rintro e w ⟨a, vo, F, rfl, hF, hFO, G⟩
  replace G : Own w0 (schA a ⟨[], mkQ 0 F, 65535, 100⟩ * (sl 3 vo F.length (fcs F) * emp)) w := G
  have hok0 : (Sc.mk [] (mkQ 0 F) 65535 100).Ok := ⟨mkQ_ok hF hFO, by show (-2147483647 : Int) ≤ 65535; decide, by show (65535 : Int) ≤ 2147483647; decide, by show (1 : Int) ≤ 100; decide, by show (100 : Int) ≤ 16777215; decide⟩
  have hq0 : (mkQ 0 F).length ≤ F.length := by rw [mkQ_len]; exact Nat.le_refl _
  obtain ⟨fo, fc, rfl, j7, j8⟩ := G.hdr vo
  go_wp2_with fail
  go_loopw [10, 11] (fun vw i wr => ∃ (k : Nat) (ct : List (List UInt8)) (q : List Fl) (wn fr : Int), i = .int .i64 k ∧ k ≤ nc ∧ k ≤ 100 ∧ (Sc.mk ct q wn fr).Ok ∧ ct.length ≤ k ∧ (∀ l ∈ ct, 0 < l.length ∧ l.length ≤ 300) ∧ q.length ≤ F.length ∧ Own w0 (schA a ⟨ct, q, wn, fr⟩ * (sl 1 vw ct.length (strs ct) * (sl 3 (.slice fo F.length fc) F.length (fcs F) * emp))) wr) (fun _ i _ => nc - (intOf i).toNat)
  case atStart => exact ⟨0, [], _, _, _, rfl, Nat.zero_le _, by decide, hok0, Nat.le_refl _, by simp, hq0, (own_nil G 1).eq (by show sl 1 _ 0 [] * _ = _ * (sl 1 _ 0 [] * _); ac_rfl)⟩
  case round =>
    clear G hok0 hq0
    obtain ⟨k, ct, q, wn, fr, rfl, hk, hk2, hok, hcl, hcs, hqF, G⟩ := hrel
    obtain ⟨wo, wc, rfl, i1, i2⟩ := G.hdr u10
    unfold maxLen at i2
    have hql : q.length ≤ 1000000 := by omega
    by_cases hlt : k < nc ∧ k < 100
    · obtain ⟨hlt, hlt2⟩ := hlt
      obtain ⟨cad, rfl⟩ := rd_some HC.out (by omega)
      obtain ⟨c, hcx, c1, c2⟩ := hce k hlt
      have HCX := Lib.hid hcx
      clear hcx
      by_cases hA : k < nb ∧ k < 30
      · obtain ⟨hA1, hA2⟩ := hA
        obtain ⟨bad, rfl⟩ := rd_some HB.out (by omega)
        obtain ⟨v, l, hbx, hbl⟩ := hbe k hA1
        obtain ⟨lo, lc, rfl, l1, l2, -⟩ := id hbl
        unfold maxLen at l2
        obtain ⟨y, -, y1, y2, y3, hy⟩ := rd_first hbl 300 (K := 300) rfl
        have HBX := Lib.hid hbx
        have HY := Lib.hid hy
        clear hbx hbl hy
        go_wp2_with fail
        refine wp_region_calm (C := Own _ _) (by kernel_rfl) (by kernel_rfl) (own_drew G) ?_
        intro ι W hne hW hs
        repeat (first | ((with_reducible refine atq_load ?_); first | (refine wpq_load hW rfl rfl rfl rfl ?_; go_frame) | (refine wpq_loadB hW rfl rfl rfl (by rfl) ?_; go_frame) | (refine wpq_loadS hW rfl rfl rfl (by rfl) ?_; simp only [List.drop_succ_cons, List.drop_zero, List.take_succ_cons, List.take_zero]; go_frame)) | (((with_reducible refine atq_load ?_); refine wpq_loadC (fun i => HB.out.old (hW i)) HBX.out rfl rfl rfl ?_; go_frame)) | go_big_quiet_step (fail))
        refine wpQuiet_nil ?_
        intro i
        have g := hW i
        generalize W i = wg at g ⊢
        clear  hs hW hne
        have G := g
        clear g
        by_cases hy0 : 0 < y.length
        · go_wp2_with fail
          refine Calls.mono (controlC (G.pullF (schA a)) (fun w h => HY.out.old h) hy0 (by omega) (by show ct.length ≤ 1000000; omega)) ?_
          clear G; rintro e w ⟨rfl, G⟩
          go_wp2_with (first
            | ((with_reducible refine at_convert ?_); refine wpu_strR (HY.out.old G) rfl rfl rfl ?_; go_frame)
            | ((with_reducible refine at_append ?_); refine wpu_append1 G rfl rfl rfl rfl (by rfl) (by rfl) (by unfold maxLen; omega) (by omega) ?_; clear G; intro v w G; go_frame)
            | ((with_reducible refine at_alloc ?_); refine wpu_new G ?_; clear G; intro w G)
            | ((with_reducible refine at_drew ?_); refine wpu_drew G ?_; clear G; intro w G)
            | ((with_reducible refine at_load ?_); first
              | (refine wpu_load G rfl rfl rfl rfl ?_; go_frame)
              | (refine wpu_loadB G rfl rfl rfl (by rfl) ?_; go_frame)
              | (refine wpu_loadS G rfl rfl rfl (by rfl) ?_; simp only [List.drop_succ_cons, List.drop_zero, List.take_succ_cons, List.take_zero]; go_frame))
            | ((with_reducible refine at_store ?_); first
              | (refine wpu_store G rfl rfl rfl rfl (by first | rfl | assumption | simp [*]) rfl ?_; clear G; intro w G; go_frame)
              | (refine wpu_storeB G rfl rfl rfl rfl (by rfl) (by rfl) (by first | rfl | assumption | simp [*]) ?_; clear G; intro w G; go_frame)
              | (refine wpu_storeS G rfl rfl rfl rfl (by rfl) (by rfl) (by first | rfl | assumption | simp [*]) ?_; clear G; intro w G; go_frame))
            | ((with_reducible refine at_convert ?_); refine wpu_str G rfl rfl rfl rfl ?_; go_frame)
            | ((with_reducible refine at_slice ?_); first
              | (refine wpu_sliceLo rfl rfl rfl rfl (by first | rfl | omega) (by omega) (by omega) ?_; go_frame)
              | (refine wpu_sliceLH rfl rfl rfl rfl rfl (by first | rfl | omega) (by first | rfl | omega) (by omega) (by omega) ?_; go_frame))
            | fail)
          obtain ⟨ct2, hct2⟩ : ∃ c, ct ++ [y] = c := ⟨_, rfl⟩
          have hcs2 : ∀ l ∈ ct2, 0 < l.length ∧ l.length ≤ 300 := by
            intro l hl
            rw [← hct2] at hl
            rcases List.mem_append.1 hl with hl | hl
            · exact hcs l hl
            · rw [List.mem_singleton.1 hl]; exact ⟨hy0, y1⟩
          have hcl2 : ct2.length ≤ k + 1 := by rw [← hct2]; simp; omega
          have hok2 : (Sc.mk ct2 q wn fr).Ok := ⟨hok.1, hok.2, hok.3, hok.4, hok.5⟩
          have G1 : Own w0 (schA a ⟨ct2, q, wn, fr⟩ * (sl 1 v ct2.length (strs ct2) * (sl 3 (.slice fo F.length fc) F.length (fcs F) * emp))) w := G.eq (by rw [← hct2]; simp only [List.length_append, List.length_singleton, strs, List.map_append, List.map_singleton]; ac_rfl)
          clear G hok hcs hcl hct2 HY HBX y1 y2 y3 hy0
          have G := G1
          clear G1
          obtain ⟨wo, wc, rfl, i1, i2⟩ := G.hdr v
          unfold maxLen at i2
          go_wp2_with (first
            | ((with_reducible refine at_alloc ?_); refine wpu_new G ?_; clear G; intro w G)
            | ((with_reducible refine at_drew ?_); refine wpu_drew G ?_; clear G; intro w G)
            | ((with_reducible refine at_load ?_); first
              | (refine wpu_load G rfl rfl rfl rfl ?_; go_frame)
              | (refine wpu_loadB G rfl rfl rfl (by rfl) ?_; go_frame)
              | (refine wpu_loadS G rfl rfl rfl (by rfl) ?_; simp only [List.drop_succ_cons, List.drop_zero, List.take_succ_cons, List.take_zero]; go_frame))
            | ((with_reducible refine at_store ?_); first
              | (refine wpu_store G rfl rfl rfl rfl (by first | rfl | assumption | simp [*]) rfl ?_; clear G; intro w G; go_frame)
              | (refine wpu_storeB G rfl rfl rfl rfl (by rfl) (by rfl) (by first | rfl | assumption | simp [*]) ?_; clear G; intro w G; go_frame)
              | (refine wpu_storeS G rfl rfl rfl rfl (by rfl) (by rfl) (by first | rfl | assumption | simp [*]) ?_; clear G; intro w G; go_frame))
            | ((with_reducible refine at_convert ?_); refine wpu_str G rfl rfl rfl rfl ?_; go_frame)
            | ((with_reducible refine at_slice ?_); first
              | (refine wpu_sliceLo rfl rfl rfl rfl (by first | rfl | omega) (by omega) (by omega) ?_; go_frame)
              | (refine wpu_sliceLH rfl rfl rfl rfl rfl (by first | rfl | omega) (by first | rfl | omega) (by omega) (by omega) ?_; go_frame))
            | fail)
          refine Calls.mono (lenC (G.pullF (schA a))) ?_
          clear G; rintro e w ⟨rfl, G⟩
          have f1 : decide ((F.length : Int) < (q.length : Int)) = false := by simp; omega
          cases ct2 with
          | nil =>
            as_aux_lemma =>
            simp only [List.length_nil] at G
            go_wp2_with (first
              | ((with_reducible refine at_alloc ?_); refine wpu_new G ?_; clear G; intro w G)
              | ((with_reducible refine at_drew ?_); refine wpu_drew G ?_; clear G; intro w G)
              | ((with_reducible refine at_load ?_); first
                | (refine wpu_load G rfl rfl rfl rfl ?_; go_frame)
                | (refine wpu_loadB G rfl rfl rfl (by rfl) ?_; go_frame)
                | (refine wpu_loadS G rfl rfl rfl (by rfl) ?_; simp only [List.drop_succ_cons, List.drop_zero, List.take_succ_cons, List.take_zero]; go_frame))
              | ((with_reducible refine at_store ?_); first
                | (refine wpu_store G rfl rfl rfl rfl (by first | rfl | assumption | simp [*]) rfl ?_; clear G; intro w G; go_frame)
                | (refine wpu_storeB G rfl rfl rfl rfl (by rfl) (by rfl) (by first | rfl | assumption | simp [*]) ?_; clear G; intro w G; go_frame)
                | (refine wpu_storeS G rfl rfl rfl rfl (by rfl) (by rfl) (by first | rfl | assumption | simp [*]) ?_; clear G; intro w G; go_frame))
              | ((with_reducible refine at_convert ?_); refine wpu_str G rfl rfl rfl rfl ?_; go_frame)
              | ((with_reducible refine at_slice ?_); first
                | (refine wpu_sliceLo rfl rfl rfl rfl (by first | rfl | omega) (by omega) (by omega) ?_; go_frame)
                | (refine wpu_sliceLH rfl rfl rfl rfl rfl (by first | rfl | omega) (by first | rfl | omega) (by omega) (by omega) ?_; go_frame))
              | ((with_reducible refine at_load ?_); refine wpu_loadC (HC.out.old G) HCX.out rfl rfl rfl ?_; go_frame)
              | fail)
            refine Calls.mono (nextD (G.pullF (schA a)) hok2 rfl c1 c2 hql) ?_
            clear G; rintro e w ⟨p, s', hn, rfl, G⟩
            have hok' := hok2.next hn
            obtain ⟨hn1, hn2⟩ := Sc.next_len hn
            clear hn
            obtain ⟨ct', q', wn', fr'⟩ := s'
            simp only at hn1 hn2
            subst hn2
            rcases p with _ | ⟨id, m, e⟩
            all_goals
              go_wp2_with (first
                | ((with_reducible refine at_alloc ?_); refine wpu_new G ?_; clear G; intro w G)
                | ((with_reducible refine at_drew ?_); refine wpu_drew G ?_; clear G; intro w G)
                | ((with_reducible refine at_load ?_); first
                  | (refine wpu_load G rfl rfl rfl rfl ?_; go_frame)
                  | (refine wpu_loadB G rfl rfl rfl (by rfl) ?_; go_frame)
                  | (refine wpu_loadS G rfl rfl rfl (by rfl) ?_; simp only [List.drop_succ_cons, List.drop_zero, List.take_succ_cons, List.take_zero]; go_frame))
                | ((with_reducible refine at_store ?_); first
                  | (refine wpu_store G rfl rfl rfl rfl (by first | rfl | assumption | simp [*]) rfl ?_; clear G; intro w G; go_frame)
                  | (refine wpu_storeB G rfl rfl rfl rfl (by rfl) (by rfl) (by first | rfl | assumption | simp [*]) ?_; clear G; intro w G; go_frame)
                  | (refine wpu_storeS G rfl rfl rfl rfl (by rfl) (by rfl) (by first | rfl | assumption | simp [*]) ?_; clear G; intro w G; go_frame))
                | ((with_reducible refine at_convert ?_); refine wpu_str G rfl rfl rfl rfl ?_; go_frame)
                | ((with_reducible refine at_slice ?_); first
                  | (refine wpu_sliceLo rfl rfl rfl rfl (by first | rfl | omega) (by omega) (by omega) ?_; go_frame)
                  | (refine wpu_sliceLH rfl rfl rfl rfl rfl (by first | rfl | omega) (by first | rfl | omega) (by omega) (by omega) ?_; go_frame))
                | fail)
              go_roundw
              case rel => exact ⟨k + 1, [], q', wn', fr', by go_num, by omega, by omega, hok', by simp, by simp, by omega, G.right.eq (by ac_rfl)⟩
              case measure => simp [intOf] <;> omega
          | cons l ct' =>
            simp only [List.length_cons] at G hcl2
            obtain ⟨wad, rfl⟩ := rd_some (G.rd (.slice wo (ct'.length + 1) wc) _ G) (by omega)
            by_cases hlc : c < l.length
            · as_aux_lemma =>
              have f2 : decide ((l.length : Int) ≤ c) = false := by simp; omega
              go_wp2_with (first
                | ((with_reducible refine at_alloc ?_); refine wpu_new G ?_; clear G; intro w G)
                | ((with_reducible refine at_drew ?_); refine wpu_drew G ?_; clear G; intro w G)
                | ((with_reducible refine at_load ?_); first
                  | (refine wpu_load G rfl rfl rfl rfl ?_; go_frame)
                  | (refine wpu_loadB G rfl rfl rfl (by rfl) ?_; go_frame)
                  | (refine wpu_loadS G rfl rfl rfl (by rfl) ?_; simp only [List.drop_succ_cons, List.drop_zero, List.take_succ_cons, List.take_zero]; go_frame))
                | ((with_reducible refine at_store ?_); first
                  | (refine wpu_store G rfl rfl rfl rfl (by first | rfl | assumption | simp [*]) rfl ?_; clear G; intro w G; go_frame)
                  | (refine wpu_storeB G rfl rfl rfl rfl (by rfl) (by rfl) (by first | rfl | assumption | simp [*]) ?_; clear G; intro w G; go_frame)
                  | (refine wpu_storeS G rfl rfl rfl rfl (by rfl) (by rfl) (by first | rfl | assumption | simp [*]) ?_; clear G; intro w G; go_frame))
                | ((with_reducible refine at_convert ?_); refine wpu_str G rfl rfl rfl rfl ?_; go_frame)
                | ((with_reducible refine at_slice ?_); first
                  | (refine wpu_sliceLo rfl rfl rfl rfl (by first | rfl | omega) (by omega) (by omega) ?_; go_frame)
                  | (refine wpu_sliceLH rfl rfl rfl rfl rfl (by first | rfl | omega) (by first | rfl | omega) (by omega) (by omega) ?_; go_frame))
                | ((with_reducible refine at_load ?_); refine wpu_loadC (HC.out.old G) HCX.out rfl rfl rfl ?_; go_frame)
                | fail)
              refine Calls.mono (nextN (G.pullF (schA a)) rfl hlc) ?_
              clear G; rintro e w ⟨rfl, G⟩
              go_wp2_with (first
                | ((with_reducible refine at_alloc ?_); refine wpu_new G ?_; clear G; intro w G)
                | ((with_reducible refine at_drew ?_); refine wpu_drew G ?_; clear G; intro w G)
                | ((with_reducible refine at_load ?_); first
                  | (refine wpu_load G rfl rfl rfl rfl ?_; go_frame)
                  | (refine wpu_loadB G rfl rfl rfl (by rfl) ?_; go_frame)
                  | (refine wpu_loadS G rfl rfl rfl (by rfl) ?_; simp only [List.drop_succ_cons, List.drop_zero, List.take_succ_cons, List.take_zero]; go_frame))
                | ((with_reducible refine at_store ?_); first
                  | (refine wpu_store G rfl rfl rfl rfl (by first | rfl | assumption | simp [*]) rfl ?_; clear G; intro w G; go_frame)
                  | (refine wpu_storeB G rfl rfl rfl rfl (by rfl) (by rfl) (by first | rfl | assumption | simp [*]) ?_; clear G; intro w G; go_frame)
                  | (refine wpu_storeS G rfl rfl rfl rfl (by rfl) (by rfl) (by first | rfl | assumption | simp [*]) ?_; clear G; intro w G; go_frame))
                | ((with_reducible refine at_convert ?_); refine wpu_str G rfl rfl rfl rfl ?_; go_frame)
                | ((with_reducible refine at_slice ?_); first
                  | (refine wpu_sliceLo rfl rfl rfl rfl (by first | rfl | omega) (by omega) (by omega) ?_; go_frame)
                  | (refine wpu_sliceLH rfl rfl rfl rfl rfl (by first | rfl | omega) (by first | rfl | omega) (by omega) (by omega) ?_; go_frame))
                | fail)
              refine wp_region_calm (C := Own _ _) (by kernel_rfl) (by kernel_rfl) (own_drew G) ?_
              intro ι W hne hW hs
              repeat (first
                | go_big_quiet_skip
                | ((with_reducible refine atq_load ?_); first
                  | (refine wpq_load hW rfl (by kernel_rfl) rfl rfl ?_; go_frame)
                  | (refine wpq_loadC (k := 0) (fun i => G.rd (.slice (some wad) (ct'.length + 1) wc) _ (hW i)) rfl rfl (by kernel_rfl) rfl ?_; go_frame)
                  | (refine wpq_loadC (fun i => HC.out.old (hW i)) HCX.out rfl (by kernel_rfl) rfl ?_; go_frame))
                | go_big_quiet_step (fail))
              refine wpQuiet_nil ?_
              intro i
              have g := hW i
              generalize W i = wg at g ⊢
              clear hs hW hne
              have G := g
              clear g
              go_wp2_with (first
                | ((with_reducible refine at_alloc ?_); refine wpu_new G ?_; clear G; intro w G)
                | ((with_reducible refine at_drew ?_); refine wpu_drew G ?_; clear G; intro w G)
                | ((with_reducible refine at_load ?_); first
                  | (refine wpu_load G rfl rfl rfl rfl ?_; go_frame)
                  | (refine wpu_loadB G rfl rfl rfl (by rfl) ?_; go_frame)
                  | (refine wpu_loadS G rfl rfl rfl (by rfl) ?_; simp only [List.drop_succ_cons, List.drop_zero, List.take_succ_cons, List.take_zero]; go_frame))
                | ((with_reducible refine at_store ?_); first
                  | (refine wpu_store G rfl rfl rfl rfl (by first | rfl | assumption | simp [*]) rfl ?_; clear G; intro w G; go_frame)
                  | (refine wpu_storeB G rfl rfl rfl rfl (by rfl) (by rfl) (by first | rfl | assumption | simp [*]) ?_; clear G; intro w G; go_frame)
                  | (refine wpu_storeS G rfl rfl rfl rfl (by rfl) (by rfl) (by first | rfl | assumption | simp [*]) ?_; clear G; intro w G; go_frame))
                | ((with_reducible refine at_convert ?_); refine wpu_str G rfl rfl rfl rfl ?_; go_frame)
                | ((with_reducible refine at_slice ?_); first
                  | (refine wpu_sliceLo rfl rfl rfl rfl (by first | rfl | omega) (by omega) (by omega) ?_; go_frame)
                  | (refine wpu_sliceLH rfl rfl rfl rfl rfl (by first | rfl | omega) (by first | rfl | omega) (by omega) (by omega) ?_; go_frame))
                | fail)
              go_roundw
              case rel => exact ⟨k + 1, l :: ct', q, wn, fr, by go_num, by omega, by omega, hok2, by simp; omega, hcs2, hqF, G.right.eq (by first | rfl | ac_rfl)⟩
              case measure => simp [intOf] <;> omega
            · as_aux_lemma =>
              have f2 : decide ((l.length : Int) ≤ c) = true := by simp; omega
              have hcl2 : ct'.length + 1 ≤ 1000000 := by omega
              go_wp2_with (first
                | ((with_reducible refine at_alloc ?_); refine wpu_new G ?_; clear G; intro w G)
                | ((with_reducible refine at_drew ?_); refine wpu_drew G ?_; clear G; intro w G)
                | ((with_reducible refine at_load ?_); first
                  | (refine wpu_load G rfl rfl rfl rfl ?_; go_frame)
                  | (refine wpu_loadB G rfl rfl rfl (by rfl) ?_; go_frame)
                  | (refine wpu_loadS G rfl rfl rfl (by rfl) ?_; simp only [List.drop_succ_cons, List.drop_zero, List.take_succ_cons, List.take_zero]; go_frame))
                | ((with_reducible refine at_store ?_); first
                  | (refine wpu_store G rfl rfl rfl rfl (by first | rfl | assumption | simp [*]) rfl ?_; clear G; intro w G; go_frame)
                  | (refine wpu_storeB G rfl rfl rfl rfl (by rfl) (by rfl) (by first | rfl | assumption | simp [*]) ?_; clear G; intro w G; go_frame)
                  | (refine wpu_storeS G rfl rfl rfl rfl (by rfl) (by rfl) (by first | rfl | assumption | simp [*]) ?_; clear G; intro w G; go_frame))
                | ((with_reducible refine at_convert ?_); refine wpu_str G rfl rfl rfl rfl ?_; go_frame)
                | ((with_reducible refine at_slice ?_); first
                  | (refine wpu_sliceLo rfl rfl rfl rfl (by first | rfl | omega) (by omega) (by omega) ?_; go_frame)
                  | (refine wpu_sliceLH rfl rfl rfl rfl rfl (by first | rfl | omega) (by first | rfl | omega) (by omega) (by omega) ?_; go_frame))
                | ((with_reducible refine at_load ?_); refine wpu_loadC (HC.out.old G) HCX.out rfl rfl rfl ?_; go_frame)
                | fail)
              refine Calls.mono (nextC (G.pullF (schA a)) rfl (by omega) hcl2) ?_
              clear G; rintro e w ⟨v, rfl, G⟩
              replace G : Own w0 (schA a ⟨ct', q, wn, fr⟩ * (sl 1 v l.length (bs l) * (sl 1 (.slice (some wad) (ct'.length + 1) wc) (ct'.length + 1) (strs (l :: ct')) * (sl 3 (.slice fo F.length fc) F.length (fcs F) * emp)))) w := G.eq (by ac_rfl)
              obtain ⟨vo2, vc2, rfl, v1, v2⟩ := G.hdr v
              unfold maxLen at v2
              go_wp2_with (first
                | ((with_reducible refine at_alloc ?_); refine wpu_new G ?_; clear G; intro w G)
                | ((with_reducible refine at_drew ?_); refine wpu_drew G ?_; clear G; intro w G)
                | ((with_reducible refine at_load ?_); first
                  | (refine wpu_load G rfl rfl rfl rfl ?_; go_frame)
                  | (refine wpu_loadB G rfl rfl rfl (by rfl) ?_; go_frame)
                  | (refine wpu_loadS G rfl rfl rfl (by rfl) ?_; simp only [List.drop_succ_cons, List.drop_zero, List.take_succ_cons, List.take_zero]; go_frame))
                | ((with_reducible refine at_store ?_); first
                  | (refine wpu_store G rfl rfl rfl rfl (by first | rfl | assumption | simp [*]) rfl ?_; clear G; intro w G; go_frame)
                  | (refine wpu_storeB G rfl rfl rfl rfl (by rfl) (by rfl) (by first | rfl | assumption | simp [*]) ?_; clear G; intro w G; go_frame)
                  | (refine wpu_storeS G rfl rfl rfl rfl (by rfl) (by rfl) (by first | rfl | assumption | simp [*]) ?_; clear G; intro w G; go_frame))
                | ((with_reducible refine at_convert ?_); refine wpu_str G rfl rfl rfl rfl ?_; go_frame)
                | ((with_reducible refine at_slice ?_); first
                  | (refine wpu_sliceLo rfl rfl rfl rfl (by first | rfl | omega) (by omega) (by omega) ?_; go_frame)
                  | (refine wpu_sliceLH rfl rfl rfl rfl rfl (by first | rfl | omega) (by first | rfl | omega) (by omega) (by omega) ?_; go_frame))
                | fail)
              refine wp_region_calm (C := Own _ _) (by kernel_rfl) (by kernel_rfl) (own_drew G) ?_
              intro ι W hne hW hs
              repeat (first
                | go_big_quiet_skip
                | ((with_reducible refine atq_load ?_); first
                  | (refine wpq_load hW rfl (by kernel_rfl) rfl rfl ?_; go_frame)
                  | (refine wpq_loadC (k := 0) (fun i => G.rd (.slice (some wad) (ct'.length + 1) wc) _ (hW i)) rfl rfl (by kernel_rfl) rfl ?_; go_frame)
                  | (refine wpq_loadC (fun i => HC.out.old (hW i)) HCX.out rfl (by kernel_rfl) rfl ?_; go_frame))
                | ((with_reducible refine atq_convert ?_); refine wpq_strR (fun i => G.rd (.slice vo2 l.length vc2) _ (hW i)) rfl (by kernel_rfl) rfl ?_; go_frame)
                | go_big_quiet_step (fail))
              refine wpQuiet_nil ?_
              intro i
              have g := hW i
              generalize W i = wg at g ⊢
              clear hs hW hne
              have G := g
              clear g
              go_wp2_with (first
                | ((with_reducible refine at_alloc ?_); refine wpu_new G ?_; clear G; intro w G)
                | ((with_reducible refine at_drew ?_); refine wpu_drew G ?_; clear G; intro w G)
                | ((with_reducible refine at_load ?_); first
                  | (refine wpu_load G rfl rfl rfl rfl ?_; go_frame)
                  | (refine wpu_loadB G rfl rfl rfl (by rfl) ?_; go_frame)
                  | (refine wpu_loadS G rfl rfl rfl (by rfl) ?_; simp only [List.drop_succ_cons, List.drop_zero, List.take_succ_cons, List.take_zero]; go_frame))
                | ((with_reducible refine at_store ?_); first
                  | (refine wpu_store G rfl rfl rfl rfl (by first | rfl | assumption | simp [*]) rfl ?_; clear G; intro w G; go_frame)
                  | (refine wpu_storeB G rfl rfl rfl rfl (by rfl) (by rfl) (by first | rfl | assumption | simp [*]) ?_; clear G; intro w G; go_frame)
                  | (refine wpu_storeS G rfl rfl rfl rfl (by rfl) (by rfl) (by first | rfl | assumption | simp [*]) ?_; clear G; intro w G; go_frame))
                | ((with_reducible refine at_convert ?_); refine wpu_str G rfl rfl rfl rfl ?_; go_frame)
                | ((with_reducible refine at_slice ?_); first
                  | (refine wpu_sliceLo rfl rfl rfl rfl (by first | rfl | omega) (by omega) (by omega) ?_; go_frame)
                  | (refine wpu_sliceLH rfl rfl rfl rfl rfl (by first | rfl | omega) (by first | rfl | omega) (by omega) (by omega) ?_; go_frame))
                | fail)
              have G1 := own_drop (k := 1) (G.pullF (fun xs => sl 1 (.slice (some wad) (ct'.length + 1) wc) (ct'.length + 1) xs)) (by decide) (by omega)
              replace G1 : Own w0 (sl 1 (.slice (cutA (some wad) wc 1 1) ct'.length (wc - 1)) ct'.length (strs ct') * _) _ := G1
              have G2 : Own w0 (schA a ⟨ct', q, wn, fr⟩ * (sl 1 (.slice (cutA (some wad) wc 1 1) ct'.length (wc - 1)) ct'.length (strs ct') * (sl 3 (.slice fo F.length fc) F.length (fcs F) * emp))) _ := G1.sub _
              clear G G1
              go_roundw
              case rel => exact ⟨k + 1, ct', q, wn, fr, by go_num, by omega, by omega, ⟨hok2.1, hok2.2, hok2.3, hok2.4, hok2.5⟩, by omega, fun x hx => hcs2 x (List.mem_cons_of_mem _ hx), hqF, G2⟩
              case measure => simp [intOf] <;> omega
        · obtain rfl : y = [] := List.length_eq_zero_iff.1 (by omega)
          simp only [List.length_nil] at *
          go_wp2_with fail
          refine Calls.mono (controlN (v := .bool true) (G.pullF (schA a))) ?_
          clear G; rintro e w ⟨rfl, G⟩
          replace G : Own w0 (schA a ⟨ct, q, wn, fr⟩ * (sl 1 (.slice wo ct.length wc) ct.length (strs ct) * (sl 3 (.slice fo F.length fc) F.length (fcs F) * emp))) w := G
          clear HY HBX y1 y2 y3 hy0
          go_wp2_with (first
            | ((with_reducible refine at_alloc ?_); refine wpu_new G ?_; clear G; intro w G)
            | ((with_reducible refine at_drew ?_); refine wpu_drew G ?_; clear G; intro w G)
            | ((with_reducible refine at_load ?_); first
              | (refine wpu_load G rfl rfl rfl rfl ?_; go_frame)
              | (refine wpu_loadB G rfl rfl rfl (by rfl) ?_; go_frame)
              | (refine wpu_loadS G rfl rfl rfl (by rfl) ?_; simp only [List.drop_succ_cons, List.drop_zero, List.take_succ_cons, List.take_zero]; go_frame))
            | ((with_reducible refine at_store ?_); first
              | (refine wpu_store G rfl rfl rfl rfl (by first | rfl | assumption | simp [*]) rfl ?_; clear G; intro w G; go_frame)
              | (refine wpu_storeB G rfl rfl rfl rfl (by rfl) (by rfl) (by first | rfl | assumption | simp [*]) ?_; clear G; intro w G; go_frame)
              | (refine wpu_storeS G rfl rfl rfl rfl (by rfl) (by rfl) (by first | rfl | assumption | simp [*]) ?_; clear G; intro w G; go_frame))
            | ((with_reducible refine at_convert ?_); refine wpu_str G rfl rfl rfl rfl ?_; go_frame)
            | ((with_reducible refine at_slice ?_); first
              | (refine wpu_sliceLo rfl rfl rfl rfl (by first | rfl | omega) (by omega) (by omega) ?_; go_frame)
              | (refine wpu_sliceLH rfl rfl rfl rfl rfl (by first | rfl | omega) (by first | rfl | omega) (by omega) (by omega) ?_; go_frame))
            | fail)
          refine Calls.mono (lenC (G.pullF (schA a))) ?_
          clear G; rintro e w ⟨rfl, G⟩
          have f1 : decide ((F.length : Int) < (q.length : Int)) = false := by simp; omega
          cases ct with
          | nil =>
            as_aux_lemma =>
            simp only [List.length_nil] at G
            go_wp2_with (first
              | ((with_reducible refine at_alloc ?_); refine wpu_new G ?_; clear G; intro w G)
              | ((with_reducible refine at_drew ?_); refine wpu_drew G ?_; clear G; intro w G)
              | ((with_reducible refine at_load ?_); first
                | (refine wpu_load G rfl rfl rfl rfl ?_; go_frame)
                | (refine wpu_loadB G rfl rfl rfl (by rfl) ?_; go_frame)
                | (refine wpu_loadS G rfl rfl rfl (by rfl) ?_; simp only [List.drop_succ_cons, List.drop_zero, List.take_succ_cons, List.take_zero]; go_frame))
              | ((with_reducible refine at_store ?_); first
                | (refine wpu_store G rfl rfl rfl rfl (by first | rfl | assumption | simp [*]) rfl ?_; clear G; intro w G; go_frame)
                | (refine wpu_storeB G rfl rfl rfl rfl (by rfl) (by rfl) (by first | rfl | assumption | simp [*]) ?_; clear G; intro w G; go_frame)
                | (refine wpu_storeS G rfl rfl rfl rfl (by rfl) (by rfl) (by first | rfl | assumption | simp [*]) ?_; clear G; intro w G; go_frame))
              | ((with_reducible refine at_convert ?_); refine wpu_str G rfl rfl rfl rfl ?_; go_frame)
              | ((with_reducible refine at_slice ?_); first
                | (refine wpu_sliceLo rfl rfl rfl rfl (by first | rfl | omega) (by omega) (by omega) ?_; go_frame)
                | (refine wpu_sliceLH rfl rfl rfl rfl rfl (by first | rfl | omega) (by first | rfl | omega) (by omega) (by omega) ?_; go_frame))
              | ((with_reducible refine at_load ?_); refine wpu_loadC (HC.out.old G) HCX.out rfl rfl rfl ?_; go_frame)
              | fail)
            refine Calls.mono (nextD (G.pullF (schA a)) hok rfl c1 c2 hql) ?_
            clear G; rintro e w ⟨p, s', hn, rfl, G⟩
            have hok' := hok.next hn
            obtain ⟨hn1, hn2⟩ := Sc.next_len hn
            clear hn
            obtain ⟨ct', q', wn', fr'⟩ := s'
            simp only at hn1 hn2
            subst hn2
            rcases p with _ | ⟨id, m, e⟩
            all_goals
              go_wp2_with (first
                | ((with_reducible refine at_alloc ?_); refine wpu_new G ?_; clear G; intro w G)
                | ((with_reducible refine at_drew ?_); refine wpu_drew G ?_; clear G; intro w G)
                | ((with_reducible refine at_load ?_); first
                  | (refine wpu_load G rfl rfl rfl rfl ?_; go_frame)
                  | (refine wpu_loadB G rfl rfl rfl (by rfl) ?_; go_frame)
                  | (refine wpu_loadS G rfl rfl rfl (by rfl) ?_; simp only [List.drop_succ_cons, List.drop_zero, List.take_succ_cons, List.take_zero]; go_frame))
                | ((with_reducible refine at_store ?_); first
                  | (refine wpu_store G rfl rfl rfl rfl (by first | rfl | assumption | simp [*]) rfl ?_; clear G; intro w G; go_frame)
                  | (refine wpu_storeB G rfl rfl rfl rfl (by rfl) (by rfl) (by first | rfl | assumption | simp [*]) ?_; clear G; intro w G; go_frame)
                  | (refine wpu_storeS G rfl rfl rfl rfl (by rfl) (by rfl) (by first | rfl | assumption | simp [*]) ?_; clear G; intro w G; go_frame))
                | ((with_reducible refine at_convert ?_); refine wpu_str G rfl rfl rfl rfl ?_; go_frame)
                | ((with_reducible refine at_slice ?_); first
                  | (refine wpu_sliceLo rfl rfl rfl rfl (by first | rfl | omega) (by omega) (by omega) ?_; go_frame)
                  | (refine wpu_sliceLH rfl rfl rfl rfl rfl (by first | rfl | omega) (by first | rfl | omega) (by omega) (by omega) ?_; go_frame))
                | fail)
              go_roundw
              case rel => exact ⟨k + 1, [], q', wn', fr', by go_num, by omega, by omega, hok', by simp, by simp, by omega, G.right.eq (by ac_rfl)⟩
              case measure => simp [intOf] <;> omega
          | cons l ct' =>
            simp only [List.length_cons] at G hcl
            obtain ⟨wad, rfl⟩ := rd_some (G.rd (.slice wo (ct'.length + 1) wc) _ G) (by omega)
            by_cases hlc : c < l.length
            · as_aux_lemma =>
              have f2 : decide ((l.length : Int) ≤ c) = false := by simp; omega
              go_wp2_with (first
                | ((with_reducible refine at_alloc ?_); refine wpu_new G ?_; clear G; intro w G)
                | ((with_reducible refine at_drew ?_); refine wpu_drew G ?_; clear G; intro w G)
                | ((with_reducible refine at_load ?_); first
                  | (refine wpu_load G rfl rfl rfl rfl ?_; go_frame)
                  | (refine wpu_loadB G rfl rfl rfl (by rfl) ?_; go_frame)
                  | (refine wpu_loadS G rfl rfl rfl (by rfl) ?_; simp only [List.drop_succ_cons, List.drop_zero, List.take_succ_cons, List.take_zero]; go_frame))
                | ((with_reducible refine at_store ?_); first
                  | (refine wpu_store G rfl rfl rfl rfl (by first | rfl | assumption | simp [*]) rfl ?_; clear G; intro w G; go_frame)
                  | (refine wpu_storeB G rfl rfl rfl rfl (by rfl) (by rfl) (by first | rfl | assumption | simp [*]) ?_; clear G; intro w G; go_frame)
                  | (refine wpu_storeS G rfl rfl rfl rfl (by rfl) (by rfl) (by first | rfl | assumption | simp [*]) ?_; clear G; intro w G; go_frame))
                | ((with_reducible refine at_convert ?_); refine wpu_str G rfl rfl rfl rfl ?_; go_frame)
                | ((with_reducible refine at_slice ?_); first
                  | (refine wpu_sliceLo rfl rfl rfl rfl (by first | rfl | omega) (by omega) (by omega) ?_; go_frame)
                  | (refine wpu_sliceLH rfl rfl rfl rfl rfl (by first | rfl | omega) (by first | rfl | omega) (by omega) (by omega) ?_; go_frame))
                | ((with_reducible refine at_load ?_); refine wpu_loadC (HC.out.old G) HCX.out rfl rfl rfl ?_; go_frame)
                | fail)
              refine Calls.mono (nextN (G.pullF (schA a)) rfl hlc) ?_
              clear G; rintro e w ⟨rfl, G⟩
              go_wp2_with (first
                | ((with_reducible refine at_alloc ?_); refine wpu_new G ?_; clear G; intro w G)
                | ((with_reducible refine at_drew ?_); refine wpu_drew G ?_; clear G; intro w G)
                | ((with_reducible refine at_load ?_); first
                  | (refine wpu_load G rfl rfl rfl rfl ?_; go_frame)
                  | (refine wpu_loadB G rfl rfl rfl (by rfl) ?_; go_frame)
                  | (refine wpu_loadS G rfl rfl rfl (by rfl) ?_; simp only [List.drop_succ_cons, List.drop_zero, List.take_succ_cons, List.take_zero]; go_frame))
                | ((with_reducible refine at_store ?_); first
                  | (refine wpu_store G rfl rfl rfl rfl (by first | rfl | assumption | simp [*]) rfl ?_; clear G; intro w G; go_frame)
                  | (refine wpu_storeB G rfl rfl rfl rfl (by rfl) (by rfl) (by first | rfl | assumption | simp [*]) ?_; clear G; intro w G; go_frame)
                  | (refine wpu_storeS G rfl rfl rfl rfl (by rfl) (by rfl) (by first | rfl | assumption | simp [*]) ?_; clear G; intro w G; go_frame))
                | ((with_reducible refine at_convert ?_); refine wpu_str G rfl rfl rfl rfl ?_; go_frame)
                | ((with_reducible refine at_slice ?_); first
                  | (refine wpu_sliceLo rfl rfl rfl rfl (by first | rfl | omega) (by omega) (by omega) ?_; go_frame)
                  | (refine wpu_sliceLH rfl rfl rfl rfl rfl (by first | rfl | omega) (by first | rfl | omega) (by omega) (by omega) ?_; go_frame))
                | fail)
              refine wp_region_calm (C := Own _ _) (by kernel_rfl) (by kernel_rfl) (own_drew G) ?_
              intro ι W hne hW hs
              repeat (first
                | go_big_quiet_skip
                | ((with_reducible refine atq_load ?_); first
                  | (refine wpq_load hW rfl (by kernel_rfl) rfl rfl ?_; go_frame)
                  | (refine wpq_loadC (k := 0) (fun i => G.rd (.slice (some wad) (ct'.length + 1) wc) _ (hW i)) rfl rfl (by kernel_rfl) rfl ?_; go_frame)
                  | (refine wpq_loadC (fun i => HC.out.old (hW i)) HCX.out rfl (by kernel_rfl) rfl ?_; go_frame))
                | go_big_quiet_step (fail))
              refine wpQuiet_nil ?_
              intro i
              have g := hW i
              generalize W i = wg at g ⊢
              clear hs hW hne
              have G := g
              clear g
              go_wp2_with (first
                | ((with_reducible refine at_alloc ?_); refine wpu_new G ?_; clear G; intro w G)
                | ((with_reducible refine at_drew ?_); refine wpu_drew G ?_; clear G; intro w G)
                | ((with_reducible refine at_load ?_); first
                  | (refine wpu_load G rfl rfl rfl rfl ?_; go_frame)
                  | (refine wpu_loadB G rfl rfl rfl (by rfl) ?_; go_frame)
                  | (refine wpu_loadS G rfl rfl rfl (by rfl) ?_; simp only [List.drop_succ_cons, List.drop_zero, List.take_succ_cons, List.take_zero]; go_frame))
                | ((with_reducible refine at_store ?_); first
                  | (refine wpu_store G rfl rfl rfl rfl (by first | rfl | assumption | simp [*]) rfl ?_; clear G; intro w G; go_frame)
                  | (refine wpu_storeB G rfl rfl rfl rfl (by rfl) (by rfl) (by first | rfl | assumption | simp [*]) ?_; clear G; intro w G; go_frame)
                  | (refine wpu_storeS G rfl rfl rfl rfl (by rfl) (by rfl) (by first | rfl | assumption | simp [*]) ?_; clear G; intro w G; go_frame))
                | ((with_reducible refine at_convert ?_); refine wpu_str G rfl rfl rfl rfl ?_; go_frame)
                | ((with_reducible refine at_slice ?_); first
                  | (refine wpu_sliceLo rfl rfl rfl rfl (by first | rfl | omega) (by omega) (by omega) ?_; go_frame)
                  | (refine wpu_sliceLH rfl rfl rfl rfl rfl (by first | rfl | omega) (by first | rfl | omega) (by omega) (by omega) ?_; go_frame))
                | fail)
              go_roundw
              case rel => exact ⟨k + 1, l :: ct', q, wn, fr, by go_num, by omega, by omega, hok, by simp; omega, hcs, hqF, G.right.eq (by first | rfl | ac_rfl)⟩
              case measure => simp [intOf] <;> omega
            · as_aux_lemma =>
              have f2 : decide ((l.length : Int) ≤ c) = true := by simp; omega
              have hcl2 : ct'.length + 1 ≤ 1000000 := by omega
              go_wp2_with (first
                | ((with_reducible refine at_alloc ?_); refine wpu_new G ?_; clear G; intro w G)
                | ((with_reducible refine at_drew ?_); refine wpu_drew G ?_; clear G; intro w G)
                | ((with_reducible refine at_load ?_); first
                  | (refine wpu_load G rfl rfl rfl rfl ?_; go_frame)
                  | (refine wpu_loadB G rfl rfl rfl (by rfl) ?_; go_frame)
                  | (refine wpu_loadS G rfl rfl rfl (by rfl) ?_; simp only [List.drop_succ_cons, List.drop_zero, List.take_succ_cons, List.take_zero]; go_frame))
                | ((with_reducible refine at_store ?_); first
                  | (refine wpu_store G rfl rfl rfl rfl (by first | rfl | assumption | simp [*]) rfl ?_; clear G; intro w G; go_frame)
                  | (refine wpu_storeB G rfl rfl rfl rfl (by rfl) (by rfl) (by first | rfl | assumption | simp [*]) ?_; clear G; intro w G; go_frame)
                  | (refine wpu_storeS G rfl rfl rfl rfl (by rfl) (by rfl) (by first | rfl | assumption | simp [*]) ?_; clear G; intro w G; go_frame))
                | ((with_reducible refine at_convert ?_); refine wpu_str G rfl rfl rfl rfl ?_; go_frame)
                | ((with_reducible refine at_slice ?_); first
                  | (refine wpu_sliceLo rfl rfl rfl rfl (by first | rfl | omega) (by omega) (by omega) ?_; go_frame)
                  | (refine wpu_sliceLH rfl rfl rfl rfl rfl (by first | rfl | omega) (by first | rfl | omega) (by omega) (by omega) ?_; go_frame))
                | ((with_reducible refine at_load ?_); refine wpu_loadC (HC.out.old G) HCX.out rfl rfl rfl ?_; go_frame)
                | fail)
              refine Calls.mono (nextC (G.pullF (schA a)) rfl (by omega) hcl2) ?_
              clear G; rintro e w ⟨v, rfl, G⟩
              replace G : Own w0 (schA a ⟨ct', q, wn, fr⟩ * (sl 1 v l.length (bs l) * (sl 1 (.slice (some wad) (ct'.length + 1) wc) (ct'.length + 1) (strs (l :: ct')) * (sl 3 (.slice fo F.length fc) F.length (fcs F) * emp)))) w := G.eq (by ac_rfl)
              obtain ⟨vo2, vc2, rfl, v1, v2⟩ := G.hdr v
              unfold maxLen at v2
              go_wp2_with (first
                | ((with_reducible refine at_alloc ?_); refine wpu_new G ?_; clear G; intro w G)
                | ((with_reducible refine at_drew ?_); refine wpu_drew G ?_; clear G; intro w G)
                | ((with_reducible refine at_load ?_); first
                  | (refine wpu_load G rfl rfl rfl rfl ?_; go_frame)
                  | (refine wpu_loadB G rfl rfl rfl (by rfl) ?_; go_frame)
                  | (refine wpu_loadS G rfl rfl rfl (by rfl) ?_; simp only [List.drop_succ_cons, List.drop_zero, List.take_succ_cons, List.take_zero]; go_frame))
                | ((with_reducible refine at_store ?_); first
                  | (refine wpu_store G rfl rfl rfl rfl (by first | rfl | assumption | simp [*]) rfl ?_; clear G; intro w G; go_frame)
                  | (refine wpu_storeB G rfl rfl rfl rfl (by rfl) (by rfl) (by first | rfl | assumption | simp [*]) ?_; clear G; intro w G; go_frame)
                  | (refine wpu_storeS G rfl rfl rfl rfl (by rfl) (by rfl) (by first | rfl | assumption | simp [*]) ?_; clear G; intro w G; go_frame))
                | ((with_reducible refine at_convert ?_); refine wpu_str G rfl rfl rfl rfl ?_; go_frame)
                | ((with_reducible refine at_slice ?_); first
                  | (refine wpu_sliceLo rfl rfl rfl rfl (by first | rfl | omega) (by omega) (by omega) ?_; go_frame)
                  | (refine wpu_sliceLH rfl rfl rfl rfl rfl (by first | rfl | omega) (by first | rfl | omega) (by omega) (by omega) ?_; go_frame))
                | fail)
              refine wp_region_calm (C := Own _ _) (by kernel_rfl) (by kernel_rfl) (own_drew G) ?_
              intro ι W hne hW hs
              repeat (first
                | go_big_quiet_skip
                | ((with_reducible refine atq_load ?_); first
                  | (refine wpq_load hW rfl (by kernel_rfl) rfl rfl ?_; go_frame)
                  | (refine wpq_loadC (k := 0) (fun i => G.rd (.slice (some wad) (ct'.length + 1) wc) _ (hW i)) rfl rfl (by kernel_rfl) rfl ?_; go_frame)
                  | (refine wpq_loadC (fun i => HC.out.old (hW i)) HCX.out rfl (by kernel_rfl) rfl ?_; go_frame))
                | ((with_reducible refine atq_convert ?_); refine wpq_strR (fun i => G.rd (.slice vo2 l.length vc2) _ (hW i)) rfl (by kernel_rfl) rfl ?_; go_frame)
                | go_big_quiet_step (fail))
              refine wpQuiet_nil ?_
              intro i
              have g := hW i
              generalize W i = wg at g ⊢
              clear hs hW hne
              have G := g
              clear g
              go_wp2_with (first
                | ((with_reducible refine at_alloc ?_); refine wpu_new G ?_; clear G; intro w G)
                | ((with_reducible refine at_drew ?_); refine wpu_drew G ?_; clear G; intro w G)
                | ((with_reducible refine at_load ?_); first
                  | (refine wpu_load G rfl rfl rfl rfl ?_; go_frame)
                  | (refine wpu_loadB G rfl rfl rfl (by rfl) ?_; go_frame)
                  | (refine wpu_loadS G rfl rfl rfl (by rfl) ?_; simp only [List.drop_succ_cons, List.drop_zero, List.take_succ_cons, List.take_zero]; go_frame))
                | ((with_reducible refine at_store ?_); first
                  | (refine wpu_store G rfl rfl rfl rfl (by first | rfl | assumption | simp [*]) rfl ?_; clear G; intro w G; go_frame)
                  | (refine wpu_storeB G rfl rfl rfl rfl (by rfl) (by rfl) (by first | rfl | assumption | simp [*]) ?_; clear G; intro w G; go_frame)
                  | (refine wpu_storeS G rfl rfl rfl rfl (by rfl) (by rfl) (by first | rfl | assumption | simp [*]) ?_; clear G; intro w G; go_frame))
                | ((with_reducible refine at_convert ?_); refine wpu_str G rfl rfl rfl rfl ?_; go_frame)
                | ((with_reducible refine at_slice ?_); first
                  | (refine wpu_sliceLo rfl rfl rfl rfl (by first | rfl | omega) (by omega) (by omega) ?_; go_frame)
                  | (refine wpu_sliceLH rfl rfl rfl rfl rfl (by first | rfl | omega) (by first | rfl | omega) (by omega) (by omega) ?_; go_frame))
                | fail)
              have G1 := own_drop (k := 1) (G.pullF (fun xs => sl 1 (.slice (some wad) (ct'.length + 1) wc) (ct'.length + 1) xs)) (by decide) (by omega)
              replace G1 : Own w0 (sl 1 (.slice (cutA (some wad) wc 1 1) ct'.length (wc - 1)) ct'.length (strs ct') * _) _ := G1
              have G2 : Own w0 (schA a ⟨ct', q, wn, fr⟩ * (sl 1 (.slice (cutA (some wad) wc 1 1) ct'.length (wc - 1)) ct'.length (strs ct') * (sl 3 (.slice fo F.length fc) F.length (fcs F) * emp))) _ := G1.sub _
              clear G G1
              go_roundw
              case rel => exact ⟨k + 1, ct', q, wn, fr, by go_num, by omega, by omega, ⟨hok.1, hok.2, hok.3, hok.4, hok.5⟩, by omega, fun x hx => hcs x (List.mem_cons_of_mem _ hx), hqF, G2⟩
              case measure => simp [intOf] <;> omega
      · go_wp2_with fail
        all_goals
          go_wp2_with (first
            | ((with_reducible refine at_alloc ?_); refine wpu_new G ?_; clear G; intro w G)
            | ((with_reducible refine at_drew ?_); refine wpu_drew G ?_; clear G; intro w G)
            | ((with_reducible refine at_load ?_); first
              | (refine wpu_load G rfl rfl rfl rfl ?_; go_frame)
              | (refine wpu_loadB G rfl rfl rfl (by rfl) ?_; go_frame)
              | (refine wpu_loadS G rfl rfl rfl (by rfl) ?_; simp only [List.drop_succ_cons, List.drop_zero, List.take_succ_cons, List.take_zero]; go_frame))
            | ((with_reducible refine at_store ?_); first
              | (refine wpu_store G rfl rfl rfl rfl (by first | rfl | assumption | simp [*]) rfl ?_; clear G; intro w G; go_frame)
              | (refine wpu_storeB G rfl rfl rfl rfl (by rfl) (by rfl) (by first | rfl | assumption | simp [*]) ?_; clear G; intro w G; go_frame)
              | (refine wpu_storeS G rfl rfl rfl rfl (by rfl) (by rfl) (by first | rfl | assumption | simp [*]) ?_; clear G; intro w G; go_frame))
            | ((with_reducible refine at_convert ?_); refine wpu_str G rfl rfl rfl rfl ?_; go_frame)
            | ((with_reducible refine at_slice ?_); first
              | (refine wpu_sliceLo rfl rfl rfl rfl (by first | rfl | omega) (by omega) (by omega) ?_; go_frame)
              | (refine wpu_sliceLH rfl rfl rfl rfl rfl (by first | rfl | omega) (by first | rfl | omega) (by omega) (by omega) ?_; go_frame))
            | fail)
          refine Calls.mono (lenC (G.pullF (schA a))) ?_
          clear G; rintro e w ⟨rfl, G⟩
          have f1 : decide ((F.length : Int) < (q.length : Int)) = false := by simp; omega
          cases ct with
          | nil =>
            as_aux_lemma =>
            simp only [List.length_nil] at G
            go_wp2_with (first
              | ((with_reducible refine at_alloc ?_); refine wpu_new G ?_; clear G; intro w G)
              | ((with_reducible refine at_drew ?_); refine wpu_drew G ?_; clear G; intro w G)
              | ((with_reducible refine at_load ?_); first
                | (refine wpu_load G rfl rfl rfl rfl ?_; go_frame)
                | (refine wpu_loadB G rfl rfl rfl (by rfl) ?_; go_frame)
                | (refine wpu_loadS G rfl rfl rfl (by rfl) ?_; simp only [List.drop_succ_cons, List.drop_zero, List.take_succ_cons, List.take_zero]; go_frame))
              | ((with_reducible refine at_store ?_); first
                | (refine wpu_store G rfl rfl rfl rfl (by first | rfl | assumption | simp [*]) rfl ?_; clear G; intro w G; go_frame)
                | (refine wpu_storeB G rfl rfl rfl rfl (by rfl) (by rfl) (by first | rfl | assumption | simp [*]) ?_; clear G; intro w G; go_frame)
                | (refine wpu_storeS G rfl rfl rfl rfl (by rfl) (by rfl) (by first | rfl | assumption | simp [*]) ?_; clear G; intro w G; go_frame))
              | ((with_reducible refine at_convert ?_); refine wpu_str G rfl rfl rfl rfl ?_; go_frame)
              | ((with_reducible refine at_slice ?_); first
                | (refine wpu_sliceLo rfl rfl rfl rfl (by first | rfl | omega) (by omega) (by omega) ?_; go_frame)
                | (refine wpu_sliceLH rfl rfl rfl rfl rfl (by first | rfl | omega) (by first | rfl | omega) (by omega) (by omega) ?_; go_frame))
              | ((with_reducible refine at_load ?_); refine wpu_loadC (HC.out.old G) HCX.out rfl rfl rfl ?_; go_frame)
              | fail)
            refine Calls.mono (nextD (G.pullF (schA a)) hok rfl c1 c2 hql) ?_
            clear G; rintro e w ⟨p, s', hn, rfl, G⟩
            have hok' := hok.next hn
            obtain ⟨hn1, hn2⟩ := Sc.next_len hn
            clear hn
            obtain ⟨ct', q', wn', fr'⟩ := s'
            simp only at hn1 hn2
            subst hn2
            rcases p with _ | ⟨id, m, e⟩
            all_goals
              go_wp2_with (first
                | ((with_reducible refine at_alloc ?_); refine wpu_new G ?_; clear G; intro w G)
                | ((with_reducible refine at_drew ?_); refine wpu_drew G ?_; clear G; intro w G)
                | ((with_reducible refine at_load ?_); first
                  | (refine wpu_load G rfl rfl rfl rfl ?_; go_frame)
                  | (refine wpu_loadB G rfl rfl rfl (by rfl) ?_; go_frame)
                  | (refine wpu_loadS G rfl rfl rfl (by rfl) ?_; simp only [List.drop_succ_cons, List.drop_zero, List.take_succ_cons, List.take_zero]; go_frame))
                | ((with_reducible refine at_store ?_); first
                  | (refine wpu_store G rfl rfl rfl rfl (by first | rfl | assumption | simp [*]) rfl ?_; clear G; intro w G; go_frame)
                  | (refine wpu_storeB G rfl rfl rfl rfl (by rfl) (by rfl) (by first | rfl | assumption | simp [*]) ?_; clear G; intro w G; go_frame)
                  | (refine wpu_storeS G rfl rfl rfl rfl (by rfl) (by rfl) (by first | rfl | assumption | simp [*]) ?_; clear G; intro w G; go_frame))
                | ((with_reducible refine at_convert ?_); refine wpu_str G rfl rfl rfl rfl ?_; go_frame)
                | ((with_reducible refine at_slice ?_); first
                  | (refine wpu_sliceLo rfl rfl rfl rfl (by first | rfl | omega) (by omega) (by omega) ?_; go_frame)
                  | (refine wpu_sliceLH rfl rfl rfl rfl rfl (by first | rfl | omega) (by first | rfl | omega) (by omega) (by omega) ?_; go_frame))
                | fail)
              go_roundw
              case rel => exact ⟨k + 1, [], q', wn', fr', by go_num, by omega, by omega, hok', by simp, by simp, by omega, G.right.eq (by ac_rfl)⟩
              case measure => simp [intOf] <;> omega
          | cons l ct' =>
            simp only [List.length_cons] at G hcl
            obtain ⟨wad, rfl⟩ := rd_some (G.rd (.slice wo (ct'.length + 1) wc) _ G) (by omega)
            by_cases hlc : c < l.length
            · as_aux_lemma =>
              have f2 : decide ((l.length : Int) ≤ c) = false := by simp; omega
              go_wp2_with (first
                | ((with_reducible refine at_alloc ?_); refine wpu_new G ?_; clear G; intro w G)
                | ((with_reducible refine at_drew ?_); refine wpu_drew G ?_; clear G; intro w G)
                | ((with_reducible refine at_load ?_); first
                  | (refine wpu_load G rfl rfl rfl rfl ?_; go_frame)
                  | (refine wpu_loadB G rfl rfl rfl (by rfl) ?_; go_frame)
                  | (refine wpu_loadS G rfl rfl rfl (by rfl) ?_; simp only [List.drop_succ_cons, List.drop_zero, List.take_succ_cons, List.take_zero]; go_frame))
                | ((with_reducible refine at_store ?_); first
                  | (refine wpu_store G rfl rfl rfl rfl (by first | rfl | assumption | simp [*]) rfl ?_; clear G; intro w G; go_frame)
                  | (refine wpu_storeB G rfl rfl rfl rfl (by rfl) (by rfl) (by first | rfl | assumption | simp [*]) ?_; clear G; intro w G; go_frame)
                  | (refine wpu_storeS G rfl rfl rfl rfl (by rfl) (by rfl) (by first | rfl | assumption | simp [*]) ?_; clear G; intro w G; go_frame))
                | ((with_reducible refine at_convert ?_); refine wpu_str G rfl rfl rfl rfl ?_; go_frame)
                | ((with_reducible refine at_slice ?_); first
                  | (refine wpu_sliceLo rfl rfl rfl rfl (by first | rfl | omega) (by omega) (by omega) ?_; go_frame)
                  | (refine wpu_sliceLH rfl rfl rfl rfl rfl (by first | rfl | omega) (by first | rfl | omega) (by omega) (by omega) ?_; go_frame))
                | ((with_reducible refine at_load ?_); refine wpu_loadC (HC.out.old G) HCX.out rfl rfl rfl ?_; go_frame)
                | fail)
              refine Calls.mono (nextN (G.pullF (schA a)) rfl hlc) ?_
              clear G; rintro e w ⟨rfl, G⟩
              go_wp2_with (first
                | ((with_reducible refine at_alloc ?_); refine wpu_new G ?_; clear G; intro w G)
                | ((with_reducible refine at_drew ?_); refine wpu_drew G ?_; clear G; intro w G)
                | ((with_reducible refine at_load ?_); first
                  | (refine wpu_load G rfl rfl rfl rfl ?_; go_frame)
                  | (refine wpu_loadB G rfl rfl rfl (by rfl) ?_; go_frame)
                  | (refine wpu_loadS G rfl rfl rfl (by rfl) ?_; simp only [List.drop_succ_cons, List.drop_zero, List.take_succ_cons, List.take_zero]; go_frame))
                | ((with_reducible refine at_store ?_); first
                  | (refine wpu_store G rfl rfl rfl rfl (by first | rfl | assumption | simp [*]) rfl ?_; clear G; intro w G; go_frame)
                  | (refine wpu_storeB G rfl rfl rfl rfl (by rfl) (by rfl) (by first | rfl | assumption | simp [*]) ?_; clear G; intro w G; go_frame)
                  | (refine wpu_storeS G rfl rfl rfl rfl (by rfl) (by rfl) (by first | rfl | assumption | simp [*]) ?_; clear G; intro w G; go_frame))
                | ((with_reducible refine at_convert ?_); refine wpu_str G rfl rfl rfl rfl ?_; go_frame)
                | ((with_reducible refine at_slice ?_); first
                  | (refine wpu_sliceLo rfl rfl rfl rfl (by first | rfl | omega) (by omega) (by omega) ?_; go_frame)
                  | (refine wpu_sliceLH rfl rfl rfl rfl rfl (by first | rfl | omega) (by first | rfl | omega) (by omega) (by omega) ?_; go_frame))
                | fail)
              refine wp_region_calm (C := Own _ _) (by kernel_rfl) (by kernel_rfl) (own_drew G) ?_
              intro ι W hne hW hs
              repeat (first
                | go_big_quiet_skip
                | ((with_reducible refine atq_load ?_); first
                  | (refine wpq_load hW rfl (by kernel_rfl) rfl rfl ?_; go_frame)
                  | (refine wpq_loadC (k := 0) (fun i => G.rd (.slice (some wad) (ct'.length + 1) wc) _ (hW i)) rfl rfl (by kernel_rfl) rfl ?_; go_frame)
                  | (refine wpq_loadC (fun i => HC.out.old (hW i)) HCX.out rfl (by kernel_rfl) rfl ?_; go_frame))
                | go_big_quiet_step (fail))
              refine wpQuiet_nil ?_
              intro i
              have g := hW i
              generalize W i = wg at g ⊢
              clear hs hW hne
              have G := g
              clear g
              go_wp2_with (first
                | ((with_reducible refine at_alloc ?_); refine wpu_new G ?_; clear G; intro w G)
                | ((with_reducible refine at_drew ?_); refine wpu_drew G ?_; clear G; intro w G)
                | ((with_reducible refine at_load ?_); first
                  | (refine wpu_load G rfl rfl rfl rfl ?_; go_frame)
                  | (refine wpu_loadB G rfl rfl rfl (by rfl) ?_; go_frame)
                  | (refine wpu_loadS G rfl rfl rfl (by rfl) ?_; simp only [List.drop_succ_cons, List.drop_zero, List.take_succ_cons, List.take_zero]; go_frame))
                | ((with_reducible refine at_store ?_); first
                  | (refine wpu_store G rfl rfl rfl rfl (by first | rfl | assumption | simp [*]) rfl ?_; clear G; intro w G; go_frame)
                  | (refine wpu_storeB G rfl rfl rfl rfl (by rfl) (by rfl) (by first | rfl | assumption | simp [*]) ?_; clear G; intro w G; go_frame)
                  | (refine wpu_storeS G rfl rfl rfl rfl (by rfl) (by rfl) (by first | rfl | assumption | simp [*]) ?_; clear G; intro w G; go_frame))
                | ((with_reducible refine at_convert ?_); refine wpu_str G rfl rfl rfl rfl ?_; go_frame)
                | ((with_reducible refine at_slice ?_); first
                  | (refine wpu_sliceLo rfl rfl rfl rfl (by first | rfl | omega) (by omega) (by omega) ?_; go_frame)
                  | (refine wpu_sliceLH rfl rfl rfl rfl rfl (by first | rfl | omega) (by first | rfl | omega) (by omega) (by omega) ?_; go_frame))
                | fail)
              go_roundw
              case rel => exact ⟨k + 1, l :: ct', q, wn, fr, by go_num, by omega, by omega, hok, by simp; omega, hcs, hqF, G.right.eq (by first | rfl | ac_rfl)⟩
              case measure => simp [intOf] <;> omega
            · as_aux_lemma =>
              have f2 : decide ((l.length : Int) ≤ c) = true := by simp; omega
              have hcl2 : ct'.length + 1 ≤ 1000000 := by omega
              go_wp2_with (first
                | ((with_reducible refine at_alloc ?_); refine wpu_new G ?_; clear G; intro w G)
                | ((with_reducible refine at_drew ?_); refine wpu_drew G ?_; clear G; intro w G)
                | ((with_reducible refine at_load ?_); first
                  | (refine wpu_load G rfl rfl rfl rfl ?_; go_frame)
                  | (refine wpu_loadB G rfl rfl rfl (by rfl) ?_; go_frame)
                  | (refine wpu_loadS G rfl rfl rfl (by rfl) ?_; simp only [List.drop_succ_cons, List.drop_zero, List.take_succ_cons, List.take_zero]; go_frame))
                | ((with_reducible refine at_store ?_); first
                  | (refine wpu_store G rfl rfl rfl rfl (by first | rfl | assumption | simp [*]) rfl ?_; clear G; intro w G; go_frame)
                  | (refine wpu_storeB G rfl rfl rfl rfl (by rfl) (by rfl) (by first | rfl | assumption | simp [*]) ?_; clear G; intro w G; go_frame)
                  | (refine wpu_storeS G rfl rfl rfl rfl (by rfl) (by rfl) (by first | rfl | assumption | simp [*]) ?_; clear G; intro w G; go_frame))
                | ((with_reducible refine at_convert ?_); refine wpu_str G rfl rfl rfl rfl ?_; go_frame)
                | ((with_reducible refine at_slice ?_); first
                  | (refine wpu_sliceLo rfl rfl rfl rfl (by first | rfl | omega) (by omega) (by omega) ?_; go_frame)
                  | (refine wpu_sliceLH rfl rfl rfl rfl rfl (by first | rfl | omega) (by first | rfl | omega) (by omega) (by omega) ?_; go_frame))
                | ((with_reducible refine at_load ?_); refine wpu_loadC (HC.out.old G) HCX.out rfl rfl rfl ?_; go_frame)
                | fail)
              refine Calls.mono (nextC (G.pullF (schA a)) rfl (by omega) hcl2) ?_
              clear G; rintro e w ⟨v, rfl, G⟩
              replace G : Own w0 (schA a ⟨ct', q, wn, fr⟩ * (sl 1 v l.length (bs l) * (sl 1 (.slice (some wad) (ct'.length + 1) wc) (ct'.length + 1) (strs (l :: ct')) * (sl 3 (.slice fo F.length fc) F.length (fcs F) * emp)))) w := G.eq (by ac_rfl)
              obtain ⟨vo2, vc2, rfl, v1, v2⟩ := G.hdr v
              unfold maxLen at v2
              go_wp2_with (first
                | ((with_reducible refine at_alloc ?_); refine wpu_new G ?_; clear G; intro w G)
                | ((with_reducible refine at_drew ?_); refine wpu_drew G ?_; clear G; intro w G)
                | ((with_reducible refine at_load ?_); first
                  | (refine wpu_load G rfl rfl rfl rfl ?_; go_frame)
                  | (refine wpu_loadB G rfl rfl rfl (by rfl) ?_; go_frame)
                  | (refine wpu_loadS G rfl rfl rfl (by rfl) ?_; simp only [List.drop_succ_cons, List.drop_zero, List.take_succ_cons, List.take_zero]; go_frame))
                | ((with_reducible refine at_store ?_); first
                  | (refine wpu_store G rfl rfl rfl rfl (by first | rfl | assumption | simp [*]) rfl ?_; clear G; intro w G; go_frame)
                  | (refine wpu_storeB G rfl rfl rfl rfl (by rfl) (by rfl) (by first | rfl | assumption | simp [*]) ?_; clear G; intro w G; go_frame)
                  | (refine wpu_storeS G rfl rfl rfl rfl (by rfl) (by rfl) (by first | rfl | assumption | simp [*]) ?_; clear G; intro w G; go_frame))
                | ((with_reducible refine at_convert ?_); refine wpu_str G rfl rfl rfl rfl ?_; go_frame)
                | ((with_reducible refine at_slice ?_); first
                  | (refine wpu_sliceLo rfl rfl rfl rfl (by first | rfl | omega) (by omega) (by omega) ?_; go_frame)
                  | (refine wpu_sliceLH rfl rfl rfl rfl rfl (by first | rfl | omega) (by first | rfl | omega) (by omega) (by omega) ?_; go_frame))
                | fail)
              refine wp_region_calm (C := Own _ _) (by kernel_rfl) (by kernel_rfl) (own_drew G) ?_
              intro ι W hne hW hs
              repeat (first
                | go_big_quiet_skip
                | ((with_reducible refine atq_load ?_); first
                  | (refine wpq_load hW rfl (by kernel_rfl) rfl rfl ?_; go_frame)
                  | (refine wpq_loadC (k := 0) (fun i => G.rd (.slice (some wad) (ct'.length + 1) wc) _ (hW i)) rfl rfl (by kernel_rfl) rfl ?_; go_frame)
                  | (refine wpq_loadC (fun i => HC.out.old (hW i)) HCX.out rfl (by kernel_rfl) rfl ?_; go_frame))
                | ((with_reducible refine atq_convert ?_); refine wpq_strR (fun i => G.rd (.slice vo2 l.length vc2) _ (hW i)) rfl (by kernel_rfl) rfl ?_; go_frame)
                | go_big_quiet_step (fail))
              refine wpQuiet_nil ?_
              intro i
              have g := hW i
              generalize W i = wg at g ⊢
              clear hs hW hne
              have G := g
              clear g
              go_wp2_with (first
                | ((with_reducible refine at_alloc ?_); refine wpu_new G ?_; clear G; intro w G)
                | ((with_reducible refine at_drew ?_); refine wpu_drew G ?_; clear G; intro w G)
                | ((with_reducible refine at_load ?_); first
                  | (refine wpu_load G rfl rfl rfl rfl ?_; go_frame)
                  | (refine wpu_loadB G rfl rfl rfl (by rfl) ?_; go_frame)
                  | (refine wpu_loadS G rfl rfl rfl (by rfl) ?_; simp only [List.drop_succ_cons, List.drop_zero, List.take_succ_cons, List.take_zero]; go_frame))
                | ((with_reducible refine at_store ?_); first
                  | (refine wpu_store G rfl rfl rfl rfl (by first | rfl | assumption | simp [*]) rfl ?_; clear G; intro w G; go_frame)
                  | (refine wpu_storeB G rfl rfl rfl rfl (by rfl) (by rfl) (by first | rfl | assumption | simp [*]) ?_; clear G; intro w G; go_frame)
                  | (refine wpu_storeS G rfl rfl rfl rfl (by rfl) (by rfl) (by first | rfl | assumption | simp [*]) ?_; clear G; intro w G; go_frame))
                | ((with_reducible refine at_convert ?_); refine wpu_str G rfl rfl rfl rfl ?_; go_frame)
                | ((with_reducible refine at_slice ?_); first
                  | (refine wpu_sliceLo rfl rfl rfl rfl (by first | rfl | omega) (by omega) (by omega) ?_; go_frame)
                  | (refine wpu_sliceLH rfl rfl rfl rfl rfl (by first | rfl | omega) (by first | rfl | omega) (by omega) (by omega) ?_; go_frame))
                | fail)
              have G1 := own_drop (k := 1) (G.pullF (fun xs => sl 1 (.slice (some wad) (ct'.length + 1) wc) (ct'.length + 1) xs)) (by decide) (by omega)
              replace G1 : Own w0 (sl 1 (.slice (cutA (some wad) wc 1 1) ct'.length (wc - 1)) ct'.length (strs ct') * _) _ := G1
              have G2 : Own w0 (schA a ⟨ct', q, wn, fr⟩ * (sl 1 (.slice (cutA (some wad) wc 1 1) ct'.length (wc - 1)) ct'.length (strs ct') * (sl 3 (.slice fo F.length fc) F.length (fcs F) * emp))) _ := G1.sub _
              clear G G1
              go_roundw
              case rel => exact ⟨k + 1, ct', q, wn, fr, by go_num, by omega, by omega, ⟨hok.1, hok.2, hok.3, hok.4, hok.5⟩, by omega, fun x hx => hcs x (List.mem_cons_of_mem _ hx), hqF, G2⟩
              case measure => simp [intOf] <;> omega
    · go_wp2_with fail
      all_goals
        as_aux_lemma =>
        go_ret
        exact ⟨rfl, G.below⟩

theorem contract {H : Type} {enc : TypeId × Value → H} {W : World} {vs : List Value} {ds : List (DataW H)}
    (hA : Args enc Try.prog W [22, 23, 24] vs ds) (hsz : (DataW.weightsEach Try.prog [22, 23, 24] ds).all (· ≤ reachBytes) = true) :
    Calls Try.prog 3 vs.toArray W fun e W' => e = .returned (.bool true) ∧ Below W.heap.size W W' := by
  obtain ⟨v0, _, d0, _, rfl, rfl, h0, hA⟩ := args_cons hA
  obtain ⟨v1, _, d1, _, rfl, rfl, h1, hA⟩ := args_cons hA
  obtain ⟨v2, _, d2, _, rfl, rfl, h2, hA⟩ := args_cons hA
  obtain ⟨rfl, rfl⟩ := args_nil hA
  obtain ⟨nf, xf, hf, hfe⟩ := flows_in h0
  obtain ⟨nb, xb, hb, -, hbe⟩ := arg_bytess Try.underlying23 (by kernel_rfl) Try.underlying30 Try.underlying5 (by kernel_rfl) h1
  obtain ⟨nc, xc, hc, -, hce⟩ := arg_ints Try.underlying24 (by kernel_rfl) Try.underlying3 h2
  exact controlsW hf (fun i hi => let ⟨a, b, e, h, _⟩ := hfe i hi; ⟨a, b, e, h⟩) hb hbe hc hce


theorem spec {H : Type} : ∀ ds : List (DataW H), ds.length = 3 → Rows.schedControlsSpec.fn H ds = { results := [.lit (.bool true)], args := ds }
  | [_, _, _], _ => rfl
  | [], h => by cases h
  | [_], h => by cases h
  | [_, _], h => by cases h
  | _ :: _ :: _ :: _ :: _, h => by simp at h
set_option maxRecDepth 100000 in
theorem lifted (os : Os) (started : os.Started) (H : Type) (enc : TypeId × Value → H) :
    ReturnsInHanded {} Try.checked os 3 .any (Rows.schedControlsSpec.pre6 enc Try.prog Try.f3 Rows.schedControlsRow.domain false) (Rows.schedControlsSpec.post enc Try.prog Try.f3 false true false false) :=
  lifted_of_law (C := Try.checked) (fn := Try.f3) (s := Rows.schedControlsSpec) (tb := 4) (by kernel_rfl) started (by kernel_rfl) Try.func3
    (ChangeSpec.witness6 (enc := enc) (C := Try.checked) false ⟨#[], #[.slice none 0 0, .slice none 0 0, .slice none 0 0], []⟩ 8 (by kernel_rfl) (by kernel_rfl) (by kernel_rfl) (by kernel_rfl))
    rfl spec (by kernel_rfl) Try.underlying4 (by kernel_rfl) (by kernel_rfl) (fun _ _ _ h1 h2 => contract h1 h2)

theorem proved : Rows.SchedControlsSaid :=
  OpenClaim.holds_of_wide 3 Try.f3 rfl rfl rfl rfl rfl rfl rfl ⟨rfl, rfl, rfl, rfl, rfl⟩ rfl rfl rfl rfl rfl (by kernel_rfl) Try.func3 (by kernel_rfl)
    (of_decide_eq_true (by kernel_rfl)) (by unfold Func.isWrapper; first | (rw [if_pos (by decide +kernel)]; kernel_rfl) | (rw [if_neg (by decide +kernel)]; exact ⟨rfl, rfl⟩))
    (fun os started H enc _ => lifted os started H enc)
end Go.Proofs.Ytbekaeahedkeoaa.schedControls
