
/-
  SchedQueue: who is served goes to the end, and who is not keeps the place.
-/
import Derived.Test.YtbekaeahedkeoaaSchQuP
namespace Go.Proofs.Ytbekaeahedkeoaa.schedQueue
open Go.RowKit Go.Sl Go.ChangeShapes

def wnt (n : Nat) : List Int := (List.range n).map fun j : Nat => (j : Int) + 1
theorem wnt_succ (n : Nat) : wnt (n + 1) = wnt n ++ [(n : Int) + 1] := by unfold wnt; rw [List.range_succ, List.map_append]; rfl




set_option maxHeartbeats 40000000 in
set_option maxRecDepth 100000 in
theorem queueW {w0 : World} {wv : Value} {nw : Nat} {xw : List Value} {rounds : Int} (hw : rd w0 1 wv nw xw) (hwe : ∀ i, i < nw → ∃ b, xw[i]? = some (.bool b)) :
    Calls Try.prog 5 #[wv, .int .i64 rounds] w0 fun e w' => e = .returned (.bool true) ∧ Below w0.heap.size w0 w' := by
  have G := own_begin w0
  obtain ⟨wo, wc, rfl, j1, j2, -⟩ := id hw
  unfold maxLen at j2
  obtain ⟨m, hm, hm'⟩ := and_i64 rounds 7 (by decide)
  replace hm : bits .and .i64 rounds 7 = (m : Int) := hm
  obtain ⟨N, hN, hN1, hN2⟩ : ∃ N : Nat, min (nw : Int) 10 = N ∧ N ≤ nw ∧ N ≤ 10 := ⟨min nw 10, by omega, by omega, by omega⟩
  have HW := Lib.hid hw
  clear hw
  go_enter Try.func5, Try.ntmps5
  go_wp2_with fail
  refine Calls.mono (shownSch G) ?_
  clear G; rintro e w ⟨rfl, G⟩
  go_wp2_with fail
  refine Calls.mono (newC G (by decide) (by decide)) ?_
  clear G; rintro e w ⟨a, rfl, G⟩
  replace G : Own w0 (schA a ⟨[], [], 65535, 1⟩ * emp) w := G
  go_wp2_with fail
  go_loopw [8, 9, 10] (fun rv lv i wr => ∃ (n : Nat) (R L V : List Int) (q : List Fl), i = .int .i64 n ∧ n ≤ N ∧ Built n R L V q ∧ Own w0 (schA a ⟨[], q, 65535, 1⟩ * (sl 1 rv R.length (ints R) * (sl 1 lv L.length (ints L) * emp))) wr) (fun _ _ i _ => N - (intOf i).toNat)
  case atStart => exact ⟨0, [], [], [], [], rfl, Nat.zero_le _, Built.nil, (own_nil (own_nil G 1) 1).eq (by show sl 1 _ 0 [] * (sl 1 _ 0 [] * _) = _ * (sl 1 _ 0 [] * (sl 1 _ 0 [] * _)); ac_rfl)⟩
  case round =>
    clear G
    obtain ⟨n, R, L, V, q, rfl, hn, hB, G⟩ := hrel
    obtain ⟨l1, l2, l3⟩ := hB.len
    by_cases hlt : n < N
    · as_aux_lemma =>
      obtain ⟨wad, rfl⟩ := rd_some HW.out (by omega)
      obtain ⟨b, hwx⟩ := hwe n (by omega)
      have HWX := Lib.hid hwx
      clear hwx
      have hne := hB.ne
      have hql : q.length ≤ 1000000 := by omega
      cases b
      · skip
        go_wp2_with (first
          | ((with_reducible refine at_load ?_); refine wpu_loadC (HW.out.old G) HWX.out rfl rfl rfl ?_; go_frame)
          | ((with_reducible refine at_append ?_); refine wpu_append1 G rfl rfl rfl rfl (by rfl) (by rfl) (by unfold maxLen; omega) (by omega) ?_; clear G; intro v w G; go_frame)
          | ((with_reducible refine at_alloc ?_); refine wpu_new G ?_; clear G; intro w G)
          | ((with_reducible refine at_drew ?_); refine wpu_drew G ?_; clear G; intro w G)
          | ((with_reducible refine at_load ?_); first
            | (refine wpu_load G rfl rfl rfl rfl ?_; go_frame)
            | (refine wpu_loadB G rfl rfl rfl (by rfl) ?_; go_frame)
            | (refine wpu_loadS G rfl rfl rfl (by rfl) ?_; simp only [List.drop_succ_cons, List.drop_zero, List.take_succ_cons, List.take_zero]; go_frame))
          | ((with_reducible refine at_store ?_); first
            | (refine wpu_store G rfl rfl rfl rfl (by first | rfl | assumption | simp [*]) rfl ?_; clear G; intro w G; go_frame)
            | (refine wpu_storeB G rfl rfl rfl rfl (by rfl) (by rfl) (by first | rfl | assumption | simp [*]) ?_; clear G; intro w G; go_frame)
            | (refine wpu_storeS G rfl rfl rfl rfl (by rfl) (by rfl) (by first | rfl | assumption | simp [*]) ?_; clear G; intro w G; go_frame))
          | ((with_reducible refine at_convert ?_); refine wpu_str G rfl rfl rfl rfl ?_; go_frame)
          | ((with_reducible refine at_slice ?_); first
            | (refine wpu_sliceLo rfl rfl rfl rfl (by first | rfl | omega) (by omega) (by omega) ?_; go_frame)
            | (refine wpu_sliceLH rfl rfl rfl rfl rfl (by first | rfl | omega) (by first | rfl | omega) (by omega) (by omega) ?_; go_frame))
          | fail)
        refine Calls.mono (openC (G.pullF (schA a)) (by omega) (by omega) (by decide) (by decide) hne hql) ?_
        clear G; rintro e w ⟨rfl, G⟩
        go_wp2_with fail
        refine Calls.mono (putC (l1 := q) (l2 := []) (G.pullF (schA a)) rfl rfl hne rfl (by show (0:Int) ≤ 0; decide) (by decide) (by show (0:Int) + 50 ≤ 2147483647; decide)) ?_
        clear G; rintro e w ⟨rfl, G⟩
        go_wp2_with fail
        have G1 : Own w0 (schA a ⟨[], q ++ [⟨(n : Int) + 1, 0, 0 + 50, false⟩], 65535, 1⟩ * (sl 1 u8 R.length (ints R) * (sl 1 v (L ++ [(n : Int) + 1]).length (ints (L ++ [(n : Int) + 1])) * emp))) w := G.eq (by rw [← ints_snoc, List.length_append]; ac_rfl)
        clear G
        go_roundw
        case rel => exact ⟨n + 1, _, _, _, _, by go_num, by omega, hB.narrow, G1⟩
        case measure => simp [intOf] <;> omega
      · skip
        go_wp2_with (first
          | ((with_reducible refine at_load ?_); refine wpu_loadC (HW.out.old G) HWX.out rfl rfl rfl ?_; go_frame)
          | ((with_reducible refine at_append ?_); refine wpu_append1 G rfl rfl rfl rfl (by rfl) (by rfl) (by unfold maxLen; omega) (by omega) ?_; clear G; intro v w G; go_frame)
          | ((with_reducible refine at_alloc ?_); refine wpu_new G ?_; clear G; intro w G)
          | ((with_reducible refine at_drew ?_); refine wpu_drew G ?_; clear G; intro w G)
          | ((with_reducible refine at_load ?_); first
            | (refine wpu_load G rfl rfl rfl rfl ?_; go_frame)
            | (refine wpu_loadB G rfl rfl rfl (by rfl) ?_; go_frame)
            | (refine wpu_loadS G rfl rfl rfl (by rfl) ?_; simp only [List.drop_succ_cons, List.drop_zero, List.take_succ_cons, List.take_zero]; go_frame))
          | ((with_reducible refine at_store ?_); first
            | (refine wpu_store G rfl rfl rfl rfl (by first | rfl | assumption | simp [*]) rfl ?_; clear G; intro w G; go_frame)
            | (refine wpu_storeB G rfl rfl rfl rfl (by rfl) (by rfl) (by first | rfl | assumption | simp [*]) ?_; clear G; intro w G; go_frame)
            | (refine wpu_storeS G rfl rfl rfl rfl (by rfl) (by rfl) (by first | rfl | assumption | simp [*]) ?_; clear G; intro w G; go_frame))
          | ((with_reducible refine at_convert ?_); refine wpu_str G rfl rfl rfl rfl ?_; go_frame)
          | ((with_reducible refine at_slice ?_); first
            | (refine wpu_sliceLo rfl rfl rfl rfl (by first | rfl | omega) (by omega) (by omega) ?_; go_frame)
            | (refine wpu_sliceLH rfl rfl rfl rfl rfl (by first | rfl | omega) (by first | rfl | omega) (by omega) (by omega) ?_; go_frame))
          | fail)
        refine Calls.mono (openC (G.pullF (schA a)) (by omega) (by omega) (by decide) (by decide) hne hql) ?_
        clear G; rintro e w ⟨rfl, G⟩
        go_wp2_with fail
        refine Calls.mono (putC (l1 := q) (l2 := []) (G.pullF (schA a)) rfl rfl hne rfl (by show (0:Int) ≤ 0; decide) (by decide) (by show (0:Int) + 50 ≤ 2147483647; decide)) ?_
        clear G; rintro e w ⟨rfl, G⟩
        go_wp2_with fail
        have G1 : Own w0 (schA a ⟨[], q ++ [⟨(n : Int) + 1, 100, 0 + 50, false⟩], 65535, 1⟩ * (sl 1 v (R ++ [(n : Int) + 1]).length (ints (R ++ [(n : Int) + 1])) * (sl 1 u9 L.length (ints L) * emp))) w := G.eq (by rw [← ints_snoc, List.length_append]; ac_rfl)
        clear G
        go_roundw
        case rel => exact ⟨n + 1, _, _, _, _, by go_num, by omega, hB.wide, G1⟩
        case measure => simp [intOf] <;> omega
    · obtain rfl : n = N := by omega
      have hT0 := hB.turn hN2
      obtain ⟨hnd, hnd2⟩ := hB.nodup
      have hVW := hB.w
      have hids := hB.ids
      clear hB hwe HW
      obtain ⟨ro, rc, rfl, i1, i2⟩ := G.hdr u8
      obtain ⟨lo, lc, rfl, i3, i4⟩ := G.hdr u9
      unfold maxLen at i2 i4
      as_aux_lemma =>
      go_wp2_with fail
      go_loopw [12] (fun i wr => ∃ (r : Nat) (s : Sc) (A : List Fl), i = .int .i64 r ∧ r ≤ m ∧ Turn R L 0 (50 - r) s A [] ∧ Hid (r = 0 ∨ R = [] → s.q.map Fl.id = V) ∧ Hid (0 < r → s.q.map Fl.id = L ++ R) ∧ 65535 - 10 * (r : Int) ≤ s.win ∧ s.q.length ≤ 10 ∧ Own w0 (schA a s * (sl 1 (.slice ro R.length rc) R.length (ints R) * (sl 1 (.slice lo L.length lc) L.length (ints L) * emp))) wr) (fun i _ => m - (intOf i).toNat)
      case atStart => exact ⟨0, _, _, rfl, Nat.zero_le _, hT0, Lib.hid fun _ => hids, Lib.hid fun h => absurd h (by decide), by show (65535 : Int) - 10 * ((0 : Nat) : Int) ≤ 65535; decide, by show q.length ≤ 10; omega, G⟩
      case round =>
        clear G hT0 hids
        obtain ⟨r, s, A, rfl, hr, hT, h1, h2, hsw, hsl, G⟩ := hrel
        by_cases hrm : r < m
        · go_wp2_with fail
          go_loopw [13] (fun i wr => ∃ (j : Nat) (s : Sc) (A B : List Fl), i = .int .i64 j ∧ j ≤ R.length ∧ Turn R L j (50 - r) s A B ∧ Hid (R = [] → s.q.map Fl.id = V) ∧ 65535 - 10 * (r : Int) - j ≤ s.win ∧ s.q.length ≤ 10 ∧ Own w0 (schA a s * (sl 1 (.slice ro R.length rc) R.length (ints R) * (sl 1 (.slice lo L.length lc) L.length (ints L) * emp))) wr) (fun i _ => R.length - (intOf i).toNat)
          case atStart => exact ⟨0, s, A, [], rfl, Nat.zero_le _, hT, Lib.hid fun h => h1.out (.inr h), by simpa using hsw, hsl, G⟩
          case round =>
            clear G hT hsw hsl h1 h2
            obtain ⟨j, s, A, B, rfl, hj, hT, h1, hsw, hsl, G⟩ := hrel
            by_cases hjl : j < R.length
            · obtain ⟨x, s', A', B', hx, hn, hT', hw', hl'⟩ := hT.step (c := 50) hjl (by omega) (by decide) (by omega)
              have hok := hT.ok
              have hct := hT.ct
              have HX := Lib.hid (ints_at hx)
              obtain ⟨ad, rfl⟩ := rd_some (G.rd (.slice ro R.length rc) _ G) (by omega)
              have hR : Hid (R = [] → s'.q.map Fl.id = V) := Lib.hid fun h => by rw [h] at hjl; cases hjl
              clear hx hT h1
              as_aux_lemma =>
              go_wp2_with fail
              refine Calls.mono (nextE hn (G.pullF (schA a)) hok hct (by decide) (by decide) (by omega)) ?_
              clear G hn hok hct; rintro e w ⟨rfl, G⟩
              go_wp2_with (first
                | ((with_reducible refine at_alloc ?_); refine wpu_new G ?_; clear G; intro w G)
                | ((with_reducible refine at_drew ?_); refine wpu_drew G ?_; clear G; intro w G)
                | ((with_reducible refine at_load ?_); first
                  | (refine wpu_load G rfl rfl rfl rfl ?_; go_frame)
                  | (refine wpu_loadB G rfl rfl rfl (by rfl) ?_; go_frame)
                  | (refine wpu_loadS G rfl rfl rfl (by rfl) ?_; simp only [List.drop_succ_cons, List.drop_zero, List.take_succ_cons, List.take_zero]; go_frame))
                | ((with_reducible refine at_store ?_); first
                  | (refine wpu_store G rfl rfl rfl rfl (by first | rfl | assumption | simp [*]) rfl ?_; clear G; intro w G; go_frame)
                  | (refine wpu_storeB G rfl rfl rfl rfl (by rfl) (by rfl) (by first | rfl | assumption | simp [*]) ?_; clear G; intro w G; go_frame)
                  | (refine wpu_storeS G rfl rfl rfl rfl (by rfl) (by rfl) (by first | rfl | assumption | simp [*]) ?_; clear G; intro w G; go_frame))
                | ((with_reducible refine at_convert ?_); refine wpu_str G rfl rfl rfl rfl ?_; go_frame)
                | ((with_reducible refine at_slice ?_); first
                  | (refine wpu_sliceLo rfl rfl rfl rfl (by first | rfl | omega) (by omega) (by omega) ?_; go_frame)
                  | (refine wpu_sliceLH rfl rfl rfl rfl rfl (by first | rfl | omega) (by first | rfl | omega) (by omega) (by omega) ?_; go_frame))
                | fail)
              refine wp_region_calm (C := Own _ _) (by kernel_rfl) (by kernel_rfl) (own_drew G) ?_
              intro ι W hne hW hs
              repeat (first
                | go_big_quiet_skip
                | ((with_reducible refine atq_load ?_); first
                  | (refine wpq_load hW rfl (by kernel_rfl) rfl rfl ?_; go_frame)
                  | (refine wpq_loadC (k := j) (fun i => G.rd (.slice (some ad) R.length rc) _ (hW i)) HX.out rfl (by kernel_rfl) rfl ?_; go_frame))
                | go_big_quiet_step (fail))
              refine wpQuiet_nil ?_
              intro i
              have g := hW i
              generalize W i = wg at g ⊢
              clear hs hW hne
              have G := g
              clear g
              go_wp2_with fail
              go_roundw
              case rel => exact ⟨j + 1, s', A', B', by go_num, by omega, hT', hR, by omega, by omega, G.sub _⟩
              case measure => simp [intOf] <;> omega
            · obtain rfl : j = R.length := by omega
              have hT2 := hT.next (by omega)
              have hid2 := hT.ids
              as_aux_lemma =>
              go_wp2_with fail
              go_roundw
              case rel => exact ⟨r + 1, s, A ++ B, by go_num, by omega, by rwa [show (50 : Int) - ((r + 1 : Nat) : Int) = 50 - r - 1 by omega], Lib.hid fun h => h1.out (by rcases h with h | h; omega; exact h), Lib.hid fun _ => hid2, by omega, hsl, G⟩
              case measure => simp [intOf] <;> omega
        · obtain rfl : r = m := by omega
          obtain ⟨V2, hV2⟩ : ∃ V2, V2 = if r = 0 ∨ R = [] then V else L ++ R := ⟨_, rfl⟩
          have hnd3 : V2.Nodup := by rw [hV2]; split <;> assumption
          have hG := hT.gr (W := V2) (by
            rw [hV2]
            split
            · rename_i h; exact h1.out h
            · rename_i h; exact h2.out (by omega))
          have HV2 := Lib.hid hV2
          obtain ⟨mm, hmm⟩ : ∃ mm : Int, mm = 50 - r := ⟨_, rfl⟩
          rw [← hmm] at hG
          clear hnd hnd2 hT h1 h2 hV2
          as_aux_lemma =>
          go_wp2_with fail
          go_loopw [16] (fun i wr => ∃ (j : Nat) (s : Sc), i = .int .i64 j ∧ j ≤ L.length ∧ Gr L V2 j mm s ∧ 65535 - 10 * (r : Int) ≤ s.win ∧ s.q.length ≤ 10 ∧ Own w0 (schA a s * (sl 1 (.slice ro R.length rc) R.length (ints R) * (sl 1 (.slice lo L.length lc) L.length (ints L) * emp))) wr) (fun i _ => L.length - (intOf i).toNat)
          case atStart => exact ⟨0, s, rfl, Nat.zero_le _, hG, hsw, hsl, G⟩
          case round =>
            clear G hG hsw hsl
            obtain ⟨j, s, rfl, hj, hG, hsw, hsl, G⟩ := hrel
            by_cases hjl : j < L.length
            · obtain ⟨x, k1, f, k2, hx, hx1, hq, hfx, hne, b1, b2, hG'⟩ := hG.step hjl hnd3 (by omega) (by omega)
              obtain ⟨ad, rfl⟩ := rd_some (G.rd (.slice lo L.length lc) _ G) (by omega)
              have HX := Lib.hid (ints_at hx)
              clear hx
              as_aux_lemma =>
              go_wp2_with (first
                | ((with_reducible refine at_load ?_); refine wpu_loadC (k := j) (G.rd (.slice (some ad) L.length lc) _ G) HX.out rfl rfl rfl ?_; go_frame)
                | fail)
              refine Calls.mono (grantC G hq hfx hne (by omega) (by decide) (by decide) b1 b2) ?_
              clear G; rintro e w ⟨rfl, G⟩
              have hlen : (k1 ++ { f with win := f.win + 100 } :: k2).length ≤ 10 := by rw [hq] at hsl; simpa using hsl
              clear hq hfx hne
              go_wp2_with fail
              go_roundw
              case rel => exact ⟨j + 1, _, by go_num, by omega, hG', hsw, hlen, G⟩
              case measure => simp [intOf] <;> omega
            · obtain rfl : j = L.length := by omega
              have hD := hG.done
              clear hG
              obtain ⟨zr, e1, e2, e3, e4⟩ : ∃ z, decide ((r : Int) = 0) = z ∧ ((r : Int) == 0) = z ∧ decide (r = 0) = z ∧ (r == 0) = z := by
                by_cases h : r = 0
                · exact ⟨true, by simp [h], by simp [h], by simp [h], by simp [h]⟩
                · exact ⟨false, by simp [h], by simp [h], by simp [h], by simp [h]⟩
              obtain ⟨zR, d1, d2, d3, d4⟩ : ∃ z, decide ((R.length : Int) = 0) = z ∧ ((R.length : Int) == 0) = z ∧ decide (R = []) = z ∧ (R.length == 0) = z := by
                cases R with
                | nil => exact ⟨true, rfl, rfl, rfl, rfl⟩
                | cons x l => exact ⟨false, by simp; omega, by simp; omega, by simp, by simp⟩
              have HZ : Hid (V2 = if zr = true ∨ zR = true then V else L ++ R) := Lib.hid (by
                rw [HV2.out, ← e3, ← d3]
                simp)
              have E := Lib.hid (And.intro e1 (And.intro e2 (And.intro e3 e4)))
              have D := Lib.hid (And.intro d1 (And.intro d2 (And.intro d3 d4)))
              clear HV2 e1 e2 e3 e4 d1 d2 d3 d4
              cases zr
              · cases zR
                · as_aux_lemma =>
                  have HV3 : Hid (V2 = L ++ R) := Lib.hid (by rw [HZ.out]; simp)
                  obtain ⟨e1, e2, e3, e4⟩ := E.out
                  obtain ⟨d1, d2, d3, d4⟩ := D.out
                  clear E D HZ
                  go_wp2_with (first
                    | ((with_reducible refine at_append ?_); first
                      | (refine wpu_append0 G rfl rfl rfl rfl (G.rd (.slice lo L.length lc) _ G) (ints_one _) (by unfold maxLen; omega) (by omega) ?_; clear G; intro v w G; go_frame)
                      | (refine wpu_append G rfl rfl rfl rfl (G.rd (.slice ro R.length rc) _ G) (ints_one _) (by unfold maxLen; omega) (by omega) ?_; clear G; intro v w G; go_frame))
                    | ((with_reducible refine at_alloc ?_); refine wpu_new G ?_; clear G; intro w G)
                    | ((with_reducible refine at_drew ?_); refine wpu_drew G ?_; clear G; intro w G)
                    | ((with_reducible refine at_load ?_); first
                      | (refine wpu_load G rfl rfl rfl rfl ?_; go_frame)
                      | (refine wpu_loadB G rfl rfl rfl (by rfl) ?_; go_frame)
                      | (refine wpu_loadS G rfl rfl rfl (by rfl) ?_; simp only [List.drop_succ_cons, List.drop_zero, List.take_succ_cons, List.take_zero]; go_frame))
                    | ((with_reducible refine at_store ?_); first
                      | (refine wpu_store G rfl rfl rfl rfl (by first | rfl | assumption | simp [*]) rfl ?_; clear G; intro w G; go_frame)
                      | (refine wpu_storeB G rfl rfl rfl rfl (by rfl) (by rfl) (by first | rfl | assumption | simp [*]) ?_; clear G; intro w G; go_frame)
                      | (refine wpu_storeS G rfl rfl rfl rfl (by rfl) (by rfl) (by first | rfl | assumption | simp [*]) ?_; clear G; intro w G; go_frame))
                    | ((with_reducible refine at_convert ?_); refine wpu_str G rfl rfl rfl rfl ?_; go_frame)
                    | ((with_reducible refine at_slice ?_); first
                      | (refine wpu_sliceLo rfl rfl rfl rfl (by first | rfl | omega) (by omega) (by omega) ?_; go_frame)
                      | (refine wpu_sliceLH rfl rfl rfl rfl rfl (by first | rfl | omega) (by first | rfl | omega) (by omega) (by omega) ?_; go_frame))
                    | fail)
                  rw [← ints_app, ← List.length_append, ← HV3.out] at G
                  have hV10 : V2.length ≤ 10 := by rw [HV3.out, List.length_append]; omega
                  obtain ⟨ao, ac, rfl, p1, p2⟩ := G.hdr v
                  unfold maxLen at p2
                  go_loopw [19] (fun i wr => ∃ (r : Nat) (s : Sc) (A : List Fl), i = .int .i64 r ∧ r ≤ 3 ∧ Turn V2 [] 0 (mm - r) s A [] ∧ 65535 - 100 - 10 * (r : Int) ≤ s.win ∧ s.q.length ≤ 10 ∧ Own w0 (schA a s * (sl 1 (.slice ao V2.length ac) V2.length (ints V2) * emp)) wr) (fun i _ => 3 - (intOf i).toNat)
                  case atStart => exact ⟨0, s, _, rfl, by decide, by simpa using hD, by simp; omega, hsl, (G.sub _)⟩
                  case round =>
                    clear G hD hsw hsl
                    obtain ⟨r, s, A, rfl, hr, hT, hsw, hsl, G⟩ := hrel
                    by_cases hr3 : r < 3
                    · have hr3' : (r : Int) < 3 := by omega
                      go_wp2_with fail
                      go_loopw [20] (fun i wr => ∃ (j : Nat) (s : Sc) (A B : List Fl), i = .int .i64 j ∧ j ≤ V2.length ∧ Turn V2 [] j (mm - r) s A B ∧ 65535 - 100 - 10 * (r : Int) - j ≤ s.win ∧ s.q.length ≤ 10 ∧ Own w0 (schA a s * (sl 1 (.slice ao V2.length ac) V2.length (ints V2) * emp)) wr) (fun i _ => V2.length - (intOf i).toNat)
                      case atStart => exact ⟨0, s, A, [], rfl, Nat.zero_le _, hT, by simpa using hsw, hsl, G⟩
                      case round =>
                        clear G hT hsw hsl
                        obtain ⟨j, s, A, B, rfl, hj, hT, hsw, hsl, G⟩ := hrel
                        by_cases hjl : j < V2.length
                        · obtain ⟨x, s', A', B', hx, hn, hT', hw', hl'⟩ := hT.step (c := 10) hjl (by omega) (by decide) (by omega)
                          have hok := hT.ok
                          have hct := hT.ct
                          have HX := Lib.hid (ints_at hx)
                          obtain ⟨ad, rfl⟩ := rd_some (G.rd (.slice ao V2.length ac) _ G) (by omega)
                          clear hx hT
                          as_aux_lemma =>
                          go_wp2_with fail
                          refine Calls.mono (nextE hn (G.pullF (schA a)) hok hct (by decide) (by decide) (by omega)) ?_
                          clear G hn hok hct; rintro e w ⟨rfl, G⟩
                          go_wp2_with (first
                            | ((with_reducible refine at_alloc ?_); refine wpu_new G ?_; clear G; intro w G)
                            | ((with_reducible refine at_drew ?_); refine wpu_drew G ?_; clear G; intro w G)
                            | ((with_reducible refine at_load ?_); first
                              | (refine wpu_load G rfl rfl rfl rfl ?_; go_frame)
                              | (refine wpu_loadB G rfl rfl rfl (by rfl) ?_; go_frame)
                              | (refine wpu_loadS G rfl rfl rfl (by rfl) ?_; simp only [List.drop_succ_cons, List.drop_zero, List.take_succ_cons, List.take_zero]; go_frame))
                            | ((with_reducible refine at_store ?_); first
                              | (refine wpu_store G rfl rfl rfl rfl (by first | rfl | assumption | simp [*]) rfl ?_; clear G; intro w G; go_frame)
                              | (refine wpu_storeB G rfl rfl rfl rfl (by rfl) (by rfl) (by first | rfl | assumption | simp [*]) ?_; clear G; intro w G; go_frame)
                              | (refine wpu_storeS G rfl rfl rfl rfl (by rfl) (by rfl) (by first | rfl | assumption | simp [*]) ?_; clear G; intro w G; go_frame))
                            | ((with_reducible refine at_convert ?_); refine wpu_str G rfl rfl rfl rfl ?_; go_frame)
                            | ((with_reducible refine at_slice ?_); first
                              | (refine wpu_sliceLo rfl rfl rfl rfl (by first | rfl | omega) (by omega) (by omega) ?_; go_frame)
                              | (refine wpu_sliceLH rfl rfl rfl rfl rfl (by first | rfl | omega) (by first | rfl | omega) (by omega) (by omega) ?_; go_frame))
                            | fail)
                          refine wp_region_calm (C := Own _ _) (by kernel_rfl) (by kernel_rfl) (own_drew G) ?_
                          intro ι W hne hW hs
                          repeat (first
                            | go_big_quiet_skip
                            | ((with_reducible refine atq_load ?_); first
                              | (refine wpq_load hW rfl (by kernel_rfl) rfl rfl ?_; go_frame)
                              | (refine wpq_loadC (k := j) (fun i => G.rd (.slice (some ad) V2.length ac) _ (hW i)) HX.out rfl (by kernel_rfl) rfl ?_; go_frame))
                            | go_big_quiet_step (fail))
                          refine wpQuiet_nil ?_
                          intro i
                          have g := hW i
                          generalize W i = wg at g ⊢
                          clear hs hW hne
                          have G := g
                          clear g
                          go_wp2_with fail
                          go_roundw
                          case rel => exact ⟨j + 1, s', A', B', by go_num, by omega, hT', by omega, by omega, G.sub _⟩
                          case measure => simp [intOf] <;> omega
                        · obtain rfl : j = V2.length := by omega
                          have hT2 := hT.next (by omega)
                          as_aux_lemma =>
                          go_wp2_with fail
                          go_roundw
                          case rel => exact ⟨r + 1, s, A ++ B, by go_num, by omega, by rwa [show mm - ((r + 1 : Nat) : Int) = mm - r - 1 by omega], by omega, hsl, G⟩
                          case measure => simp [intOf] <;> omega
                    · have hr3' : ¬ (r : Int) < 3 := by omega
                      as_aux_lemma =>
                      go_wp2_with fail
                      go_ret
                      exact ⟨rfl, G.below⟩
                · as_aux_lemma =>
                  have HVW : Hid (V2 = wnt n) := Lib.hid (by rw [HZ.out]; simp [hVW, wnt])
                  have l2 : V2.length = n := by rw [HVW.out]; simp [wnt]
                  obtain ⟨e1, e2, e3, e4⟩ := E.out
                  obtain ⟨d1, d2, d3, d4⟩ := D.out
                  clear E D HZ
                  go_wp2_with (first
                    | ((with_reducible refine at_append ?_); refine wpu_append0 G rfl rfl rfl rfl (G.rd (.slice lo L.length lc) _ G) (ints_one _) (by unfold maxLen; omega) (by omega) ?_; clear G; intro v w G; go_frame)
                    | ((with_reducible refine at_alloc ?_); refine wpu_new G ?_; clear G; intro w G)
                    | ((with_reducible refine at_drew ?_); refine wpu_drew G ?_; clear G; intro w G)
                    | ((with_reducible refine at_load ?_); first
                      | (refine wpu_load G rfl rfl rfl rfl ?_; go_frame)
                      | (refine wpu_loadB G rfl rfl rfl (by rfl) ?_; go_frame)
                      | (refine wpu_loadS G rfl rfl rfl (by rfl) ?_; simp only [List.drop_succ_cons, List.drop_zero, List.take_succ_cons, List.take_zero]; go_frame))
                    | ((with_reducible refine at_store ?_); first
                      | (refine wpu_store G rfl rfl rfl rfl (by first | rfl | assumption | simp [*]) rfl ?_; clear G; intro w G; go_frame)
                      | (refine wpu_storeB G rfl rfl rfl rfl (by rfl) (by rfl) (by first | rfl | assumption | simp [*]) ?_; clear G; intro w G; go_frame)
                      | (refine wpu_storeS G rfl rfl rfl rfl (by rfl) (by rfl) (by first | rfl | assumption | simp [*]) ?_; clear G; intro w G; go_frame))
                    | ((with_reducible refine at_convert ?_); refine wpu_str G rfl rfl rfl rfl ?_; go_frame)
                    | ((with_reducible refine at_slice ?_); first
                      | (refine wpu_sliceLo rfl rfl rfl rfl (by first | rfl | omega) (by omega) (by omega) ?_; go_frame)
                      | (refine wpu_sliceLH rfl rfl rfl rfl rfl (by first | rfl | omega) (by first | rfl | omega) (by omega) (by omega) ?_; go_frame))
                    | fail)
                  have G0 : Own w0 (schA a s * emp) _ := G.sub _
                  clear G
                  have G := G0
                  clear G0
                  go_loopw [17, 18] (fun v i wr => ∃ j : Nat, i = .int .i64 j ∧ j ≤ n ∧ Own w0 (sl 1 v j (ints (wnt j)) * (schA a s * emp)) wr) (fun _ i _ => n - (intOf i).toNat)
                  case atStart => exact ⟨0, rfl, Nat.zero_le _, own_nil G 1⟩
                  case round =>
                    clear G
                    obtain ⟨j, rfl, hj, G⟩ := hrel
                    by_cases hjn : j < n
                    · as_aux_lemma =>
                      go_wp2_with (first
                        | ((with_reducible refine at_append ?_); refine wpu_append1 G rfl rfl rfl rfl (by rfl) (by rfl) (by unfold maxLen; omega) (by omega) ?_; clear G; intro v w G; go_frame)
                        | ((with_reducible refine at_alloc ?_); refine wpu_new G ?_; clear G; intro w G)
                        | ((with_reducible refine at_drew ?_); refine wpu_drew G ?_; clear G; intro w G)
                        | ((with_reducible refine at_load ?_); first
                          | (refine wpu_load G rfl rfl rfl rfl ?_; go_frame)
                          | (refine wpu_loadB G rfl rfl rfl (by rfl) ?_; go_frame)
                          | (refine wpu_loadS G rfl rfl rfl (by rfl) ?_; simp only [List.drop_succ_cons, List.drop_zero, List.take_succ_cons, List.take_zero]; go_frame))
                        | ((with_reducible refine at_store ?_); first
                          | (refine wpu_store G rfl rfl rfl rfl (by first | rfl | assumption | simp [*]) rfl ?_; clear G; intro w G; go_frame)
                          | (refine wpu_storeB G rfl rfl rfl rfl (by rfl) (by rfl) (by first | rfl | assumption | simp [*]) ?_; clear G; intro w G; go_frame)
                          | (refine wpu_storeS G rfl rfl rfl rfl (by rfl) (by rfl) (by first | rfl | assumption | simp [*]) ?_; clear G; intro w G; go_frame))
                        | ((with_reducible refine at_convert ?_); refine wpu_str G rfl rfl rfl rfl ?_; go_frame)
                        | ((with_reducible refine at_slice ?_); first
                          | (refine wpu_sliceLo rfl rfl rfl rfl (by first | rfl | omega) (by omega) (by omega) ?_; go_frame)
                          | (refine wpu_sliceLH rfl rfl rfl rfl rfl (by first | rfl | omega) (by first | rfl | omega) (by omega) (by omega) ?_; go_frame))
                        | fail)
                      rw [ints_snoc, ← wnt_succ] at G
                      go_roundw
                      case rel => exact ⟨j + 1, by go_num, by omega, G⟩
                      case measure => simp [intOf] <;> omega
                    · obtain rfl : j = n := by omega
                      rw [show wnt j = V2 from HVW.out.symm, ← l2] at G
                      have hV10 : V2.length ≤ 10 := by omega
                      clear l2
                      as_aux_lemma =>
                      go_wp2_with fail
                      skip
                      obtain ⟨ao, ac, rfl, p1, p2⟩ := G.hdr u17
                      unfold maxLen at p2
                      go_loopw [19] (fun i wr => ∃ (r : Nat) (s : Sc) (A : List Fl), i = .int .i64 r ∧ r ≤ 3 ∧ Turn V2 [] 0 (mm - r) s A [] ∧ 65535 - 100 - 10 * (r : Int) ≤ s.win ∧ s.q.length ≤ 10 ∧ Own w0 (schA a s * (sl 1 (.slice ao V2.length ac) V2.length (ints V2) * emp)) wr) (fun i _ => 3 - (intOf i).toNat)
                      case atStart => exact ⟨0, s, _, rfl, by decide, by simpa using hD, by simp; omega, hsl, (G.sub _)⟩
                      case round =>
                        clear G hD hsw hsl
                        obtain ⟨r, s, A, rfl, hr, hT, hsw, hsl, G⟩ := hrel
                        by_cases hr3 : r < 3
                        · have hr3' : (r : Int) < 3 := by omega
                          go_wp2_with fail
                          go_loopw [20] (fun i wr => ∃ (j : Nat) (s : Sc) (A B : List Fl), i = .int .i64 j ∧ j ≤ V2.length ∧ Turn V2 [] j (mm - r) s A B ∧ 65535 - 100 - 10 * (r : Int) - j ≤ s.win ∧ s.q.length ≤ 10 ∧ Own w0 (schA a s * (sl 1 (.slice ao V2.length ac) V2.length (ints V2) * emp)) wr) (fun i _ => V2.length - (intOf i).toNat)
                          case atStart => exact ⟨0, s, A, [], rfl, Nat.zero_le _, hT, by simpa using hsw, hsl, G⟩
                          case round =>
                            clear G hT hsw hsl
                            obtain ⟨j, s, A, B, rfl, hj, hT, hsw, hsl, G⟩ := hrel
                            by_cases hjl : j < V2.length
                            · obtain ⟨x, s', A', B', hx, hn, hT', hw', hl'⟩ := hT.step (c := 10) hjl (by omega) (by decide) (by omega)
                              have hok := hT.ok
                              have hct := hT.ct
                              have HX := Lib.hid (ints_at hx)
                              obtain ⟨ad, rfl⟩ := rd_some (G.rd (.slice ao V2.length ac) _ G) (by omega)
                              clear hx hT
                              as_aux_lemma =>
                              go_wp2_with fail
                              refine Calls.mono (nextE hn (G.pullF (schA a)) hok hct (by decide) (by decide) (by omega)) ?_
                              clear G hn hok hct; rintro e w ⟨rfl, G⟩
                              go_wp2_with (first
                                | ((with_reducible refine at_alloc ?_); refine wpu_new G ?_; clear G; intro w G)
                                | ((with_reducible refine at_drew ?_); refine wpu_drew G ?_; clear G; intro w G)
                                | ((with_reducible refine at_load ?_); first
                                  | (refine wpu_load G rfl rfl rfl rfl ?_; go_frame)
                                  | (refine wpu_loadB G rfl rfl rfl (by rfl) ?_; go_frame)
                                  | (refine wpu_loadS G rfl rfl rfl (by rfl) ?_; simp only [List.drop_succ_cons, List.drop_zero, List.take_succ_cons, List.take_zero]; go_frame))
                                | ((with_reducible refine at_store ?_); first
                                  | (refine wpu_store G rfl rfl rfl rfl (by first | rfl | assumption | simp [*]) rfl ?_; clear G; intro w G; go_frame)
                                  | (refine wpu_storeB G rfl rfl rfl rfl (by rfl) (by rfl) (by first | rfl | assumption | simp [*]) ?_; clear G; intro w G; go_frame)
                                  | (refine wpu_storeS G rfl rfl rfl rfl (by rfl) (by rfl) (by first | rfl | assumption | simp [*]) ?_; clear G; intro w G; go_frame))
                                | ((with_reducible refine at_convert ?_); refine wpu_str G rfl rfl rfl rfl ?_; go_frame)
                                | ((with_reducible refine at_slice ?_); first
                                  | (refine wpu_sliceLo rfl rfl rfl rfl (by first | rfl | omega) (by omega) (by omega) ?_; go_frame)
                                  | (refine wpu_sliceLH rfl rfl rfl rfl rfl (by first | rfl | omega) (by first | rfl | omega) (by omega) (by omega) ?_; go_frame))
                                | fail)
                              refine wp_region_calm (C := Own _ _) (by kernel_rfl) (by kernel_rfl) (own_drew G) ?_
                              intro ι W hne hW hs
                              repeat (first
                                | go_big_quiet_skip
                                | ((with_reducible refine atq_load ?_); first
                                  | (refine wpq_load hW rfl (by kernel_rfl) rfl rfl ?_; go_frame)
                                  | (refine wpq_loadC (k := j) (fun i => G.rd (.slice (some ad) V2.length ac) _ (hW i)) HX.out rfl (by kernel_rfl) rfl ?_; go_frame))
                                | go_big_quiet_step (fail))
                              refine wpQuiet_nil ?_
                              intro i
                              have g := hW i
                              generalize W i = wg at g ⊢
                              clear hs hW hne
                              have G := g
                              clear g
                              go_wp2_with fail
                              go_roundw
                              case rel => exact ⟨j + 1, s', A', B', by go_num, by omega, hT', by omega, by omega, G.sub _⟩
                              case measure => simp [intOf] <;> omega
                            · obtain rfl : j = V2.length := by omega
                              have hT2 := hT.next (by omega)
                              as_aux_lemma =>
                              go_wp2_with fail
                              go_roundw
                              case rel => exact ⟨r + 1, s, A ++ B, by go_num, by omega, by rwa [show mm - ((r + 1 : Nat) : Int) = mm - r - 1 by omega], by omega, hsl, G⟩
                              case measure => simp [intOf] <;> omega
                        · have hr3' : ¬ (r : Int) < 3 := by omega
                          as_aux_lemma =>
                          go_wp2_with fail
                          go_ret
                          exact ⟨rfl, G.below⟩
              · as_aux_lemma =>
                have HVW : Hid (V2 = wnt n) := Lib.hid (by rw [HZ.out]; simp [hVW, wnt])
                have l2 : V2.length = n := by rw [HVW.out]; simp [wnt]
                obtain ⟨e1, e2, e3, e4⟩ := E.out
                clear E D HZ
                go_wp2_with (first
                  | ((with_reducible refine at_append ?_); refine wpu_append0 G rfl rfl rfl rfl (G.rd (.slice lo L.length lc) _ G) (ints_one _) (by unfold maxLen; omega) (by omega) ?_; clear G; intro v w G; go_frame)
                  | ((with_reducible refine at_alloc ?_); refine wpu_new G ?_; clear G; intro w G)
                  | ((with_reducible refine at_drew ?_); refine wpu_drew G ?_; clear G; intro w G)
                  | ((with_reducible refine at_load ?_); first
                    | (refine wpu_load G rfl rfl rfl rfl ?_; go_frame)
                    | (refine wpu_loadB G rfl rfl rfl (by rfl) ?_; go_frame)
                    | (refine wpu_loadS G rfl rfl rfl (by rfl) ?_; simp only [List.drop_succ_cons, List.drop_zero, List.take_succ_cons, List.take_zero]; go_frame))
                  | ((with_reducible refine at_store ?_); first
                    | (refine wpu_store G rfl rfl rfl rfl (by first | rfl | assumption | simp [*]) rfl ?_; clear G; intro w G; go_frame)
                    | (refine wpu_storeB G rfl rfl rfl rfl (by rfl) (by rfl) (by first | rfl | assumption | simp [*]) ?_; clear G; intro w G; go_frame)
                    | (refine wpu_storeS G rfl rfl rfl rfl (by rfl) (by rfl) (by first | rfl | assumption | simp [*]) ?_; clear G; intro w G; go_frame))
                  | ((with_reducible refine at_convert ?_); refine wpu_str G rfl rfl rfl rfl ?_; go_frame)
                  | ((with_reducible refine at_slice ?_); first
                    | (refine wpu_sliceLo rfl rfl rfl rfl (by first | rfl | omega) (by omega) (by omega) ?_; go_frame)
                    | (refine wpu_sliceLH rfl rfl rfl rfl rfl (by first | rfl | omega) (by first | rfl | omega) (by omega) (by omega) ?_; go_frame))
                  | fail)
                have G0 : Own w0 (schA a s * emp) _ := G.sub _
                clear G
                have G := G0
                clear G0
                go_loopw [17, 18] (fun v i wr => ∃ j : Nat, i = .int .i64 j ∧ j ≤ n ∧ Own w0 (sl 1 v j (ints (wnt j)) * (schA a s * emp)) wr) (fun _ i _ => n - (intOf i).toNat)
                case atStart => exact ⟨0, rfl, Nat.zero_le _, own_nil G 1⟩
                case round =>
                  clear G
                  obtain ⟨j, rfl, hj, G⟩ := hrel
                  by_cases hjn : j < n
                  · as_aux_lemma =>
                    go_wp2_with (first
                      | ((with_reducible refine at_append ?_); refine wpu_append1 G rfl rfl rfl rfl (by rfl) (by rfl) (by unfold maxLen; omega) (by omega) ?_; clear G; intro v w G; go_frame)
                      | ((with_reducible refine at_alloc ?_); refine wpu_new G ?_; clear G; intro w G)
                      | ((with_reducible refine at_drew ?_); refine wpu_drew G ?_; clear G; intro w G)
                      | ((with_reducible refine at_load ?_); first
                        | (refine wpu_load G rfl rfl rfl rfl ?_; go_frame)
                        | (refine wpu_loadB G rfl rfl rfl (by rfl) ?_; go_frame)
                        | (refine wpu_loadS G rfl rfl rfl (by rfl) ?_; simp only [List.drop_succ_cons, List.drop_zero, List.take_succ_cons, List.take_zero]; go_frame))
                      | ((with_reducible refine at_store ?_); first
                        | (refine wpu_store G rfl rfl rfl rfl (by first | rfl | assumption | simp [*]) rfl ?_; clear G; intro w G; go_frame)
                        | (refine wpu_storeB G rfl rfl rfl rfl (by rfl) (by rfl) (by first | rfl | assumption | simp [*]) ?_; clear G; intro w G; go_frame)
                        | (refine wpu_storeS G rfl rfl rfl rfl (by rfl) (by rfl) (by first | rfl | assumption | simp [*]) ?_; clear G; intro w G; go_frame))
                      | ((with_reducible refine at_convert ?_); refine wpu_str G rfl rfl rfl rfl ?_; go_frame)
                      | ((with_reducible refine at_slice ?_); first
                        | (refine wpu_sliceLo rfl rfl rfl rfl (by first | rfl | omega) (by omega) (by omega) ?_; go_frame)
                        | (refine wpu_sliceLH rfl rfl rfl rfl rfl (by first | rfl | omega) (by first | rfl | omega) (by omega) (by omega) ?_; go_frame))
                      | fail)
                    rw [ints_snoc, ← wnt_succ] at G
                    go_roundw
                    case rel => exact ⟨j + 1, by go_num, by omega, G⟩
                    case measure => simp [intOf] <;> omega
                  · obtain rfl : j = n := by omega
                    rw [show wnt j = V2 from HVW.out.symm, ← l2] at G
                    have hV10 : V2.length ≤ 10 := by omega
                    clear l2
                    as_aux_lemma =>
                    go_wp2_with fail
                    skip
                    obtain ⟨ao, ac, rfl, p1, p2⟩ := G.hdr u17
                    unfold maxLen at p2
                    go_loopw [19] (fun i wr => ∃ (r : Nat) (s : Sc) (A : List Fl), i = .int .i64 r ∧ r ≤ 3 ∧ Turn V2 [] 0 (mm - r) s A [] ∧ 65535 - 100 - 10 * (r : Int) ≤ s.win ∧ s.q.length ≤ 10 ∧ Own w0 (schA a s * (sl 1 (.slice ao V2.length ac) V2.length (ints V2) * emp)) wr) (fun i _ => 3 - (intOf i).toNat)
                    case atStart => exact ⟨0, s, _, rfl, by decide, by simpa using hD, by simp; omega, hsl, (G.sub _)⟩
                    case round =>
                      clear G hD hsw hsl
                      obtain ⟨r, s, A, rfl, hr, hT, hsw, hsl, G⟩ := hrel
                      by_cases hr3 : r < 3
                      · have hr3' : (r : Int) < 3 := by omega
                        go_wp2_with fail
                        go_loopw [20] (fun i wr => ∃ (j : Nat) (s : Sc) (A B : List Fl), i = .int .i64 j ∧ j ≤ V2.length ∧ Turn V2 [] j (mm - r) s A B ∧ 65535 - 100 - 10 * (r : Int) - j ≤ s.win ∧ s.q.length ≤ 10 ∧ Own w0 (schA a s * (sl 1 (.slice ao V2.length ac) V2.length (ints V2) * emp)) wr) (fun i _ => V2.length - (intOf i).toNat)
                        case atStart => exact ⟨0, s, A, [], rfl, Nat.zero_le _, hT, by simpa using hsw, hsl, G⟩
                        case round =>
                          clear G hT hsw hsl
                          obtain ⟨j, s, A, B, rfl, hj, hT, hsw, hsl, G⟩ := hrel
                          by_cases hjl : j < V2.length
                          · obtain ⟨x, s', A', B', hx, hn, hT', hw', hl'⟩ := hT.step (c := 10) hjl (by omega) (by decide) (by omega)
                            have hok := hT.ok
                            have hct := hT.ct
                            have HX := Lib.hid (ints_at hx)
                            obtain ⟨ad, rfl⟩ := rd_some (G.rd (.slice ao V2.length ac) _ G) (by omega)
                            clear hx hT
                            as_aux_lemma =>
                            go_wp2_with fail
                            refine Calls.mono (nextE hn (G.pullF (schA a)) hok hct (by decide) (by decide) (by omega)) ?_
                            clear G hn hok hct; rintro e w ⟨rfl, G⟩
                            go_wp2_with (first
                              | ((with_reducible refine at_alloc ?_); refine wpu_new G ?_; clear G; intro w G)
                              | ((with_reducible refine at_drew ?_); refine wpu_drew G ?_; clear G; intro w G)
                              | ((with_reducible refine at_load ?_); first
                                | (refine wpu_load G rfl rfl rfl rfl ?_; go_frame)
                                | (refine wpu_loadB G rfl rfl rfl (by rfl) ?_; go_frame)
                                | (refine wpu_loadS G rfl rfl rfl (by rfl) ?_; simp only [List.drop_succ_cons, List.drop_zero, List.take_succ_cons, List.take_zero]; go_frame))
                              | ((with_reducible refine at_store ?_); first
                                | (refine wpu_store G rfl rfl rfl rfl (by first | rfl | assumption | simp [*]) rfl ?_; clear G; intro w G; go_frame)
                                | (refine wpu_storeB G rfl rfl rfl rfl (by rfl) (by rfl) (by first | rfl | assumption | simp [*]) ?_; clear G; intro w G; go_frame)
                                | (refine wpu_storeS G rfl rfl rfl rfl (by rfl) (by rfl) (by first | rfl | assumption | simp [*]) ?_; clear G; intro w G; go_frame))
                              | ((with_reducible refine at_convert ?_); refine wpu_str G rfl rfl rfl rfl ?_; go_frame)
                              | ((with_reducible refine at_slice ?_); first
                                | (refine wpu_sliceLo rfl rfl rfl rfl (by first | rfl | omega) (by omega) (by omega) ?_; go_frame)
                                | (refine wpu_sliceLH rfl rfl rfl rfl rfl (by first | rfl | omega) (by first | rfl | omega) (by omega) (by omega) ?_; go_frame))
                              | fail)
                            refine wp_region_calm (C := Own _ _) (by kernel_rfl) (by kernel_rfl) (own_drew G) ?_
                            intro ι W hne hW hs
                            repeat (first
                              | go_big_quiet_skip
                              | ((with_reducible refine atq_load ?_); first
                                | (refine wpq_load hW rfl (by kernel_rfl) rfl rfl ?_; go_frame)
                                | (refine wpq_loadC (k := j) (fun i => G.rd (.slice (some ad) V2.length ac) _ (hW i)) HX.out rfl (by kernel_rfl) rfl ?_; go_frame))
                              | go_big_quiet_step (fail))
                            refine wpQuiet_nil ?_
                            intro i
                            have g := hW i
                            generalize W i = wg at g ⊢
                            clear hs hW hne
                            have G := g
                            clear g
                            go_wp2_with fail
                            go_roundw
                            case rel => exact ⟨j + 1, s', A', B', by go_num, by omega, hT', by omega, by omega, G.sub _⟩
                            case measure => simp [intOf] <;> omega
                          · obtain rfl : j = V2.length := by omega
                            have hT2 := hT.next (by omega)
                            as_aux_lemma =>
                            go_wp2_with fail
                            go_roundw
                            case rel => exact ⟨r + 1, s, A ++ B, by go_num, by omega, by rwa [show mm - ((r + 1 : Nat) : Int) = mm - r - 1 by omega], by omega, hsl, G⟩
                            case measure => simp [intOf] <;> omega
                      · have hr3' : ¬ (r : Int) < 3 := by omega
                        as_aux_lemma =>
                        go_wp2_with fail
                        go_ret
                        exact ⟨rfl, G.below⟩

theorem contract {H : Type} {enc : TypeId × Value → H} {W : World} {vs : List Value} {ds : List (DataW H)}
    (hA : Args enc Try.prog W [46, 3] vs ds) (hsz : (DataW.weightsEach Try.prog [46, 3] ds).all (· ≤ reachBytes) = true) :
    Calls Try.prog 5 vs.toArray W fun e W' => e = .returned (.bool true) ∧ Below W.heap.size W W' := by
  obtain ⟨v0, _, d0, _, rfl, rfl, h0, hA⟩ := args_cons hA
  obtain ⟨v1, _, d1, _, rfl, rfl, h1, hA⟩ := args_cons hA
  obtain ⟨rfl, rfl⟩ := args_nil hA
  obtain ⟨nw, xw, hw, hwe⟩ := arg_bools Try.underlying46 (by kernel_rfl) Try.underlying4 h0
  obtain ⟨m, rfl, m1, m2⟩ := arg_i64 Try.underlying3 h1
  exact queueW hw hwe


theorem spec {H : Type} : ∀ ds : List (DataW H), ds.length = 2 → Rows.schedQueueSpec.fn H ds = { results := [.lit (.bool true)], args := ds }
  | [_, _], _ => rfl
  | [], h => by cases h
  | [_], h => by cases h
  | _ :: _ :: _ :: _, h => by simp at h
set_option maxRecDepth 100000 in
theorem lifted (os : Os) (started : os.Started) (H : Type) (enc : TypeId × Value → H) :
    ReturnsInHanded {} Try.checked os 5 .any (Rows.schedQueueSpec.pre6 enc Try.prog Try.f5 Rows.schedQueueRow.domain false) (Rows.schedQueueSpec.post enc Try.prog Try.f5 false true false false) :=
  lifted_of_law (C := Try.checked) (fn := Try.f5) (s := Rows.schedQueueSpec) (tb := 4) (by kernel_rfl) started (by kernel_rfl) Try.func5
    (ChangeSpec.witness6 (enc := enc) (C := Try.checked) false ⟨#[], #[.slice none 0 0, .int .i64 0], []⟩ 8 (by kernel_rfl) (by kernel_rfl) (by kernel_rfl) (by kernel_rfl))
    rfl spec (by kernel_rfl) Try.underlying4 (by kernel_rfl) (by kernel_rfl) (fun _ _ _ h1 h2 => contract h1 h2)

theorem proved : Rows.SchedQueueSaid :=
  OpenClaim.holds_of_wide 5 Try.f5 rfl rfl rfl rfl rfl rfl rfl ⟨rfl, rfl, rfl, rfl, rfl⟩ rfl rfl rfl rfl rfl (by kernel_rfl) Try.func5 (by kernel_rfl)
    (of_decide_eq_true (by kernel_rfl)) (by unfold Func.isWrapper; first | (rw [if_pos (by decide +kernel)]; kernel_rfl) | (rw [if_neg (by decide +kernel)]; exact ⟨rfl, rfl⟩))
    (fun os started H enc _ => lifted os started H enc)
end Go.Proofs.Ytbekaeahedkeoaa.schedQueue
