




/-
  RouteTables: a table takes what is right and newer.
-/
import Derived.Test.YtjcpfldobiekbaaDoorRtPushR
import Derived.Test.YtjcpfldobiekbaaDoorLawD
import Derived.Test.YtjcpfldobiekbaaDoorTie
import Derived.Test.YtjcpfldobiekbaaDoorCards
import Derived.SevenTiedAt
namespace Go.Proofs.YtjcpfldobiekbaaDoor.routeTables
open Go.RowKit Go.Sl Go.ChangeShapes Go.Fl

set_option maxHeartbeats 16000000 in
set_option maxRecDepth 100000 in
theorem tabW {w0 : World} {v : Value} {L : List Sn} {xs : List Value} (hA0 : rd w0 3 v L.length xs) (hL : rdL rdSn 3 w0 xs L) (okL : ∀ s ∈ L, s.ok) :
    Calls Tryd.prog 7 #[v] w0 fun e w' => e = .returned (.bool true) ∧ Below w0.heap.size w0 w' := by
  obtain ⟨lo, lc, rfl, j1, j2, -⟩ := id hA0
  unfold maxLen at j2
  have HA : ∀ A w, Own w0 A w → rd w 3 (.slice lo L.length lc) L.length xs := fun A w h => hA0.old h
  have G := own_begin w0
  clear hA0
  go_enter Tryd.func7, Tryd.ntmps7
  go_wp2_with (first
    | ((with_reducible refine at_alloc ?_); refine wpu_new G ?_; clear G; intro w G)
    | ((with_reducible refine at_drew ?_); refine wpu_drew G ?_; clear G; intro w G)
    | fail)
  refine Calls.mono (shownC G) ?_
  clear G; rintro e w ⟨rfl, G⟩
  go_wp2_with fail
  refine Calls.mono (newC G) ?_
  clear G; rintro e w ⟨tb, rfl, G⟩
  go_wp2_with (first
    | ((with_reducible refine at_alloc ?_); refine wpu_new G ?_; clear G; intro w G)
    | ((with_reducible refine at_drew ?_); refine wpu_drew G ?_; clear G; intro w G)
    | fail)
  obtain ⟨rb, hrb, G⟩ := own_named G
  rw [hrb]
  clear hrb
  replace G := own_tbl_mk (b := rb) (s := noSn) ((own_noSn G).eq (A' := blk rb [.int .i64 noSn.version, .slice none 0 0, .slice none 0 0] * (snA [.int .i64 noSn.version, .slice none 0 0, .slice none 0 0] noSn * (tblA tb noSn * emp))) (by
    show snA [.int .i64 0, .slice none 0 0, .slice none 0 0] noSn * (blk rb [.int .i64 0, .slice none 0 0, .slice none 0 0] * (tblA tb noSn * emp)) = _
    ac_rfl))
  have G0 := Lib.hid (G.sub (tblA tb noSn * tblA rb noSn))
  clear G
  go_loopw [6, 7, 8, 9, 10, 11, 12, 13] (fun i _ _ _ _ _ _ _ wr => ∃ (j : Nat) (t : Sn), i = .int .i64 j ∧ j ≤ L.length ∧ Hid t.fine ∧ Own w0 (tblA tb t * tblA rb t) wr) (fun i _ _ _ _ _ _ _ _ => L.length - (intOf i).toNat)
  case atStart => exact ⟨0, noSn, rfl, Nat.zero_le _, Lib.hid fine_no, G0.out⟩
  case round =>
    clear G0
    obtain ⟨j, t, rfl, hj, HT, G⟩ := hrel
    by_cases hjn : j < L.length
    · by_cases hjm : j < 20
      · obtain ⟨s, hx⟩ : ∃ s, L[j]? = some s := ⟨L[j], List.getElem?_eq_getElem hjn⟩
        have ok2 := cut_ok (okL s (List.mem_of_getElem? hx))
        have hs0 := hL.2 j s hx
        obtain ⟨ad, rfl⟩ := rd_some (HA _ _ G) (by omega)
        obtain ⟨vc0, vh0, ys0, hcs, -, -, -⟩ := id hs0
        have HX := Lib.hid hcs
        rw [hcs] at hs0
        obtain ⟨S, hS⟩ : ∃ S, cutSn s = S := ⟨_, rfl⟩
        have HS := Lib.hid hS
        rw [hS] at ok2
        obtain ⟨ver, hver⟩ : ∃ v, s.version = v := ⟨_, rfl⟩
        rw [hver] at HX hs0
        have HVER := Lib.hid hver
        clear hx hcs hS hver
        go_wp2_with (first
          | ((with_reducible refine at_load ?_); refine wpu_loadE (k := j) (HA _ _ G) HX.out rfl (by kernel_rfl) rfl rfl ?_; go_frame)
          | fail)
        refine Calls.mono (cutC (hs0.old G)) ?_
        rintro e w1 ⟨nc, nh, rfl, G1⟩
        replace G := own_join G G1
        clear G1
        have o1 : nc.oneCell' = true := by obtain ⟨_, _, _, e0, _, g⟩ := own_snA G; injection e0 with _ e0; injection e0 with e1 _; rw [e1]; exact (own_rd g).one
        have o2 : nh.oneCell' = true := by obtain ⟨_, _, _, e0, _, g⟩ := own_snA G; injection e0 with _ e0; injection e0 with _ e0; injection e0 with e1 _; rw [e1]; exact (own_rd g.right).one
        rw [HS.out, HVER.out] at G
        rw [HVER.out]
        go_wp2_with (first
          | ((with_reducible refine at_alloc ?_); refine wpu_new G ?_; clear G; intro w G)
          | ((with_reducible refine at_drew ?_); refine wpu_drew G ?_; clear G; intro w G)
          | ((with_reducible refine at_store ?_); refine wpu_storeB G rfl rfl rfl rfl (by rfl) (by rfl) (by simp only [List.all_cons, o1, o2]; rfl) ?_; clear G; intro w G; go_frame)
          | fail)
        obtain ⟨b7, hb7, G⟩ := own_named G
        rw [hb7]
        clear hb7 o1 o2
        replace G := own_drew G
        refine wp_region_mix [3, 0, 1, 3, 3, 3, 3, 0, 1, 1, 3] (Own w0 (blk b7 [.int .i64 ver, nc, nh])) (by kernel_rfl) (by kernel_rfl) (G.sub _) ?_
        have GB : Own w0 (blk b7 [.int .i64 ver, nc, nh]) _ := G.sub _
        refine mix_plain 1 (by rfl) (by rfl) ?_
        intro ι W hne
        dsimp only [List.take, List.drop]
        repeat (go_big_quiet_step (fail))
        refine wpQuiet_nil ?_
        clear hne W ι
        refine mix_calm 1 (GB) (by rfl) (by rfl) ?_
        intro ι W hne hW
        dsimp only [List.take, List.drop]
        repeat (first | ((with_reducible refine atq_load ?_); first | (refine wpq_load hW rfl rfl rfl rfl ?_; go_frame) | (refine wpq_loadB hW rfl rfl rfl (by rfl) ?_; go_frame) | (refine wpq_loadS hW rfl rfl rfl (by rfl) ?_; simp only [List.drop_succ_cons, List.drop_zero, List.take_succ_cons, List.take_zero]; go_frame)) | (fail) | go_big_quiet_step (fail))
        refine wpQuiet_nil ?_
        clear  hW hne W ι
        clear GB
        refine mix_loud rfl (fun K hK => ?_)
        go_wp2_with fail
        replace G := G.sub (tblA tb t * (tblA rb t * (snA [.int .i64 ver, nc, nh] S * blk b7 [.int .i64 ver, nc, nh])))
        refine Calls.mono (pushC (s := S) G (fun u h => sn_read (h.pull (snA [.int .i64 ver, nc, nh] S))) ok2) ?_
        clear G; rintro e w ⟨rfl, G⟩
        refine hK _ _ ⟨G.sub _, ?_⟩
        clear hK
        try go_frame
        have GB : Own w0 (blk b7 [.int .i64 ver, nc, nh]) _ := G.sub _
        refine mix_plain 4 (by rfl) (by rfl) ?_
        intro ι W hne
        dsimp only [List.take, List.drop]
        repeat (go_big_quiet_step (fail))
        refine wpQuiet_nil ?_
        clear hne W ι
        refine mix_calm 1 (GB) (by rfl) (by rfl) ?_
        intro ι W hne hW
        dsimp only [List.take, List.drop]
        repeat (first | ((with_reducible refine atq_load ?_); refine wpq_loadE (k := j) (fun i => HA _ _ (hW i)) HX.out rfl (by kernel_rfl) rfl rfl ?_; go_frame) | ((with_reducible refine atq_load ?_); first | (refine wpq_load hW rfl rfl rfl rfl ?_; go_frame) | (refine wpq_loadB hW rfl rfl rfl (by rfl) ?_; go_frame)) | go_big_quiet_step (fail))
        refine wpQuiet_nil ?_
        clear  hW hne W ι
        clear GB
        refine mix_loud rfl (fun K hK => ?_)
        go_wp2_with fail
        refine Calls.mono (cutC (hs0.old G)) ?_
        rintro e w1 ⟨mc, mh, rfl, G1⟩
        replace G := own_join G G1
        clear G1
        rw [HS.out, HVER.out] at G
        rw [HVER.out]
        refine hK _ _ ⟨G.sub _, ?_⟩
        clear hK
        try go_frame
        refine mix_loud rfl (fun K hK => ?_)
        go_wp2_with fail
        obtain ⟨T, hT⟩ : ∃ T, (if pushR t S then S else t) = T := ⟨_, rfl⟩
        rw [hT] at G
        replace G := G.sub (tblA rb t * (tblA tb T * (snA [.int .i64 ver, mc, mh] S * (snA [.int .i64 ver, nc, nh] S * blk b7 [.int .i64 ver, nc, nh]))))
        refine Calls.mono (pushRefC (s := S) G (fun u h => sn_read (h.pull (snA [.int .i64 ver, mc, mh] S))) ok2) ?_
        clear G; rintro e w ⟨rfl, G⟩
        rw [hT] at G
        have HT' : Hid T.fine := Lib.hid (hT ▸ fine_push HT.out)
        clear HT hT
        generalize pushR t S = p
        refine hK _ _ ⟨G.sub _, ?_⟩
        clear hK
        try go_frame
        refine mix_plain 1 (by rfl) (by rfl) ?_
        intro ι W hne
        dsimp only [List.take, List.drop]
        repeat (go_big_quiet_step (fail))
        refine wpQuiet_nil ?_
        clear hne W ι
        refine mix_nil ?_
        go_wp2_with fail
        obtain ⟨_, _, rows, e0, h2, G⟩ := own_snA (G.pull (snA [.int .i64 ver, nc, nh] S))
        injection e0 with e1 e0; injection e0 with e2 e0; injection e0 with e3 _
        subst e2 e3
        obtain ⟨ho, hcap, rfl, i3, i4⟩ := G.hdr nh
        unfold maxLen at i4
        replace G := own_starW (G.pull (starL hsA rows S.hosts))
        have H2 := Lib.hid h2
        clear h2 e1
        have G0 := Lib.hid (G.sub (starL hsW rows S.hosts * (sl 2 (.slice ho S.hosts.length hcap) S.hosts.length rows.flatten * (blk b7 [.int .i64 ver, nc, .slice ho S.hosts.length hcap] * (tblA tb T * tblA rb T)))))
        clear G
        go_loopw [8, 9, 10] (fun k _ _ wr => ∃ K : Nat, k = .int .i64 K ∧ K ≤ S.hosts.length ∧ Own w0 (starL hsW rows S.hosts * (sl 2 (.slice ho S.hosts.length hcap) S.hosts.length rows.flatten * (blk b7 [.int .i64 ver, nc, .slice ho S.hosts.length hcap] * (tblA tb T * tblA rb T)))) wr) (fun k _ _ _ => S.hosts.length - (intOf k).toNat)
        case atStart => exact ⟨0, rfl, Nat.zero_le _, G0.out⟩
        case round =>
          clear G0
          obtain ⟨K, rfl, hK, G⟩ := hrel
          by_cases hKn : K < S.hosts.length
          · obtain ⟨h, hh⟩ : ∃ h, S.hosts[K]? = some h := ⟨S.hosts[K], List.getElem?_eq_getElem hKn⟩
            obtain ⟨ha, rfl⟩ := rd_some (own_rd (G.pull (sl 2 (.slice ho S.hosts.length hcap) S.hosts.length rows.flatten))) (by omega)
            obtain ⟨c, hc', R1, eR, -⟩ := starL_at G hh
            have hx2 := flat_at H2.out hc'
            rw [eR] at G
            obtain ⟨vn, vr, ys, zs, rr, ec, G2⟩ := own_hsW (G.pull (hsW c h))
            clear G
            rw [ec] at hx2 eR
            have HX2 := Lib.hid hx2
            have HR := Lib.hid eR
            have G := G2
            clear G2 hx2 ec
            obtain ⟨no, ncap, rfl, i5, i6⟩ := G.hdr vn
            obtain ⟨ro, rc, rfl, i7, i8⟩ := G.hdr vr
            unfold maxLen at i6 i8
            clear hc' eR hh
            go_wp2_with (first
              | ((with_reducible refine at_load ?_); refine wpu_load G rfl (by kernel_rfl) rfl rfl ?_; go_frame)
              | fail)
            have G0 := Lib.hid (G.sub (sl 1 (.slice no h.names.length ncap) h.names.length ys * (sl 7 (.slice ro h.routes.length rc) h.routes.length zs * (rr * (R1 * (sl 2 (.slice (some ha) S.hosts.length hcap) S.hosts.length rows.flatten * (blk b7 [.int .i64 ver, nc, .slice (some ha) S.hosts.length hcap] * (tblA tb T * tblA rb T))))))))
            clear G
            go_loopw [9] (fun k wr => ∃ (q : Nat) (ys : List Value), k = .int .i64 q ∧ q ≤ h.names.length ∧ Own w0 (sl 1 (.slice no h.names.length ncap) h.names.length ys * (sl 7 (.slice ro h.routes.length rc) h.routes.length zs * (rr * (R1 * (sl 2 (.slice (some ha) S.hosts.length hcap) S.hosts.length rows.flatten * (blk b7 [.int .i64 ver, nc, .slice (some ha) S.hosts.length hcap] * (tblA tb T * tblA rb T))))))) wr) (fun k _ => h.names.length - (intOf k).toNat)
            case atStart => exact ⟨0, _, rfl, Nat.zero_le _, G0.out⟩
            case round =>
              clear G0
              obtain ⟨q, ys, rfl, hq, G⟩ := hrel
              by_cases hqn : q < h.names.length
              · obtain ⟨na, rfl⟩ := rd_some (own_rd G) (by omega)
                go_wp2_with (first
                  | ((with_reducible refine at_load ?_); first
                | (refine wpu_load G rfl (by kernel_rfl) rfl rfl ?_; go_frame)
                | (refine wpu_loadF0 (k := K) (own_rd (G.pull (sl 2 (.slice (some ha) S.hosts.length hcap) S.hosts.length rows.flatten))) HX2.out rfl (by kernel_rfl) rfl rfl ?_; go_frame)
                | (refine wpu_loadF (k := K) (j := 0) (own_rd (G.pull (sl 2 (.slice (some ha) S.hosts.length hcap) S.hosts.length rows.flatten))) HX2.out rfl (by kernel_rfl) rfl rfl ?_; go_frame))
                  | ((with_reducible refine at_store ?_); refine wpu_store1 (s := na) (n := h.names.length) (cap := ncap) (k := q) G rfl rfl rfl rfl rfl hqn ?_; clear G; intro w G; go_frame)
                  | fail)
                go_roundw
                case rel => exact ⟨q + 1, _, by go_num, by omega, G⟩
                case measure => simp [intOf] <;> omega
              · go_wp2_with (first
                  | ((with_reducible refine at_load ?_); first
                | (refine wpu_load G rfl (by kernel_rfl) rfl rfl ?_; go_frame)
                | (refine wpu_loadF0 (k := K) (own_rd (G.pull (sl 2 (.slice (some ha) S.hosts.length hcap) S.hosts.length rows.flatten))) HX2.out rfl (by kernel_rfl) rfl rfl ?_; go_frame)
                | (refine wpu_loadF (k := K) (j := 0) (own_rd (G.pull (sl 2 (.slice (some ha) S.hosts.length hcap) S.hosts.length rows.flatten))) HX2.out rfl (by kernel_rfl) rfl rfl ?_; go_frame))
                  | fail)
                have G0 := Lib.hid G
                clear G
                go_loopw [10] (fun k wr => ∃ (q : Nat) (zs : List Value), k = .int .i64 q ∧ q ≤ h.routes.length ∧ Own w0 (sl 1 (.slice no h.names.length ncap) h.names.length ys * (sl 7 (.slice ro h.routes.length rc) h.routes.length zs * (rr * (R1 * (sl 2 (.slice (some ha) S.hosts.length hcap) S.hosts.length rows.flatten * (blk b7 [.int .i64 ver, nc, .slice (some ha) S.hosts.length hcap] * (tblA tb T * tblA rb T))))))) wr) (fun k _ => h.routes.length - (intOf k).toNat)
                case atStart => exact ⟨0, _, rfl, Nat.zero_le _, G0.out⟩
                case round =>
                  clear G0
                  obtain ⟨q, zs, rfl, hq, G⟩ := hrel
                  by_cases hqn : q < h.routes.length
                  · obtain ⟨ra, rfl⟩ := rd_some (own_rd (G.pull (sl 7 (.slice ro h.routes.length rc) h.routes.length zs))) (by omega)
                    go_wp2_with (first
                      | ((with_reducible refine at_load ?_); first
                | (refine wpu_load G rfl (by kernel_rfl) rfl rfl ?_; go_frame)
                | (refine wpu_loadF0 (k := K) (own_rd (G.pull (sl 2 (.slice (some ha) S.hosts.length hcap) S.hosts.length rows.flatten))) HX2.out rfl (by kernel_rfl) rfl rfl ?_; go_frame)
                | (refine wpu_loadF (k := K) (j := 0) (own_rd (G.pull (sl 2 (.slice (some ha) S.hosts.length hcap) S.hosts.length rows.flatten))) HX2.out rfl (by kernel_rfl) rfl rfl ?_; go_frame))
                      | ((with_reducible refine at_store ?_); refine wpu_storeF0 (s := ra) (k := q) (cap := rc) (sz := 7) (n := h.routes.length) G rfl rfl rfl rfl rfl (by omega) ?_; clear G; intro w G; go_frame)
                      | fail)
                    go_roundw
                    case rel => exact ⟨q + 1, _, by go_num, by omega, G.eq (by ac_rfl)⟩
                    case measure => simp [intOf] <;> omega
                  · go_wp2_with (first
                      | ((with_reducible refine at_load ?_); first
                | (refine wpu_load G rfl (by kernel_rfl) rfl rfl ?_; go_frame)
                | (refine wpu_loadF0 (k := K) (own_rd (G.pull (sl 2 (.slice (some ha) S.hosts.length hcap) S.hosts.length rows.flatten))) HX2.out rfl (by kernel_rfl) rfl rfl ?_; go_frame)
                | (refine wpu_loadF (k := K) (j := 0) (own_rd (G.pull (sl 2 (.slice (some ha) S.hosts.length hcap) S.hosts.length rows.flatten))) HX2.out rfl (by kernel_rfl) rfl rfl ?_; go_frame))
                      | fail)
                    go_roundw
                    case rel => exact ⟨K + 1, by go_num, by omega, by
                      rw [HR.out]
                      exact (own_hsW_mk (h := h) G).eq (by ac_rfl)⟩
                    case measure => simp [intOf] <;> omega
          · go_wp2_with (first
              | ((with_reducible refine at_load ?_); refine wpu_load G rfl (by kernel_rfl) rfl rfl ?_; go_frame)
              | fail)
            clear H2
            replace G := G.sub (tblA tb T * tblA rb T)
            refine Calls.mono (nowC G HT'.out.small) ?_
            clear G; rintro e w ⟨uc, uh, rfl, G⟩
            have o1 : uc.oneCell' = true := by obtain ⟨_, _, _, e0, _, g⟩ := own_snA G; injection e0 with _ e0; injection e0 with e1 _; rw [e1]; exact (own_rd g).one
            have o2 : uh.oneCell' = true := by obtain ⟨_, _, _, e0, _, g⟩ := own_snA G; injection e0 with _ e0; injection e0 with _ e0; injection e0 with e1 _; rw [e1]; exact (own_rd g.right).one
            obtain ⟨rc, rh, G⟩ := own_tbl (G.pull (tblA rb T))
            go_wp2_with (first
              | ((with_reducible refine at_alloc ?_); refine wpu_new G ?_; clear G; intro w G)
              | ((with_reducible refine at_drew ?_); refine wpu_drew G ?_; clear G; intro w G)
              | ((with_reducible refine at_store ?_); refine wpu_storeB G rfl rfl rfl rfl (by rfl) (by rfl) (by simp only [List.all_cons, o1, o2]; rfl) ?_; clear G; intro w G; go_frame)
              | fail)
            obtain ⟨b11, hb11, G⟩ := own_named G
            rw [hb11]
            clear hb11 o1 o2
            replace G := own_drew G
            refine wp_region_mix [0, 3, 3, 3, 0, 1, 3] (Own w0 (blk b11 [.int .i64 T.version, uc, uh] * blk rb [.int .i64 T.version, rc, rh])) (by kernel_rfl) (by kernel_rfl) (G.sub _) ?_
            have GB : Own w0 (blk b11 [.int .i64 T.version, uc, uh] * blk rb [.int .i64 T.version, rc, rh]) _ := G.sub _
            refine mix_calm 1 (GB) (by rfl) (by rfl) ?_
            intro ι W hne hW
            dsimp only [List.take, List.drop]
            repeat (first | ((with_reducible refine atq_load ?_); first | (refine wpq_load hW rfl rfl rfl rfl ?_; go_frame) | (refine wpq_loadB hW rfl rfl rfl (by rfl) ?_; go_frame) | (refine wpq_loadS hW rfl rfl rfl (by rfl) ?_; simp only [List.drop_succ_cons, List.drop_zero, List.take_succ_cons, List.take_zero]; go_frame)) | (fail) | go_big_quiet_step (fail))
            refine wpQuiet_nil ?_
            clear  hW hne W ι
            refine mix_plain 3 (by rfl) (by rfl) ?_
            intro ι W hne
            dsimp only [List.take, List.drop]
            repeat (go_big_quiet_step (fail))
            refine wpQuiet_nil ?_
            clear hne W ι
            refine mix_calm 1 (GB) (by rfl) (by rfl) ?_
            intro ι W hne hW
            dsimp only [List.take, List.drop]
            repeat (first | ((with_reducible refine atq_load ?_); first | (refine wpq_load hW rfl rfl rfl rfl ?_; go_frame) | (refine wpq_loadB hW rfl rfl rfl (by rfl) ?_; go_frame) | (refine wpq_loadS hW rfl rfl rfl (by rfl) ?_; simp only [List.drop_succ_cons, List.drop_zero, List.take_succ_cons, List.take_zero]; go_frame)) | (fail) | go_big_quiet_step (fail))
            refine wpQuiet_nil ?_
            clear  hW hne W ι
            clear GB
            refine mix_loud rfl (fun K hK => ?_)
            go_wp2_with fail
            refine Calls.mono (sameC (s := T) (sn_read (G.pull (snA [.int .i64 T.version, uc, uh] T))) (sn_read (G.pull (snA [.int .i64 T.version, rc, rh] T))) HT'.out.okW) ?_
            rintro e w2 ⟨rfl, hbl⟩
            replace G := own_kept G hbl
            clear hbl
            refine hK _ _ ⟨G.sub _, ?_⟩
            clear hK
            try go_frame
            refine mix_plain 1 (by rfl) (by rfl) ?_
            intro ι W hne
            dsimp only [List.take, List.drop]
            repeat (go_big_quiet_step (fail))
            refine wpQuiet_nil ?_
            clear hne W ι
            refine mix_nil ?_
            go_wp2_with fail
            replace G := own_drew G
            refine wp_region_mix [3, 3, 3, 3, 1, 3, 3, 3, 3, 0, 3, 3] (Own w0 (blk rb [.int .i64 T.version, rc, rh])) (by kernel_rfl) (by kernel_rfl) (G.sub _) ?_
            refine mix_plain 4 (by rfl) (by rfl) ?_
            intro ι W hne
            dsimp only [List.take, List.drop]
            repeat (go_big_quiet_step (fail))
            refine wpQuiet_nil ?_
            clear hne W ι
            refine mix_loud_g (by kernel_rfl) (fun K hK => ?_)
            go_wp2_with fail
            refine Calls.mono (versionC (G.pull (tblA tb T))) ?_
            clear G; rintro e w ⟨rfl, G⟩
            refine hK _ _ ⟨G.sub _, ?_⟩
            clear hK
            try go_frame
            have GB : Own w0 (blk rb [.int .i64 T.version, rc, rh]) _ := G.sub _
            refine mix_plain 4 (by rfl) (by rfl) ?_
            intro ι W hne
            dsimp only [List.take, List.drop]
            repeat (go_big_quiet_step (fail))
            refine wpQuiet_nil ?_
            clear hne W ι
            refine mix_calm 1 (GB) (by rfl) (by rfl) ?_
            intro ι W hne hW
            dsimp only [List.take, List.drop]
            repeat (first | ((with_reducible refine atq_load ?_); refine wpq_load hW rfl (by kernel_rfl) rfl rfl ?_; go_frame) | ((with_reducible refine atq_load ?_); first | (refine wpq_load hW rfl rfl rfl rfl ?_; go_frame) | (refine wpq_loadB hW rfl rfl rfl (by rfl) ?_; go_frame)) | go_big_quiet_step (fail))
            refine wpQuiet_nil ?_
            clear  hW hne W ι
            clear GB
            refine mix_plain 2 (by rfl) (by rfl) ?_
            intro ι W hne
            dsimp only [List.take, List.drop]
            repeat (go_big_quiet_step (fail))
            refine wpQuiet_nil ?_
            clear hne W ι
            refine mix_nil ?_
            obtain ⟨_, _, nrows, e0, -, G⟩ := own_snA (G.pull (snA [.int .i64 T.version, uc, uh] T))
            injection e0 with _ e0; injection e0 with e2 e0; injection e0 with e3 _
            subst e2 e3
            obtain ⟨uo, ucap, rfl, i5, i6⟩ := G.hdr uc
            unfold maxLen at i6
            go_wp2_with fail
            have G0 := Lib.hid (G.sub (sl 1 (.slice uo T.clusters.length ucap) T.clusters.length (strs T.clusters) * (blk b11 [.int .i64 T.version, .slice uo T.clusters.length ucap, uh] * (blk rb [.int .i64 T.version, rc, rh] * (snA [.int .i64 T.version, rc, rh] T * tblA tb T)))))
            clear G
            go_loopw [13] (fun k wr => ∃ (q : Nat) (ys : List Value), k = .int .i64 q ∧ q ≤ T.clusters.length ∧ Own w0 (sl 1 (.slice uo T.clusters.length ucap) T.clusters.length ys * (blk b11 [.int .i64 T.version, .slice uo T.clusters.length ucap, uh] * (blk rb [.int .i64 T.version, rc, rh] * (snA [.int .i64 T.version, rc, rh] T * tblA tb T)))) wr) (fun k _ => T.clusters.length - (intOf k).toNat)
            case atStart => exact ⟨0, _, rfl, Nat.zero_le _, G0.out⟩
            case round =>
              clear G0
              obtain ⟨q, ys, rfl, hq, G⟩ := hrel
              by_cases hqn : q < T.clusters.length
              · obtain ⟨na, rfl⟩ := rd_some (own_rd G) (by omega)
                go_wp2_with (first
                  | ((with_reducible refine at_load ?_); refine wpu_load G rfl (by kernel_rfl) rfl rfl ?_; go_frame)
                  | ((with_reducible refine at_store ?_); refine wpu_store1 (s := na) (n := T.clusters.length) (cap := ucap) (k := q) G rfl rfl rfl rfl rfl hqn ?_; clear G; intro w G; go_frame)
                  | fail)
                go_roundw
                case rel => exact ⟨q + 1, _, by go_num, by omega, G⟩
                case measure => simp [intOf] <;> omega
              · go_wp2_with (first
                  | ((with_reducible refine at_load ?_); refine wpu_load G rfl (by kernel_rfl) rfl rfl ?_; go_frame)
                  | fail)
                go_roundw
                case rel => exact ⟨j + 1, T, by go_num, by omega, HT', (own_tbl_mk (G.sub (blk rb [.int .i64 T.version, rc, rh] * (snA [.int .i64 T.version, rc, rh] T * tblA tb T)))).eq (star_comm _ _)⟩
                case measure => simp [intOf] <;> omega
      · go_wp2_with fail
        go_ret
        exact ⟨rfl, G.below⟩
    · go_wp2_with fail
      go_ret
      exact ⟨rfl, G.below⟩

theorem contract {H : Type} {enc : TypeId × Value → H} {W : World} {vs : List Value} {ds : List (DataW H)}
    (hA : Args enc Tryd.prog W [50] vs ds) (hsz : (DataW.weightsEach Tryd.prog [50] ds).all (· ≤ reachBytes) = true) (hL : laidMetH Tryd.prog Rows.routeTablesRow.laid W) :
    Calls Tryd.prog 7 vs.toArray W fun e W' => e = .returned (.bool true) ∧ Below W.heap.size W W' := by
  obtain ⟨v0, _, d0, _, rfl, rfl, h0, hA⟩ := args_cons hA
  obtain ⟨rfl, rfl⟩ := args_nil hA
  obtain ⟨_, n, xs, e, hr, -, hel⟩ := rdz_slice (sz := 3) Tryd.underlying50 (by kernel_rfl) rfl (argz_slice Tryd.underlying50 h0 hsz 0 rfl rfl)
  obtain rfl := (List.cons.inj e).1
  obtain ⟨L, rfl, hL, kL⟩ := list_in (W := W) (f := rdSn) (Pr := Sn.ok) n xs hr.len fun i hi => by
    obtain ⟨_, hd⟩ := hel i hi
    obtain ⟨r, ok, hs, -⟩ := snap_in hd
    exact ⟨r, ok, hs⟩
  exact tabW hr hL kL






theorem spec {H : Type} : ∀ ds : List (DataW H), ds.length = 1 → Rows.routeTablesSpec.fn H ds = { results := [.lit (.bool true)], args := ds }
  | [_], _ => rfl
  | [], h => by cases h
  | _ :: _ :: _, h => by simp at h
theorem door_met (os : Os) (args : Array Value) : laidMetH Tryd.prog Rows.routeTablesRow.laid ((World.setRow (World.doorLaid Tryd.prog 19 os) (Tryd.prog.globalNamed "unicode/utf8.first").get! (Go.Pinned.utf8FirstZ.map fun z : Nat => Value.int .u8 (z : Int)).toArray).forCall (fun _ _ => 0) ⟨#[], args, []⟩).memory :=
  laidMetH_of_parts3 (fuel := 8) (laidMet_of_run' 8 (by kernel_rfl) (by kernel_rfl)) (by kernel_rfl) (by kernel_rfl)
set_option maxRecDepth 100000 in
theorem lifted (os : Os) (started : os.Started) (H : Type) (enc : TypeId × Value → H) :
    ReturnsInHanded {} Tryd.checked os 7 .any (fun w args => (Rows.routeTablesSpec.pre enc Tryd.prog Tryd.f7 Rows.routeTablesRow.domain false w args ∧ laidMetH Tryd.prog Rows.routeTablesRow.laid w) ∧ sizedMet enc Tryd.prog Tryd.f7 (OpenSpec.ofChange Rows.routeTablesSpec) false w args)
      (Rows.routeTablesSpec.post enc Tryd.prog Tryd.f7 false true false false) :=
  lifted_of_law_laid (C := Tryd.checked) (fn := Tryd.f7) (s := Rows.routeTablesSpec) (tb := 4) (by kernel_rfl) started (by kernel_rfl) Tryd.func7
    (ChangeSpec.witness_shaped (enc := enc) (C := Tryd.checked) (os := os) (X := fun w _ => laidMetH Tryd.prog Rows.routeTablesRow.laid w) false (World.setRow (World.doorLaid Tryd.prog 19 os) (Tryd.prog.globalNamed "unicode/utf8.first").get! (Go.Pinned.utf8FirstZ.map fun z : Nat => Value.int .u8 (z : Int)).toArray) #[.slice none 0 0] 8 rfl (World.shaped_of_RefB (by kernel_rfl) (by kernel_rfl)) (by kernel_rfl) (by kernel_rfl) (by kernel_rfl) (door_met os _))
    rfl spec (by kernel_rfl) Tryd.underlying4 (by kernel_rfl) (by kernel_rfl) (fun _ _ _ h1 h2 h3 => contract h1 h2 h3)

theorem holds : Rows.RouteTablesSaid :=
  OpenClaim.holds_of_wide 7 Tryd.f7 rfl rfl rfl rfl rfl rfl rfl ⟨rfl, rfl, rfl, rfl, rfl⟩ rfl rfl rfl rfl rfl (by kernel_rfl) Tryd.func7 (by kernel_rfl)
    (of_decide_eq_true (by kernel_rfl)) (by unfold Func.isWrapper; first | (rw [if_pos (by decide +kernel)]; kernel_rfl) | (rw [if_neg (by decide +kernel)]; exact ⟨rfl, rfl⟩))
    (fun os started H enc _ => lifted os started H enc)

theorem proved : Rows.RouteTablesCardSaid :=
  Claim7.holds_tied_plain_at .later [] [.data, .pinned] true (true, "8ad4a4f5b69d3fbbf86e42b9283652f351f0a1c623a0149f61aae9e179e7ce1c") false
    holds (fun _ h => by cases h) (by kernel_rfl) (fun _ h => by cases h) routeTables_row_tie rfl ⟨rfl, rfl⟩ (by kernel_rfl) rfl
    (fun f fn hf hfn => by
      obtain rfl : f = 7 := Option.some.inj ((show Tryd.prog.funcNamed "flume/flumelaw16.RouteTables" = some 7 by kernel_rfl).symm.trans hf) |>.symm
      obtain rfl : fn = Tryd.f7 := (Option.some.inj (Tryd.func7.symm.trans hfn)).symm
      exact ⟨by kernel_rfl, fun j t ht => by
        rw [Tryd.params7] at ht
        have hm : t ∈ [50] := by simpa using Array.mem_of_getElem? ht
        have hall : ([50].all fun u => !Tryd.prog.wantsStandIn u) = true := by kernel_rfl
        exact (show Tryd.prog.wantsStandIn t = false by simpa using List.all_eq_true.1 hall t hm)⟩)
    (by kernel_rfl)
end Go.Proofs.YtjcpfldobiekbaaDoor.routeTables
