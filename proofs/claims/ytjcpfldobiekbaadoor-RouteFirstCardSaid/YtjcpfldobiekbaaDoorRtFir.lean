




/-
  RouteFirst: the first route that fits counts.
-/
import Derived.Test.YtjcpfldobiekbaaDoorRtFirP
import Derived.Test.YtjcpfldobiekbaaDoorRtOld
import Derived.Test.YtjcpfldobiekbaaDoorMixF
import Derived.Test.YtjcpfldobiekbaaDoorStrAdd
import Derived.Test.YtjcpfldobiekbaaDoorCmp
import Derived.Test.YtjcpfldobiekbaaDoorLawD
import Derived.Test.YtjcpfldobiekbaaDoorTie
import Derived.Test.YtjcpfldobiekbaaDoorCards
import Derived.SevenTiedAt
namespace Go.Proofs.YtjcpfldobiekbaaDoor.routeFirst
open Go.RowKit Go.Sl Go.ChangeShapes Go.Fl

theorem wpk_v {P : Program} {w w' : World} {a : Act} {o : Oper} {v : Value} {K : Act → World → Prop} {Q : Exit → Act → World → Prop} (hr : (execOp a.eval o).run P w = .ok (.value v) w') (k : K (a.put o.dst v) w') : o.wp P a w K Q := by
  unfold Oper.wp
  rw [hr]
  exact k
theorem wpq_loadO {P : Program} {ops : Array Oper} {rest : List Oper} {o : Oper} {a : Act} {T : TypeId} {ad : Operand} {b i : Nat} {cs : List Value} {v : Value} {ι : Type} {W : ι → World} {q : Act → Prop} (h : ∀ j, OldBlk (W j) b cs) (ho : o.op = .load T ad) (hw : Region.wanted o (yielded ops a.tmps) = true) (ha' : evalO a ad = some (.pointer (some ⟨b, i, none⟩))) [hT : TyOne P T] (hv : cs[i]? = some v)
    (k : wpQuiet P ops (fun w' => ∃ i, w' = W i) q rest (a.put o.dst v)) : wpQuiet P ops (fun w' => ∃ i, w' = W i) q (o :: rest) a :=
  wpq_val hw (fun j => exec_load ho (evalO_eq ha') (run_loadVar_one (h j i v hv))) k
theorem findV_eq (x : Option (Txt × Int)) : ∃ A N C, findV x = .tuple #[str A, .int .i64 N, .bool C] ∧ (C = true ∧ x = some (A, N) ∨ C = false ∧ x = none) := by
  cases x with
  | none => exact ⟨_, _, _, rfl, .inr ⟨rfl, rfl⟩⟩
  | some x => exact ⟨_, _, _, rfl, .inl ⟨rfl, rfl⟩⟩

set_option maxHeartbeats 16000000 in
set_option maxRecDepth 100000 in
theorem firW {w0 : World} {s : Sn} {cs : List Value} {v : Value} {F0 : List Fd} {d : Nat} (hs : rdSn w0 cs s) (ok : s.ok) (hF : rd w0 3 v F0.length (fds F0)) (okF0 : ∀ f ∈ F0, f.1.length ≤ 140737488351232 ∧ f.2.1.length ≤ 140737488351232) (hd : d < 18446744073709551616) :
    Calls Tryd.prog 3 #[.agg cs.toArray, v, .int .u64 (d : Int)] w0 fun e w' => e = .returned (.bool true) ∧ Below w0.heap.size w0 w' := by
  have hs0 := hs
  obtain ⟨vc, vh, xs, rfl, -, -, -⟩ := hs
  obtain ⟨fo, fc, rfl, j1, j2, -⟩ := id hF
  unfold maxLen at j2
  obtain ⟨m, m0, m1, m2⟩ : ∃ k : Nat, min (F0.length : Int) 50 = (k : Int) ∧ k ≤ F0.length ∧ k ≤ 50 := ⟨min F0.length 50, by omega, by omega, by omega⟩
  have hf1 := fds_take hF rfl m1
  have okF : ∀ f ∈ F0.take m, f.2.1.length ≤ 140737488351232 := fun f h => (okF0 f (List.mem_of_mem_take h)).2
  obtain ⟨F, hFF⟩ : ∃ F, F0.take m = F := ⟨_, rfl⟩
  rw [hFF] at hf1 okF
  have hu : ∀ A w, Own w0 A w → rd w 3 (.slice fo m fc) F.length (fds F) := fun A w h => hf1.old h
  have ok2 := cut_ok ok
  have G := own_begin w0
  clear hF hFF okF0 ok hf1
  obtain ⟨S, hS⟩ : ∃ S, cutSn s = S := ⟨_, rfl⟩
  go_enter Tryd.func3, Tryd.ntmps3
  go_wp2_with (first
    | ((with_reducible refine at_alloc ?_); refine wpu_new G ?_; clear G; intro w G)
    | ((with_reducible refine at_drew ?_); refine wpu_drew G ?_; clear G; intro w G)
    | fail)
  refine Calls.mono (shownC G) ?_
  clear G; rintro e w ⟨rfl, G⟩
  go_wp2_with (first
    | ((with_reducible refine at_alloc ?_); refine wpu_new G ?_; clear G; intro w G)
    | ((with_reducible refine at_drew ?_); refine wpu_drew G ?_; clear G; intro w G)
    | ((with_reducible refine at_load ?_); first
      | (refine wpu_load G rfl rfl rfl rfl ?_; go_frame)
      | (refine wpu_loadB G rfl rfl rfl (by rfl) ?_; go_frame)
      | (refine wpu_loadS G rfl rfl rfl (by rfl) ?_; simp only [List.drop_succ_cons, List.drop_zero, List.take_succ_cons, List.take_zero]; go_frame))
    | ((with_reducible refine at_store ?_); first
      | (refine wpu_store G rfl rfl rfl rfl (by first | rfl | assumption | simp [*]) rfl ?_; clear G; intro w G; go_frame)
      | (refine wpu_storeB G rfl rfl rfl rfl (by rfl) (by rfl) (by first | rfl | assumption | simp [*]) ?_; clear G; intro w G; go_frame)
      | (refine wpu_storeS G rfl rfl rfl rfl (by rfl) (by rfl) (by first | rfl | assumption | simp [*]) ?_; clear G; intro w G; go_frame))
    | ((with_reducible refine at_convert ?_); refine wpu_str G rfl rfl rfl rfl ?_; go_frame)
    | ((with_reducible refine at_slice ?_); first
      | (refine wpu_sliceLo rfl rfl rfl rfl (by first | rfl | omega) (by omega) (by omega) ?_; go_frame)
      | (refine wpu_sliceLH rfl rfl rfl rfl rfl (by first | rfl | omega) (by first | rfl | omega) (by omega) (by omega) ?_; go_frame))
    | fail)
  refine Calls.mono (cutC (hs0.old G)) ?_
  rintro e w1 ⟨nc, nh, rfl, G1⟩
  replace G := own_join G G1
  clear G1 hs0
  have o1 : nc.oneCell' = true := by obtain ⟨_, _, _, e0, _, g⟩ := own_snA G; injection e0 with _ e0; injection e0 with e1 _; rw [e1]; exact (own_rd g).one
  have o2 : nh.oneCell' = true := by obtain ⟨_, _, _, e0, _, g⟩ := own_snA G; injection e0 with _ e0; injection e0 with _ e0; injection e0 with e1 _; rw [e1]; exact (own_rd g.right).one
  rw [hS] at G ok2
  obtain ⟨ver, hver⟩ : ∃ v, s.version = v := ⟨_, rfl⟩
  rw [hver] at G ⊢
  clear hver hS
  obtain ⟨b0, hb⟩ : ∃ b, w0.heap.size = b := ⟨_, rfl⟩
  rw [hb] at G ⊢
  go_wp2_with (first
    | ((with_reducible refine at_store ?_); refine wpu_storeB G rfl rfl rfl rfl (by rfl) (by rfl) (by simp only [List.all_cons, o1, o2]; rfl) ?_; clear G; intro w G; go_frame)
    | ((with_reducible refine at_load ?_); refine wpu_loadB G rfl (by kernel_rfl) rfl (by rfl) ?_; go_frame)
    | fail)
  clear o1 o2
  refine Calls.mono (rightC (s := S) (sn_read (G.pull (snA [.int .i64 ver, nc, nh] S))) ok2) ?_
  rintro e w3 ⟨rfl, hb'⟩
  replace G := own_kept G hb'
  clear hb'
  cases hr : rightR S with
  | false =>
    go_wp2_with fail
    go_ret
    exact ⟨rfl, hb ▸ G.below⟩
  | true =>
    obtain ⟨uc, uh, rows, e0, h2, G⟩ := own_snA (G.pull (snA [.int .i64 ver, nc, nh] S))
    injection e0 with e1 e0; injection e0 with e2 e0; injection e0 with e3 _
    obtain rfl : ver = S.version := by injection e1
    subst e2 e3
    obtain ⟨ho, hc, rfl, i3, i4⟩ := G.hdr nh
    obtain ⟨co, cc, rfl, i5, i6⟩ := G.hdr nc
    unfold maxLen at i4 i6
    clear e1
    obtain ⟨q1, hq1⟩ : ∃ q, decide ((S.hosts.length : Int) < 1) = q := ⟨_, rfl⟩
    cases q1 with
    | true =>
      as_aux_lemma =>
        go_wp2_with (first
          | ((with_reducible refine at_load ?_); refine wpu_load G rfl (by kernel_rfl) rfl rfl ?_; go_frame)
          | ((with_reducible refine at_lss ?_); refine wpu_lss rfl (by kernel_rfl) rfl rfl (by assumption) ?_; go_frame)
          | ((with_reducible refine at_gtr ?_); refine wpu_gtr rfl (by kernel_rfl) rfl rfl (by assumption) ?_; go_frame)
          | ((with_reducible refine at_leq ?_); refine wpu_leq rfl (by kernel_rfl) rfl rfl (by assumption) ?_; go_frame)
          | ((with_reducible refine at_geq ?_); refine wpu_geq rfl (by kernel_rfl) rfl rfl (by assumption) ?_; go_frame)
          | ((with_reducible refine at_eqS ?_); refine wpu_eqS rfl (by kernel_rfl) rfl rfl (by assumption) ?_; go_frame)
          | ((with_reducible refine at_neS ?_); refine wpu_neS rfl (by kernel_rfl) rfl rfl (by assumption) ?_; go_frame)
          | fail)
        go_ret
        exact ⟨rfl, hb ▸ G.below⟩
    | false =>
    have hl1 := of_decide_eq_false hq1
    obtain ⟨h0, hh0⟩ : ∃ x, S.hosts[0]? = some x := ⟨S.hosts[0]'(by omega), List.getElem?_eq_getElem _⟩
    obtain ⟨ha, rfl⟩ := rd_some (own_rd (G.pull (sl 2 (.slice ho S.hosts.length hc) S.hosts.length rows.flatten))) (by omega)
    obtain ⟨r0, hr0, R0, e1, -⟩ := starL_at (G.pull (starL hsA rows S.hosts)) hh0
    have HF := Lib.hid (flat_at h2 hr0)
    rw [e1] at G
    obtain ⟨vn, vr, rrows, rfl, h7, G⟩ := own_hsA (G.pull (hsA r0 h0))
    obtain ⟨ro, rc, rfl, i7, i8⟩ := G.hdr vr
    unfold maxLen at i8
    clear e1 hr0
    obtain ⟨q2, hq2⟩ : ∃ q, decide ((h0.routes.length : Int) > 31) = q := ⟨_, rfl⟩
    cases q2 with
    | true => as_aux_lemma =>
        go_wp2_with (first
          | ((with_reducible refine at_load ?_); first
            | (refine wpu_loadF (k := 0) (j := 0) (own_rd (G.pull (sl 2 (.slice (some ha) S.hosts.length hc) S.hosts.length rows.flatten))) HF.out rfl (by kernel_rfl) rfl rfl ?_; go_frame)
            | (refine wpu_load G rfl (by kernel_rfl) rfl rfl ?_; go_frame))
          | ((with_reducible refine at_lss ?_); refine wpu_lss rfl (by kernel_rfl) rfl rfl (by assumption) ?_; go_frame)
          | ((with_reducible refine at_gtr ?_); refine wpu_gtr rfl (by kernel_rfl) rfl rfl (by assumption) ?_; go_frame)
          | ((with_reducible refine at_leq ?_); refine wpu_leq rfl (by kernel_rfl) rfl rfl (by assumption) ?_; go_frame)
          | ((with_reducible refine at_geq ?_); refine wpu_geq rfl (by kernel_rfl) rfl rfl (by assumption) ?_; go_frame)
          | ((with_reducible refine at_eqS ?_); refine wpu_eqS rfl (by kernel_rfl) rfl rfl (by assumption) ?_; go_frame)
          | ((with_reducible refine at_neS ?_); refine wpu_neS rfl (by kernel_rfl) rfl rfl (by assumption) ?_; go_frame)
          | fail)
        go_ret
        exact ⟨rfl, hb ▸ G.below⟩
    | false =>
    obtain ⟨q3, hq3⟩ : ∃ q, decide ((S.clusters.length : Int) < 1) = q := ⟨_, rfl⟩
    cases q3 with
    | true => as_aux_lemma =>
        go_wp2_with (first
          | ((with_reducible refine at_load ?_); first
            | (refine wpu_loadF (k := 0) (j := 0) (own_rd (G.pull (sl 2 (.slice (some ha) S.hosts.length hc) S.hosts.length rows.flatten))) HF.out rfl (by kernel_rfl) rfl rfl ?_; go_frame)
            | (refine wpu_load G rfl (by kernel_rfl) rfl rfl ?_; go_frame))
          | ((with_reducible refine at_lss ?_); refine wpu_lss rfl (by kernel_rfl) rfl rfl (by assumption) ?_; go_frame)
          | ((with_reducible refine at_gtr ?_); refine wpu_gtr rfl (by kernel_rfl) rfl rfl (by assumption) ?_; go_frame)
          | ((with_reducible refine at_leq ?_); refine wpu_leq rfl (by kernel_rfl) rfl rfl (by assumption) ?_; go_frame)
          | ((with_reducible refine at_geq ?_); refine wpu_geq rfl (by kernel_rfl) rfl rfl (by assumption) ?_; go_frame)
          | ((with_reducible refine at_eqS ?_); refine wpu_eqS rfl (by kernel_rfl) rfl rfl (by assumption) ?_; go_frame)
          | ((with_reducible refine at_neS ?_); refine wpu_neS rfl (by kernel_rfl) rfl rfl (by assumption) ?_; go_frame)
          | fail)
        go_ret
        exact ⟨rfl, hb ▸ G.below⟩
    | false =>
    obtain ⟨q4, hq4⟩ : ∃ q, decide ((S.clusters.length : Int) > 31) = q := ⟨_, rfl⟩
    cases q4 with
    | true => as_aux_lemma =>
        go_wp2_with (first
          | ((with_reducible refine at_load ?_); first
            | (refine wpu_loadF (k := 0) (j := 0) (own_rd (G.pull (sl 2 (.slice (some ha) S.hosts.length hc) S.hosts.length rows.flatten))) HF.out rfl (by kernel_rfl) rfl rfl ?_; go_frame)
            | (refine wpu_load G rfl (by kernel_rfl) rfl rfl ?_; go_frame))
          | ((with_reducible refine at_lss ?_); refine wpu_lss rfl (by kernel_rfl) rfl rfl (by assumption) ?_; go_frame)
          | ((with_reducible refine at_gtr ?_); refine wpu_gtr rfl (by kernel_rfl) rfl rfl (by assumption) ?_; go_frame)
          | ((with_reducible refine at_leq ?_); refine wpu_leq rfl (by kernel_rfl) rfl rfl (by assumption) ?_; go_frame)
          | ((with_reducible refine at_geq ?_); refine wpu_geq rfl (by kernel_rfl) rfl rfl (by assumption) ?_; go_frame)
          | ((with_reducible refine at_eqS ?_); refine wpu_eqS rfl (by kernel_rfl) rfl rfl (by assumption) ?_; go_frame)
          | ((with_reducible refine at_neS ?_); refine wpu_neS rfl (by kernel_rfl) rfl rfl (by assumption) ?_; go_frame)
          | fail)
        go_ret
        exact ⟨rfl, hb ▸ G.below⟩
    | false =>
    go_wp2_with (first
      | ((with_reducible refine at_load ?_); first
        | (refine wpu_loadF (k := 0) (j := 0) (own_rd (G.pull (sl 2 (.slice (some ha) S.hosts.length hc) S.hosts.length rows.flatten))) HF.out rfl (by kernel_rfl) rfl rfl ?_; go_frame)
        | (refine wpu_load G rfl (by kernel_rfl) rfl rfl ?_; go_frame))
      | ((with_reducible refine at_build ?_); refine hold ?_)
      | ((with_reducible refine at_store ?_); refine wpu_store G rfl rfl rfl rfl rfl rfl ?_; clear G; intro w G; go_frame)
      | ((with_reducible refine at_lss ?_); refine wpu_lss rfl (by kernel_rfl) rfl rfl (by assumption) ?_; go_frame)
      | ((with_reducible refine at_gtr ?_); refine wpu_gtr rfl (by kernel_rfl) rfl rfl (by assumption) ?_; go_frame)
      | ((with_reducible refine at_leq ?_); refine wpu_leq rfl (by kernel_rfl) rfl rfl (by assumption) ?_; go_frame)
      | ((with_reducible refine at_geq ?_); refine wpu_geq rfl (by kernel_rfl) rfl rfl (by assumption) ?_; go_frame)
      | ((with_reducible refine at_eqS ?_); refine wpu_eqS rfl (by kernel_rfl) rfl rfl (by assumption) ?_; go_frame)
      | ((with_reducible refine at_neS ?_); refine wpu_neS rfl (by kernel_rfl) rfl rfl (by assumption) ?_; go_frame)
      | fail)
    have hq3' := of_decide_eq_false hq3
    have hq4' := of_decide_eq_false hq4
    have hq2' := of_decide_eq_false hq2
    clear hq1 hq2 hq3 hq4
    simp only [List.set_cons_succ, List.set_cons_zero] at G
    unfold Held
    refine wpu_val rfl (exec_buildT _ rfl (by kernel_rfl) (buildS1 [42] _)) ?_
    go_frame
    replace G := own_new_sl (n := 1) (sz := 1) G (strs [[42]]) 9 rfl (by decide)
    generalize w.heap.size = bst at G ⊢
    generalize w.alloc _ = w at G ⊢
    replace G := own_take (k := 1) (G.pull (sl 2 (.slice (some ha) S.hosts.length hc) S.hosts.length rows.flatten)) (by omega)
    rw [show rows.flatten.take (1 * 2) = [vn, .slice ro h0.routes.length rc] by rw [← HF.out]; rfl] at G
    go_wp2_with (first
      | ((with_reducible refine at_store ?_); refine wpu_storeF0 (k := 0) (cap := hc) (sz := 2) (n := 1) G rfl rfl rfl rfl rfl (by omega) ?_; clear G; intro w G; go_frame)
      | ((with_reducible refine at_load ?_); refine wpu_loadB G rfl (by kernel_rfl) rfl (by rfl) ?_; go_frame)
      | fail)
    simp only [Nat.zero_mul, List.set_cons_zero] at G
    replace G := own_oneA_mk (v := S.version) (cl := S.clusters) (rs := h0.routes) (vc := .slice co S.clusters.length cc) (vh := .slice (some ha) 1 hc) (vn := .slice (some ⟨bst, 0, none⟩) 1 1) (vr := .slice ro h0.routes.length rc) (R := blk b0 [.int .i64 S.version, .slice co S.clusters.length cc, .slice (some ha) 1 hc]) h7 (G.sub _)
    -- the ground is this world from here on
    have RH := Lib.hid (right_head hr hh0 (by omega) (by omega))
    have RL : ∀ x, x ∉ S.clusters → x ≠ [] → rightR (oneS S.version (S.clusters ++ [x]) (h0.routes ++ [allR x])) = true := fun x => right_last hr hh0 (by omega) (by omega)
    have RF : ∀ x, x ∉ S.clusters → x ≠ [] → rightR (oneS S.version (S.clusters ++ [x]) (allR x :: h0.routes)) = true := fun x => right_front hr hh0 (by omega) (by omega)
    have okr : ∀ r ∈ h0.routes, r.ok := (ok2.2 _ (List.mem_of_getElem? hh0)).2
    have okc : ∀ c ∈ S.clusters, c.length ≤ 140737488351232 := ok2.1
    have ok1 : (oneS S.version S.clusters h0.routes).ok := oneS_ok okc okr
    have GW := G
    have hb0 := oldBlk_of (G.pull (blk b0 [.int .i64 S.version, .slice co S.clusters.length cc, .slice (some ha) 1 hc]))
    have hsn := sn_read (G.pull (snA [.int .i64 S.version, .slice co S.clusters.length cc, .slice (some ha) 1 hc] (oneS S.version S.clusters h0.routes)))
    have hfu := hu _ _ G
    clear G hu h2 h7 HF hh0 hr ok2
    obtain ⟨wg, hwg⟩ : ∃ u, w = u := ⟨_, rfl⟩
    rw [hwg] at GW hb0 hsn hfu ⊢
    clear hwg
    have hlen : (1 : Nat) ≤ S.clusters.length ∧ S.clusters.length ≤ 31 ∧ h0.routes.length ≤ 31 := by omega
    clear hq2' hq3' hq4'
    generalize S.version = ver at GW hb0 hsn RH RL RF ok1 ⊢
    generalize S.clusters = C at GW hb0 hsn RH RL RF ok1 okc hlen i5 i6 ⊢
    generalize h0.routes = RS at GW hb0 hsn RH RL RF ok1 okr hlen i7 i8 ⊢
    have GW := Lib.hid GW
    have G := own_begin wg
    have HB0 : ∀ A u, Own wg A u → OldBlk u b0 [.int .i64 ver, .slice co C.length cc, .slice (some ha) 1 hc] := fun A u h => hb0.old h
    have HSN : ∀ A u, Own wg A u → rdSn u [.int .i64 ver, .slice co C.length cc, .slice (some ha) 1 hc] (oneS ver C RS) := fun A u h => hsn.old h
    have HFU : ∀ A u, Own wg A u → rd u 3 (.slice fo m fc) F.length (fds F) := fun A u h => hfu.old h
    have HCL : ∀ A u, Own wg A u → rd u 1 (.slice co C.length cc) C.length (strs C) := fun A u h => by
      obtain ⟨x1, x2, x3, x4, x5, e0, h1, -⟩ := rdSn_one (HSN A u h)
      injection e0 with _ e0; injection e0 with e1 _
      rw [e1]; exact h1
    obtain ⟨cad, rfl⟩ := rd_some (HCL _ _ G) (by omega)
    have G := own_begin wg
    go_wp2_with (first
      | ((with_reducible refine at_load ?_); refine wpu_loadOB (HB0 _ _ G) rfl (by kernel_rfl) rfl rfl ?_; go_frame)
      | fail)
    refine Calls.mono (findC (s := oneS ver C RS) (F := F) (d := d) (HSN _ _ G) ok1 (HFU _ _ G) okF hd) ?_
    rintro e w5 ⟨rfl, hb1⟩
    replace G := own_kept G hb1
    clear hb1
    rw [find_one RH.out]
    obtain ⟨A0, N0, C0, hV, hX⟩ := findV_eq (goesR RS (firstF F [58, 112, 97, 116, 104]) F d)
    rw [hV]
    have HX := Lib.hid hX
    clear hV hX
    go_wp2_with (first
      | ((with_reducible refine at_load ?_); refine wpu_loadOB (HB0 _ _ G) rfl (by kernel_rfl) rfl rfl ?_; go_frame)
      | fail)
    refine Calls.mono (copyC (s := oneS ver C RS) (HSN _ _ G) (right_small RH.out)) ?_
    rintro e w6 ⟨cs', rfl, G1⟩
    replace G := own_join G G1
    clear G1
    obtain ⟨lc, lo, lcap, ln, lr, lrows, rfl, l7, G⟩ := own_oneA G
    obtain ⟨lro, lrc, rfl, l1, l2⟩ := G.hdr lr
    obtain ⟨lco, lcc, rfl, l3, l4⟩ := G.hdr lc
    obtain ⟨la, rfl⟩ := rd_some (own_rd (G.pull (sl 2 (.slice lo 1 lcap) 1 [ln, .slice lro RS.length lrc]))) (by omega)
    unfold maxLen at l2 l4
    have L7 := Lib.hid l7
    clear l7
    go_wp2_with (first
      | ((with_reducible refine at_alloc ?_); refine wpu_new G ?_; clear G; intro w G)
      | ((with_reducible refine at_drew ?_); refine wpu_drew G ?_; clear G; intro w G)
      | ((with_reducible refine at_alloc ?_); refine wpu_new G ?_; clear G; intro w G)
      | ((with_reducible refine at_drew ?_); refine wpu_drew G ?_; clear G; intro w G)
      | ((with_reducible refine at_load ?_); first
        | (refine wpu_load G rfl rfl rfl rfl ?_; go_frame)
        | (refine wpu_loadB G rfl rfl rfl (by rfl) ?_; go_frame)
        | (refine wpu_loadS G rfl rfl rfl (by rfl) ?_; simp only [List.drop_succ_cons, List.drop_zero, List.take_succ_cons, List.take_zero]; go_frame))
      | ((with_reducible refine at_store ?_); first
        | (refine wpu_store G rfl rfl rfl rfl (by first | rfl | assumption | simp [*]) rfl ?_; clear G; intro w G; go_frame)
        | (refine wpu_storeB G rfl rfl rfl rfl (by rfl) (by rfl) (by first | rfl | assumption | simp [*]) ?_; clear G; intro w G; go_frame)
        | (refine wpu_storeS G rfl rfl rfl rfl (by rfl) (by rfl) (by first | rfl | assumption | simp [*]) ?_; clear G; intro w G; go_frame))
      | ((with_reducible refine at_convert ?_); refine wpu_str G rfl rfl rfl rfl ?_; go_frame)
      | ((with_reducible refine at_slice ?_); first
        | (refine wpu_sliceLo rfl rfl rfl rfl (by first | rfl | omega) (by omega) (by omega) ?_; go_frame)
        | (refine wpu_sliceLH rfl rfl rfl rfl rfl (by first | rfl | omega) (by first | rfl | omega) (by omega) (by omega) ?_; go_frame))
      | fail)
    obtain ⟨b11, hb11⟩ : ∃ b, w6.heap.size = b := ⟨_, rfl⟩
    rw [hb11] at G ⊢
    clear hb11
    obtain ⟨AA, hAA, G⟩ : ∃ X, X = _ ∧ Own wg X _ := ⟨_, rfl, G⟩
    have HAA := Lib.hid hAA
    clear hAA
    have G0 := Lib.hid G
    clear G
    go_loopw [12, 13, 14] (fun f i _ wr => ∃ M I : Nat, f = str (grown M) ∧ i = .int .i64 I ∧ I ≤ C.length ∧ Hid ((∀ q, q < M → grown q ∈ C) ∧ (I ≤ M ∨ grown M ∉ C)) ∧ Own wg AA wr) (fun _ i _ _ => C.length - (intOf i).toNat)
    case atStart => exact ⟨0, 0, rfl, rfl, Nat.zero_le _, Lib.hid ⟨fun q h => absurd h (Nat.not_lt_zero _), .inl (Nat.zero_le _)⟩, G0.out⟩
    case round =>
      clear G0
      obtain ⟨M, I, rfl, rfl, hI, HI, G⟩ := hrel
      by_cases hIn : I < C.length
      · go_wp2_with (first
          | ((with_reducible refine at_load ?_); refine wpu_loadO (HB0 _ _ G) rfl (by kernel_rfl) rfl rfl ?_; go_frame)
          | fail)
        have G0 := Lib.hid G
        clear G
        go_loopw [12, 14] (fun f k wr => ∃ M K : Nat, f = str (grown M) ∧ k = .int .i64 K ∧ K ≤ C.length ∧ Hid ((∀ q, q < M → grown q ∈ C) ∧ (I ≤ M ∨ grown M ∉ C) ∧ (I + 1 ≤ M ∨ grown M ∉ C.take K)) ∧ Own wg AA wr) (fun _ k _ => C.length - (intOf k).toNat)
        case atStart => exact ⟨M, 0, rfl, rfl, Nat.zero_le _, Lib.hid ⟨HI.out.1, HI.out.2, .inr (by simp)⟩, G0.out⟩
        case round =>
          clear G0 HI
          obtain ⟨M, K, rfl, rfl, hK, HI, G⟩ := hrel
          by_cases hKn : K < C.length
          · obtain ⟨x, hx⟩ : ∃ x, C[K]? = some x := ⟨C[K], List.getElem?_eq_getElem hKn⟩
            have HX1 := Lib.hid (strs_at hx)
            have HTK : Hid (C.take (K + 1) = C.take K ++ [x]) := Lib.hid (by rw [List.take_add_one, hx]; rfl)
            have HMEM : Hid (x ∈ C) := Lib.hid (List.mem_of_getElem? hx)
            have HML : Hid (M ≤ 31) := Lib.hid (Nat.le_trans (grown_le HI.out.1) (by omega))
            obtain ⟨q, hq⟩ : ∃ q, decide (x = grown M) = q := ⟨_, rfl⟩
            clear hx
            cases q with
            | true =>
              go_wp2_with (first
                | ((with_reducible refine at_load ?_); first
                  | (refine wpu_loadO (HB0 _ _ G) rfl (by kernel_rfl) rfl rfl ?_; go_frame)
                  | (refine wpu_loadC (k := K) (HCL _ _ G) HX1.out rfl (by kernel_rfl) rfl ?_; go_frame))
                | ((with_reducible refine at_addS ?_); refine wpu_addS rfl (by kernel_rfl) rfl rfl (grown_succ M) (by have := HML.out; rw [grown_len]; show 5 + M + 1 ≤ _; omega) ?_; go_frame)
                | ((with_reducible refine at_lss ?_); refine wpu_lss rfl (by kernel_rfl) rfl rfl (by assumption) ?_; go_frame)
                | ((with_reducible refine at_gtr ?_); refine wpu_gtr rfl (by kernel_rfl) rfl rfl (by assumption) ?_; go_frame)
                | ((with_reducible refine at_leq ?_); refine wpu_leq rfl (by kernel_rfl) rfl rfl (by assumption) ?_; go_frame)
                | ((with_reducible refine at_geq ?_); refine wpu_geq rfl (by kernel_rfl) rfl rfl (by assumption) ?_; go_frame)
                | ((with_reducible refine at_eqS ?_); refine wpu_eqS rfl (by kernel_rfl) rfl rfl (by assumption) ?_; go_frame)
                | ((with_reducible refine at_neS ?_); refine wpu_neS rfl (by kernel_rfl) rfl rfl (by assumption) ?_; go_frame)
                | fail)
              go_roundw
              case rel => exact ⟨M + 1, K + 1, rfl, by go_num, by omega, Lib.hid (by
                have e := of_decide_eq_true hq
                have hm : grown M ∈ C := e ▸ HMEM.out
                have hi : I ≤ M := by
                  rcases HI.out.2.1 with h | h
                  · exact h
                  · exact absurd hm h
                refine ⟨fun q hq => ?_, .inl (by omega), .inl (by omega)⟩
                rcases Nat.lt_or_eq_of_le (Nat.le_of_lt_succ hq) with h | h
                · exact HI.out.1 q h
                · rw [h]; exact hm), G⟩
              case measure => simp [intOf] <;> omega
            | false =>
              go_wp2_with (first
                | ((with_reducible refine at_load ?_); first
                  | (refine wpu_loadO (HB0 _ _ G) rfl (by kernel_rfl) rfl rfl ?_; go_frame)
                  | (refine wpu_loadC (k := K) (HCL _ _ G) HX1.out rfl (by kernel_rfl) rfl ?_; go_frame))
                | ((with_reducible refine at_lss ?_); refine wpu_lss rfl (by kernel_rfl) rfl rfl (by assumption) ?_; go_frame)
                | ((with_reducible refine at_gtr ?_); refine wpu_gtr rfl (by kernel_rfl) rfl rfl (by assumption) ?_; go_frame)
                | ((with_reducible refine at_leq ?_); refine wpu_leq rfl (by kernel_rfl) rfl rfl (by assumption) ?_; go_frame)
                | ((with_reducible refine at_geq ?_); refine wpu_geq rfl (by kernel_rfl) rfl rfl (by assumption) ?_; go_frame)
                | ((with_reducible refine at_eqS ?_); refine wpu_eqS rfl (by kernel_rfl) rfl rfl (by assumption) ?_; go_frame)
                | ((with_reducible refine at_neS ?_); refine wpu_neS rfl (by kernel_rfl) rfl rfl (by assumption) ?_; go_frame)
                | fail)
              go_roundw
              case rel => exact ⟨M, K + 1, rfl, by go_num, by omega, Lib.hid (by
                refine ⟨HI.out.1, HI.out.2.1, ?_⟩
                rcases HI.out.2.2 with h | h
                · exact .inl h
                · right
                  rw [HTK.out]
                  intro k
                  rcases List.mem_append.1 k with k | k
                  · exact h k
                  · exact (of_decide_eq_false hq) (List.mem_singleton.1 k).symm), G⟩
              case measure => simp [intOf] <;> omega
          · go_wp2_with (first
              | ((with_reducible refine at_load ?_); refine wpu_loadO (HB0 _ _ G) rfl (by kernel_rfl) rfl rfl ?_; go_frame)
              | fail)
            go_roundw
            case rel => exact ⟨M, I + 1, rfl, by go_num, by omega, Lib.hid (by
              refine ⟨HI.out.1, ?_⟩
              have := HI.out.2.2
              rw [List.take_of_length_le (by omega)] at this
              exact this), G⟩
            case measure => simp [intOf] <;> omega
      · have HNI : Hid (grown M ∉ C) := Lib.hid (by
          obtain ⟨h1, h2⟩ := HI.out
          rcases h2 with h2 | h2
          · intro hm
            have := grown_le (cl := C) (n := M + 1) (fun q hq => by
              rcases Nat.lt_or_eq_of_le (Nat.le_of_lt_succ hq) with h | h
              · exact h1 q h
              · rw [h]; exact hm)
            omega
          · exact h2)
        have HLE : Hid ((grown M).length ≤ 100) := Lib.hid (by rw [grown_len]; have := grown_le HI.out.1; omega)
        have HNE : Hid (grown M ≠ []) := Lib.hid (grown_ne M)
        clear HI
        generalize grown M = CC at HNI HLE HNE ⊢
        go_wp2_with (first
          | ((with_reducible refine at_alloc ?_); refine wpu_new G ?_; clear G; intro w G)
          | ((with_reducible refine at_drew ?_); refine wpu_drew G ?_; clear G; intro w G)
          | ((with_reducible refine at_load ?_); refine wpu_loadO (HB0 _ _ G) rfl (by kernel_rfl) rfl rfl ?_; go_frame)
          | ((with_reducible refine at_build ?_); refine hold ?_)
          | fail)
        unfold Held
        refine wpu_val rfl (exec_buildT _ rfl (by kernel_rfl) (buildC1 CC _)) ?_
        go_frame
        replace G := own_new_sl (n := 1) (sz := 2) G (chs [⟨CC, one64⟩]) 38 rfl (by decide)
        generalize wr.heap.size = bch at G ⊢
        generalize wr.alloc _ = w at G ⊢
        rw [HAA.out] at G
        clear HAA
        obtain ⟨b15, hb15⟩ : ∃ b, w.heap.size = b := ⟨_, rfl⟩
        have HB15 := Lib.hid hb15
        clear hb15
        go_wp2_with (first
          | ((with_reducible refine at_alloc ?_); refine wpu_new G ?_; clear G; intro w G)
          | ((with_reducible refine at_drew ?_); refine wpu_drew G ?_; clear G; intro w G)
          | ((with_reducible refine at_build ?_); refine hold ?_)
          | ((with_reducible refine at_alloc ?_); refine wpu_new G ?_; clear G; intro w G)
          | ((with_reducible refine at_drew ?_); refine wpu_drew G ?_; clear G; intro w G)
          | ((with_reducible refine at_load ?_); first
            | (refine wpu_load G rfl rfl rfl rfl ?_; go_frame)
            | (refine wpu_loadB G rfl rfl rfl (by rfl) ?_; go_frame)
            | (refine wpu_loadS G rfl rfl rfl (by rfl) ?_; simp only [List.drop_succ_cons, List.drop_zero, List.take_succ_cons, List.take_zero]; go_frame))
          | ((with_reducible refine at_store ?_); first
            | (refine wpu_store G rfl rfl rfl rfl (by first | rfl | assumption | simp [*]) rfl ?_; clear G; intro w G; go_frame)
            | (refine wpu_storeB G rfl rfl rfl rfl (by rfl) (by rfl) (by first | rfl | assumption | simp [*]) ?_; clear G; intro w G; go_frame)
            | (refine wpu_storeS G rfl rfl rfl rfl (by rfl) (by rfl) (by first | rfl | assumption | simp [*]) ?_; clear G; intro w G; go_frame))
          | ((with_reducible refine at_convert ?_); refine wpu_str G rfl rfl rfl rfl ?_; go_frame)
          | ((with_reducible refine at_slice ?_); first
            | (refine wpu_sliceLo rfl rfl rfl rfl (by first | rfl | omega) (by omega) (by omega) ?_; go_frame)
            | (refine wpu_sliceLH rfl rfl rfl rfl rfl (by first | rfl | omega) (by first | rfl | omega) (by omega) (by omega) ?_; go_frame))
          | fail)
        rw [HB15.out] at G ⊢
        clear HB15
        unfold Held
        refine wpu_val rfl (exec_buildT _ rfl (by kernel_rfl) (buildS1 CC _)) ?_
        go_frame
        refine wpu_new G ?_
        clear G; intro w G
        go_wp2_with (first
          | ((with_reducible refine at_append ?_); refine hold ?_)
          | ((with_reducible refine at_alloc ?_); refine wpu_new G ?_; clear G; intro w G)
          | ((with_reducible refine at_drew ?_); refine wpu_drew G ?_; clear G; intro w G)
          | ((with_reducible refine at_load ?_); first
            | (refine wpu_load G rfl rfl rfl rfl ?_; go_frame)
            | (refine wpu_loadB G rfl rfl rfl (by rfl) ?_; go_frame)
            | (refine wpu_loadS G rfl rfl rfl (by rfl) ?_; simp only [List.drop_succ_cons, List.drop_zero, List.take_succ_cons, List.take_zero]; go_frame))
          | ((with_reducible refine at_store ?_); first
            | (refine wpu_store G rfl rfl rfl rfl (by first | rfl | assumption | simp [*]) rfl ?_; clear G; intro w G; go_frame)
            | (refine wpu_storeB G rfl rfl rfl rfl (by rfl) (by rfl) (by first | rfl | assumption | simp [*]) ?_; clear G; intro w G; go_frame)
            | (refine wpu_storeS G rfl rfl rfl rfl (by rfl) (by rfl) (by first | rfl | assumption | simp [*]) ?_; clear G; intro w G; go_frame))
          | ((with_reducible refine at_convert ?_); refine wpu_str G rfl rfl rfl rfl ?_; go_frame)
          | ((with_reducible refine at_slice ?_); first
            | (refine wpu_sliceLo rfl rfl rfl rfl (by first | rfl | omega) (by omega) (by omega) ?_; go_frame)
            | (refine wpu_sliceLH rfl rfl rfl rfl rfl (by first | rfl | omega) (by first | rfl | omega) (by omega) (by omega) ?_; go_frame))
          | fail)
        unfold Held
        refine wpu_append1 (n := C.length) (sz := 1) G rfl rfl rfl rfl rfl (by rfl) (by unfold maxLen; omega) (by omega) ?_
        clear G; intro v w G
        obtain ⟨xo, xc, rfl, e1, e2⟩ := G.hdr v
        unfold maxLen at e2
        go_frame
        rw [show strs C ++ strs [CC] = strs (C ++ [CC]) from strs_app _ _] at G
        go_wp2_with (first
          | ((with_reducible refine at_store ?_); refine wpu_store G rfl rfl rfl rfl rfl rfl ?_; clear G; intro w G; go_frame)
          | fail)
        simp only [List.set_cons_succ, List.set_cons_zero] at G
        replace G := own_drew G
        refine wp_region_mix [3, 0, 3, 0, 3, 3, 0, 0, 1, 1, 3, 3, 2] (Own wg (blk b11 [.int .i64 ver, .slice xo (C.length + 1) xc, .slice (some la) 1 lcap] * (sl 2 (.slice (some la) 1 lcap) 1 [ln, .slice lro RS.length lrc] * blk b15 [str [], .int .i64 0, str [], str [], .slice none 0 0, .slice (some ⟨bch, 0, none⟩) 1 1, .int .i64 0]))) (by kernel_rfl) (by kernel_rfl) (G.sub _) ?_
        have GB : Own wg (blk b11 [.int .i64 ver, .slice xo (C.length + 1) xc, .slice (some la) 1 lcap] * (sl 2 (.slice (some la) 1 lcap) 1 [ln, .slice lro RS.length lrc] * blk b15 [str [], .int .i64 0, str [], str [], .slice none 0 0, .slice (some ⟨bch, 0, none⟩) 1 1, .int .i64 0])) _ := G.sub _
        refine mix_plain 1 (by rfl) (by rfl) ?_
        intro ι W hne
        dsimp only [List.take, List.drop]
        repeat (go_big_quiet_step (fail))
        refine wpQuiet_nil ?_
        clear hne W ι
        refine mix_calm 1 (GB) (by rfl) (by rfl) ?_
        intro ι W hne hW
        dsimp only [List.take, List.drop]
        repeat (first | ((with_reducible refine atq_load ?_); first | (refine wpq_load hW rfl rfl rfl rfl ?_; go_frame) | (refine wpq_loadB hW rfl rfl rfl (by rfl) ?_; go_frame) | (refine wpq_loadS hW rfl rfl rfl (by rfl) ?_; simp only [List.drop_succ_cons, List.drop_zero, List.take_succ_cons, List.take_zero]; go_frame)) | (fail) | go_big_quiet_step (fail))
        refine wpQuiet_nil ?_
        clear  hW hne W ι
        refine mix_plain 1 (by rfl) (by rfl) ?_
        intro ι W hne
        dsimp only [List.take, List.drop]
        repeat (go_big_quiet_step (fail))
        refine wpQuiet_nil ?_
        clear hne W ι
        refine mix_calm 1 (GB) (by rfl) (by rfl) ?_
        intro ι W hne hW
        dsimp only [List.take, List.drop]
        repeat (first | ((with_reducible refine atq_load ?_); first | (refine wpq_load hW rfl rfl rfl rfl ?_; go_frame) | (refine wpq_loadB hW rfl rfl rfl (by rfl) ?_; go_frame) | (refine wpq_loadS hW rfl rfl rfl (by rfl) ?_; simp only [List.drop_succ_cons, List.drop_zero, List.take_succ_cons, List.take_zero]; go_frame)) | (fail) | go_big_quiet_step (fail))
        refine wpQuiet_nil ?_
        clear  hW hne W ι
        refine mix_plain 2 (by rfl) (by rfl) ?_
        intro ι W hne
        dsimp only [List.take, List.drop]
        repeat (go_big_quiet_step (fail))
        refine wpQuiet_nil ?_
        clear hne W ι
        refine mix_calm 1 (GB) (by rfl) (by rfl) ?_
        intro ι W hne hW
        dsimp only [List.take, List.drop]
        repeat (first | ((with_reducible refine atq_load ?_); refine wpq_loadF (k := 0) (j := 0) (sz := 2) (m := 1) (xs := [ln, .slice lro RS.length lrc]) (fun i => own_rd ((hW i).pull (sl 2 (.slice (some la) 1 lcap) 1 [ln, .slice lro RS.length lrc]))) rfl rfl (by kernel_rfl) rfl rfl ?_; go_frame) | ((with_reducible refine atq_load ?_); first | (refine wpq_load hW rfl rfl rfl rfl ?_; go_frame) | (refine wpq_loadB hW rfl rfl rfl (by rfl) ?_; go_frame)) | go_big_quiet_step (fail))
        refine wpQuiet_nil ?_
        clear  hW hne W ι
        refine mix_calm 1 (GB) (by rfl) (by rfl) ?_
        intro ι W hne hW
        dsimp only [List.take, List.drop]
        repeat (first | ((with_reducible refine atq_load ?_); first | (refine wpq_load hW rfl rfl rfl rfl ?_; go_frame) | (refine wpq_loadB hW rfl rfl rfl (by rfl) ?_; go_frame) | (refine wpq_loadS hW rfl rfl rfl (by rfl) ?_; simp only [List.drop_succ_cons, List.drop_zero, List.take_succ_cons, List.take_zero]; go_frame)) | (fail) | go_big_quiet_step (fail))
        refine wpQuiet_nil ?_
        clear  hW hne W ι
        clear GB
        refine mix_loud rfl (fun K hK => ?_)
        refine wpk_v (exec_buildT _ rfl (by kernel_rfl) (buildR1 (str []) (.int .i64 0) (str []) (str []) (.slice none 0 0) (.slice (some ⟨bch, 0, none⟩) 1 1) (.int .i64 0) _)) ?_
        replace G := own_new G (rtCs (allR CC) (.slice none 0 0) (.slice (some ⟨bch, 0, none⟩) 1 1)) 42
        change K (Act.put _ _ _) (World.alloc _ (.cells (rtCs (allR CC) (.slice none 0 0) (.slice (some ⟨bch, 0, none⟩) 1 1)).toArray 42))
        generalize w.drew.heap.size = bn1 at G ⊢
        generalize w.drew.alloc _ = w at G ⊢
        refine hK _ _ ⟨G.sub _, ?_⟩
        clear hK
        try go_frame
        refine mix_loud rfl (fun K hK => ?_)
        refine wpk_append1 (n := RS.length) (sz := 7) G rfl rfl rfl (by rfl) (by rfl) (by unfold maxLen; omega) (by omega) fun v w G => ?_
        obtain ⟨yo, yc, rfl, e3, e4⟩ := G.hdr v
        unfold maxLen at e4
        refine hK _ _ ⟨G.sub _, ?_⟩
        clear hK
        try go_frame
        refine mix_plain 2 (by rfl) (by rfl) ?_
        intro ι W hne
        dsimp only [List.take, List.drop]
        repeat (go_big_quiet_step (fail))
        refine wpQuiet_nil ?_
        clear hne W ι
        refine mix_last rfl (fun K hK => ?_)
        refine wpk_storeF (k := 0) (j := 0) (cap := lcap) (sz := 2) (n := 1) G rfl rfl rfl rfl (by omega) ?_
        clear G; intro w G
        refine hK _ _ ?_
        clear hK
        try go_frame
        refine mix_nil ?_
        simp only [Nat.zero_mul, Nat.zero_add, List.set_cons_succ, List.set_cons_zero] at G
        -- once more the ground is this world
        have hsl := sn_read (last_end (v := ver) (cl := C) (rs := RS) (x := CC) (vc := .slice xo (C.length + 1) xc) (vh := .slice (some la) 1 lcap) (vn := ln) (vr := .slice yo (RS.length + 1) yc) (vk := (.slice (some ⟨bch, 0, none⟩) 1 1)) (R := emp) L7.out ((G.sub (sl 1 (.slice xo (C.length + 1) xc) (C.length + 1) (strs (C ++ [CC])) * (sl 2 (.slice (some la) 1 lcap) 1 [ln, .slice yo (RS.length + 1) yc] * (sl 1 ln 1 (strs [[42]]) * (sl 7 (.slice yo (RS.length + 1) yc) (RS.length + 1) (lrows.flatten ++ rtCs (allR CC) (.slice none 0 0) (.slice (some ⟨bch, 0, none⟩) 1 1)) * (starL rtA lrows RS * sl 2 (.slice (some ⟨bch, 0, none⟩) 1 1) 1 (chs [⟨CC, one64⟩]))))))).eq (by rw [star_emp])))
        have hb11 := oldBlk_of (G.pull (blk b11 [.int .i64 ver, .slice xo (C.length + 1) xc, .slice (some la) 1 lcap]))
        have hb15 := oldBlk_of (G.pull (blk b15 [str [], .int .i64 0, str [], str [], .slice none 0 0, .slice (some ⟨bch, 0, none⟩) 1 1, .int .i64 0]))
        have hch := own_rd (G.pull (sl 2 (.slice (some ⟨bch, 0, none⟩) 1 1) 1 (chs [⟨CC, one64⟩])))
        have hfu2 := HFU _ _ G
        have hsn2 := HSN _ _ G
        have hb02 := HB0 _ _ G
        have GW2 := Lib.hid (own_kept GW.out G.1)
        obtain ⟨wg2, hwg2⟩ : ∃ u, w = u := ⟨_, rfl⟩
        rw [hwg2] at GW2 hsl hb11 hb15 hch hfu2 hsn2 hb02 ⊢
        clear G hwg2 HFU HSN HB0 GW HCL
        have G := own_begin wg2
        have HB0 : ∀ A u, Own wg2 A u → OldBlk u b0 [.int .i64 ver, .slice (some cad) C.length cc, .slice (some ha) 1 hc] := fun A u h => hb02.old h
        have HB11 : ∀ A u, Own wg2 A u → OldBlk u b11 [.int .i64 ver, .slice xo (C.length + 1) xc, .slice (some la) 1 lcap] := fun A u h => hb11.old h
        have HB15 : ∀ A u, Own wg2 A u → OldBlk u b15 [str [], .int .i64 0, str [], str [], .slice none 0 0, .slice (some ⟨bch, 0, none⟩) 1 1, .int .i64 0] := fun A u h => hb15.old h
        have HSL : ∀ A u, Own wg2 A u → rdSn u [.int .i64 ver, .slice xo (C.length + 1) xc, .slice (some la) 1 lcap] (oneS ver (C ++ [CC]) (RS ++ [allR CC])) := fun A u h => hsl.old h
        have HFU : ∀ A u, Own wg2 A u → rd u 3 (.slice fo m fc) F.length (fds F) := fun A u h => hfu2.old h
        have HCH : ∀ A u, Own wg2 A u → rd u 2 (.slice (some ⟨bch, 0, none⟩) 1 1) 1 (chs [⟨CC, one64⟩]) := fun A u h => hch.old h
        have HSN : ∀ A u, Own wg2 A u → rdSn u [.int .i64 ver, .slice (some cad) C.length cc, .slice (some ha) 1 hc] (oneS ver C RS) := fun A u h => hsn2.old h
        obtain ⟨x1, x2, vn0, vr0, xs0, e0, -, hh0, -, hr0, hR0⟩ := rdSn_one hsn2
        injection e0 with _ e0; injection e0 with e1 e0; injection e0 with e2 _
        subst e1 e2
        obtain ⟨zo, zc, rfl, z1, z2, -⟩ := id hr0
        unfold maxLen at z2
        have hx1 := rdL_one hR0 (fun _ _ h => rt_one h)
        have HH0 : ∀ A u, Own wg2 A u → rd u 2 (.slice (some ha) 1 hc) 1 [vn0, .slice zo RS.length zc] := fun A u h => hh0.old h
        have HR0 : ∀ A u, Own wg2 A u → rd u 7 (.slice zo RS.length zc) RS.length xs0 := fun A u h => hr0.old h
        have okL : (oneS ver (C ++ [CC]) (RS ++ [allR CC])).ok := oneS_ok (fun c h => by
          rcases List.mem_append.1 h with h | h
          · exact okc c h
          · rw [List.mem_singleton.1 h]; exact Nat.le_trans HLE.out (by decide)) (fun r h => by
          rcases List.mem_append.1 h with h | h
          · exact okr r h
          · rw [List.mem_singleton.1 h]; exact allR_ok HLE.out)
        have okF2 : (oneS ver (C ++ [CC]) (allR CC :: RS)).ok := oneS_ok okL.1 (fun r h => by
          rcases List.mem_cons.1 h with rfl | h
          · exact allR_ok HLE.out
          · exact okr r h)
        have HRL := Lib.hid (RL CC HNI.out HNE.out)
        have HRF := Lib.hid (RF CC HNI.out HNE.out)
        clear hsl hb11 hb15 hch hfu2 hsn2 hb02 hh0 RL RF HNI HNE
        go_wp2_with (first
          | ((with_reducible refine at_load ?_); refine wpu_loadOB (HB11 _ _ G) rfl (by kernel_rfl) rfl rfl ?_; go_frame)
          | fail)
        refine Calls.mono (findC (s := (oneS ver (C ++ [CC]) (RS ++ [allR CC]))) (F := F) (d := d) (HSL _ _ G) okL (HFU _ _ G) okF hd) ?_
        rintro e w7 ⟨rfl, hb1⟩
        replace G := own_kept G hb1
        clear hb1
        obtain ⟨D, N1, hDN⟩ : ∃ D N1, (goesR RS (firstF F [58, 112, 97, 116, 104]) F d).getD (CC, 0) = (D, N1) := ⟨_, _, rfl⟩
        have HDN : Hid ((C0 = true → D = A0 ∧ N1 = N0) ∧ (C0 = false → D = CC)) := Lib.hid (by
          rcases HX.out with ⟨rfl, h⟩ | ⟨rfl, h⟩
          · rw [h] at hDN
            obtain ⟨rfl, rfl⟩ := Prod.mk.inj (show (A0, N0) = (D, N1) from hDN)
            exact ⟨fun _ => ⟨rfl, rfl⟩, (fun h => by cases h)⟩
          · rw [h] at hDN
            obtain ⟨rfl, rfl⟩ := Prod.mk.inj (show (CC, (0 : Int)) = (D, N1) from hDN)
            exact ⟨(fun h => by cases h), fun _ => rfl⟩)
        rw [find_one HRL.out, goes_last, hDN, show findV (some (D, N1)) = .tuple #[str D, .int .i64 N1, .bool true] from rfl]
        clear hDN HX
        go_wp2_with (first
          | ((with_reducible refine at_load ?_); refine wpu_loadOB (HB11 _ _ G) rfl (by kernel_rfl) rfl rfl ?_; go_frame)
          | fail)
        refine Calls.mono (copyC (s := (oneS ver (C ++ [CC]) (RS ++ [allR CC]))) (HSL _ _ G) (right_small HRL.out)) ?_
        rintro e w8 ⟨cs', rfl, G1⟩
        replace G := own_join G G1
        clear G1
        obtain ⟨fc1, flo, fcap, fn, fr, frows, rfl, f7, G⟩ := own_oneA G
        obtain ⟨fro, frc, rfl, f1, f2⟩ := G.hdr fr
        obtain ⟨fco, fcc, rfl, f3, f4⟩ := G.hdr fc1
        obtain ⟨fa, rfl⟩ := rd_some (own_rd (G.pull (sl 2 (.slice flo 1 fcap) 1 [fn, .slice fro (RS ++ [allR CC]).length frc]))) (by omega)
        unfold maxLen at f2 f4
        clear f7
        have hC1 : (C ++ [CC]).length = C.length + 1 := by simp
        have hR1 : (RS ++ [allR CC]).length = RS.length + 1 := by simp
        rw [hC1, hR1] at G
        rw [hC1] at f3 ⊢
        rw [hR1] at f1
        clear hC1 hR1
        obtain ⟨b19, hb19⟩ : ∃ b, w8.heap.size = b := ⟨_, rfl⟩
        have HB19 := Lib.hid hb19
        clear hb19
        go_wp2_with (first
          | ((with_reducible refine at_alloc ?_); refine wpu_new G ?_; clear G; intro w G)
          | ((with_reducible refine at_drew ?_); refine wpu_drew G ?_; clear G; intro w G)
          | ((with_reducible refine at_alloc ?_); refine wpu_new G ?_; clear G; intro w G)
          | ((with_reducible refine at_drew ?_); refine wpu_drew G ?_; clear G; intro w G)
          | ((with_reducible refine at_load ?_); first
            | (refine wpu_load G rfl rfl rfl rfl ?_; go_frame)
            | (refine wpu_loadB G rfl rfl rfl (by rfl) ?_; go_frame)
            | (refine wpu_loadS G rfl rfl rfl (by rfl) ?_; simp only [List.drop_succ_cons, List.drop_zero, List.take_succ_cons, List.take_zero]; go_frame))
          | ((with_reducible refine at_store ?_); first
            | (refine wpu_store G rfl rfl rfl rfl (by first | rfl | assumption | simp [*]) rfl ?_; clear G; intro w G; go_frame)
            | (refine wpu_storeB G rfl rfl rfl rfl (by rfl) (by rfl) (by first | rfl | assumption | simp [*]) ?_; clear G; intro w G; go_frame)
            | (refine wpu_storeS G rfl rfl rfl rfl (by rfl) (by rfl) (by first | rfl | assumption | simp [*]) ?_; clear G; intro w G; go_frame))
          | ((with_reducible refine at_convert ?_); refine wpu_str G rfl rfl rfl rfl ?_; go_frame)
          | ((with_reducible refine at_slice ?_); first
            | (refine wpu_sliceLo rfl rfl rfl rfl (by first | rfl | omega) (by omega) (by omega) ?_; go_frame)
            | (refine wpu_sliceLH rfl rfl rfl rfl rfl (by first | rfl | omega) (by first | rfl | omega) (by omega) (by omega) ?_; go_frame))
          | fail)
        rw [HB19.out] at G ⊢
        clear HB19
        replace G := own_drew G
        refine wp_region_mix [3, 0, 0, 1, 3, 0, 3, 3, 0, 1, 3, 3, 2] (Own wg2 (blk b19 [.int .i64 ver, .slice fco (C.length + 1) fcc, .slice (some fa) 1 fcap] * sl 2 (.slice (some fa) 1 fcap) 1 [fn, .slice fro (RS.length + 1) frc])) (by kernel_rfl) (by kernel_rfl) (G.sub _) ?_
        have GB : Own wg2 (blk b19 [.int .i64 ver, .slice fco (C.length + 1) fcc, .slice (some fa) 1 fcap] * sl 2 (.slice (some fa) 1 fcap) 1 [fn, .slice fro (RS.length + 1) frc]) _ := G.sub _
        refine mix_plain 1 (by rfl) (by rfl) ?_
        intro ι W hne
        dsimp only [List.take, List.drop]
        repeat (go_big_quiet_step (fail))
        refine wpQuiet_nil ?_
        clear hne W ι
        refine mix_calm 1 (GB) (by rfl) (by rfl) ?_
        intro ι W hne hW
        dsimp only [List.take, List.drop]
        repeat (first | ((with_reducible refine atq_load ?_); first | (refine wpq_load hW rfl rfl rfl rfl ?_; go_frame) | (refine wpq_loadB hW rfl rfl rfl (by rfl) ?_; go_frame) | (refine wpq_loadS hW rfl rfl rfl (by rfl) ?_; simp only [List.drop_succ_cons, List.drop_zero, List.take_succ_cons, List.take_zero]; go_frame)) | (fail) | go_big_quiet_step (fail))
        refine wpQuiet_nil ?_
        clear  hW hne W ι
        refine mix_calm 1 (GB) (by rfl) (by rfl) ?_
        intro ι W hne hW
        dsimp only [List.take, List.drop]
        repeat (first | ((with_reducible refine atq_load ?_); refine wpq_loadOB (fun i => HB15 _ _ (hW i)) rfl (by kernel_rfl) rfl rfl ?_; go_frame) | ((with_reducible refine atq_load ?_); first | (refine wpq_load hW rfl rfl rfl rfl ?_; go_frame) | (refine wpq_loadB hW rfl rfl rfl (by rfl) ?_; go_frame)) | go_big_quiet_step (fail))
        refine wpQuiet_nil ?_
        clear  hW hne W ι
        clear GB
        refine mix_loud rfl (fun K hK => ?_)
        refine wpk_v (exec_buildT _ rfl (by kernel_rfl) (buildR1 (str []) (.int .i64 0) (str []) (str []) (.slice none 0 0) (.slice (some ⟨bch, 0, none⟩) 1 1) (.int .i64 0) _)) ?_
        replace G := own_new_sl (n := 1) (sz := 7) G (rtCs (allR CC) (.slice none 0 0) (.slice (some ⟨bch, 0, none⟩) 1 1)) 42 rfl (by decide)
        change K (Act.put _ _ _) (World.alloc _ (.cells (rtCs (allR CC) (.slice none 0 0) (.slice (some ⟨bch, 0, none⟩) 1 1)).toArray 42))
        generalize w.drew.heap.size = bn2 at G ⊢
        generalize w.drew.alloc _ = w at G ⊢
        refine hK _ _ ⟨G.sub _, ?_⟩
        clear hK
        try go_frame
        have GB : Own wg2 (blk b19 [.int .i64 ver, .slice fco (C.length + 1) fcc, .slice (some fa) 1 fcap] * sl 2 (.slice (some fa) 1 fcap) 1 [fn, .slice fro (RS.length + 1) frc]) _ := G.sub _
        refine mix_plain 1 (by rfl) (by rfl) ?_
        intro ι W hne
        dsimp only [List.take, List.drop]
        repeat (go_big_quiet_step (fail))
        refine wpQuiet_nil ?_
        clear hne W ι
        refine mix_calm 1 (GB) (by rfl) (by rfl) ?_
        intro ι W hne hW
        dsimp only [List.take, List.drop]
        repeat (first | ((with_reducible refine atq_load ?_); refine wpq_loadO (fun i => HB0 _ _ (hW i)) rfl (by kernel_rfl) rfl rfl ?_; go_frame) | ((with_reducible refine atq_load ?_); first | (refine wpq_load hW rfl rfl rfl rfl ?_; go_frame) | (refine wpq_loadB hW rfl rfl rfl (by rfl) ?_; go_frame)) | go_big_quiet_step (fail))
        refine wpQuiet_nil ?_
        clear  hW hne W ι
        refine mix_plain 2 (by rfl) (by rfl) ?_
        intro ι W hne
        dsimp only [List.take, List.drop]
        repeat (go_big_quiet_step (fail))
        refine wpQuiet_nil ?_
        clear hne W ι
        refine mix_calm 1 (GB) (by rfl) (by rfl) ?_
        intro ι W hne hW
        dsimp only [List.take, List.drop]
        repeat (first | ((with_reducible refine atq_load ?_); refine wpq_loadF (k := 0) (j := 0) (fun i => HH0 _ _ (hW i)) rfl rfl (by kernel_rfl) rfl rfl ?_; go_frame) | ((with_reducible refine atq_load ?_); first | (refine wpq_load hW rfl rfl rfl rfl ?_; go_frame) | (refine wpq_loadB hW rfl rfl rfl (by rfl) ?_; go_frame)) | go_big_quiet_step (fail))
        refine wpQuiet_nil ?_
        clear  hW hne W ι
        clear GB
        refine mix_loud rfl (fun K hK => ?_)
        refine wpk_append (n := 1) (m := RS.length) (sz := 7) G rfl rfl rfl (HR0 _ _ G) hx1 (by unfold maxLen; omega) (by omega) fun v w G => ?_
        rw [Nat.add_comm 1 RS.length] at G
        obtain ⟨yo, yc, rfl, e3, e4⟩ := G.hdr v
        unfold maxLen at e4
        refine hK _ _ ⟨G.sub _, ?_⟩
        clear hK
        try go_frame
        refine mix_plain 2 (by rfl) (by rfl) ?_
        intro ι W hne
        dsimp only [List.take, List.drop]
        repeat (go_big_quiet_step (fail))
        refine wpQuiet_nil ?_
        clear hne W ι
        refine mix_last rfl (fun K hK => ?_)
        refine wpk_storeF (k := 0) (j := 0) (cap := fcap) (sz := 2) (n := 1) G rfl rfl rfl rfl (by omega) ?_
        clear G; intro w G
        refine hK _ _ ?_
        clear hK
        try go_frame
        refine mix_nil ?_
        simp only [Nat.zero_mul, Nat.zero_add, List.set_cons_succ, List.set_cons_zero] at G
        have hsf : rdSn w [.int .i64 ver, .slice fco (C.length + 1) fcc, .slice (some fa) 1 fcap] (oneS ver (C ++ [CC]) (allR CC :: RS)) :=
          rd_oneS (vn := fn) (vr := .slice yo (RS.length + 1) yc) (xs := rtCs (allR CC) (.slice none 0 0) (.slice (some ⟨bch, 0, none⟩) 1 1) ++ xs0) (by rw [List.length_append, List.length_singleton]; exact own_rd (G.pull (sl 1 (.slice fco (C.length + 1) fcc) (C.length + 1) (strs (C ++ [CC]))))) (own_rd (G.pull (sl 2 (.slice (some fa) 1 fcap) 1 [fn, .slice yo (RS.length + 1) yc]))) (own_rd (G.pull (sl 1 fn 1 (strs [[42]])))) (own_rd (G.pull (sl 7 (.slice yo (RS.length + 1) yc) (RS.length + 1) (rtCs (allR CC) (.slice none 0 0) (.slice (some ⟨bch, 0, none⟩) 1 1) ++ xs0)))) (rdL_cons (hR0.next fun _ _ h => h.next G.1) rfl ⟨_, _, rfl, rd_nil w 4, HCH _ _ G⟩)
        go_wp2_with (first
          | ((with_reducible refine at_alloc ?_); refine wpu_new G ?_; clear G; intro w G)
          | ((with_reducible refine at_drew ?_); refine wpu_drew G ?_; clear G; intro w G)
          | ((with_reducible refine at_load ?_); first
            | (refine wpu_load G rfl rfl rfl rfl ?_; go_frame)
            | (refine wpu_loadB G rfl rfl rfl (by rfl) ?_; go_frame)
            | (refine wpu_loadS G rfl rfl rfl (by rfl) ?_; simp only [List.drop_succ_cons, List.drop_zero, List.take_succ_cons, List.take_zero]; go_frame))
          | ((with_reducible refine at_store ?_); first
            | (refine wpu_store G rfl rfl rfl rfl (by first | rfl | assumption | simp [*]) rfl ?_; clear G; intro w G; go_frame)
            | (refine wpu_storeB G rfl rfl rfl rfl (by rfl) (by rfl) (by first | rfl | assumption | simp [*]) ?_; clear G; intro w G; go_frame)
            | (refine wpu_storeS G rfl rfl rfl rfl (by rfl) (by rfl) (by first | rfl | assumption | simp [*]) ?_; clear G; intro w G; go_frame))
          | ((with_reducible refine at_convert ?_); refine wpu_str G rfl rfl rfl rfl ?_; go_frame)
          | ((with_reducible refine at_slice ?_); first
            | (refine wpu_sliceLo rfl rfl rfl rfl (by first | rfl | omega) (by omega) (by omega) ?_; go_frame)
            | (refine wpu_sliceLH rfl rfl rfl rfl rfl (by first | rfl | omega) (by first | rfl | omega) (by omega) (by omega) ?_; go_frame))
          | fail)
        refine Calls.mono (findC (s := oneS ver (C ++ [CC]) (allR CC :: RS)) (F := F) (d := d) hsf okF2 (HFU _ _ G) okF hd) ?_
        rintro e w9 ⟨rfl, hb1⟩
        replace G := own_kept G hb1
        clear hb1 hsf
        rw [find_one HRF.out, goes_all, show findV (some (CC, 0)) = .tuple #[str CC, .int .i64 0, .bool true] from rfl]
        cases C0 with
        | true =>
          obtain ⟨rfl, rfl⟩ := HDN.out.1 rfl
          go_wp2_with (first
            | go_big_skip
            | ((with_reducible refine at_eqS ?_); refine wpu_eqS (b := true) rfl (by kernel_rfl) rfl rfl (by simp) ?_; go_frame)
            | fail)
          go_ret
          exact ⟨by simp, hb ▸ (own_kept GW2.out G.1).below⟩
        | false =>
          obtain rfl := HDN.out.2 rfl
          go_wp2_with (first
            | go_big_skip
            | ((with_reducible refine at_eqS ?_); refine wpu_eqS (b := true) rfl (by kernel_rfl) rfl rfl (by simp) ?_; go_frame)
            | fail)
          go_ret
          exact ⟨by simp, hb ▸ (own_kept GW2.out G.1).below⟩

theorem contract {H : Type} {enc : TypeId × Value → H} {W : World} {vs : List Value} {ds : List (DataW H)}
    (hA : Args enc Tryd.prog W [25, 26, 27] vs ds) (hsz : (DataW.weightsEach Tryd.prog [25, 26, 27] ds).all (· ≤ reachBytes) = true) (hL : laidMetH Tryd.prog Rows.routeFirstRow.laid W) :
    Calls Tryd.prog 3 vs.toArray W fun e W' => e = .returned (.bool true) ∧ Below W.heap.size W W' := by
  obtain ⟨v0, _, d0, _, rfl, rfl, h0, hA⟩ := args_cons hA
  obtain ⟨v1, _, d1, _, rfl, rfl, h1, hA⟩ := args_cons hA
  obtain ⟨v2, _, d2, _, rfl, rfl, h2, hA⟩ := args_cons hA
  obtain ⟨rfl, rfl⟩ := args_nil hA
  obtain ⟨cs, rfl, hz0⟩ := argz_struct Tryd.underlying25 h0 hsz 0 rfl rfl
  obtain ⟨s, ok, hs, -⟩ := snap_in hz0
  obtain ⟨F, hF, okF⟩ := fsz_in (argz_slice Tryd.underlying26 h1 hsz 1 rfl rfl)
  obtain ⟨d, rfl, hd⟩ := arg_u64 Tryd.underlying27 h2
  exact firW hs ok hF okF hd






theorem spec {H : Type} : ∀ ds : List (DataW H), ds.length = 3 → Rows.routeFirstSpec.fn H ds = { results := [.lit (.bool true)], args := ds }
  | [_, _, _], _ => rfl
  | [], h => by cases h
  | [_], h => by cases h
  | [_, _], h => by cases h
  | _ :: _ :: _ :: _ :: _, h => by simp at h
theorem door_met (os : Os) (args : Array Value) : laidMetH Tryd.prog Rows.routeFirstRow.laid ((World.setRow (World.doorLaid Tryd.prog 19 os) (Tryd.prog.globalNamed "unicode/utf8.first").get! (Go.Pinned.utf8FirstZ.map fun z : Nat => Value.int .u8 (z : Int)).toArray).forCall (fun _ _ => 0) ⟨#[], args, []⟩).memory :=
  laidMetH_of_parts3 (fuel := 8) (laidMet_of_run' 8 (by kernel_rfl) (by kernel_rfl)) (by kernel_rfl) (by kernel_rfl)
set_option maxRecDepth 100000 in
theorem lifted (os : Os) (started : os.Started) (H : Type) (enc : TypeId × Value → H) :
    ReturnsInHanded {} Tryd.checked os 3 .any (fun w args => (Rows.routeFirstSpec.pre enc Tryd.prog Tryd.f3 Rows.routeFirstRow.domain false w args ∧ laidMetH Tryd.prog Rows.routeFirstRow.laid w) ∧ sizedMet enc Tryd.prog Tryd.f3 (OpenSpec.ofChange Rows.routeFirstSpec) false w args)
      (Rows.routeFirstSpec.post enc Tryd.prog Tryd.f3 false true false false) :=
  lifted_of_law_laid (C := Tryd.checked) (fn := Tryd.f3) (s := Rows.routeFirstSpec) (tb := 4) (by kernel_rfl) started (by kernel_rfl) Tryd.func3
    (ChangeSpec.witness_shaped (enc := enc) (C := Tryd.checked) (os := os) (X := fun w _ => laidMetH Tryd.prog Rows.routeFirstRow.laid w) false (World.setRow (World.doorLaid Tryd.prog 19 os) (Tryd.prog.globalNamed "unicode/utf8.first").get! (Go.Pinned.utf8FirstZ.map fun z : Nat => Value.int .u8 (z : Int)).toArray) #[.agg #[.int .i64 0, .slice none 0 0, .slice none 0 0], .slice none 0 0, .int .u64 0] 8 rfl (World.shaped_of_RefB (by kernel_rfl) (by kernel_rfl)) (by kernel_rfl) (by kernel_rfl) (by kernel_rfl) (door_met os _))
    rfl spec (by kernel_rfl) Tryd.underlying4 (by kernel_rfl) (by kernel_rfl) (fun _ _ _ h1 h2 h3 => contract h1 h2 h3)

theorem holds : Rows.RouteFirstSaid :=
  OpenClaim.holds_of_wide 3 Tryd.f3 rfl rfl rfl rfl rfl rfl rfl ⟨rfl, rfl, rfl, rfl, rfl⟩ rfl rfl rfl rfl rfl (by kernel_rfl) Tryd.func3 (by kernel_rfl)
    (of_decide_eq_true (by kernel_rfl)) (by unfold Func.isWrapper; first | (rw [if_pos (by decide +kernel)]; kernel_rfl) | (rw [if_neg (by decide +kernel)]; exact ⟨rfl, rfl⟩))
    (fun os started H enc _ => lifted os started H enc)

theorem proved : Rows.RouteFirstCardSaid :=
  Claim7.holds_tied_plain_at .later [] [.data, .pinned] true (true, "8ad4a4f5b69d3fbbf86e42b9283652f351f0a1c623a0149f61aae9e179e7ce1c") false
    holds (fun _ h => by cases h) (by kernel_rfl) (fun _ h => by cases h) routeFirst_row_tie rfl ⟨rfl, rfl⟩ (by kernel_rfl) rfl
    (fun f fn hf hfn => by
      obtain rfl : f = 3 := Option.some.inj ((show Tryd.prog.funcNamed "flume/flumelaw16.RouteFirst" = some 3 by kernel_rfl).symm.trans hf) |>.symm
      obtain rfl : fn = Tryd.f3 := (Option.some.inj (Tryd.func3.symm.trans hfn)).symm
      exact ⟨by kernel_rfl, fun j t ht => by
        rw [Tryd.params3] at ht
        have hm : t ∈ [25, 26, 27] := by simpa using Array.mem_of_getElem? ht
        have hall : ([25, 26, 27].all fun u => !Tryd.prog.wantsStandIn u) = true := by kernel_rfl
        exact (show Tryd.prog.wantsStandIn t = false by simpa using List.all_eq_true.1 hall t hm)⟩)
    (by kernel_rfl)
end Go.Proofs.YtjcpfldobiekbaaDoor.routeFirst
