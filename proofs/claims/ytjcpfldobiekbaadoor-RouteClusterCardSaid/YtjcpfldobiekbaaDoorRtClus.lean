




/-
  RouteCluster: a request goes to a cluster that there is, of weight above 0.
-/
import Derived.Test.YtjcpfldobiekbaaDoorRtOld
import Derived.Test.YtjcpfldobiekbaaDoorCmp
import Derived.Test.YtjcpfldobiekbaaDoorLawD
import Derived.Test.YtjcpfldobiekbaaDoorTie
import Derived.Test.YtjcpfldobiekbaaDoorCards
import Derived.SevenTiedAt
namespace Go.Proofs.YtjcpfldobiekbaaDoor.routeCluster
open Go.RowKit Go.Sl Go.ChangeShapes Go.Fl

/-- where a request goes stands in the snapshot -/
theorem find_there {S : Sn} {F : List Fd} {d : Nat} {c : Txt} {n : Int} (hd : d < 2 ^ 64) (h : findR S F d = some (c, n)) :
    rightR S = true ∧ ∃ (i : Nat) (h : Hs) (k : Nat) (r : Rt) (m : Nat) (ch : Ch), S.hosts[i]? = some h ∧ h.routes[k]? = some r ∧ r.choices[m]? = some ch ∧ ch.cluster = c ∧ pos ch.weight = true ∧ r.ticks = n := by
  rw [find_eq] at h
  split at h
  · rename_i hr
    refine ⟨hr, ?_⟩
    cases e : (nearH (firstF F [58, 97, 117, 116, 104, 111, 114, 105, 116, 121]) 0 (0, none) S.hosts).2 with
    | none => rw [e] at h; cases h
    | some i =>
      rw [e] at h
      unfold wentR at h
      cases e2 : S.hosts[i]? with
      | none => simp only [e2] at h; cases h
      | some x =>
        simp only [e2] at h
        unfold goesR at h
        cases e3 : x.routes.find? fun r => fitsR r (firstF F [58, 112, 97, 116, 104]) F with
        | none => rw [e3] at h; cases h
        | some r =>
          rw [e3] at h
          simp only [Option.some.injEq, Prod.mk.injEq] at h
          obtain ⟨h1, h2⟩ := h
          have hm := List.mem_of_find?_eq_some e3
          obtain ⟨k, hk, rfl⟩ := List.mem_iff_getElem.1 hm
          have hmay := right_may hr x (List.mem_of_getElem? e2) _ hm
          have hw := (may_weigh hmay).1
          have hp := pick_pos hw hd
          have hlt := pick_lt hw d
          rw [weights_len] at hlt
          have hch := List.getElem?_eq_getElem hlt
          rw [hch] at h1
          rw [weights_at hch] at hp
          exact ⟨i, x, k, _, _, _, e2, List.getElem?_eq_getElem hk, hch, h1, by simpa using hp, h2⟩
  · cases h

set_option maxHeartbeats 16000000 in
set_option maxRecDepth 100000 in
theorem clusW {w0 : World} {s : Sn} {cs : List Value} {v : Value} {F0 : List Fd} {d : Nat} (hs : rdSn w0 cs s) (ok : s.ok) (hF : rd w0 3 v F0.length (fds F0)) (okF0 : ∀ f ∈ F0, f.1.length ≤ 140737488351232 ∧ f.2.1.length ≤ 140737488351232) (hd : d < 18446744073709551616) :
    Calls Tryd.prog 4 #[.agg cs.toArray, v, .int .u64 (d : Int)] w0 fun e w' => e = .returned (.bool true) ∧ Below w0.heap.size w0 w' := by
  have hs0 := hs
  obtain ⟨vc, vh, xs, rfl, -, -, -⟩ := hs
  obtain ⟨fo, fc, rfl, j1, j2, -⟩ := id hF
  unfold maxLen at j2
  obtain ⟨m, m0, m1, m2⟩ : ∃ k : Nat, min (F0.length : Int) 50 = (k : Int) ∧ k ≤ F0.length ∧ k ≤ 50 := ⟨min F0.length 50, by omega, by omega, by omega⟩
  have hf1 := fds_take hF rfl m1
  have okF : ∀ f ∈ F0.take m, f.2.1.length ≤ 140737488351232 := fun f h => (okF0 f (List.mem_of_mem_take h)).2
  obtain ⟨F, hFF⟩ : ∃ F, F0.take m = F := ⟨_, rfl⟩
  rw [hFF] at hf1 okF
  have hu : ∀ A w, Own w0 A w → rd w 3 (.slice fo m fc) F.length (fds F) := fun A w h => hf1.old h
  have ok2 := cut_ok ok
  have G := own_begin w0
  clear hF hFF okF0 ok hf1
  obtain ⟨S, hS⟩ : ∃ S, cutSn s = S := ⟨_, rfl⟩
  go_enter Tryd.func4, Tryd.ntmps4
  go_wp2_with (first
    | ((with_reducible refine at_alloc ?_); refine wpu_new G ?_; clear G; intro w G)
    | ((with_reducible refine at_drew ?_); refine wpu_drew G ?_; clear G; intro w G)
    | fail)
  refine Calls.mono (shownC G) ?_
  clear G; rintro e w ⟨rfl, G⟩
  go_wp2_with (first
    | ((with_reducible refine at_alloc ?_); refine wpu_new G ?_; clear G; intro w G)
    | ((with_reducible refine at_drew ?_); refine wpu_drew G ?_; clear G; intro w G)
    | ((with_reducible refine at_load ?_); first
      | (refine wpu_load G rfl rfl rfl rfl ?_; go_frame)
      | (refine wpu_loadB G rfl rfl rfl (by rfl) ?_; go_frame)
      | (refine wpu_loadS G rfl rfl rfl (by rfl) ?_; simp only [List.drop_succ_cons, List.drop_zero, List.take_succ_cons, List.take_zero]; go_frame))
    | ((with_reducible refine at_store ?_); first
      | (refine wpu_store G rfl rfl rfl rfl (by first | rfl | assumption | simp [*]) rfl ?_; clear G; intro w G; go_frame)
      | (refine wpu_storeB G rfl rfl rfl rfl (by rfl) (by rfl) (by first | rfl | assumption | simp [*]) ?_; clear G; intro w G; go_frame)
      | (refine wpu_storeS G rfl rfl rfl rfl (by rfl) (by rfl) (by first | rfl | assumption | simp [*]) ?_; clear G; intro w G; go_frame))
    | ((with_reducible refine at_convert ?_); refine wpu_str G rfl rfl rfl rfl ?_; go_frame)
    | ((with_reducible refine at_slice ?_); first
      | (refine wpu_sliceLo rfl rfl rfl rfl (by first | rfl | omega) (by omega) (by omega) ?_; go_frame)
      | (refine wpu_sliceLH rfl rfl rfl rfl rfl (by first | rfl | omega) (by first | rfl | omega) (by omega) (by omega) ?_; go_frame))
    | fail)
  refine Calls.mono (cutC (hs0.old G)) ?_
  rintro e w1 ⟨nc, nh, rfl, G1⟩
  replace G := own_join G G1
  clear G1 hs0
  have o1 : nc.oneCell' = true := by obtain ⟨_, _, _, e0, _, g⟩ := own_snA G; injection e0 with _ e0; injection e0 with e1 _; rw [e1]; exact (own_rd g).one
  have o2 : nh.oneCell' = true := by obtain ⟨_, _, _, e0, _, g⟩ := own_snA G; injection e0 with _ e0; injection e0 with _ e0; injection e0 with e1 _; rw [e1]; exact (own_rd g.right).one
  rw [hS] at G ok2
  obtain ⟨ver, hver⟩ : ∃ v, s.version = v := ⟨_, rfl⟩
  rw [hver] at G ⊢
  clear hver hS
  go_wp2_with (first
    | ((with_reducible refine at_store ?_); refine wpu_storeB G rfl rfl rfl rfl (by rfl) (by rfl) (by simp only [List.all_cons, o1, o2]; rfl) ?_; clear G; intro w G; go_frame)
    | ((with_reducible refine at_alloc ?_); refine wpu_new G ?_; clear G; intro w G)
    | ((with_reducible refine at_drew ?_); refine wpu_drew G ?_; clear G; intro w G)
    | ((with_reducible refine at_load ?_); first
      | (refine wpu_load G rfl rfl rfl rfl ?_; go_frame)
      | (refine wpu_loadB G rfl rfl rfl (by rfl) ?_; go_frame)
      | (refine wpu_loadS G rfl rfl rfl (by rfl) ?_; simp only [List.drop_succ_cons, List.drop_zero, List.take_succ_cons, List.take_zero]; go_frame))
    | ((with_reducible refine at_store ?_); first
      | (refine wpu_store G rfl rfl rfl rfl (by first | rfl | assumption | simp [*]) rfl ?_; clear G; intro w G; go_frame)
      | (refine wpu_storeB G rfl rfl rfl rfl (by rfl) (by rfl) (by first | rfl | assumption | simp [*]) ?_; clear G; intro w G; go_frame)
      | (refine wpu_storeS G rfl rfl rfl rfl (by rfl) (by rfl) (by first | rfl | assumption | simp [*]) ?_; clear G; intro w G; go_frame))
    | ((with_reducible refine at_convert ?_); refine wpu_str G rfl rfl rfl rfl ?_; go_frame)
    | ((with_reducible refine at_slice ?_); first
      | (refine wpu_sliceLo rfl rfl rfl rfl (by first | rfl | omega) (by omega) (by omega) ?_; go_frame)
      | (refine wpu_sliceLH rfl rfl rfl rfl rfl (by first | rfl | omega) (by first | rfl | omega) (by omega) (by omega) ?_; go_frame))
    | fail)
  -- the ground is this world from here on
  have GW := G
  have hb0 := oldBlk_of (G.pull (blk w0.heap.size [.int .i64 ver, nc, nh]))
  have hsn := sn_read (G.pull (snA [.int .i64 ver, nc, nh] S))
  have hfu := hu _ _ G
  clear G hu o1 o2
  obtain ⟨b0, hb⟩ : ∃ b, w0.heap.size = b := ⟨_, rfl⟩
  rw [hb] at hb0 ⊢
  obtain ⟨wg, hwg⟩ : ∃ u, w = u := ⟨_, rfl⟩
  rw [hwg] at GW hb0 hsn hfu ⊢
  clear hwg
  have G := own_begin wg
  have HB0 : ∀ A u, Own wg A u → OldBlk u b0 [.int .i64 ver, nc, nh] := fun A u h => hb0.old h
  have HSN : ∀ A u, Own wg A u → rdSn u [.int .i64 ver, nc, nh] S := fun A u h => hsn.old h
  have HFU : ∀ A u, Own wg A u → rd u 3 (.slice fo m fc) F.length (fds F) := fun A u h => hfu.old h
  obtain ⟨vc, vh, xs, e0, -, hh0, hL⟩ := hsn
  injection e0 with _ e0; injection e0 with e1 e0; injection e0 with e2 _
  subst e1 e2
  obtain ⟨ho, hc, rfl, i3, i4, -⟩ := id hh0
  unfold maxLen at i4
  have HH0 : ∀ A u, Own wg A u → rd u 2 (.slice ho S.hosts.length hc) S.hosts.length xs := fun A u h => hh0.old h
  have HLh := hL
  clear hL hh0
  go_wp2_with (first
    | ((with_reducible refine at_load ?_); refine wpu_loadOB (HB0 _ _ G) rfl (by kernel_rfl) rfl rfl ?_; go_frame)
    | fail)
  refine Calls.mono (findC (s := S) (F := F) (d := d) (HSN _ _ G) ok2 (HFU _ _ G) okF hd) ?_
  rintro e w2 ⟨rfl, hb⟩
  replace G := own_kept G hb
  clear hb HFU hfu
  cases hf : findR S F d with
  | none =>
    unfold findV
    go_wp2_with (first
      | ((with_reducible refine at_eqS ?_); refine wpu_eqS (b := true) rfl (by kernel_rfl) rfl rfl (by rfl) ?_; go_frame)
      | fail)
    go_ret
    exact ⟨rfl, own_shift GW G⟩
  | some cn =>
    obtain ⟨c, n⟩ := cn
    obtain ⟨hright, i0, h0, k0, r0, m0, ch0, f1, f2, f3, f4, f5, f6⟩ := find_there hd hf
    have HR := Lib.hid hright
    have F1 := Lib.hid f1
    have F2 := Lib.hid f2
    have F3 := Lib.hid f3
    have F4 := Lib.hid f4
    have F5 := Lib.hid f5
    have F6 := Lib.hid f6
    clear f1 f2 f3 f4 f5 f6 hright hf okF
    unfold findV
    go_wp2_with (first
      | fail)
    have HBW := Lib.hid G.1
    clear G
    go_loopw [11, 12, 13, 14] (fun i _ _ _ wr => ∃ I : Nat, i = .int .i64 I ∧ I ≤ S.hosts.length ∧ I ≤ i0 ∧ Below wg.heap.size wg wr) (fun i _ _ _ _ => S.hosts.length - (intOf i).toNat)
    case atStart => exact ⟨0, rfl, Nat.zero_le _, Nat.zero_le _, HBW.out⟩
    case round =>
      obtain ⟨I, rfl, hI, hI0, GB⟩ := hrel
      have G := own_kept (own_begin wg) GB
      by_cases hIn : I < S.hosts.length
      · obtain ⟨h, hh⟩ : ∃ h, S.hosts[I]? = some h := ⟨S.hosts[I], List.getElem?_eq_getElem hIn⟩
        obtain ⟨vn, vr, ys, hcs, -, hr0, hRL⟩ := HLh.2 I h hh
        obtain ⟨ro, rc, rfl, i5, i6, -⟩ := id hr0
        unfold maxLen at i6
        have HF := Lib.hid hcs
        have HR0 : ∀ A u, Own wg A u → rd u 7 (.slice ro h.routes.length rc) h.routes.length ys := fun A u g => hr0.old g
        have HE : Hid (I = i0 → h = h0) := Lib.hid (fun e => Option.some.inj (by rw [← hh, e, F1.out]))
        obtain ⟨ad, rfl⟩ := rd_some (HH0 _ _ G) (by omega)
        have GB := Lib.hid GB
        clear hh hcs hr0
        go_wp2_with (first
          | ((with_reducible refine at_load ?_); refine wpu_loadO (HB0 _ _ G) rfl (by kernel_rfl) rfl rfl ?_; go_frame)
          | fail)
        clear G
        go_loopw [12, 13, 14] (fun k _ _ wr => ∃ K : Nat, k = .int .i64 K ∧ K ≤ h.routes.length ∧ Hid (I = i0 → K ≤ k0) ∧ Below wg.heap.size wg wr) (fun k _ _ _ => h.routes.length - (intOf k).toNat)
        case atStart => exact ⟨0, rfl, Nat.zero_le _, Lib.hid (fun _ => Nat.zero_le _), GB.out⟩
        case round =>
          clear GB
          obtain ⟨K, rfl, hK, hK0, GB⟩ := hrel
          have G := own_kept (own_begin wg) GB
          by_cases hKn : K < h.routes.length
          · obtain ⟨r, hr⟩ : ∃ r, h.routes[K]? = some r := ⟨h.routes[K], List.getElem?_eq_getElem hKn⟩
            obtain ⟨vf, vk, hcs, hf0, hc0⟩ := hRL.2 K r hr
            have o3 := hf0.one
            have o4 := hc0.one
            obtain ⟨co, cc, rfl, i7, i8, -⟩ := id hc0
            unfold maxLen at i8
            have HFr := Lib.hid hcs
            have HC0 : ∀ A u, Own wg A u → rd u 2 (.slice co r.choices.length cc) r.choices.length (chs r.choices) := fun A u g => hc0.old g
            have HE2 : Hid (I = i0 → K = k0 → r = r0) := Lib.hid (fun e e2 => Option.some.inj (by rw [← hr, HE.out e, e2, F2.out]))
            obtain ⟨rd1, rfl⟩ := rd_some (HR0 _ _ G) (by omega)
            obtain ⟨path, how, service, method, fields, choices, ticks⟩ := r
            simp only at HFr HC0 i7 i8 hf0 HE2 o3
            clear hr hcs hc0 hf0
            go_wp2_with (first
              | ((with_reducible refine at_alloc ?_); refine wpu_new G ?_; clear G; intro w G)
              | ((with_reducible refine at_drew ?_); refine wpu_drew G ?_; clear G; intro w G)
              | ((with_reducible refine at_load ?_); first
                | (refine wpu_loadO (HB0 _ _ G) rfl (by kernel_rfl) rfl rfl ?_; go_frame)
                | (refine wpu_loadF (k := I) (j := 0) (HH0 _ _ G) HF.out rfl (by kernel_rfl) rfl rfl ?_; go_frame)
                | (refine wpu_loadE (k := K) (HR0 _ _ G) HFr.out rfl (by kernel_rfl) rfl rfl ?_; go_frame))
              | ((with_reducible refine at_store ?_); refine wpu_storeB G rfl rfl rfl rfl (by rfl) (by rfl) (by simp only [List.all_cons, o3]; rfl) ?_; clear G; intro w G; go_frame)
              | fail)
            obtain ⟨rb, hrb⟩ : ∃ b, wr.heap.size = b := ⟨_, rfl⟩
            rw [hrb] at G ⊢
            clear hrb o3 o4
            have G := G.sub (blk rb [str path, .int .i64 how, str service, str method, vf, .slice co choices.length cc, .int .i64 ticks])
            have G0 := Lib.hid G
            clear G
            go_loopw [14] (fun m wr => ∃ M : Nat, m = .int .i64 M ∧ M ≤ choices.length ∧ Hid (I = i0 → K = k0 → M ≤ m0) ∧ Own wg (blk rb [str path, .int .i64 how, str service, str method, vf, .slice co choices.length cc, .int .i64 ticks]) wr) (fun m _ => choices.length - (intOf m).toNat)
            case atStart => exact ⟨0, rfl, Nat.zero_le _, Lib.hid (fun _ _ => Nat.zero_le _), G0.out⟩
            case round =>
              clear G0
              obtain ⟨M, rfl, hM, hM0, G⟩ := hrel
              by_cases hMn : M < choices.length
              · obtain ⟨ch, hch⟩ : ∃ ch, choices[M]? = some ch := ⟨choices[M], List.getElem?_eq_getElem hMn⟩
                obtain ⟨cd, rfl⟩ := rd_some (HC0 _ _ G) (by omega)
                have HFc := Lib.hid (chs_at hch)
                obtain ⟨q1, hq1⟩ : ∃ q, decide (ch.cluster = c) = q := ⟨_, rfl⟩
                obtain ⟨q2, hq2⟩ : ∃ q, pos ch.weight = q := ⟨_, rfl⟩
                obtain ⟨q3, hq3⟩ : ∃ q, (ticks == n) = q := ⟨_, rfl⟩
                have HQ2 : (Fl.ord ch.weight 0 == some .gt) = q2 := hq2
                have HNO : Hid ((q1 && q2 && q3) = false → I = i0 → K = k0 → M + 1 ≤ m0) := Lib.hid (fun e e1 e2 => by
                  have hle := hM0.out e1 e2
                  rcases Nat.lt_or_eq_of_le hle with h | h
                  · exact h
                  · exfalso
                    have er := HE2.out e1 e2
                    have f3 := F3.out
                    have f6 := F6.out
                    rw [← er] at f3 f6
                    simp only at f3 f6
                    rw [← h, hch] at f3
                    have ec := Option.some.inj f3
                    rw [← hq1, ← hq2, ← hq3, ec, F4.out, F5.out, f6] at e
                    simp at e)
                clear hch hq2
                cases q1
                · go_wp2_with (first
                    | ((with_reducible refine at_load ?_); first
                      | (refine wpu_loadF0 (k := M) (HC0 _ _ G) HFc.out rfl (by kernel_rfl) rfl rfl ?_; go_frame)
                      | (refine wpu_load G rfl (by kernel_rfl) rfl rfl ?_; go_frame))
                    | ((with_reducible refine at_lss ?_); refine wpu_lss rfl (by kernel_rfl) rfl rfl (by assumption) ?_; go_frame)
                    | ((with_reducible refine at_gtr ?_); refine wpu_gtr rfl (by kernel_rfl) rfl rfl (by assumption) ?_; go_frame)
                    | ((with_reducible refine at_leq ?_); refine wpu_leq rfl (by kernel_rfl) rfl rfl (by assumption) ?_; go_frame)
                    | ((with_reducible refine at_geq ?_); refine wpu_geq rfl (by kernel_rfl) rfl rfl (by assumption) ?_; go_frame)
                    | ((with_reducible refine at_eqS ?_); refine wpu_eqS rfl (by kernel_rfl) rfl rfl (by assumption) ?_; go_frame)
                    | ((with_reducible refine at_neS ?_); refine wpu_neS rfl (by kernel_rfl) rfl rfl (by assumption) ?_; go_frame)
                    | ((with_reducible refine at_eql ?_); refine wpu_eql rfl (by kernel_rfl) rfl rfl (by assumption) ?_; go_frame)
                    | fail)
                  go_roundw
                  case rel => exact ⟨M + 1, by go_num, by omega, Lib.hid (HNO.out rfl), G⟩
                  case measure => simp [intOf] <;> omega
                cases q2
                · go_wp2_with (first
                    | ((with_reducible refine at_load ?_); first
                      | (refine wpu_loadF0 (k := M) (HC0 _ _ G) HFc.out rfl (by kernel_rfl) rfl rfl ?_; go_frame)
                      | (refine wpu_loadF (k := M) (j := 0) (HC0 _ _ G) HFc.out rfl (by kernel_rfl) rfl rfl ?_; go_frame)
                      | (refine wpu_load G rfl (by kernel_rfl) rfl rfl ?_; go_frame))
                    | ((with_reducible refine at_gtr ?_); refine wpu_fgtr rfl (by kernel_rfl) rfl rfl HQ2 ?_; go_frame)
                    | ((with_reducible refine at_lss ?_); refine wpu_lss rfl (by kernel_rfl) rfl rfl (by assumption) ?_; go_frame)
                    | ((with_reducible refine at_gtr ?_); refine wpu_gtr rfl (by kernel_rfl) rfl rfl (by assumption) ?_; go_frame)
                    | ((with_reducible refine at_leq ?_); refine wpu_leq rfl (by kernel_rfl) rfl rfl (by assumption) ?_; go_frame)
                    | ((with_reducible refine at_geq ?_); refine wpu_geq rfl (by kernel_rfl) rfl rfl (by assumption) ?_; go_frame)
                    | ((with_reducible refine at_eqS ?_); refine wpu_eqS rfl (by kernel_rfl) rfl rfl (by assumption) ?_; go_frame)
                    | ((with_reducible refine at_neS ?_); refine wpu_neS rfl (by kernel_rfl) rfl rfl (by assumption) ?_; go_frame)
                    | ((with_reducible refine at_eql ?_); refine wpu_eql rfl (by kernel_rfl) rfl rfl (by assumption) ?_; go_frame)
                    | fail)
                  go_roundw
                  case rel => exact ⟨M + 1, by go_num, by omega, Lib.hid (HNO.out rfl), G⟩
                  case measure => simp [intOf] <;> omega
                cases q3
                · go_wp2_with (first
                    | ((with_reducible refine at_load ?_); first
                      | (refine wpu_loadF0 (k := M) (HC0 _ _ G) HFc.out rfl (by kernel_rfl) rfl rfl ?_; go_frame)
                      | (refine wpu_loadF (k := M) (j := 0) (HC0 _ _ G) HFc.out rfl (by kernel_rfl) rfl rfl ?_; go_frame)
                      | (refine wpu_load G rfl (by kernel_rfl) rfl rfl ?_; go_frame))
                    | ((with_reducible refine at_gtr ?_); refine wpu_fgtr rfl (by kernel_rfl) rfl rfl HQ2 ?_; go_frame)
                    | ((with_reducible refine at_lss ?_); refine wpu_lss rfl (by kernel_rfl) rfl rfl (by assumption) ?_; go_frame)
                    | ((with_reducible refine at_gtr ?_); refine wpu_gtr rfl (by kernel_rfl) rfl rfl (by assumption) ?_; go_frame)
                    | ((with_reducible refine at_leq ?_); refine wpu_leq rfl (by kernel_rfl) rfl rfl (by assumption) ?_; go_frame)
                    | ((with_reducible refine at_geq ?_); refine wpu_geq rfl (by kernel_rfl) rfl rfl (by assumption) ?_; go_frame)
                    | ((with_reducible refine at_eqS ?_); refine wpu_eqS rfl (by kernel_rfl) rfl rfl (by assumption) ?_; go_frame)
                    | ((with_reducible refine at_neS ?_); refine wpu_neS rfl (by kernel_rfl) rfl rfl (by assumption) ?_; go_frame)
                    | ((with_reducible refine at_eql ?_); refine wpu_eql rfl (by kernel_rfl) rfl rfl (by assumption) ?_; go_frame)
                    | fail)
                  go_roundw
                  case rel => exact ⟨M + 1, by go_num, by omega, Lib.hid (HNO.out rfl), G⟩
                  case measure => simp [intOf] <;> omega
                · go_wp2_with (first
                    | ((with_reducible refine at_load ?_); first
                      | (refine wpu_loadF0 (k := M) (HC0 _ _ G) HFc.out rfl (by kernel_rfl) rfl rfl ?_; go_frame)
                      | (refine wpu_loadF (k := M) (j := 0) (HC0 _ _ G) HFc.out rfl (by kernel_rfl) rfl rfl ?_; go_frame)
                      | (refine wpu_loadOB (HB0 _ _ G) rfl (by kernel_rfl) rfl rfl ?_; go_frame)
                      | (refine wpu_load G rfl (by kernel_rfl) rfl rfl ?_; go_frame))
                    | ((with_reducible refine at_gtr ?_); refine wpu_fgtr rfl (by kernel_rfl) rfl rfl HQ2 ?_; go_frame)
                    | ((with_reducible refine at_lss ?_); refine wpu_lss rfl (by kernel_rfl) rfl rfl (by assumption) ?_; go_frame)
                    | ((with_reducible refine at_gtr ?_); refine wpu_gtr rfl (by kernel_rfl) rfl rfl (by assumption) ?_; go_frame)
                    | ((with_reducible refine at_leq ?_); refine wpu_leq rfl (by kernel_rfl) rfl rfl (by assumption) ?_; go_frame)
                    | ((with_reducible refine at_geq ?_); refine wpu_geq rfl (by kernel_rfl) rfl rfl (by assumption) ?_; go_frame)
                    | ((with_reducible refine at_eqS ?_); refine wpu_eqS rfl (by kernel_rfl) rfl rfl (by assumption) ?_; go_frame)
                    | ((with_reducible refine at_neS ?_); refine wpu_neS rfl (by kernel_rfl) rfl rfl (by assumption) ?_; go_frame)
                    | ((with_reducible refine at_eql ?_); refine wpu_eql rfl (by kernel_rfl) rfl rfl (by assumption) ?_; go_frame)
                    | fail)
                  refine Calls.mono (rightC (s := S) (HSN _ _ G) ok2) ?_
                  rintro e w3 ⟨rfl, hb⟩
                  replace G := own_kept G hb
                  rw [HR.out]
                  go_wp2_with fail
                  go_ret
                  exact ⟨rfl, own_shift GW G⟩
              · have GB := Lib.hid G.1
                go_wp2_with (first
                  | ((with_reducible refine at_load ?_); refine wpu_load G rfl (by kernel_rfl) rfl rfl ?_; go_frame)
                  | fail)
                go_roundw
                case rel => exact ⟨K + 1, by go_num, by omega, Lib.hid (fun e => by
                  have hle := hK0.out e
                  rcases Nat.lt_or_eq_of_le hle with h1 | h1
                  · exact h1
                  · exfalso
                    have er := HE2.out e h1
                    have f3 := F3.out
                    rw [← er] at f3
                    have := (List.getElem?_eq_some_iff.1 f3).1
                    have := hM0.out e h1
                    simp only at *
                    omega), GB.out⟩
                case measure => simp [intOf] <;> omega
          · have GB := Lib.hid GB
            go_wp2_with (first
              | ((with_reducible refine at_load ?_); first
                | (refine wpu_loadO (HB0 _ _ G) rfl (by kernel_rfl) rfl rfl ?_; go_frame)
                | (refine wpu_loadF (k := I) (j := 0) (HH0 _ _ G) HF.out rfl (by kernel_rfl) rfl rfl ?_; go_frame))
              | fail)
            go_roundw
            case rel => exact ⟨I + 1, by go_num, by omega, by
              rcases Nat.lt_or_eq_of_le hI0 with h1 | h1
              · exact h1
              · exfalso
                have f2 := F2.out
                rw [← HE.out h1] at f2
                have := (List.getElem?_eq_some_iff.1 f2).1
                have := hK0.out h1
                omega, GB.out⟩
            case measure => simp [intOf] <;> omega
      · exfalso
        have := (List.getElem?_eq_some_iff.1 F1.out).1
        omega

theorem contract {H : Type} {enc : TypeId × Value → H} {W : World} {vs : List Value} {ds : List (DataW H)}
    (hA : Args enc Tryd.prog W [25, 26, 27] vs ds) (hsz : (DataW.weightsEach Tryd.prog [25, 26, 27] ds).all (· ≤ reachBytes) = true) (hL : laidMetH Tryd.prog Rows.routeClusterRow.laid W) :
    Calls Tryd.prog 4 vs.toArray W fun e W' => e = .returned (.bool true) ∧ Below W.heap.size W W' := by
  obtain ⟨v0, _, d0, _, rfl, rfl, h0, hA⟩ := args_cons hA
  obtain ⟨v1, _, d1, _, rfl, rfl, h1, hA⟩ := args_cons hA
  obtain ⟨v2, _, d2, _, rfl, rfl, h2, hA⟩ := args_cons hA
  obtain ⟨rfl, rfl⟩ := args_nil hA
  obtain ⟨cs, rfl, hz0⟩ := argz_struct Tryd.underlying25 h0 hsz 0 rfl rfl
  obtain ⟨s, ok, hs, -⟩ := snap_in hz0
  obtain ⟨F, hF, okF⟩ := fsz_in (argz_slice Tryd.underlying26 h1 hsz 1 rfl rfl)
  obtain ⟨d, rfl, hd⟩ := arg_u64 Tryd.underlying27 h2
  exact clusW hs ok hF okF hd






theorem spec {H : Type} : ∀ ds : List (DataW H), ds.length = 3 → Rows.routeClusterSpec.fn H ds = { results := [.lit (.bool true)], args := ds }
  | [_, _, _], _ => rfl
  | [], h => by cases h
  | [_], h => by cases h
  | [_, _], h => by cases h
  | _ :: _ :: _ :: _ :: _, h => by simp at h
theorem door_met (os : Os) (args : Array Value) : laidMetH Tryd.prog Rows.routeClusterRow.laid ((World.setRow (World.doorLaid Tryd.prog 19 os) (Tryd.prog.globalNamed "unicode/utf8.first").get! (Go.Pinned.utf8FirstZ.map fun z : Nat => Value.int .u8 (z : Int)).toArray).forCall (fun _ _ => 0) ⟨#[], args, []⟩).memory :=
  laidMetH_of_parts3 (fuel := 8) (laidMet_of_run' 8 (by kernel_rfl) (by kernel_rfl)) (by kernel_rfl) (by kernel_rfl)
set_option maxRecDepth 100000 in
theorem lifted (os : Os) (started : os.Started) (H : Type) (enc : TypeId × Value → H) :
    ReturnsInHanded {} Tryd.checked os 4 .any (fun w args => (Rows.routeClusterSpec.pre enc Tryd.prog Tryd.f4 Rows.routeClusterRow.domain false w args ∧ laidMetH Tryd.prog Rows.routeClusterRow.laid w) ∧ sizedMet enc Tryd.prog Tryd.f4 (OpenSpec.ofChange Rows.routeClusterSpec) false w args)
      (Rows.routeClusterSpec.post enc Tryd.prog Tryd.f4 false true false false) :=
  lifted_of_law_laid (C := Tryd.checked) (fn := Tryd.f4) (s := Rows.routeClusterSpec) (tb := 4) (by kernel_rfl) started (by kernel_rfl) Tryd.func4
    (ChangeSpec.witness_shaped (enc := enc) (C := Tryd.checked) (os := os) (X := fun w _ => laidMetH Tryd.prog Rows.routeClusterRow.laid w) false (World.setRow (World.doorLaid Tryd.prog 19 os) (Tryd.prog.globalNamed "unicode/utf8.first").get! (Go.Pinned.utf8FirstZ.map fun z : Nat => Value.int .u8 (z : Int)).toArray) #[.agg #[.int .i64 0, .slice none 0 0, .slice none 0 0], .slice none 0 0, .int .u64 0] 8 rfl (World.shaped_of_RefB (by kernel_rfl) (by kernel_rfl)) (by kernel_rfl) (by kernel_rfl) (by kernel_rfl) (door_met os _))
    rfl spec (by kernel_rfl) Tryd.underlying4 (by kernel_rfl) (by kernel_rfl) (fun _ _ _ h1 h2 h3 => contract h1 h2 h3)

theorem holds : Rows.RouteClusterSaid :=
  OpenClaim.holds_of_wide 4 Tryd.f4 rfl rfl rfl rfl rfl rfl rfl ⟨rfl, rfl, rfl, rfl, rfl⟩ rfl rfl rfl rfl rfl (by kernel_rfl) Tryd.func4 (by kernel_rfl)
    (of_decide_eq_true (by kernel_rfl)) (by unfold Func.isWrapper; first | (rw [if_pos (by decide +kernel)]; kernel_rfl) | (rw [if_neg (by decide +kernel)]; exact ⟨rfl, rfl⟩))
    (fun os started H enc _ => lifted os started H enc)

theorem proved : Rows.RouteClusterCardSaid :=
  Claim7.holds_tied_plain_at .later [] [.data, .pinned] true (true, "8ad4a4f5b69d3fbbf86e42b9283652f351f0a1c623a0149f61aae9e179e7ce1c") false
    holds (fun _ h => by cases h) (by kernel_rfl) (fun _ h => by cases h) routeCluster_row_tie rfl ⟨rfl, rfl⟩ (by kernel_rfl) rfl
    (fun f fn hf hfn => by
      obtain rfl : f = 4 := Option.some.inj ((show Tryd.prog.funcNamed "flume/flumelaw16.RouteCluster" = some 4 by kernel_rfl).symm.trans hf) |>.symm
      obtain rfl : fn = Tryd.f4 := (Option.some.inj (Tryd.func4.symm.trans hfn)).symm
      exact ⟨by kernel_rfl, fun j t ht => by
        rw [Tryd.params4] at ht
        have hm : t ∈ [25, 26, 27] := by simpa using Array.mem_of_getElem? ht
        have hall : ([25, 26, 27].all fun u => !Tryd.prog.wantsStandIn u) = true := by kernel_rfl
        exact (show Tryd.prog.wantsStandIn t = false by simpa using List.all_eq_true.1 hall t hm)⟩)
    (by kernel_rfl)
end Go.Proofs.YtjcpfldobiekbaaDoor.routeCluster
