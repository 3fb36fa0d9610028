




/-
  Whether a snapshot is right: package route.
-/
import Derived.Test.YtjcpfldobiekbaaDoorRtLow
import Derived.Test.YtjcpfldobiekbaaDoorTy
namespace Go.Proofs.YtjcpfldobiekbaaDoor
open Go.RowKit Go.Sl Go.ChangeShapes Go.Fl

theorem rd_old0 {w0 w : World} {A : Assn} {sz n : Nat} {v : Value} {xs : List Value} (h : rd w0 sz v n xs) (G : Own w0 A w) : rd w sz v n xs := h.old G
theorem rdRt.old {w0 w : World} {A : Assn} {cs : List Value} {r : Rt} (h : rdRt w0 cs r) (G : Own w0 A w) : rdRt w cs r := h.next G.1
theorem rdHs.old {w0 w : World} {A : Assn} {cs : List Value} {r : Hs} (h : rdHs w0 cs r) (G : Own w0 A w) : rdHs w cs r := h.next G.1
theorem rdSn.old {w0 w : World} {A : Assn} {cs : List Value} {r : Sn} (h : rdSn w0 cs r) (G : Own w0 A w) : rdSn w cs r := h.next G.1

set_option maxHeartbeats 8000000 in
set_option maxRecDepth 100000 in
theorem notMayC {w0 w : World} {R : Assn} {r : Rt} {cl : List Txt} {cs : List Value} {x0 vc vh : Value} {c : Nat} (G : Own w0 (blk c [x0, vc, vh] * R) w) (hr : rdRt w0 cs r) (hcl : rd w0 1 vc cl.length (strs cl)) :
    Calls Tryd.prog 23 #[.agg cs.toArray, .pointer (some ⟨c, 0, none⟩)] w fun e w' => e = .returned (.bool (!mayR r cl)) ∧ Own w0 (blk c [x0, vc, vh] * R) w' := by
  have hr2 := hr
  obtain ⟨vf, vk, rfl, -, -⟩ := hr
  go_enter Tryd.func23, Tryd.ntmps23
  go_wp2_with (first
    | ((with_reducible refine at_alloc ?_); refine wpu_new G ?_; clear G; intro w G)
    | ((with_reducible refine at_drew ?_); refine wpu_drew G ?_; clear G; intro w G)
    | ((with_reducible refine at_alloc ?_); refine wpu_new G ?_; clear G; intro w G)
    | ((with_reducible refine at_drew ?_); refine wpu_drew G ?_; clear G; intro w G)
    | ((with_reducible refine at_load ?_); first
      | (refine wpu_load G rfl rfl rfl rfl ?_; go_frame)
      | (refine wpu_loadB G rfl rfl rfl (by rfl) ?_; go_frame)
      | (refine wpu_loadS G rfl rfl rfl (by rfl) ?_; simp only [List.drop_succ_cons, List.drop_zero, List.take_succ_cons, List.take_zero]; go_frame))
    | ((with_reducible refine at_store ?_); first
      | (refine wpu_store G rfl rfl rfl rfl (by first | rfl | assumption | simp [*]) rfl ?_; clear G; intro w G; go_frame)
      | (refine wpu_storeB G rfl rfl rfl rfl (by rfl) (by rfl) (by first | rfl | assumption | simp [*]) ?_; clear G; intro w G; go_frame)
      | (refine wpu_storeS G rfl rfl rfl rfl (by rfl) (by rfl) (by first | rfl | assumption | simp [*]) ?_; clear G; intro w G; go_frame))
    | ((with_reducible refine at_convert ?_); refine wpu_str G rfl rfl rfl rfl ?_; go_frame)
    | ((with_reducible refine at_slice ?_); first
      | (refine wpu_sliceLo rfl rfl rfl rfl (by first | rfl | omega) (by omega) (by omega) ?_; go_frame)
      | (refine wpu_sliceLH rfl rfl rfl rfl rfl (by first | rfl | omega) (by first | rfl | omega) (by omega) (by omega) ?_; go_frame))
    | fail)
  refine Calls.mono (mayC (hr2.old G) (hcl.old G)) ?_
  rintro e w1 ⟨rfl, hb⟩
  have G := own_kept G hb
  go_wp2_with fail
  go_ret
  exact ⟨rfl, G.right⟩

set_option maxHeartbeats 8000000 in
set_option maxRecDepth 100000 in
theorem idxMayC {w0 w : World} {R : Assn} {L : List Rt} {xs : List Value} {v : Value} {cl : List Txt} {x0 vc vh : Value} {c : Nat} (G : Own w0 (blk c [x0, vc, vh] * R) w) (hr : rd w0 7 v L.length xs) (hL : rdL rdRt 7 w0 xs L) (hcl : rd w0 1 vc cl.length (strs cl)) :
    Calls Tryd.prog 34 #[v, .func (.func 23) #[] #[.pointer (some ⟨c, 0, none⟩)]] w fun e w' => (∃ i : Int, e = .returned (.int .i64 i) ∧ decide (0 ≤ i) = !L.all (mayR · cl)) ∧ Own w0 (blk c [x0, vc, vh] * R) w' := by
  obtain ⟨ao, ac, rfl, i1, i2, -⟩ := id hr
  unfold maxLen at i2
  have hl : ∀ A w, Own w0 A w → rd w 7 (.slice ao L.length ac) L.length xs := fun A w h => hr.old h
  clear hr
  go_enter Tryd.func34, Tryd.ntmps34
  go_wp2_with fail
  go_loopw [5, 8] (fun _ i wr => ∃ j : Nat, i = .int .i64 j ∧ j ≤ L.length ∧ Hid ((L.take j).all (mayR · cl) = true) ∧ Own w0 (blk c [x0, vc, vh] * R) wr) (fun _ i _ => L.length - (intOf i).toNat)
  case atStart => exact ⟨0, rfl, Nat.zero_le _, Lib.hid (by simp), G⟩
  case round =>
    clear G
    obtain ⟨j, rfl, hj, HA, G⟩ := hrel
    by_cases hjn : j < L.length
    · obtain ⟨r, hr⟩ : ∃ r, L[j]? = some r := ⟨L[j], List.getElem?_eq_getElem hjn⟩
      obtain ⟨ad, rfl⟩ := rd_some (hl _ _ G) (by omega)
      have hrt := hL.2 j r hr
      obtain ⟨cs, HF⟩ : ∃ cs, (xs.drop (j * 7)).take 7 = cs := ⟨_, rfl⟩
      rw [HF] at hrt
      have HF := Lib.hid HF
      have HH := Lib.hid hr
      have hcs : cs.length = 7 := by obtain ⟨vf, vk, rfl, -, -⟩ := hrt; rfl
      obtain ⟨b, hb⟩ : ∃ b, mayR r cl = b := ⟨_, rfl⟩
      have HB := Lib.hid hb
      clear hr hb
      go_wp2_with (first
        | ((with_reducible refine at_load ?_); refine wpu_loadE (k := j) (hl _ _ G) HF.out rfl (by kernel_rfl) rfl hcs ?_; go_frame)
        | fail)
      clear hcs
      refine Calls.mono (notMayC G hrt hcl) ?_
      clear G; rintro e w ⟨rfl, G⟩
      rw [HB.out]
      cases b
      · go_wp2_with fail
        go_ret
        refine ⟨⟨j, rfl, ?_⟩, G⟩
        rw [all_stop HH.out HB.out]
        simp
      · have HN := Lib.hid (all_go (p := (mayR · cl)) HH.out HA.out HB.out)
        go_wp2_with fail
        go_roundw
        case rel => exact ⟨j + 1, by go_num, by omega, HN, G⟩
        case measure => simp [intOf] <;> omega
    · go_wp2_with fail
      go_ret
      refine ⟨⟨-1, rfl, ?_⟩, G⟩
      have := HA.out
      rw [List.take_of_length_le (by omega)] at this
      rw [this]
      rfl

set_option maxHeartbeats 8000000 in
set_option maxRecDepth 100000 in
theorem containsMayC {w0 w : World} {R : Assn} {L : List Rt} {xs : List Value} {v : Value} {cl : List Txt} {x0 vc vh : Value} {c : Nat} (G : Own w0 (blk c [x0, vc, vh] * R) w) (hr : rd w0 7 v L.length xs) (hL : rdL rdRt 7 w0 xs L) (hcl : rd w0 1 vc cl.length (strs cl)) :
    Calls Tryd.prog 22 #[v, .func (.func 23) #[] #[.pointer (some ⟨c, 0, none⟩)]] w fun e w' => e = .returned (.bool (!L.all (mayR · cl))) ∧ Own w0 (blk c [x0, vc, vh] * R) w' := by
  go_enter Tryd.func22, Tryd.ntmps22
  go_wp2_with fail
  refine Calls.mono (idxMayC (cl := cl) G hr hL hcl) ?_
  clear G; rintro e w ⟨⟨i, rfl, hi⟩, G⟩
  go_wp2_with fail
  go_ret
  exact ⟨by rw [← hi]; rfl, G⟩

theorem hosts_step {cl seen : List Txt} {hosts : List Hs} {j : Nat} {h : Hs} (hh : hosts[j]? = some h) :
    hostsR cl seen (hosts.drop j) = (decide (1 ≤ h.names.length) && decide (h.names.length ≤ 16) && decide (h.routes.length ≤ 32) &&
    match newR seen (h.names.map smallL) with
    | none => false
    | some seen' => h.routes.all (mayR · cl) && hostsR cl seen' (hosts.drop (j + 1))) := by
  have e : hosts.drop j = h :: hosts.drop (j + 1) := by
    obtain ⟨hj1, hj2⟩ := List.getElem?_eq_some_iff.1 hh
    rw [← hj2, List.getElem_cons_drop]
  rw [e]
  rfl


set_option maxHeartbeats 16000000 in
set_option maxRecDepth 100000 in
theorem rightC {w0 : World} {s : Sn} {cs : List Value} (hs : rdSn w0 cs s) (ok : s.ok) :
    Calls Tryd.prog 11 #[.agg cs.toArray] w0 fun e w' => e = .returned (.bool (rightR s)) ∧ Below w0.heap.size w0 w' := by
  have hmf : ∀ (fn : Fn) (first cap : Array Value) (w : World), (Instr.makeFunc fn first cap).run Tryd.prog w = .ok (.func fn first cap) w := fun _ _ _ _ => rfl
  have G := own_begin w0
  obtain ⟨vc, vh, xs, rfl, hc0, hh0, hL⟩ := hs
  obtain ⟨co, cc, rfl, i1, i2, -⟩ := id hc0
  obtain ⟨ho, hc, rfl, i3, i4, -⟩ := id hh0
  unfold maxLen at i2 i4
  have hu : ∀ A w, Own w0 A w → rd w 1 (.slice co s.clusters.length cc) s.clusters.length (strs s.clusters) := fun A w h => hc0.old h
  have hv : ∀ A w, Own w0 A w → rd w 2 (.slice ho s.hosts.length hc) s.hosts.length xs := fun A w h => hh0.old h
  obtain ⟨version, clusters, hosts⟩ := s
  simp only at hu hv hL i1 i3 hc0
  obtain ⟨okc, okh⟩ := ok
  simp only at okc okh
  clear hh0
  obtain ⟨b1, y1⟩ : ∃ b, decide (version < 1) = b := ⟨_, rfl⟩
  obtain ⟨b2, y2⟩ : ∃ b, decide ((clusters.length : Int) > 32) = b := ⟨_, rfl⟩
  obtain ⟨b3, y3⟩ : ∃ b, decide ((hosts.length : Int) > 32) = b := ⟨_, rfl⟩
  obtain ⟨R, hR⟩ : ∃ R, rightR ⟨version, clusters, hosts⟩ = R := ⟨_, rfl⟩
  have HM : Hid (R = (!(b1 || b2 || b3) && (newR [] clusters).isSome && hostsR clusters [] hosts)) := Lib.hid (by
    rw [← hR]
    unfold rightR
    have z1 : decide (1 ≤ version) = !b1 := by rw [← y1, ← decide_not]; exact decide_eq_decide.2 (by omega)
    have z2 : decide (clusters.length ≤ 32) = !b2 := by rw [← y2, ← decide_not]; exact decide_eq_decide.2 (by omega)
    have z3 : decide (hosts.length ≤ 32) = !b3 := by rw [← y3, ← decide_not]; exact decide_eq_decide.2 (by omega)
    simp only
    rw [z1, z2, z3]
    cases b1 <;> cases b2 <;> cases b3 <;> rfl)
  rw [hR]
  have HLEN : Hid ((b1 || b2 || b3) = false → clusters.length ≤ 32 ∧ hosts.length ≤ 32) := Lib.hid (fun e => by
    have e2 : b2 = false := by revert e; cases b1 <;> cases b2 <;> simp
    have e3 : b3 = false := by revert e; cases b1 <;> cases b2 <;> cases b3 <;> simp
    rw [e2] at y2
    rw [e3] at y3
    have := of_decide_eq_false y2
    have := of_decide_eq_false y3
    omega)
  clear hR
  go_enter Tryd.func11, Tryd.ntmps11
  go_upto_region 1 with (first
    | ((with_reducible refine at_alloc ?_); refine wpu_new G ?_; clear G; intro w G)
    | ((with_reducible refine at_drew ?_); refine wpu_drew G ?_; clear G; intro w G)
    | ((with_reducible refine at_load ?_); first
      | (refine wpu_load G rfl rfl rfl rfl ?_; go_frame)
      | (refine wpu_loadB G rfl rfl rfl (by rfl) ?_; go_frame)
      | (refine wpu_loadS G rfl rfl rfl (by rfl) ?_; simp only [List.drop_succ_cons, List.drop_zero, List.take_succ_cons, List.take_zero]; go_frame))
    | ((with_reducible refine at_store ?_); first
      | (refine wpu_store G rfl rfl rfl rfl (by first | rfl | assumption | simp [*]) rfl ?_; clear G; intro w G; go_frame)
      | (refine wpu_storeB G rfl rfl rfl rfl (by rfl) (by rfl) (by first | rfl | assumption | simp [*]) ?_; clear G; intro w G; go_frame)
      | (refine wpu_storeS G rfl rfl rfl rfl (by rfl) (by rfl) (by first | rfl | assumption | simp [*]) ?_; clear G; intro w G; go_frame))
    | ((with_reducible refine at_convert ?_); refine wpu_str G rfl rfl rfl rfl ?_; go_frame)
    | ((with_reducible refine at_slice ?_); first
      | (refine wpu_sliceLo rfl rfl rfl rfl (by first | rfl | omega) (by omega) (by omega) ?_; go_frame)
      | (refine wpu_sliceLH rfl rfl rfl rfl rfl (by first | rfl | omega) (by first | rfl | omega) (by omega) (by omega) ?_; go_frame))
    | fail)
  go_cut [24] from 10 to 24 (fun s wr => s = .bool (b1 || b2 || b3) ∧ Own w0 (blk w0.heap.size [.int .i64 version, .slice co clusters.length cc, .slice ho hosts.length hc]) wr)
  case first =>
    have G := G.sub (blk w0.heap.size [.int .i64 version, .slice co clusters.length cc, .slice ho hosts.length hc])
    cases b1 <;> cases b2 <;> cases b3
    all_goals
      go_wp2_with (first
        | go_big_skip
        | ((with_reducible refine at_lss ?_); refine wpu_lss rfl (by kernel_rfl) rfl rfl (by assumption) ?_; go_frame)
        | ((with_reducible refine at_gtr ?_); refine wpu_gtr rfl (by kernel_rfl) rfl rfl (by assumption) ?_; go_frame)
        | ((with_reducible refine at_leq ?_); refine wpu_leq rfl (by kernel_rfl) rfl rfl (by assumption) ?_; go_frame)
        | ((with_reducible refine at_geq ?_); refine wpu_geq rfl (by kernel_rfl) rfl rfl (by assumption) ?_; go_frame)
        | ((with_reducible refine at_eqS ?_); refine wpu_eqS rfl (by kernel_rfl) rfl rfl (by assumption) ?_; go_frame)
        | ((with_reducible refine at_neS ?_); refine wpu_neS rfl (by kernel_rfl) rfl rfl (by assumption) ?_; go_frame)
        | ((with_reducible refine at_alloc ?_); refine wpu_new G ?_; clear G; intro w G)
        | ((with_reducible refine at_drew ?_); refine wpu_drew G ?_; clear G; intro w G)
        | go_big_skip
        | ((with_reducible refine at_load ?_); first
          | (refine wpu_load G rfl (by kernel_rfl) rfl rfl ?_; go_frame)
          | (refine wpu_loadB G rfl (by kernel_rfl) rfl (by rfl) ?_; go_frame)
          | (refine wpu_loadS G rfl (by kernel_rfl) rfl (by rfl) ?_; simp only [List.drop_succ_cons, List.drop_zero, List.take_succ_cons, List.take_zero]; go_frame))
        | ((with_reducible refine at_store ?_); first
          | (refine wpu_store G rfl (by kernel_rfl) rfl rfl (by first | rfl | assumption | simp [*]) rfl ?_; clear G; intro w G; go_frame)
          | (refine wpu_storeB G rfl (by kernel_rfl) rfl rfl (by rfl) (by rfl) (by first | rfl | assumption | simp [*]) ?_; clear G; intro w G; go_frame)
          | (refine wpu_storeS G rfl (by kernel_rfl) rfl rfl (by rfl) (by rfl) (by first | rfl | assumption | simp [*]) ?_; clear G; intro w G; go_frame))
        | ((with_reducible refine at_convert ?_); refine wpu_str G rfl (by kernel_rfl) rfl rfl ?_; go_frame)
        | fail)
      go_meet
      case rel => exact ⟨rfl, G⟩
  case rest =>
    clear G
    obtain ⟨rfl, G⟩ := hcut
    clear y1 y2 y3
    obtain ⟨bad, hbad⟩ : ∃ b, (b1 || b2 || b3) = b := ⟨_, rfl⟩
    rw [hbad] at HM HLEN ⊢
    clear hbad
    cases bad with
    | true =>
      have e : R = false := HM.out
      subst e
      go_wp2_with fail
      go_ret
      exact ⟨rfl, G.below⟩
    | false =>
    obtain ⟨lc, lh⟩ := HLEN.out rfl
    have HM2 : Hid (R = ((newR [] clusters).isSome && hostsR clusters [] hosts)) := Lib.hid HM.out
    clear HM HLEN
    go_wp2_with (first
      | ((with_reducible refine at_alloc ?_); refine wpu_new G ?_; clear G; intro w G)
      | ((with_reducible refine at_drew ?_); refine wpu_drew G ?_; clear G; intro w G)
      | ((with_reducible refine at_makeMap ?_); refine wpu_makeSS G rfl rfl ?_; clear G; intro w G; go_frame)
      | ((with_reducible refine at_insert ?_); refine wpu_ssPut (x := []) G (.inr rfl) rfl rfl rfl rfl (by unfold maxLen; simp) (by unfold maxLen; simp) ?_; clear G; intro w G; go_frame)
      | ((with_reducible refine at_alloc ?_); refine wpu_new G ?_; clear G; intro w G)
      | ((with_reducible refine at_drew ?_); refine wpu_drew G ?_; clear G; intro w G)
      | ((with_reducible refine at_load ?_); first
        | (refine wpu_load G rfl rfl rfl rfl ?_; go_frame)
        | (refine wpu_loadB G rfl rfl rfl (by rfl) ?_; go_frame)
        | (refine wpu_loadS G rfl rfl rfl (by rfl) ?_; simp only [List.drop_succ_cons, List.drop_zero, List.take_succ_cons, List.take_zero]; go_frame))
      | ((with_reducible refine at_store ?_); first
        | (refine wpu_store G rfl rfl rfl rfl (by first | rfl | assumption | simp [*]) rfl ?_; clear G; intro w G; go_frame)
        | (refine wpu_storeB G rfl rfl rfl rfl (by rfl) (by rfl) (by first | rfl | assumption | simp [*]) ?_; clear G; intro w G; go_frame)
        | (refine wpu_storeS G rfl rfl rfl rfl (by rfl) (by rfl) (by first | rfl | assumption | simp [*]) ?_; clear G; intro w G; go_frame))
      | ((with_reducible refine at_convert ?_); refine wpu_str G rfl rfl rfl rfl ?_; go_frame)
      | ((with_reducible refine at_slice ?_); first
        | (refine wpu_sliceLo rfl rfl rfl rfl (by first | rfl | omega) (by omega) (by omega) ?_; go_frame)
        | (refine wpu_sliceLH rfl rfl rfl rfl rfl (by first | rfl | omega) (by first | rfl | omega) (by omega) (by omega) ?_; go_frame))
      | fail)
    have G : Own w0 (ssA Tryd.prog 9 4 wc.heap.size ([] :: clusters.take 0) * blk w0.heap.size [.int .i64 version, .slice co clusters.length cc, .slice ho hosts.length hc]) w := G
    go_loopw [5, 30] (fun _ i wr => ∃ j : Nat, i = .int .i64 j ∧ j ≤ clusters.length ∧ Hid (newR [] clusters = newR (clusters.take j) (clusters.drop j)) ∧ Own w0 (ssA Tryd.prog 9 4 wc.heap.size ([] :: clusters.take j) * blk w0.heap.size [.int .i64 version, .slice co clusters.length cc, .slice ho hosts.length hc]) wr) (fun _ i _ => clusters.length - (intOf i).toNat)
    case atStart => exact ⟨0, rfl, Nat.zero_le _, Lib.hid rfl, G⟩
    case round =>
      clear G
      obtain ⟨j, rfl, hj, HN, G⟩ := hrel
      by_cases hjn : j < clusters.length
      · obtain ⟨x, hx⟩ : ∃ x, clusters[j]? = some x := ⟨clusters[j], List.getElem?_eq_getElem hjn⟩
        obtain ⟨ad, rfl⟩ := rd_some (hu _ _ G) (by omega)
        have HF := Lib.hid (strs_at hx)
        have hxl : x.length ≤ 9223372036854775807 := Nat.le_trans (okc x (List.mem_of_getElem? hx)) (by decide)
        obtain ⟨b, hb⟩ : ∃ b, decide (x ∈ [] :: clusters.take j) = b := ⟨_, rfl⟩
        have HB := Lib.hid hb
        have HX := Lib.hid hx
        have hsl : ([] :: clusters.take j).length < 9223372036854775807 := by simp; omega
        clear hx hb
        cases b
        · have hno : ¬ (x = [] ∨ x ∈ clusters.take j) := by
            have := HB.out
            simpa using this
          have HN2 : Hid (newR [] clusters = newR (clusters.take (j + 1)) (clusters.drop (j + 1))) := Lib.hid (by
            rw [HN.out, new_go HX.out hno, List.take_add_one, HX.out]
            rfl)
          have HT : Hid ([] :: clusters.take (j + 1) = ([] :: clusters.take j) ++ [x]) := Lib.hid (by rw [List.take_add_one, HX.out]; rfl)
          clear hno HN
          go_wp2_with (first
            | ((with_reducible refine at_load ?_); refine wpu_loadC (k := j) (hu _ _ G) HF.out rfl (by kernel_rfl) rfl ?_; go_frame)
            | ((with_reducible refine at_lookup ?_); refine wpu_ssLook G rfl rfl rfl rfl hxl HB.out ?_; go_frame)
            | ((with_reducible refine at_update ?_); refine wpu_ssPut (x := x) G (.inl rfl) rfl rfl rfl rfl hxl hsl ?_; clear G; intro w G; go_frame)
            | fail)
          rw [← HT.out] at G
          go_roundw
          case rel => exact ⟨j + 1, by go_num, by omega, HN2, G⟩
          case measure => simp [intOf] <;> omega
        · have hyes : x = [] ∨ x ∈ clusters.take j := by
            have := HB.out
            simpa using this
          have e : R = false := by
            rw [HM2.out, HN.out, new_stop HX.out hyes]
            rfl
          subst e
          go_wp2_with (first
            | ((with_reducible refine at_load ?_); refine wpu_loadC (k := j) (hu _ _ G) HF.out rfl (by kernel_rfl) rfl ?_; go_frame)
            | ((with_reducible refine at_lookup ?_); refine wpu_ssLook G rfl rfl rfl rfl hxl HB.out ?_; go_frame)
            | fail)
          go_ret
          exact ⟨rfl, G.below⟩
      · obtain rfl : j = clusters.length := by omega
        have HM3 : Hid (R = hostsR clusters [] hosts) := Lib.hid (by
          rw [HM2.out, HN.out, new_end]
          rfl)
        have G := G.sub (blk w0.heap.size [.int .i64 version, .slice co clusters.length cc, .slice ho hosts.length hc])
        clear HM2 HN
        go_wp2_with (first
          | ((with_reducible refine at_alloc ?_); refine wpu_new G ?_; clear G; intro w G)
          | ((with_reducible refine at_drew ?_); refine wpu_drew G ?_; clear G; intro w G)
          | ((with_reducible refine at_makeMap ?_); refine wpu_makeSS G rfl rfl ?_; clear G; intro w G; go_frame)
          | ((with_reducible refine at_insert ?_); refine wpu_ssPut (x := []) G (.inr rfl) rfl rfl rfl rfl (by unfold maxLen; simp) (by unfold maxLen; simp) ?_; clear G; intro w G; go_frame)
          | ((with_reducible refine at_alloc ?_); refine wpu_new G ?_; clear G; intro w G)
          | ((with_reducible refine at_drew ?_); refine wpu_drew G ?_; clear G; intro w G)
          | ((with_reducible refine at_load ?_); first
            | (refine wpu_load G rfl rfl rfl rfl ?_; go_frame)
            | (refine wpu_loadB G rfl rfl rfl (by rfl) ?_; go_frame)
            | (refine wpu_loadS G rfl rfl rfl (by rfl) ?_; simp only [List.drop_succ_cons, List.drop_zero, List.take_succ_cons, List.take_zero]; go_frame))
          | ((with_reducible refine at_store ?_); first
            | (refine wpu_store G rfl rfl rfl rfl (by first | rfl | assumption | simp [*]) rfl ?_; clear G; intro w G; go_frame)
            | (refine wpu_storeB G rfl rfl rfl rfl (by rfl) (by rfl) (by first | rfl | assumption | simp [*]) ?_; clear G; intro w G; go_frame)
            | (refine wpu_storeS G rfl rfl rfl rfl (by rfl) (by rfl) (by first | rfl | assumption | simp [*]) ?_; clear G; intro w G; go_frame))
          | ((with_reducible refine at_convert ?_); refine wpu_str G rfl rfl rfl rfl ?_; go_frame)
          | ((with_reducible refine at_slice ?_); first
            | (refine wpu_sliceLo rfl rfl rfl rfl (by first | rfl | omega) (by omega) (by omega) ?_; go_frame)
            | (refine wpu_sliceLH rfl rfl rfl rfl rfl (by first | rfl | omega) (by first | rfl | omega) (by omega) (by omega) ?_; go_frame))
          | fail)
        obtain ⟨m2, hm2⟩ : ∃ m, wr.heap.size = m := ⟨_, rfl⟩
        rw [hm2] at G ⊢
        clear hm2
        have G : Own w0 (ssA Tryd.prog 9 4 m2 ([] :: []) * blk w0.heap.size [.int .i64 version, .slice co clusters.length cc, .slice ho hosts.length hc]) w := G
        go_loopw [7, 9, 45] (fun _ _ i wr => ∃ (j : Nat) (seen : List Txt), i = .int .i64 j ∧ j ≤ hosts.length ∧ seen.length ≤ 16 * j ∧ Hid (hostsR clusters [] hosts = hostsR clusters seen (hosts.drop j)) ∧ Own w0 (ssA Tryd.prog 9 4 m2 ([] :: seen) * blk w0.heap.size [.int .i64 version, .slice co clusters.length cc, .slice ho hosts.length hc]) wr) (fun _ _ i _ => hosts.length - (intOf i).toNat)
        case atStart => exact ⟨0, [], rfl, Nat.zero_le _, by simp, Lib.hid rfl, G⟩
        case round =>
          clear G
          obtain ⟨j, seen, rfl, hj, hsn, HN, G⟩ := hrel
          by_cases hjn : j < hosts.length
          · obtain ⟨h, hh⟩ : ∃ h, hosts[j]? = some h := ⟨hosts[j], List.getElem?_eq_getElem hjn⟩
            obtain ⟨ad, rfl⟩ := rd_some (hv _ _ G) (by omega)
            have hrt := hL.2 j h hh
            obtain ⟨vn, vr, ys, hcs, hn0, hr0, hRL⟩ := hrt
            have HF := Lib.hid hcs
            have okn := (okh h (List.mem_of_getElem? hh)).names
            obtain ⟨no, nc, rfl, i5, i6, -⟩ := id hn0
            obtain ⟨ro, rc, rfl, i7, i8, -⟩ := id hr0
            have hnn : ∀ A w, Own w0 A w → rd w 1 (.slice no h.names.length nc) h.names.length (strs h.names) := fun A w g => hn0.old g
            unfold maxLen at i6 i8
            clear hn0
            obtain ⟨b1, y1⟩ : ∃ b, ((h.names.length : Int) == 0) = b := ⟨_, rfl⟩
            obtain ⟨b2, y2⟩ : ∃ b, decide ((h.names.length : Int) > 16) = b := ⟨_, rfl⟩
            obtain ⟨b3, y3⟩ : ∃ b, decide ((h.routes.length : Int) > 32) = b := ⟨_, rfl⟩
            have HS : Hid (hostsR clusters [] hosts = (!(b1 || b2 || b3) && match newR seen (h.names.map smallL) with
                | none => false
                | some seen' => h.routes.all (mayR · clusters) && hostsR clusters seen' (hosts.drop (j + 1)))) := Lib.hid (by
              rw [HN.out, hosts_step hh]
              have z1 : decide (1 ≤ h.names.length) = !b1 := by
                rw [← y1]
                by_cases e : h.names.length = 0
                · rw [e]; rfl
                · have : ((h.names.length : Int) == 0) = false := by simpa using e
                  rw [this]
                  exact decide_eq_true (by omega)
              have z2 : decide (h.names.length ≤ 16) = !b2 := by rw [← y2, ← decide_not]; exact decide_eq_decide.2 (by omega)
              have z3 : decide (h.routes.length ≤ 32) = !b3 := by rw [← y3, ← decide_not]; exact decide_eq_decide.2 (by omega)
              rw [z1, z2, z3]
              cases b1 <;> cases b2 <;> cases b3 <;> rfl)
            have HLN : Hid ((b1 || b2 || b3) = false → h.names.length ≤ 16) := Lib.hid (fun e => by
              have e2 : b2 = false := by revert e; cases b1 <;> cases b2 <;> simp
              rw [e2] at y2
              have := of_decide_eq_false y2
              omega)
            clear HN hh
            go_upto_region 15 with (first
              | ((with_reducible refine at_alloc ?_); refine wpu_new G ?_; clear G; intro w G)
              | ((with_reducible refine at_drew ?_); refine wpu_drew G ?_; clear G; intro w G)
              | ((with_reducible refine at_load ?_); refine wpu_loadE (k := j) (hv _ _ G) HF.out rfl (by kernel_rfl) rfl rfl ?_; go_frame)
              | ((with_reducible refine at_alloc ?_); refine wpu_new G ?_; clear G; intro w G)
              | ((with_reducible refine at_drew ?_); refine wpu_drew G ?_; clear G; intro w G)
              | ((with_reducible refine at_load ?_); first
                | (refine wpu_load G rfl rfl rfl rfl ?_; go_frame)
                | (refine wpu_loadB G rfl rfl rfl (by rfl) ?_; go_frame)
                | (refine wpu_loadS G rfl rfl rfl (by rfl) ?_; simp only [List.drop_succ_cons, List.drop_zero, List.take_succ_cons, List.take_zero]; go_frame))
              | ((with_reducible refine at_store ?_); first
                | (refine wpu_store G rfl rfl rfl rfl (by first | rfl | assumption | simp [*]) rfl ?_; clear G; intro w G; go_frame)
                | (refine wpu_storeB G rfl rfl rfl rfl (by rfl) (by rfl) (by first | rfl | assumption | simp [*]) ?_; clear G; intro w G; go_frame)
                | (refine wpu_storeS G rfl rfl rfl rfl (by rfl) (by rfl) (by first | rfl | assumption | simp [*]) ?_; clear G; intro w G; go_frame))
              | ((with_reducible refine at_convert ?_); refine wpu_str G rfl rfl rfl rfl ?_; go_frame)
              | ((with_reducible refine at_slice ?_); first
                | (refine wpu_sliceLo rfl rfl rfl rfl (by first | rfl | omega) (by omega) (by omega) ?_; go_frame)
                | (refine wpu_sliceLH rfl rfl rfl rfl rfl (by first | rfl | omega) (by first | rfl | omega) (by omega) (by omega) ?_; go_frame))
              | fail)
            obtain ⟨b7, hb7⟩ : ∃ m, wr.heap.size = m := ⟨_, rfl⟩
            rw [hb7] at G ⊢
            clear hb7
            go_cut [64] from 49 to 64 (fun s wr => s = .bool (b1 || b2 || b3) ∧ Own w0 (blk b7 [.slice no h.names.length nc, .slice ro h.routes.length rc] * (ssA Tryd.prog 9 4 m2 ([] :: seen) * (blk w0.heap.size [.int .i64 version, .slice co clusters.length cc, .slice (some ad) hosts.length hc]))) wr)
            case first =>
              cases b1 <;> cases b2 <;> cases b3
              all_goals
                go_wp2_with (first
                  | go_big_skip
                  | ((with_reducible refine at_eql ?_); refine wpu_eql rfl (by kernel_rfl) rfl rfl (by assumption) ?_; go_frame)
                  | ((with_reducible refine at_lss ?_); refine wpu_lss rfl (by kernel_rfl) rfl rfl (by assumption) ?_; go_frame)
                  | ((with_reducible refine at_gtr ?_); refine wpu_gtr rfl (by kernel_rfl) rfl rfl (by assumption) ?_; go_frame)
                  | ((with_reducible refine at_leq ?_); refine wpu_leq rfl (by kernel_rfl) rfl rfl (by assumption) ?_; go_frame)
                  | ((with_reducible refine at_geq ?_); refine wpu_geq rfl (by kernel_rfl) rfl rfl (by assumption) ?_; go_frame)
                  | ((with_reducible refine at_eqS ?_); refine wpu_eqS rfl (by kernel_rfl) rfl rfl (by assumption) ?_; go_frame)
                  | ((with_reducible refine at_neS ?_); refine wpu_neS rfl (by kernel_rfl) rfl rfl (by assumption) ?_; go_frame)
                  | ((with_reducible refine at_alloc ?_); refine wpu_new G ?_; clear G; intro w G)
                  | ((with_reducible refine at_drew ?_); refine wpu_drew G ?_; clear G; intro w G)
                  | go_big_skip
                  | ((with_reducible refine at_load ?_); first
                    | (refine wpu_load G rfl (by kernel_rfl) rfl rfl ?_; go_frame)
                    | (refine wpu_loadB G rfl (by kernel_rfl) rfl (by rfl) ?_; go_frame)
                    | (refine wpu_loadS G rfl (by kernel_rfl) rfl (by rfl) ?_; simp only [List.drop_succ_cons, List.drop_zero, List.take_succ_cons, List.take_zero]; go_frame))
                  | ((with_reducible refine at_store ?_); first
                    | (refine wpu_store G rfl (by kernel_rfl) rfl rfl (by first | rfl | assumption | simp [*]) rfl ?_; clear G; intro w G; go_frame)
                    | (refine wpu_storeB G rfl (by kernel_rfl) rfl rfl (by rfl) (by rfl) (by first | rfl | assumption | simp [*]) ?_; clear G; intro w G; go_frame)
                    | (refine wpu_storeS G rfl (by kernel_rfl) rfl rfl (by rfl) (by rfl) (by first | rfl | assumption | simp [*]) ?_; clear G; intro w G; go_frame))
                  | ((with_reducible refine at_convert ?_); refine wpu_str G rfl (by kernel_rfl) rfl rfl ?_; go_frame)
                  | fail)
                go_meet
                case rel => exact ⟨rfl, G⟩
            case rest =>
              clear G
              obtain ⟨rfl, G⟩ := hcut
              clear y1 y2 y3
              obtain ⟨bad, hbad⟩ : ∃ b, (b1 || b2 || b3) = b := ⟨_, rfl⟩
              rw [hbad] at HS HLN ⊢
              clear hbad
              cases bad with
              | true =>
                have e : R = false := by rw [HM3.out, HS.out]; rfl
                subst e
                go_wp2_with fail
                go_ret
                exact ⟨rfl, G.below⟩
              | false =>
              have ln := HLN.out rfl
              obtain ⟨M, hM⟩ : ∃ M, h.names.map smallL = M := ⟨_, rfl⟩
              have HML : Hid (M.length = h.names.length) := Lib.hid (by rw [← hM]; simp)
              have HMA : Hid (∀ k x, h.names[k]? = some x → M[k]? = some (smallL x)) := Lib.hid (fun k x e => by rw [← hM, List.getElem?_map, e]; rfl)
              rw [hM] at HS
              clear hM HLN
              go_wp2_with (first
                | ((with_reducible refine at_alloc ?_); refine wpu_new G ?_; clear G; intro w G)
                | ((with_reducible refine at_drew ?_); refine wpu_drew G ?_; clear G; intro w G)
                | ((with_reducible refine at_load ?_); first
                  | (refine wpu_load G rfl rfl rfl rfl ?_; go_frame)
                  | (refine wpu_loadB G rfl rfl rfl (by rfl) ?_; go_frame)
                  | (refine wpu_loadS G rfl rfl rfl (by rfl) ?_; simp only [List.drop_succ_cons, List.drop_zero, List.take_succ_cons, List.take_zero]; go_frame))
                | ((with_reducible refine at_store ?_); first
                  | (refine wpu_store G rfl rfl rfl rfl (by first | rfl | assumption | simp [*]) rfl ?_; clear G; intro w G; go_frame)
                  | (refine wpu_storeB G rfl rfl rfl rfl (by rfl) (by rfl) (by first | rfl | assumption | simp [*]) ?_; clear G; intro w G; go_frame)
                  | (refine wpu_storeS G rfl rfl rfl rfl (by rfl) (by rfl) (by first | rfl | assumption | simp [*]) ?_; clear G; intro w G; go_frame))
                | ((with_reducible refine at_convert ?_); refine wpu_str G rfl rfl rfl rfl ?_; go_frame)
                | ((with_reducible refine at_slice ?_); first
                  | (refine wpu_sliceLo rfl rfl rfl rfl (by first | rfl | omega) (by omega) (by omega) ?_; go_frame)
                  | (refine wpu_sliceLH rfl rfl rfl rfl rfl (by first | rfl | omega) (by first | rfl | omega) (by omega) (by omega) ?_; go_frame))
                | fail)
              go_loopw [9, 68] (fun _ i wr => ∃ k : Nat, i = .int .i64 k ∧ k ≤ h.names.length ∧ Hid (newR seen M = newR (seen ++ M.take k) (M.drop k)) ∧ Own w0 (blk b7 [.slice no h.names.length nc, .slice ro h.routes.length rc] * (ssA Tryd.prog 9 4 m2 ([] :: (seen ++ M.take k)) * (blk w0.heap.size [.int .i64 version, .slice co clusters.length cc, .slice (some ad) hosts.length hc]))) wr) (fun _ i _ => h.names.length - (intOf i).toNat)
              case atStart => exact ⟨0, rfl, Nat.zero_le _, Lib.hid (by rw [List.take_zero, List.append_nil, List.drop_zero]), by rw [List.take_zero, List.append_nil]; exact G⟩
              case round =>
                clear G
                obtain ⟨k, rfl, hk, HN, G⟩ := hrel
                by_cases hkn : k < h.names.length
                · obtain ⟨x, hx⟩ : ∃ x, h.names[k]? = some x := ⟨h.names[k], List.getElem?_eq_getElem hkn⟩
                  obtain ⟨nd, rfl⟩ := rd_some (hnn _ _ G) (by omega)
                  have HF2 := Lib.hid (strs_at hx)
                  have hxl := okn x (List.mem_of_getElem? hx)
                  have HX := Lib.hid (HMA.out k x hx)
                  obtain ⟨y, hy⟩ : ∃ y, smallL x = y := ⟨_, rfl⟩
                  have hyl : y.length ≤ 9223372036854775807 := by rw [← hy]; unfold smallL; rw [List.length_map]; omega
                  rw [hy] at HX
                  have HY := Lib.hid hy
                  obtain ⟨b, hb⟩ : ∃ b, decide (y ∈ [] :: (seen ++ M.take k)) = b := ⟨_, rfl⟩
                  have HB := Lib.hid hb
                  have hsl : ([] :: (seen ++ M.take k)).length < 9223372036854775807 := by simp; omega
                  clear hx hb hy
                  go_wp2_with (first
                    | ((with_reducible refine at_load ?_); refine wpu_loadC (k := k) (hnn _ _ G) HF2.out rfl (by kernel_rfl) rfl ?_; go_frame)
                    | fail)
                  refine Calls.mono (lowC hxl G) ?_
                  clear G; rintro e w ⟨rfl, G⟩
                  rw [HY.out]
                  cases b
                  · have hno : ¬ (y = [] ∨ y ∈ seen ++ M.take k) := by
                      have := HB.out
                      simpa using this
                    have HN2 : Hid (newR seen M = newR (seen ++ M.take (k + 1)) (M.drop (k + 1))) := Lib.hid (by
                      rw [HN.out, new_go HX.out hno, List.take_add_one, HX.out, List.append_assoc]
                      rfl)
                    have HT : Hid ([] :: (seen ++ M.take (k + 1)) = ([] :: (seen ++ M.take k)) ++ [y]) := Lib.hid (by rw [List.take_add_one, HX.out, ← List.append_assoc]; rfl)
                    clear hno HN
                    go_wp2_with (first
                      | ((with_reducible refine at_lookup ?_); refine wpu_ssLook G rfl rfl rfl rfl hyl HB.out ?_; go_frame)
                      | ((with_reducible refine at_update ?_); refine wpu_ssPut (x := y) G (.inl rfl) rfl rfl rfl rfl hyl hsl ?_; clear G; intro w G; go_frame)
                      | fail)
                    rw [← HT.out] at G
                    go_roundw
                    case rel => exact ⟨k + 1, by go_num, by omega, HN2, G.eq (by ac_rfl)⟩
                    case measure => simp [intOf] <;> omega
                  · have hyes : y = [] ∨ y ∈ seen ++ M.take k := by
                      have := HB.out
                      simpa using this
                    have e : R = false := by
                      rw [HM3.out, HS.out, HN.out, new_stop HX.out hyes]
                      rfl
                    subst e
                    go_wp2_with (first
                      | ((with_reducible refine at_lookup ?_); refine wpu_ssLook G rfl rfl rfl rfl hyl HB.out ?_; go_frame)
                      | fail)
                    go_ret
                    exact ⟨rfl, G.below⟩
                · have ek : k = M.length := by have := HML.out; omega
                  subst ek
                  have HN2 : Hid (newR seen M = some (seen ++ M)) := Lib.hid (by rw [HN.out, new_end, List.take_length])
                  rw [List.take_length] at G
                  obtain ⟨a, ha⟩ : ∃ a, (h.routes.all (mayR · clusters)) = a := ⟨_, rfl⟩
                  have HA := Lib.hid ha
                  clear ha HN
                  go_wp2_with (first
                    | ((with_reducible refine at_alloc ?_); refine wpu_new G ?_; clear G; intro w G)
                    | ((with_reducible refine at_drew ?_); refine wpu_drew G ?_; clear G; intro w G)
                    | ((with_reducible refine at_load ?_); first
                      | (refine wpu_load G rfl rfl rfl rfl ?_; go_frame)
                      | (refine wpu_loadB G rfl rfl rfl (by rfl) ?_; go_frame)
                      | (refine wpu_loadS G rfl rfl rfl (by rfl) ?_; simp only [List.drop_succ_cons, List.drop_zero, List.take_succ_cons, List.take_zero]; go_frame))
                    | ((with_reducible refine at_store ?_); first
                      | (refine wpu_store G rfl rfl rfl rfl (by first | rfl | assumption | simp [*]) rfl ?_; clear G; intro w G; go_frame)
                      | (refine wpu_storeB G rfl rfl rfl rfl (by rfl) (by rfl) (by first | rfl | assumption | simp [*]) ?_; clear G; intro w G; go_frame)
                      | (refine wpu_storeS G rfl rfl rfl rfl (by rfl) (by rfl) (by first | rfl | assumption | simp [*]) ?_; clear G; intro w G; go_frame))
                    | ((with_reducible refine at_convert ?_); refine wpu_str G rfl rfl rfl rfl ?_; go_frame)
                    | ((with_reducible refine at_slice ?_); first
                      | (refine wpu_sliceLo rfl rfl rfl rfl (by first | rfl | omega) (by omega) (by omega) ?_; go_frame)
                      | (refine wpu_sliceLH rfl rfl rfl rfl rfl (by first | rfl | omega) (by first | rfl | omega) (by omega) (by omega) ?_; go_frame))
                    | fail)
                  refine Calls.mono (containsMayC (cl := clusters) (G.eq (A' := (blk w0.heap.size [.int .i64 version, .slice co clusters.length cc, .slice (some ad) hosts.length hc]) * (blk b7 [.slice no h.names.length nc, .slice ro h.routes.length rc] * ssA Tryd.prog 9 4 m2 ([] :: (seen ++ M)))) (by ac_rfl)) hr0 hRL hc0) ?_
                  clear G; rintro e w ⟨rfl, G⟩
                  rw [HA.out]
                  cases a
                  · have e : R = false := by
                      rw [HM3.out, HS.out, HN2.out]
                      show (h.routes.all (mayR · clusters) && _) = false
                      rw [HA.out]
                      rfl
                    subst e
                    go_wp2_with fail
                    go_ret
                    exact ⟨rfl, G.below⟩
                  · have HE : Hid (hostsR clusters [] hosts = hostsR clusters (seen ++ M) (hosts.drop (j + 1))) := Lib.hid (by
                      rw [HS.out, HN2.out]
                      show (h.routes.all (mayR · clusters) && _) = _
                      rw [HA.out]
                      rfl)
                    have G := G.sub (ssA Tryd.prog 9 4 m2 ([] :: (seen ++ M)) * (blk w0.heap.size [.int .i64 version, .slice co clusters.length cc, .slice (some ad) hosts.length hc]))
                    have hln := HML.out
                    have hsn2 : (seen ++ M).length ≤ 16 * (j + 1) := by rw [List.length_append]; omega
                    clear hln
                    go_wp2_with fail
                    go_roundw
                    case rel => exact ⟨j + 1, seen ++ M, by go_num, by omega, hsn2, HE, G⟩
                    case measure => simp [intOf] <;> omega
          · obtain rfl : j = hosts.length := by omega
            have e : R = true := by
              rw [HM3.out, HN.out, List.drop_length]
              rfl
            subst e
            go_wp2_with fail
            go_ret
            exact ⟨rfl, G.below⟩
end Go.Proofs.YtjcpfldobiekbaaDoor
