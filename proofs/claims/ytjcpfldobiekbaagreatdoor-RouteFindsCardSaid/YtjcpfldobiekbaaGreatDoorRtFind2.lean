



/-
  Where a request goes: the document's answer.
-/
import Derived.Test.YtjcpfldobiekbaaGreatDoorRtFind
import Derived.Test.YtjcpfldobiekbaaGreatDoorRtRight2
namespace Go.Proofs.YtjcpfldobiekbaaGreatDoor
open Go.RowKit Go.Sl Go.ChangeShapes Go.Fl

def atI : Option Nat → Int
  | none => -1
  | some k => k

set_option maxHeartbeats 16000000 in
set_option maxRecDepth 100000 in
theorem findRefC {w0 : World} {s : Sn} {cs : List Value} {F : List Fd} {u : Value} {d : Nat} (hs : rdSn w0 cs s) (ok : s.ok) (hF : rd w0 3 u F.length (fds F)) (okF : ∀ f ∈ F, f.2.1.length ≤ 140737488351232) (hd : d < 18446744073709551616) :
    Calls Tryz.prog 7 #[.agg cs.toArray, u, .int .u64 (d : Int)] w0 fun e w' => e = .returned (findV (findR s F d)) ∧ Below w0.heap.size w0 w' := by
  have G := own_begin w0
  have hs0 := hs
  obtain ⟨vc, vh, xs, rfl, hc0, hh0, hL⟩ := hs
  have hu : ∀ A w, Own w0 A w → rd w 3 u F.length (fds F) := fun A w h => hF.old h
  obtain ⟨ho, hc, rfl, i3, i4, -⟩ := id hh0
  unfold maxLen at i4
  have hv : ∀ A w, Own w0 A w → rd w 2 (.slice ho s.hosts.length hc) s.hosts.length xs := fun A w h => hh0.old h
  have okh := ok.hosts
  obtain ⟨R, hR⟩ : ∃ R, findR s F d = R := ⟨_, rfl⟩
  obtain ⟨ri, hri⟩ : ∃ b, rightR s = b := ⟨_, rfl⟩
  obtain ⟨path, hp⟩ : ∃ p, firstF F [58, 112, 97, 116, 104] = p := ⟨_, rfl⟩
  obtain ⟨auth, ha⟩ : ∃ p, firstF F [58, 97, 117, 116, 104, 111, 114, 105, 116, 121] = p := ⟨_, rfl⟩
  have hal : auth.length ≤ 140737488351232 := by rw [← ha]; exact first_len okF
  obtain ⟨o, ho'⟩ : ∃ o, (nearH auth 0 (0, none) s.hosts).2 = o := ⟨_, rfl⟩
  have HM : Hid (R = if ri then wentR s.hosts path F d o else none) := Lib.hid (by rw [← hR, find_eq, hri, hp, ha, ho'])
  have HO := Lib.hid ho'
  rw [hR]
  have HRI := Lib.hid hri
  have HP := Lib.hid hp
  have HA := Lib.hid ha
  clear hR hri hp ha ho'
  go_enter Tryz.func7, Tryz.ntmps7
  go_wp2_with (first
    | ((with_reducible refine at_alloc ?_); refine wpu_new G ?_; clear G; intro w G)
    | ((with_reducible refine at_drew ?_); refine wpu_drew G ?_; clear G; intro w G)
    | ((with_reducible refine at_alloc ?_); refine wpu_new G ?_; clear G; intro w G)
    | ((with_reducible refine at_drew ?_); refine wpu_drew G ?_; clear G; intro w G)
    | ((with_reducible refine at_load ?_); first
      | (refine wpu_load G rfl rfl rfl rfl ?_; go_frame)
      | (refine wpu_loadB G rfl rfl rfl (by rfl) ?_; go_frame)
      | (refine wpu_loadS G rfl rfl rfl (by rfl) ?_; simp only [List.drop_succ_cons, List.drop_zero, List.take_succ_cons, List.take_zero]; go_frame))
    | ((with_reducible refine at_store ?_); first
      | (refine wpu_store G rfl rfl rfl rfl (by first | rfl | assumption | simp [*]) rfl ?_; clear G; intro w G; go_frame)
      | (refine wpu_storeB G rfl rfl rfl rfl (by rfl) (by rfl) (by first | rfl | assumption | simp [*]) ?_; clear G; intro w G; go_frame)
      | (refine wpu_storeS G rfl rfl rfl rfl (by rfl) (by rfl) (by first | rfl | assumption | simp [*]) ?_; clear G; intro w G; go_frame))
    | ((with_reducible refine at_convert ?_); refine wpu_str G rfl rfl rfl rfl ?_; go_frame)
    | ((with_reducible refine at_slice ?_); first
      | (refine wpu_sliceLo rfl rfl rfl rfl (by first | rfl | omega) (by omega) (by omega) ?_; go_frame)
      | (refine wpu_sliceLH rfl rfl rfl rfl rfl (by first | rfl | omega) (by first | rfl | omega) (by omega) (by omega) ?_; go_frame))
    | fail)
  refine Calls.mono (rightRefC (hs0.old G) ok) ?_
  rintro e w ⟨rfl, hb⟩
  have G := own_kept G hb
  clear hb
  rw [HRI.out]
  cases ri
  · have e : R = none := HM.out
    subst e
    go_wp2_with fail
    try simp only [Exit.inBlock, Exit.then]
    refine bodyPost_ret (results3 rfl (by first | exact resT rfl | exact resB G rfl (by rfl) | exact resO G rfl rfl) (by first | exact resT rfl | exact resB G rfl (by rfl) | exact resO G rfl rfl) (by first | exact resT rfl | exact resB G rfl (by rfl) | exact resO G rfl rfl)) rfl ?_
    exact ⟨rfl, G.below⟩
  have hmay := right_may HRI.out
  have G := G.drop
  go_wp2_with fail
  refine Calls.mono (firstRefC (n := [58, 97, 117, 116, 104, 111, 114, 105, 116, 121]) G (hu _)) ?_
  clear G; rintro e w ⟨rfl, G⟩
  rw [HA.out]
  go_wp2_with fail
  go_loopw [11, 12, 13, 14, 15] (fun be at' i _ _ wr => ∃ (j : Nat) (st : Int × Option Nat), i = .int .i64 j ∧ be = .int .i64 st.1 ∧ at' = .int .i64 (atI st.2) ∧ j ≤ s.hosts.length ∧ Hid (nearH auth 0 (0, none) s.hosts = nearH auth j st (s.hosts.drop j)) ∧ Own w0 (blk w0.heap.size [.int .i64 s.version, vc, .slice ho s.hosts.length hc]) wr) (fun _ _ i _ _ _ => s.hosts.length - (intOf i).toNat)
  case atStart => exact ⟨0, (0, none), rfl, rfl, rfl, Nat.zero_le _, Lib.hid rfl, G⟩
  case round =>
    clear G
    obtain ⟨j, st, rfl, rfl, rfl, hj, HN, G⟩ := hrel
    by_cases hjn : j < s.hosts.length
    · obtain ⟨h, hh⟩ : ∃ h, s.hosts[j]? = some h := ⟨s.hosts[j], List.getElem?_eq_getElem hjn⟩
      obtain ⟨ad, rfl⟩ := rd_some (hv _ _ G) (by omega)
      obtain ⟨vn, vr, ys, hcs, hn0, hr0, -⟩ := hL.2 j h hh
      have HF := Lib.hid hcs
      have okn := (okh h (List.mem_of_getElem? hh)).names
      obtain ⟨no, nc, rfl, i5, i6, -⟩ := id hn0
      have hnn : ∀ A w, Own w0 A w → rd w 1 (.slice no h.names.length nc) h.names.length (strs h.names) := fun A w g => hn0.old g
      unfold maxLen at i6
      have HS : Hid (nearH auth 0 (0, none) s.hosts = nearH auth (j + 1) (h.names.foldl (nearN auth j) st) (s.hosts.drop (j + 1))) := Lib.hid (by rw [HN.out, near_step hh])
      clear hn0 hr0 hh HN
      go_wp2_with (first
        | ((with_reducible refine at_alloc ?_); refine wpu_new G ?_; clear G; intro w G)
        | ((with_reducible refine at_drew ?_); refine wpu_drew G ?_; clear G; intro w G)
        | ((with_reducible refine at_load ?_); first
          | (refine wpu_load G rfl rfl rfl rfl ?_; go_frame)
          | (refine wpu_loadB G rfl rfl rfl (by rfl) ?_; go_frame)
          | (refine wpu_loadS G rfl rfl rfl (by rfl) ?_; simp only [List.drop_succ_cons, List.drop_zero, List.take_succ_cons, List.take_zero]; go_frame))
        | ((with_reducible refine at_store ?_); first
          | (refine wpu_store G rfl rfl rfl rfl (by first | rfl | assumption | simp [*]) rfl ?_; clear G; intro w G; go_frame)
          | (refine wpu_storeB G rfl rfl rfl rfl (by rfl) (by rfl) (by first | rfl | assumption | simp [*]) ?_; clear G; intro w G; go_frame)
          | (refine wpu_storeS G rfl rfl rfl rfl (by rfl) (by rfl) (by first | rfl | assumption | simp [*]) ?_; clear G; intro w G; go_frame))
        | ((with_reducible refine at_convert ?_); refine wpu_str G rfl rfl rfl rfl ?_; go_frame)
        | ((with_reducible refine at_slice ?_); first
          | (refine wpu_sliceLo rfl rfl rfl rfl (by first | rfl | omega) (by omega) (by omega) ?_; go_frame)
          | (refine wpu_sliceLH rfl rfl rfl rfl rfl (by first | rfl | omega) (by first | rfl | omega) (by omega) (by omega) ?_; go_frame))
        | fail)
      go_loopw [11, 12, 14, 15] (fun be at' i _ wr => ∃ (k : Nat) (st2 : Int × Option Nat), i = .int .i64 k ∧ be = .int .i64 st2.1 ∧ at' = .int .i64 (atI st2.2) ∧ k ≤ h.names.length ∧ Hid (h.names.foldl (nearN auth j) st = (h.names.drop k).foldl (nearN auth j) st2) ∧ Own w0 (blk w0.heap.size [.int .i64 s.version, vc, .slice (some ad) s.hosts.length hc]) wr) (fun _ _ i _ _ => h.names.length - (intOf i).toNat)
      case atStart => exact ⟨0, st, rfl, rfl, rfl, Nat.zero_le _, Lib.hid rfl, G⟩
      case round =>
        clear G
        obtain ⟨k, st2, rfl, rfl, rfl, hk, HN, G⟩ := hrel
        by_cases hkn : k < h.names.length
        · obtain ⟨x, hx⟩ : ∃ x, h.names[k]? = some x := ⟨h.names[k], List.getElem?_eq_getElem hkn⟩
          obtain ⟨nd, rfl⟩ := rd_some (hnn _ _ G) (by omega)
          have HF2 := Lib.hid (strs_at hx)
          have hxl := okn x (List.mem_of_getElem? hx)
          have HN2 := Lib.hid (HN.out.trans (fold_step (auth := auth) (i := j) (st := st2) hx))
          obtain ⟨y, hy⟩ : ∃ y, hostR x auth = y := ⟨_, rfl⟩
          have HY := Lib.hid hy
          obtain ⟨b, hb⟩ : ∃ b, decide (y > st2.1) = b := ⟨_, rfl⟩
          clear hx hy HN
          go_wp2_with (first
            | ((with_reducible refine at_load ?_); first
              | (refine wpu_load G rfl rfl rfl rfl ?_; go_frame)
              | (refine wpu_loadF0 (k := j) (hv _ _ G) HF.out rfl (by kernel_rfl) rfl rfl ?_; go_frame)
              | (refine wpu_loadC (k := k) (hnn _ _ G) HF2.out rfl (by kernel_rfl) rfl ?_; go_frame))
            | fail)
          refine Calls.mono (hostRefC hxl hal G) ?_
          clear G; rintro e w ⟨rfl, G⟩
          rw [HY.out]
          cases b
          · have HN3 : Hid (h.names.foldl (nearN auth j) st = (h.names.drop (k + 1)).foldl (nearN auth j) st2) := Lib.hid (by
              rw [HN2.out]
              unfold nearN
              rw [HY.out, if_neg (by have := of_decide_eq_false hb; omega)])
            go_wp2_with (first
              | ((with_reducible refine at_lss ?_); refine wpu_lss rfl (by kernel_rfl) rfl rfl (by assumption) ?_; go_frame)
              | ((with_reducible refine at_gtr ?_); refine wpu_gtr rfl (by kernel_rfl) rfl rfl (by assumption) ?_; go_frame)
              | ((with_reducible refine at_leq ?_); refine wpu_leq rfl (by kernel_rfl) rfl rfl (by assumption) ?_; go_frame)
              | ((with_reducible refine at_geq ?_); refine wpu_geq rfl (by kernel_rfl) rfl rfl (by assumption) ?_; go_frame)
              | ((with_reducible refine at_eqS ?_); refine wpu_eqS rfl (by kernel_rfl) rfl rfl (by assumption) ?_; go_frame)
              | ((with_reducible refine at_neS ?_); refine wpu_neS rfl (by kernel_rfl) rfl rfl (by assumption) ?_; go_frame)
              | fail)
            go_roundw
            case rel => exact ⟨k + 1, st2, by go_num, rfl, rfl, by omega, HN3, G⟩
            case measure => simp [intOf] <;> omega
          · have HN3 : Hid (h.names.foldl (nearN auth j) st = (h.names.drop (k + 1)).foldl (nearN auth j) (y, some j)) := Lib.hid (by
              rw [HN2.out]
              unfold nearN
              rw [HY.out, if_pos (by have := of_decide_eq_true hb; omega)])
            go_wp2_with (first
              | ((with_reducible refine at_lss ?_); refine wpu_lss rfl (by kernel_rfl) rfl rfl (by assumption) ?_; go_frame)
              | ((with_reducible refine at_gtr ?_); refine wpu_gtr rfl (by kernel_rfl) rfl rfl (by assumption) ?_; go_frame)
              | ((with_reducible refine at_leq ?_); refine wpu_leq rfl (by kernel_rfl) rfl rfl (by assumption) ?_; go_frame)
              | ((with_reducible refine at_geq ?_); refine wpu_geq rfl (by kernel_rfl) rfl rfl (by assumption) ?_; go_frame)
              | ((with_reducible refine at_eqS ?_); refine wpu_eqS rfl (by kernel_rfl) rfl rfl (by assumption) ?_; go_frame)
              | ((with_reducible refine at_neS ?_); refine wpu_neS rfl (by kernel_rfl) rfl rfl (by assumption) ?_; go_frame)
              | fail)
            go_roundw
            case rel => exact ⟨k + 1, (y, some j), by go_num, rfl, rfl, by omega, HN3, G⟩
            case measure => simp [intOf] <;> omega
        · obtain rfl : k = h.names.length := by omega
          have HN2 : Hid (nearH auth 0 (0, none) s.hosts = nearH auth (j + 1) st2 (s.hosts.drop (j + 1))) := Lib.hid (by
            rw [HS.out, HN.out, List.drop_length]
            rfl)
          clear HN HS
          go_wp2_with (first
            | ((with_reducible refine at_load ?_); first
              | (refine wpu_load G rfl rfl rfl rfl ?_; go_frame)
              | (refine wpu_loadF0 (k := j) (hv _ _ G) HF.out rfl (by kernel_rfl) rfl rfl ?_; go_frame))
            | fail)
          go_roundw
          case rel => exact ⟨j + 1, st2, by go_num, rfl, rfl, by omega, HN2, G⟩
          case measure => simp [intOf] <;> omega
    · obtain rfl : j = s.hosts.length := by omega
      have HE : Hid (st.2 = o) := Lib.hid (by rw [← HO.out, HN.out, near_end])
      rw [HE.out]
      clear HN HE
      cases o with
      | none =>
        have e : R = none := HM.out
        subst e
        rw [show atI none = -1 from rfl]
        go_wp2_with (first
          | ((with_reducible refine at_alloc ?_); refine wpu_new G ?_; clear G; intro w G)
          | ((with_reducible refine at_drew ?_); refine wpu_drew G ?_; clear G; intro w G)
          | ((with_reducible refine at_load ?_); first
            | (refine wpu_load G rfl rfl rfl rfl ?_; go_frame)
            | (refine wpu_loadB G rfl rfl rfl (by rfl) ?_; go_frame)
            | (refine wpu_loadS G rfl rfl rfl (by rfl) ?_; simp only [List.drop_succ_cons, List.drop_zero, List.take_succ_cons, List.take_zero]; go_frame))
          | ((with_reducible refine at_store ?_); first
            | (refine wpu_store G rfl rfl rfl rfl (by first | rfl | assumption | simp [*]) rfl ?_; clear G; intro w G; go_frame)
            | (refine wpu_storeB G rfl rfl rfl rfl (by rfl) (by rfl) (by first | rfl | assumption | simp [*]) ?_; clear G; intro w G; go_frame)
            | (refine wpu_storeS G rfl rfl rfl rfl (by rfl) (by rfl) (by first | rfl | assumption | simp [*]) ?_; clear G; intro w G; go_frame))
          | ((with_reducible refine at_convert ?_); refine wpu_str G rfl rfl rfl rfl ?_; go_frame)
          | ((with_reducible refine at_slice ?_); first
            | (refine wpu_sliceLo rfl rfl rfl rfl (by first | rfl | omega) (by omega) (by omega) ?_; go_frame)
            | (refine wpu_sliceLH rfl rfl rfl rfl rfl (by first | rfl | omega) (by first | rfl | omega) (by omega) (by omega) ?_; go_frame))
          | fail)
        try simp only [Exit.inBlock, Exit.then]
        refine bodyPost_ret (results3 rfl (by first | exact resT rfl | exact resB G rfl (by rfl) | exact resO G rfl rfl) (by first | exact resT rfl | exact resB G rfl (by rfl) | exact resO G rfl rfl) (by first | exact resT rfl | exact resB G rfl (by rfl) | exact resO G rfl rfl)) rfl ?_
        exact ⟨rfl, G.below⟩
      | some i =>
      have hi : i < s.hosts.length := by
        rcases near_lt s.hosts 0 (0, none) i HO.out with e | ⟨_, e⟩
        · cases e
        · omega
      obtain ⟨h, hh⟩ : ∃ h, s.hosts[i]? = some h := ⟨s.hosts[i], List.getElem?_eq_getElem hi⟩
      obtain ⟨ad, rfl⟩ := rd_some (hv _ _ G) (by omega)
      obtain ⟨vn, vr, ys, hcs, -, hr0, hRL⟩ := hL.2 i h hh
      have HF := Lib.hid hcs
      have hm := List.mem_of_getElem? hh
      have okr := (okh h hm).routes
      have hmr := hmay h hm
      have HM2 : Hid (R = goesR h.routes path F d) := Lib.hid (by
        rw [HM.out]
        show wentR s.hosts path F d (some i) = _
        unfold wentR
        simp only
        rw [hh])
      obtain ⟨ro, rc, rfl, i7, i8, -⟩ := id hr0
      unfold maxLen at i8
      have hrr : ∀ A w, Own w0 A w → rd w 7 (.slice ro h.routes.length rc) h.routes.length ys := fun A w g => hr0.old g
      rw [show atI (some i) = (i : Int) from rfl]
      clear HM hh hcs HO hm hmay hr0
      go_wp2_with (first
        | ((with_reducible refine at_alloc ?_); refine wpu_new G ?_; clear G; intro w G)
        | ((with_reducible refine at_drew ?_); refine wpu_drew G ?_; clear G; intro w G)
        | ((with_reducible refine at_load ?_); first
          | (refine wpu_load G rfl rfl rfl rfl ?_; go_frame)
          | (refine wpu_loadB G rfl rfl rfl (by rfl) ?_; go_frame)
          | (refine wpu_loadS G rfl rfl rfl (by rfl) ?_; simp only [List.drop_succ_cons, List.drop_zero, List.take_succ_cons, List.take_zero]; go_frame))
        | ((with_reducible refine at_store ?_); first
          | (refine wpu_store G rfl rfl rfl rfl (by first | rfl | assumption | simp [*]) rfl ?_; clear G; intro w G; go_frame)
          | (refine wpu_storeB G rfl rfl rfl rfl (by rfl) (by rfl) (by first | rfl | assumption | simp [*]) ?_; clear G; intro w G; go_frame)
          | (refine wpu_storeS G rfl rfl rfl rfl (by rfl) (by rfl) (by first | rfl | assumption | simp [*]) ?_; clear G; intro w G; go_frame))
        | ((with_reducible refine at_convert ?_); refine wpu_str G rfl rfl rfl rfl ?_; go_frame)
        | ((with_reducible refine at_slice ?_); first
          | (refine wpu_sliceLo rfl rfl rfl rfl (by first | rfl | omega) (by omega) (by omega) ?_; go_frame)
          | (refine wpu_sliceLH rfl rfl rfl rfl rfl (by first | rfl | omega) (by first | rfl | omega) (by omega) (by omega) ?_; go_frame))
        | fail)
      go_loopw [16, 17, 18] (fun i _ _ wr => ∃ j : Nat, i = .int .i64 j ∧ j ≤ h.routes.length ∧ Hid (∀ x ∈ h.routes.take j, fitsR x path F = false) ∧ Own w0 (blk w0.heap.size [.int .i64 s.version, vc, .slice (some ad) s.hosts.length hc]) wr) (fun i _ _ _ => h.routes.length - (intOf i).toNat)
      case atStart => exact ⟨0, rfl, Nat.zero_le _, Lib.hid (by simp), G⟩
      case round =>
        clear G
        obtain ⟨j, rfl, hj, HA2, G⟩ := hrel
        by_cases hjn : j < h.routes.length
        · obtain ⟨r, hr⟩ : ∃ r, h.routes[j]? = some r := ⟨h.routes[j], List.getElem?_eq_getElem hjn⟩
          obtain ⟨rd', rfl⟩ := rd_some (hrr _ _ G) (by omega)
          have hrt := hRL.2 j r hr
          have hmem := List.mem_of_getElem? hr
          obtain ⟨hw, h16⟩ := may_weigh (hmr r hmem)
          have okr1 := okr r hmem
          have hrt0 := hrt
          obtain ⟨vf, vk, hcs, hf0, hk0⟩ := hrt
          have v1 := hf0.one
          obtain ⟨ko, kc, rfl, i9, i10, -⟩ := id hk0
          have hkk : ∀ A w, Own w0 A w → rd w 2 (.slice ko r.choices.length kc) r.choices.length (chs r.choices) := fun A w g => hk0.old g
          unfold maxLen at i10
          rw [hcs] at hrt0
          have HF3 := Lib.hid hcs
          have HH := Lib.hid hr
          obtain ⟨b, hb⟩ : ∃ b, fitsR r path F = b := ⟨_, rfl⟩
          have HB := Lib.hid hb
          have HW := Lib.hid hw
          clear hr hb hcs hk0 hmem hw hf0
          go_wp2_with (first
            | ((with_reducible refine at_alloc ?_); refine wpu_new G ?_; clear G; intro w G)
            | ((with_reducible refine at_drew ?_); refine wpu_drew G ?_; clear G; intro w G)
            | ((with_reducible refine at_load ?_); first
              | (refine wpu_load G rfl rfl rfl rfl ?_; go_frame)
              | (refine wpu_loadF (k := i) (j := 0) (hv _ _ G) HF.out rfl (by kernel_rfl) rfl rfl ?_; go_frame)
              | (refine wpu_loadE (k := j) (hrr _ _ G) HF3.out rfl (by kernel_rfl) rfl rfl ?_; go_frame)
              | (refine wpu_loadB G rfl rfl rfl (by rfl) ?_; go_frame))
            | ((with_reducible refine at_store ?_); refine wpu_storeB G rfl rfl rfl rfl (by rfl) (by rfl) (by simp only [List.all_cons, v1]; rfl) ?_; clear G; intro w G; go_frame)
            | fail)
          refine Calls.mono (fitsRefC (hrt0.old G) okr1 (hu _ _ G) okF) ?_
          rintro e w ⟨rfl, hb⟩
          have G := own_kept G hb
          clear hb
          rw [HP.out, HB.out]
          cases b
          · have HN : Hid (∀ x ∈ h.routes.take (j + 1), fitsR x path F = false) := Lib.hid (by
              rw [List.take_add_one, HH.out]
              intro g hg
              rcases List.mem_append.1 hg with hg | hg
              · exact HA2.out g hg
              · rw [List.mem_singleton.1 hg]; exact HB.out)
            go_wp2_with fail
            go_roundw
            case rel => exact ⟨j + 1, by go_num, by omega, HN, G.sub (blk w0.heap.size [.int .i64 s.version, vc, .slice (some ad) s.hosts.length hc])⟩
            case measure => simp [intOf] <;> omega
          · have hplt := pick_lt HW.out d
            rw [weights_len] at hplt
            obtain ⟨p, hp⟩ : ∃ p, pickR (weightsR r.choices) d = p := ⟨_, rfl⟩
            rw [hp] at hplt
            obtain ⟨c, hc⟩ : ∃ c, r.choices[p]? = some c := ⟨r.choices[p], List.getElem?_eq_getElem hplt⟩
            have HC := Lib.hid (chs_at hc)
            have e : R = some (c.cluster, r.ticks) := by
              rw [HM2.out, goes_hit HH.out HA2.out HB.out (by rw [hp]; exact hc)]
            subst e
            have HPK := Lib.hid hp
            obtain ⟨kd, rfl⟩ := rd_some (hkk _ _ G) (by omega)
            clear hc hp
            go_wp2_with fail
            refine wp_region_mix [0, 0, 0, 0, 1, 0, 1, 0, 0, 0, 0, 0, 0, 0, 0] (Own w0 _) (by kernel_rfl) (by kernel_rfl) (own_drew G) ?_
            refine mix_calm 4 ((own_drew G)) (by rfl) (by rfl) ?_
            intro ι W hne hW
            dsimp only [List.take, List.drop]
            repeat (first | ((with_reducible refine atq_load ?_); first | (refine wpq_load hW rfl rfl rfl rfl ?_; go_frame) | (refine wpq_loadB hW rfl rfl rfl (by rfl) ?_; go_frame) | (refine wpq_loadS hW rfl rfl rfl (by rfl) ?_; simp only [List.drop_succ_cons, List.drop_zero, List.take_succ_cons, List.take_zero]; go_frame)) | (fail) | go_big_quiet_step (fail))
            refine wpQuiet_nil ?_
            clear  hW hne W ι
            refine mix_loud rfl (fun K hK => ?_)
            go_wp2_with fail
            refine Calls.mono (weightsRefC (L := r.choices) (by omega) (own_drew G) (hkk _)) ?_
            clear G; rintro e w ⟨v', rfl, G1⟩
            have G := G1.right
            refine hK _ _ ⟨G, ?_⟩
            clear hK
            try go_frame
            refine mix_calm 1 (G) (by rfl) (by rfl) ?_
            intro ι W hne hW
            dsimp only [List.take, List.drop]
            repeat (first | ((with_reducible refine atq_load ?_); first | (refine wpq_load hW rfl rfl rfl rfl ?_; go_frame) | (refine wpq_loadB hW rfl rfl rfl (by rfl) ?_; go_frame) | (refine wpq_loadS hW rfl rfl rfl (by rfl) ?_; simp only [List.drop_succ_cons, List.drop_zero, List.take_succ_cons, List.take_zero]; go_frame)) | (fail) | go_big_quiet_step (fail))
            refine wpQuiet_nil ?_
            clear  hW hne W ι
            refine mix_loud rfl (fun K hK => ?_)
            go_wp2_with fail
            have hwl := weights_len r.choices
            refine Calls.mono (pickRefC hd HW.out G1 (fun w h => by rw [hwl]; exact own_rd h)) ?_
            clear G G1; rintro e w ⟨rfl, G⟩
            have G := G.right
            rw [HPK.out]
            refine hK _ _ ⟨G, ?_⟩
            clear hK hwl
            try go_frame
            refine mix_calm 8 (G) (by rfl) (by rfl) ?_
            intro ι W hne hW
            dsimp only [List.take, List.drop]
            repeat (first | ((with_reducible refine atq_load ?_); refine wpq_loadF0 (k := p) (fun i => hkk _ _ (hW i)) HC.out rfl (by kernel_rfl) rfl rfl ?_; go_frame) | ((with_reducible refine atq_load ?_); first | (refine wpq_load hW rfl rfl rfl rfl ?_; go_frame) | (refine wpq_loadB hW rfl rfl rfl (by rfl) ?_; go_frame)) | go_big_quiet_step (fail))
            refine wpQuiet_nil ?_
            clear  hW hne W ι
            refine mix_nil ?_
            go_wp2_with fail
            try simp only [Exit.inBlock, Exit.then]
            refine bodyPost_ret (results3 rfl (by first | exact resT rfl | exact resB G rfl (by rfl) | exact resO G rfl rfl) (by first | exact resT rfl | exact resB G rfl (by rfl) | exact resO G rfl rfl) (by first | exact resT rfl | exact resB G rfl (by rfl) | exact resO G rfl rfl)) rfl ?_
            exact ⟨rfl, G.below⟩
        · have e : R = none := by
            have := HA2.out
            rw [List.take_of_length_le (by omega)] at this
            rw [HM2.out, goes_none this]
          subst e
          go_wp2_with (first
            | ((with_reducible refine at_load ?_); first
              | (refine wpu_load G rfl rfl rfl rfl ?_; go_frame)
              | (refine wpu_loadF (k := i) (j := 0) (hv _ _ G) HF.out rfl (by kernel_rfl) rfl rfl ?_; go_frame))
            | fail)
          try simp only [Exit.inBlock, Exit.then]
          refine bodyPost_ret (results3 rfl (by first | exact resT rfl | exact resB G rfl (by rfl) | exact resO G rfl rfl) (by first | exact resT rfl | exact resB G rfl (by rfl) | exact resO G rfl rfl) (by first | exact resT rfl | exact resB G rfl (by rfl) | exact resO G rfl rfl)) rfl ?_
          exact ⟨rfl, G.below⟩
end Go.Proofs.YtjcpfldobiekbaaGreatDoor
