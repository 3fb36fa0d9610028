
/-
  MatchEnds: what is exactly so begins so, and ends so, and is there.
-/
import Derived.Test.YtndlfieignhjjaaDoorMtArg
import Derived.Test.YtndlfieignhjjaaDoorStrAdd
import Derived.Test.YtndlfieignhjjaaDoorLawD
import Derived.Test.YtndlfieignhjjaaDoorTie
import Derived.Test.YtndlfieignhjjaaDoorCards
import Derived.SevenTiedAt
namespace Go.Proofs.YtndlfieignhjjaaDoor.matchEnds
open Go.RowKit Go.Sl Go.ChangeShapes

theorem at_place {at' : Int} {n : Nat} (h : 0 < at') : ∃ k : Nat, at'.tmod ((n : Int) + 1) = (k : Int) ∧ k ≤ n := by
  have h1 := Int.tmod_nonneg ((n : Int) + 1) (Int.le_of_lt h)
  have h2 := Int.tmod_lt_of_pos at' (show (0 : Int) < (n : Int) + 1 by omega)
  exact ⟨(at'.tmod ((n : Int) + 1)).toNat, by omega, by omega⟩
theorem fieldR_with {n v x : Txt} {how : Int} {O : List Fd} (h : asksR ⟨n, v, how, false⟩ x = true) : fieldR ⟨n, v, how, false⟩ (O ++ [(n, x, false)]) = true := by
  unfold fieldR
  have : hasR ⟨n, v, how, false⟩ (n, x, false) = true := by unfold hasR; simp [h]
  rw [List.any_append]
  simp [this]
theorem fieldR_others {n v : Txt} {how : Int} {O : List Fd} (h : ∀ f ∈ O, f.1 ≠ n ∧ f.2.1.length ≤ 9223372036854775807) : fieldR ⟨n, v, how, false⟩ O = false := by
  unfold fieldR
  have : O.any (hasR ⟨n, v, how, false⟩) = false := by
    rw [List.any_eq_false]
    intro f hf
    unfold hasR
    simp [(h f hf).1]
  rw [this]
  rfl
theorem asks0 (n v x : Txt) : asksR ⟨n, v, 0, false⟩ x = true := rfl
theorem asks1 (n x : Txt) : asksR ⟨n, x, 1, false⟩ x = true := by simp [asksR]
theorem asks2 (n x : Txt) (k : Nat) : asksR ⟨n, x.take k, 2, false⟩ x = true := by
  show (x.take k).isPrefixOf x = true
  rw [List.isPrefixOf_iff_prefix]
  exact List.take_prefix k x
theorem asks3 (n x : Txt) (k : Nat) : asksR ⟨n, x.drop k, 3, false⟩ x = true := by
  show (x.drop k).isSuffixOf x = true
  rw [List.isSuffixOf_iff_suffix]
  exact List.drop_suffix k x





theorem fds_one (l : List Fd) : ∀ y ∈ fds l, y.oneCell' = true := by
  intro y hy
  obtain ⟨f, _, hf⟩ := List.mem_flatMap.1 hy
  simp [Fd.cs] at hf
  rcases hf with rfl | rfl | rfl <;> rfl

set_option maxHeartbeats 8000000 in
set_option maxRecDepth 100000 in
theorem endsW {w0 : World} {l1 l2 : Txt} {u : Value} {at' : Int} {F0 : List Fd} (h1 : l1.length ≤ 9223372036854775807) (h2 : l2.length ≤ 9223372036854775807) (hf : rd w0 3 u F0.length (fds F0)) (hlen0 : ∀ f ∈ F0, f.2.1.length ≤ 9223372036854775807) :
    Calls Tryd.prog 9 #[str l1, str l2, u, .int .i64 at'] w0 fun e w' => e = .returned (.bool true) ∧ Below w0.heap.size w0 w' := by
  have G := own_begin w0
  have k1 := cutT_len l1
  have k2 := cutT_len l2
  obtain ⟨n0, hn0⟩ : ∃ x, cutT l1 = x := ⟨_, rfl⟩
  obtain ⟨val, hv⟩ : ∃ x, cutT l2 = x := ⟨_, rfl⟩
  rw [hn0] at k1
  rw [hv] at k2
  have HN0 := Lib.hid hn0
  have HV := Lib.hid hv
  obtain ⟨n, hn⟩ : ∃ n : Txt, [120] ++ n0 = n := ⟨_, rfl⟩
  have HN := Lib.hid hn
  have k3 : n.length ≤ 2001 := by rw [← hn]; simp; omega
  have hu : ∀ A w, Own w0 A w → rd w 3 u F0.length (fds F0) := fun A w h => hf.old h
  obtain ⟨fo, fc, rfl, j1, j2, -⟩ := id hf
  unfold maxLen at j2
  clear hn0 hv hn hf
  go_enter Tryd.func9, Tryd.ntmps9
  go_wp2_with fail
  refine Calls.mono (shownMt G) ?_
  clear G; rintro e w ⟨rfl, G⟩
  go_wp2_with fail
  refine Calls.mono (cutC h1 G) ?_
  clear G; rintro e w ⟨rfl, G⟩
  rw [HN0.out]
  go_wp2_with (first
    | ((with_reducible refine at_addS ?_); refine wpu_addS rfl (by kernel_rfl) rfl rfl HN.out (by simp; omega) ?_; go_frame)
    | fail)
  refine Calls.mono (cutC h2 G) ?_
  clear G; rintro e w ⟨rfl, G⟩
  rw [HV.out]
  go_wp2_with fail
  go_loopw [10, 11] (fun o i wr => ∃ (j : Nat) (O : List Fd) (oo : Option Addr) (oc : Nat), o = .slice oo O.length oc ∧ i = .int .i64 j ∧ j ≤ F0.length ∧ j ≤ 50 ∧ O.length ≤ j ∧ O.length ≤ oc ∧ oc ≤ 9223372036854775807 ∧ Hid (∀ f ∈ O, f.1 ≠ n ∧ f.2.1.length ≤ 9223372036854775807) ∧ Own w0 (sl 3 o O.length (fds O) * emp) wr) (fun _ i _ => F0.length - (intOf i).toNat)
  case atStart => exact ⟨0, [], none, 0, rfl, rfl, Nat.zero_le _, by omega, Nat.le_refl _, by simp, by omega, Lib.hid (by simp), own_nil G 3⟩
  case round =>
    clear G
    obtain ⟨j, O, oo, oc, rfl, rfl, hj, h50, hO, i3, i4, HA, G⟩ := hrel
    by_cases hjn : j < F0.length
    · by_cases hj5 : j < 50
      · obtain ⟨f, hf⟩ : ∃ f, F0[j]? = some f := ⟨F0[j], List.getElem?_eq_getElem hjn⟩
        obtain ⟨ad, rfl⟩ := rd_some (hu _ _ G) (by omega)
        have HF := Lib.hid (fds_at hf)
        have hfl := hlen0 f (List.mem_of_getElem? hf)
        clear hf
        by_cases hq : f.1 = n
        · have y1 : decide (f.1 = n) = true := by simp [hq]
          clear hq
          go_wp2_with (first
            | ((with_reducible refine at_load ?_); refine wpu_loadF0 (k := j) (hu _ _ G) HF.out rfl (by kernel_rfl) rfl rfl ?_; go_frame)
            | ((with_reducible refine at_neS ?_); refine wpu_neS rfl (by kernel_rfl) rfl rfl y1 ?_; go_frame)
            | fail)
          go_roundw
          case rel => exact ⟨j + 1, O, oo, oc, rfl, by go_num, by omega, by omega, by omega, i3, i4, HA, G⟩
          case measure => simp [intOf] <;> omega
        · have y1 : decide (f.1 = n) = false := by simp [hq]
          have HA2 : Hid (∀ g ∈ O ++ [f], g.1 ≠ n ∧ g.2.1.length ≤ 9223372036854775807) := Lib.hid (by
            intro g hg
            rcases List.mem_append.1 hg with hg | hg
            · exact HA.out g hg
            · rw [List.mem_singleton.1 hg]; exact ⟨hq, hfl⟩)
          clear hq
          go_wp2_with (first
            | ((with_reducible refine at_load ?_); first
              | (refine wpu_loadF0 (k := j) (hu _ _ G) HF.out rfl (by kernel_rfl) rfl rfl ?_; go_frame)
              | (refine wpu_loadE (k := j) (hu _ _ G) HF.out rfl (by kernel_rfl) rfl rfl ?_; go_frame))
            | ((with_reducible refine at_neS ?_); refine wpu_neS rfl (by kernel_rfl) rfl rfl y1 ?_; go_frame)
            | ((with_reducible refine at_append ?_); refine wpu_append1 G rfl rfl rfl rfl (by rfl) (by rfl) (by unfold maxLen; omega) (by omega) ?_; clear G; intro v w G; obtain ⟨xo, xc, rfl, i5, i6⟩ := G.hdr v; go_frame)
            | ((with_reducible refine at_alloc ?_); refine wpu_new G ?_; clear G; intro w G)
            | ((with_reducible refine at_drew ?_); refine wpu_drew G ?_; clear G; intro w G)
            | ((with_reducible refine at_load ?_); first
              | (refine wpu_load G rfl rfl rfl rfl ?_; go_frame)
              | (refine wpu_loadB G rfl rfl rfl (by rfl) ?_; go_frame)
              | (refine wpu_loadS G rfl rfl rfl (by rfl) ?_; simp only [List.drop_succ_cons, List.drop_zero, List.take_succ_cons, List.take_zero]; go_frame))
            | ((with_reducible refine at_store ?_); first
              | (refine wpu_store G rfl rfl rfl rfl (by first | rfl | assumption | simp [*]) rfl ?_; clear G; intro w G; go_frame)
              | (refine wpu_storeB G rfl rfl rfl rfl (by rfl) (by rfl) (by first | rfl | assumption | simp [*]) ?_; clear G; intro w G; go_frame)
              | (refine wpu_storeS G rfl rfl rfl rfl (by rfl) (by rfl) (by first | rfl | assumption | simp [*]) ?_; clear G; intro w G; go_frame))
            | ((with_reducible refine at_convert ?_); refine wpu_str G rfl rfl rfl rfl ?_; go_frame)
            | ((with_reducible refine at_slice ?_); first
              | (refine wpu_sliceLo rfl rfl rfl rfl (by first | rfl | omega) (by omega) (by omega) ?_; go_frame)
              | (refine wpu_sliceLH rfl rfl rfl rfl rfl (by first | rfl | omega) (by first | rfl | omega) (by omega) (by omega) ?_; go_frame))
            | fail)
          have e1 : fds O ++ [str f.1, str f.2.1, .bool f.2.2] = fds (O ++ [f]) := fds_app O [f]
          have e2 : O.length + 1 = (O ++ [f]).length := by simp
          rw [e1, e2] at G
          rw [e2] at i5 ⊢
          unfold maxLen at i6
          go_roundw
          case rel => exact ⟨j + 1, O ++ [f], xo, xc, rfl, by go_num, by omega, by omega, by omega, i5, by omega, HA2, G⟩
          case measure => simp [intOf] <;> omega
      · skip
        have hlenO : ∀ f ∈ O, f.2.1.length ≤ 9223372036854775807 := fun f hf => (HA.out f hf).2
        have HONE : Hid (∀ y ∈ fds O, y.oneCell' = true) := Lib.hid (fds_one O)
        obtain ⟨W, hW⟩ : ∃ W, O ++ [(n, val, false)] = W := ⟨_, rfl⟩
        have hlenW : ∀ f ∈ W, f.2.1.length ≤ 9223372036854775807 := by
          rw [← hW]
          intro f hf
          rcases List.mem_append.1 hf with hf | hf
          · exact hlenO f hf
          · rw [List.mem_singleton.1 hf]; show val.length ≤ _; omega
        have EW : Hid (fds O ++ [str n, str val, .bool false] = fds W) := Lib.hid (by rw [← hW]; exact fds_app O [(n, val, false)])
        have EL : Hid (O.length + 1 = W.length) := Lib.hid (by rw [← hW]; simp)
        have HWW := Lib.hid hW
        clear hW
        by_cases hat : 0 < at'
        · obtain ⟨k, hk, hk1⟩ := at_place (n := val.length) hat
          go_wp2_with (first
            | ((with_reducible refine at_append ?_); first
              | (refine wpu_append0 G rfl rfl rfl rfl (G.rd (.slice oo O.length oc) _ G) HONE.out (by unfold maxLen; omega) (by omega) ?_; clear G; intro v w G)
              | (refine wpu_append1 G rfl rfl rfl rfl (by rfl) (by rfl) (by unfold maxLen; omega) (by omega) ?_; clear G; intro v w G; go_frame))
            | ((with_reducible refine at_alloc ?_); refine wpu_new G ?_; clear G; intro w G)
            | ((with_reducible refine at_drew ?_); refine wpu_drew G ?_; clear G; intro w G)
            | ((with_reducible refine at_load ?_); first
              | (refine wpu_load G rfl rfl rfl rfl ?_; go_frame)
              | (refine wpu_loadB G rfl rfl rfl (by rfl) ?_; go_frame)
              | (refine wpu_loadS G rfl rfl rfl (by rfl) ?_; simp only [List.drop_succ_cons, List.drop_zero, List.take_succ_cons, List.take_zero]; go_frame))
            | ((with_reducible refine at_store ?_); first
              | (refine wpu_store G rfl rfl rfl rfl (by first | rfl | assumption | simp [*]) rfl ?_; clear G; intro w G; go_frame)
              | (refine wpu_storeB G rfl rfl rfl rfl (by rfl) (by rfl) (by first | rfl | assumption | simp [*]) ?_; clear G; intro w G; go_frame)
              | (refine wpu_storeS G rfl rfl rfl rfl (by rfl) (by rfl) (by first | rfl | assumption | simp [*]) ?_; clear G; intro w G; go_frame))
            | ((with_reducible refine at_convert ?_); refine wpu_str G rfl rfl rfl rfl ?_; go_frame)
            | ((with_reducible refine at_slice ?_); first
              | (refine wpu_sliceLo rfl rfl rfl rfl (by first | rfl | omega) (by omega) (by omega) ?_; go_frame)
              | (refine wpu_sliceLH rfl rfl rfl rfl rfl (by first | rfl | omega) (by first | rfl | omega) (by omega) (by omega) ?_; go_frame))
            | fail)
          rw [EW.out, EL.out] at G
          obtain ⟨xo, xc, rfl, i5, i6⟩ := G.hdr v
          clear hk hat
          go_loopw [14, 15, 16] (fun h _ _ wr => ∃ j : Nat, h = .int .i64 j ∧ j ≤ 4 ∧ Own w0 (sl 3 (.slice xo W.length xc) W.length (fds W) * (sl 3 (.slice oo O.length oc) O.length (fds O) * emp)) wr) (fun h _ _ _ => 4 - (intOf h).toNat)
          case atStart => exact ⟨0, rfl, by omega, G⟩
          case round =>
            clear G
            obtain ⟨j, rfl, hj, G⟩ := hrel
            match j, hj with
            | 0, _ =>
              have H1 := Lib.hid (fieldR_with (O := O) (asks0 n val val))
              have H2 := Lib.hid (fieldR_others (n := n) (v := val) (how := 0) HA.out)
              rw [HWW.out] at H1
              go_wp2_with (first
                | ((with_reducible refine at_sliceAny ?_); first
                  | (refine wpu_strH (j := k) rfl (by kernel_rfl) rfl rfl (by first | rfl | exact HK.out) hk1 ?_; rw [HV.out]; go_frame)
                  | (refine wpu_strL (i := k) rfl (by kernel_rfl) rfl rfl (by first | rfl | exact HK.out) hk1 ?_; rw [HV.out]; go_frame))
                | ((with_reducible refine at_alloc ?_); refine wpu_new G ?_; clear G; intro w G)
                | ((with_reducible refine at_drew ?_); refine wpu_drew G ?_; clear G; intro w G)
                | ((with_reducible refine at_load ?_); first
                  | (refine wpu_load G rfl rfl rfl rfl ?_; go_frame)
                  | (refine wpu_loadB G rfl rfl rfl (by rfl) ?_; go_frame)
                  | (refine wpu_loadS G rfl rfl rfl (by rfl) ?_; simp only [List.drop_succ_cons, List.drop_zero, List.take_succ_cons, List.take_zero]; go_frame))
                | ((with_reducible refine at_store ?_); first
                  | (refine wpu_store G rfl rfl rfl rfl (by first | rfl | assumption | simp [*]) rfl ?_; clear G; intro w G; go_frame)
                  | (refine wpu_storeB G rfl rfl rfl rfl (by rfl) (by rfl) (by first | rfl | assumption | simp [*]) ?_; clear G; intro w G; go_frame)
                  | (refine wpu_storeS G rfl rfl rfl rfl (by rfl) (by rfl) (by first | rfl | assumption | simp [*]) ?_; clear G; intro w G; go_frame))
                | ((with_reducible refine at_convert ?_); refine wpu_str G rfl rfl rfl rfl ?_; go_frame)
                | ((with_reducible refine at_slice ?_); first
                  | (refine wpu_sliceLo rfl rfl rfl rfl (by first | rfl | omega) (by omega) (by omega) ?_; go_frame)
                  | (refine wpu_sliceLH rfl rfl rfl rfl rfl (by first | rfl | omega) (by first | rfl | omega) (by omega) (by omega) ?_; go_frame))
                | fail)
              refine Calls.mono (fieldC (m := ⟨n, val, 0, false⟩) hlenW G (G.rd (.slice xo W.length xc))) ?_
              clear G; rintro e w ⟨rfl, G⟩
              rw [H1.out]
              go_wp2_with (first
                | ((with_reducible refine at_alloc ?_); refine wpu_new G ?_; clear G; intro w G)
                | ((with_reducible refine at_drew ?_); refine wpu_drew G ?_; clear G; intro w G)
                | ((with_reducible refine at_load ?_); first
                  | (refine wpu_load G rfl rfl rfl rfl ?_; go_frame)
                  | (refine wpu_loadB G rfl rfl rfl (by rfl) ?_; go_frame)
                  | (refine wpu_loadS G rfl rfl rfl (by rfl) ?_; simp only [List.drop_succ_cons, List.drop_zero, List.take_succ_cons, List.take_zero]; go_frame))
                | ((with_reducible refine at_store ?_); first
                  | (refine wpu_store G rfl rfl rfl rfl (by first | rfl | assumption | simp [*]) rfl ?_; clear G; intro w G; go_frame)
                  | (refine wpu_storeB G rfl rfl rfl rfl (by rfl) (by rfl) (by first | rfl | assumption | simp [*]) ?_; clear G; intro w G; go_frame)
                  | (refine wpu_storeS G rfl rfl rfl rfl (by rfl) (by rfl) (by first | rfl | assumption | simp [*]) ?_; clear G; intro w G; go_frame))
                | ((with_reducible refine at_convert ?_); refine wpu_str G rfl rfl rfl rfl ?_; go_frame)
                | ((with_reducible refine at_slice ?_); first
                  | (refine wpu_sliceLo rfl rfl rfl rfl (by first | rfl | omega) (by omega) (by omega) ?_; go_frame)
                  | (refine wpu_sliceLH rfl rfl rfl rfl rfl (by first | rfl | omega) (by first | rfl | omega) (by omega) (by omega) ?_; go_frame))
                | fail)
              refine Calls.mono (fieldC (m := ⟨n, val, 0, false⟩) hlenO G (G.rd (.slice oo O.length oc))) ?_
              clear G; rintro e w ⟨rfl, G⟩
              rw [H2.out]
              go_wp2_with fail
              go_roundw
              case rel => exact ⟨0 + 1, by go_num, by omega, G.right⟩
              case measure => simp [intOf]
            | 1, _ =>
              have H1 := Lib.hid (fieldR_with (O := O) (asks1 n val))
              have H2 := Lib.hid (fieldR_others (n := n) (v := val) (how := 1) HA.out)
              rw [HWW.out] at H1
              go_wp2_with (first
                | ((with_reducible refine at_sliceAny ?_); first
                  | (refine wpu_strH (j := k) rfl (by kernel_rfl) rfl rfl (by first | rfl | exact HK.out) hk1 ?_; rw [HV.out]; go_frame)
                  | (refine wpu_strL (i := k) rfl (by kernel_rfl) rfl rfl (by first | rfl | exact HK.out) hk1 ?_; rw [HV.out]; go_frame))
                | ((with_reducible refine at_alloc ?_); refine wpu_new G ?_; clear G; intro w G)
                | ((with_reducible refine at_drew ?_); refine wpu_drew G ?_; clear G; intro w G)
                | ((with_reducible refine at_load ?_); first
                  | (refine wpu_load G rfl rfl rfl rfl ?_; go_frame)
                  | (refine wpu_loadB G rfl rfl rfl (by rfl) ?_; go_frame)
                  | (refine wpu_loadS G rfl rfl rfl (by rfl) ?_; simp only [List.drop_succ_cons, List.drop_zero, List.take_succ_cons, List.take_zero]; go_frame))
                | ((with_reducible refine at_store ?_); first
                  | (refine wpu_store G rfl rfl rfl rfl (by first | rfl | assumption | simp [*]) rfl ?_; clear G; intro w G; go_frame)
                  | (refine wpu_storeB G rfl rfl rfl rfl (by rfl) (by rfl) (by first | rfl | assumption | simp [*]) ?_; clear G; intro w G; go_frame)
                  | (refine wpu_storeS G rfl rfl rfl rfl (by rfl) (by rfl) (by first | rfl | assumption | simp [*]) ?_; clear G; intro w G; go_frame))
                | ((with_reducible refine at_convert ?_); refine wpu_str G rfl rfl rfl rfl ?_; go_frame)
                | ((with_reducible refine at_slice ?_); first
                  | (refine wpu_sliceLo rfl rfl rfl rfl (by first | rfl | omega) (by omega) (by omega) ?_; go_frame)
                  | (refine wpu_sliceLH rfl rfl rfl rfl rfl (by first | rfl | omega) (by first | rfl | omega) (by omega) (by omega) ?_; go_frame))
                | fail)
              refine Calls.mono (fieldC (m := ⟨n, val, 1, false⟩) hlenW G (G.rd (.slice xo W.length xc))) ?_
              clear G; rintro e w ⟨rfl, G⟩
              rw [H1.out]
              go_wp2_with (first
                | ((with_reducible refine at_alloc ?_); refine wpu_new G ?_; clear G; intro w G)
                | ((with_reducible refine at_drew ?_); refine wpu_drew G ?_; clear G; intro w G)
                | ((with_reducible refine at_load ?_); first
                  | (refine wpu_load G rfl rfl rfl rfl ?_; go_frame)
                  | (refine wpu_loadB G rfl rfl rfl (by rfl) ?_; go_frame)
                  | (refine wpu_loadS G rfl rfl rfl (by rfl) ?_; simp only [List.drop_succ_cons, List.drop_zero, List.take_succ_cons, List.take_zero]; go_frame))
                | ((with_reducible refine at_store ?_); first
                  | (refine wpu_store G rfl rfl rfl rfl (by first | rfl | assumption | simp [*]) rfl ?_; clear G; intro w G; go_frame)
                  | (refine wpu_storeB G rfl rfl rfl rfl (by rfl) (by rfl) (by first | rfl | assumption | simp [*]) ?_; clear G; intro w G; go_frame)
                  | (refine wpu_storeS G rfl rfl rfl rfl (by rfl) (by rfl) (by first | rfl | assumption | simp [*]) ?_; clear G; intro w G; go_frame))
                | ((with_reducible refine at_convert ?_); refine wpu_str G rfl rfl rfl rfl ?_; go_frame)
                | ((with_reducible refine at_slice ?_); first
                  | (refine wpu_sliceLo rfl rfl rfl rfl (by first | rfl | omega) (by omega) (by omega) ?_; go_frame)
                  | (refine wpu_sliceLH rfl rfl rfl rfl rfl (by first | rfl | omega) (by first | rfl | omega) (by omega) (by omega) ?_; go_frame))
                | fail)
              refine Calls.mono (fieldC (m := ⟨n, val, 1, false⟩) hlenO G (G.rd (.slice oo O.length oc))) ?_
              clear G; rintro e w ⟨rfl, G⟩
              rw [H2.out]
              go_wp2_with fail
              go_roundw
              case rel => exact ⟨1 + 1, by go_num, by omega, G.right⟩
              case measure => simp [intOf]
            | 2, _ =>
              have H1 := Lib.hid (fieldR_with (O := O) (asks2 n val k))
              have H2 := Lib.hid (fieldR_others (n := n) (v := (val.take k)) (how := 2) HA.out)
              rw [HWW.out] at H1
              obtain ⟨v, hv⟩ : ∃ v : Txt, (val.take k) = v := ⟨_, rfl⟩
              rw [hv] at H1 H2
              have HV := Lib.hid hv
              clear hv
              go_wp2_with (first
                | ((with_reducible refine at_sliceAny ?_); first
                  | (refine wpu_strH (j := k) rfl (by kernel_rfl) rfl rfl (by first | rfl | exact HK.out) hk1 ?_; rw [HV.out]; go_frame)
                  | (refine wpu_strL (i := k) rfl (by kernel_rfl) rfl rfl (by first | rfl | exact HK.out) hk1 ?_; rw [HV.out]; go_frame))
                | ((with_reducible refine at_alloc ?_); refine wpu_new G ?_; clear G; intro w G)
                | ((with_reducible refine at_drew ?_); refine wpu_drew G ?_; clear G; intro w G)
                | ((with_reducible refine at_load ?_); first
                  | (refine wpu_load G rfl rfl rfl rfl ?_; go_frame)
                  | (refine wpu_loadB G rfl rfl rfl (by rfl) ?_; go_frame)
                  | (refine wpu_loadS G rfl rfl rfl (by rfl) ?_; simp only [List.drop_succ_cons, List.drop_zero, List.take_succ_cons, List.take_zero]; go_frame))
                | ((with_reducible refine at_store ?_); first
                  | (refine wpu_store G rfl rfl rfl rfl (by first | rfl | assumption | simp [*]) rfl ?_; clear G; intro w G; go_frame)
                  | (refine wpu_storeB G rfl rfl rfl rfl (by rfl) (by rfl) (by first | rfl | assumption | simp [*]) ?_; clear G; intro w G; go_frame)
                  | (refine wpu_storeS G rfl rfl rfl rfl (by rfl) (by rfl) (by first | rfl | assumption | simp [*]) ?_; clear G; intro w G; go_frame))
                | ((with_reducible refine at_convert ?_); refine wpu_str G rfl rfl rfl rfl ?_; go_frame)
                | ((with_reducible refine at_slice ?_); first
                  | (refine wpu_sliceLo rfl rfl rfl rfl (by first | rfl | omega) (by omega) (by omega) ?_; go_frame)
                  | (refine wpu_sliceLH rfl rfl rfl rfl rfl (by first | rfl | omega) (by first | rfl | omega) (by omega) (by omega) ?_; go_frame))
                | fail)
              refine Calls.mono (fieldC (m := ⟨n, v, 2, false⟩) hlenW G (G.rd (.slice xo W.length xc))) ?_
              clear G; rintro e w ⟨rfl, G⟩
              rw [H1.out]
              go_wp2_with (first
                | ((with_reducible refine at_alloc ?_); refine wpu_new G ?_; clear G; intro w G)
                | ((with_reducible refine at_drew ?_); refine wpu_drew G ?_; clear G; intro w G)
                | ((with_reducible refine at_load ?_); first
                  | (refine wpu_load G rfl rfl rfl rfl ?_; go_frame)
                  | (refine wpu_loadB G rfl rfl rfl (by rfl) ?_; go_frame)
                  | (refine wpu_loadS G rfl rfl rfl (by rfl) ?_; simp only [List.drop_succ_cons, List.drop_zero, List.take_succ_cons, List.take_zero]; go_frame))
                | ((with_reducible refine at_store ?_); first
                  | (refine wpu_store G rfl rfl rfl rfl (by first | rfl | assumption | simp [*]) rfl ?_; clear G; intro w G; go_frame)
                  | (refine wpu_storeB G rfl rfl rfl rfl (by rfl) (by rfl) (by first | rfl | assumption | simp [*]) ?_; clear G; intro w G; go_frame)
                  | (refine wpu_storeS G rfl rfl rfl rfl (by rfl) (by rfl) (by first | rfl | assumption | simp [*]) ?_; clear G; intro w G; go_frame))
                | ((with_reducible refine at_convert ?_); refine wpu_str G rfl rfl rfl rfl ?_; go_frame)
                | ((with_reducible refine at_slice ?_); first
                  | (refine wpu_sliceLo rfl rfl rfl rfl (by first | rfl | omega) (by omega) (by omega) ?_; go_frame)
                  | (refine wpu_sliceLH rfl rfl rfl rfl rfl (by first | rfl | omega) (by first | rfl | omega) (by omega) (by omega) ?_; go_frame))
                | fail)
              refine Calls.mono (fieldC (m := ⟨n, v, 2, false⟩) hlenO G (G.rd (.slice oo O.length oc))) ?_
              clear G; rintro e w ⟨rfl, G⟩
              rw [H2.out]
              go_wp2_with fail
              go_roundw
              case rel => exact ⟨2 + 1, by go_num, by omega, G.right⟩
              case measure => simp [intOf]
            | 3, _ =>
              have H1 := Lib.hid (fieldR_with (O := O) (asks3 n val k))
              have H2 := Lib.hid (fieldR_others (n := n) (v := (val.drop k)) (how := 3) HA.out)
              rw [HWW.out] at H1
              obtain ⟨v, hv⟩ : ∃ v : Txt, (val.drop k) = v := ⟨_, rfl⟩
              rw [hv] at H1 H2
              have HV := Lib.hid hv
              clear hv
              go_wp2_with (first
                | ((with_reducible refine at_sliceAny ?_); first
                  | (refine wpu_strH (j := k) rfl (by kernel_rfl) rfl rfl (by first | rfl | exact HK.out) hk1 ?_; rw [HV.out]; go_frame)
                  | (refine wpu_strL (i := k) rfl (by kernel_rfl) rfl rfl (by first | rfl | exact HK.out) hk1 ?_; rw [HV.out]; go_frame))
                | ((with_reducible refine at_alloc ?_); refine wpu_new G ?_; clear G; intro w G)
                | ((with_reducible refine at_drew ?_); refine wpu_drew G ?_; clear G; intro w G)
                | ((with_reducible refine at_load ?_); first
                  | (refine wpu_load G rfl rfl rfl rfl ?_; go_frame)
                  | (refine wpu_loadB G rfl rfl rfl (by rfl) ?_; go_frame)
                  | (refine wpu_loadS G rfl rfl rfl (by rfl) ?_; simp only [List.drop_succ_cons, List.drop_zero, List.take_succ_cons, List.take_zero]; go_frame))
                | ((with_reducible refine at_store ?_); first
                  | (refine wpu_store G rfl rfl rfl rfl (by first | rfl | assumption | simp [*]) rfl ?_; clear G; intro w G; go_frame)
                  | (refine wpu_storeB G rfl rfl rfl rfl (by rfl) (by rfl) (by first | rfl | assumption | simp [*]) ?_; clear G; intro w G; go_frame)
                  | (refine wpu_storeS G rfl rfl rfl rfl (by rfl) (by rfl) (by first | rfl | assumption | simp [*]) ?_; clear G; intro w G; go_frame))
                | ((with_reducible refine at_convert ?_); refine wpu_str G rfl rfl rfl rfl ?_; go_frame)
                | ((with_reducible refine at_slice ?_); first
                  | (refine wpu_sliceLo rfl rfl rfl rfl (by first | rfl | omega) (by omega) (by omega) ?_; go_frame)
                  | (refine wpu_sliceLH rfl rfl rfl rfl rfl (by first | rfl | omega) (by first | rfl | omega) (by omega) (by omega) ?_; go_frame))
                | fail)
              refine Calls.mono (fieldC (m := ⟨n, v, 3, false⟩) hlenW G (G.rd (.slice xo W.length xc))) ?_
              clear G; rintro e w ⟨rfl, G⟩
              rw [H1.out]
              go_wp2_with (first
                | ((with_reducible refine at_alloc ?_); refine wpu_new G ?_; clear G; intro w G)
                | ((with_reducible refine at_drew ?_); refine wpu_drew G ?_; clear G; intro w G)
                | ((with_reducible refine at_load ?_); first
                  | (refine wpu_load G rfl rfl rfl rfl ?_; go_frame)
                  | (refine wpu_loadB G rfl rfl rfl (by rfl) ?_; go_frame)
                  | (refine wpu_loadS G rfl rfl rfl (by rfl) ?_; simp only [List.drop_succ_cons, List.drop_zero, List.take_succ_cons, List.take_zero]; go_frame))
                | ((with_reducible refine at_store ?_); first
                  | (refine wpu_store G rfl rfl rfl rfl (by first | rfl | assumption | simp [*]) rfl ?_; clear G; intro w G; go_frame)
                  | (refine wpu_storeB G rfl rfl rfl rfl (by rfl) (by rfl) (by first | rfl | assumption | simp [*]) ?_; clear G; intro w G; go_frame)
                  | (refine wpu_storeS G rfl rfl rfl rfl (by rfl) (by rfl) (by first | rfl | assumption | simp [*]) ?_; clear G; intro w G; go_frame))
                | ((with_reducible refine at_convert ?_); refine wpu_str G rfl rfl rfl rfl ?_; go_frame)
                | ((with_reducible refine at_slice ?_); first
                  | (refine wpu_sliceLo rfl rfl rfl rfl (by first | rfl | omega) (by omega) (by omega) ?_; go_frame)
                  | (refine wpu_sliceLH rfl rfl rfl rfl rfl (by first | rfl | omega) (by first | rfl | omega) (by omega) (by omega) ?_; go_frame))
                | fail)
              refine Calls.mono (fieldC (m := ⟨n, v, 3, false⟩) hlenO G (G.rd (.slice oo O.length oc))) ?_
              clear G; rintro e w ⟨rfl, G⟩
              rw [H2.out]
              go_wp2_with fail
              go_roundw
              case rel => exact ⟨3 + 1, by go_num, by omega, G.right⟩
              case measure => simp [intOf]
            | 4, _ =>
              go_wp2_with fail
              go_ret
              exact ⟨rfl, G.below⟩
        · obtain ⟨k, HK, hk1⟩ : ∃ k : Nat, Hid ((0 : Int) = (k : Int)) ∧ k ≤ val.length := ⟨0, Lib.hid rfl, Nat.zero_le _⟩
          go_wp2_with (first
            | ((with_reducible refine at_append ?_); first
              | (refine wpu_append0 G rfl rfl rfl rfl (G.rd (.slice oo O.length oc) _ G) HONE.out (by unfold maxLen; omega) (by omega) ?_; clear G; intro v w G)
              | (refine wpu_append1 G rfl rfl rfl rfl (by rfl) (by rfl) (by unfold maxLen; omega) (by omega) ?_; clear G; intro v w G; go_frame))
            | ((with_reducible refine at_alloc ?_); refine wpu_new G ?_; clear G; intro w G)
            | ((with_reducible refine at_drew ?_); refine wpu_drew G ?_; clear G; intro w G)
            | ((with_reducible refine at_load ?_); first
              | (refine wpu_load G rfl rfl rfl rfl ?_; go_frame)
              | (refine wpu_loadB G rfl rfl rfl (by rfl) ?_; go_frame)
              | (refine wpu_loadS G rfl rfl rfl (by rfl) ?_; simp only [List.drop_succ_cons, List.drop_zero, List.take_succ_cons, List.take_zero]; go_frame))
            | ((with_reducible refine at_store ?_); first
              | (refine wpu_store G rfl rfl rfl rfl (by first | rfl | assumption | simp [*]) rfl ?_; clear G; intro w G; go_frame)
              | (refine wpu_storeB G rfl rfl rfl rfl (by rfl) (by rfl) (by first | rfl | assumption | simp [*]) ?_; clear G; intro w G; go_frame)
              | (refine wpu_storeS G rfl rfl rfl rfl (by rfl) (by rfl) (by first | rfl | assumption | simp [*]) ?_; clear G; intro w G; go_frame))
            | ((with_reducible refine at_convert ?_); refine wpu_str G rfl rfl rfl rfl ?_; go_frame)
            | ((with_reducible refine at_slice ?_); first
              | (refine wpu_sliceLo rfl rfl rfl rfl (by first | rfl | omega) (by omega) (by omega) ?_; go_frame)
              | (refine wpu_sliceLH rfl rfl rfl rfl rfl (by first | rfl | omega) (by first | rfl | omega) (by omega) (by omega) ?_; go_frame))
            | fail)
          rw [EW.out, EL.out] at G
          obtain ⟨xo, xc, rfl, i5, i6⟩ := G.hdr v
          clear hat
          go_loopw [14, 15, 16] (fun h _ _ wr => ∃ j : Nat, h = .int .i64 j ∧ j ≤ 4 ∧ Own w0 (sl 3 (.slice xo W.length xc) W.length (fds W) * (sl 3 (.slice oo O.length oc) O.length (fds O) * emp)) wr) (fun h _ _ _ => 4 - (intOf h).toNat)
          case atStart => exact ⟨0, rfl, by omega, G⟩
          case round =>
            clear G
            obtain ⟨j, rfl, hj, G⟩ := hrel
            match j, hj with
            | 0, _ =>
              have H1 := Lib.hid (fieldR_with (O := O) (asks0 n val val))
              have H2 := Lib.hid (fieldR_others (n := n) (v := val) (how := 0) HA.out)
              rw [HWW.out] at H1
              go_wp2_with (first
                | ((with_reducible refine at_sliceAny ?_); first
                  | (refine wpu_strH (j := k) rfl (by kernel_rfl) rfl rfl (by first | rfl | exact HK.out) hk1 ?_; rw [HV.out]; go_frame)
                  | (refine wpu_strL (i := k) rfl (by kernel_rfl) rfl rfl (by first | rfl | exact HK.out) hk1 ?_; rw [HV.out]; go_frame))
                | ((with_reducible refine at_alloc ?_); refine wpu_new G ?_; clear G; intro w G)
                | ((with_reducible refine at_drew ?_); refine wpu_drew G ?_; clear G; intro w G)
                | ((with_reducible refine at_load ?_); first
                  | (refine wpu_load G rfl rfl rfl rfl ?_; go_frame)
                  | (refine wpu_loadB G rfl rfl rfl (by rfl) ?_; go_frame)
                  | (refine wpu_loadS G rfl rfl rfl (by rfl) ?_; simp only [List.drop_succ_cons, List.drop_zero, List.take_succ_cons, List.take_zero]; go_frame))
                | ((with_reducible refine at_store ?_); first
                  | (refine wpu_store G rfl rfl rfl rfl (by first | rfl | assumption | simp [*]) rfl ?_; clear G; intro w G; go_frame)
                  | (refine wpu_storeB G rfl rfl rfl rfl (by rfl) (by rfl) (by first | rfl | assumption | simp [*]) ?_; clear G; intro w G; go_frame)
                  | (refine wpu_storeS G rfl rfl rfl rfl (by rfl) (by rfl) (by first | rfl | assumption | simp [*]) ?_; clear G; intro w G; go_frame))
                | ((with_reducible refine at_convert ?_); refine wpu_str G rfl rfl rfl rfl ?_; go_frame)
                | ((with_reducible refine at_slice ?_); first
                  | (refine wpu_sliceLo rfl rfl rfl rfl (by first | rfl | omega) (by omega) (by omega) ?_; go_frame)
                  | (refine wpu_sliceLH rfl rfl rfl rfl rfl (by first | rfl | omega) (by first | rfl | omega) (by omega) (by omega) ?_; go_frame))
                | fail)
              refine Calls.mono (fieldC (m := ⟨n, val, 0, false⟩) hlenW G (G.rd (.slice xo W.length xc))) ?_
              clear G; rintro e w ⟨rfl, G⟩
              rw [H1.out]
              go_wp2_with (first
                | ((with_reducible refine at_alloc ?_); refine wpu_new G ?_; clear G; intro w G)
                | ((with_reducible refine at_drew ?_); refine wpu_drew G ?_; clear G; intro w G)
                | ((with_reducible refine at_load ?_); first
                  | (refine wpu_load G rfl rfl rfl rfl ?_; go_frame)
                  | (refine wpu_loadB G rfl rfl rfl (by rfl) ?_; go_frame)
                  | (refine wpu_loadS G rfl rfl rfl (by rfl) ?_; simp only [List.drop_succ_cons, List.drop_zero, List.take_succ_cons, List.take_zero]; go_frame))
                | ((with_reducible refine at_store ?_); first
                  | (refine wpu_store G rfl rfl rfl rfl (by first | rfl | assumption | simp [*]) rfl ?_; clear G; intro w G; go_frame)
                  | (refine wpu_storeB G rfl rfl rfl rfl (by rfl) (by rfl) (by first | rfl | assumption | simp [*]) ?_; clear G; intro w G; go_frame)
                  | (refine wpu_storeS G rfl rfl rfl rfl (by rfl) (by rfl) (by first | rfl | assumption | simp [*]) ?_; clear G; intro w G; go_frame))
                | ((with_reducible refine at_convert ?_); refine wpu_str G rfl rfl rfl rfl ?_; go_frame)
                | ((with_reducible refine at_slice ?_); first
                  | (refine wpu_sliceLo rfl rfl rfl rfl (by first | rfl | omega) (by omega) (by omega) ?_; go_frame)
                  | (refine wpu_sliceLH rfl rfl rfl rfl rfl (by first | rfl | omega) (by first | rfl | omega) (by omega) (by omega) ?_; go_frame))
                | fail)
              refine Calls.mono (fieldC (m := ⟨n, val, 0, false⟩) hlenO G (G.rd (.slice oo O.length oc))) ?_
              clear G; rintro e w ⟨rfl, G⟩
              rw [H2.out]
              go_wp2_with fail
              go_roundw
              case rel => exact ⟨0 + 1, by go_num, by omega, G.right⟩
              case measure => simp [intOf]
            | 1, _ =>
              have H1 := Lib.hid (fieldR_with (O := O) (asks1 n val))
              have H2 := Lib.hid (fieldR_others (n := n) (v := val) (how := 1) HA.out)
              rw [HWW.out] at H1
              go_wp2_with (first
                | ((with_reducible refine at_sliceAny ?_); first
                  | (refine wpu_strH (j := k) rfl (by kernel_rfl) rfl rfl (by first | rfl | exact HK.out) hk1 ?_; rw [HV.out]; go_frame)
                  | (refine wpu_strL (i := k) rfl (by kernel_rfl) rfl rfl (by first | rfl | exact HK.out) hk1 ?_; rw [HV.out]; go_frame))
                | ((with_reducible refine at_alloc ?_); refine wpu_new G ?_; clear G; intro w G)
                | ((with_reducible refine at_drew ?_); refine wpu_drew G ?_; clear G; intro w G)
                | ((with_reducible refine at_load ?_); first
                  | (refine wpu_load G rfl rfl rfl rfl ?_; go_frame)
                  | (refine wpu_loadB G rfl rfl rfl (by rfl) ?_; go_frame)
                  | (refine wpu_loadS G rfl rfl rfl (by rfl) ?_; simp only [List.drop_succ_cons, List.drop_zero, List.take_succ_cons, List.take_zero]; go_frame))
                | ((with_reducible refine at_store ?_); first
                  | (refine wpu_store G rfl rfl rfl rfl (by first | rfl | assumption | simp [*]) rfl ?_; clear G; intro w G; go_frame)
                  | (refine wpu_storeB G rfl rfl rfl rfl (by rfl) (by rfl) (by first | rfl | assumption | simp [*]) ?_; clear G; intro w G; go_frame)
                  | (refine wpu_storeS G rfl rfl rfl rfl (by rfl) (by rfl) (by first | rfl | assumption | simp [*]) ?_; clear G; intro w G; go_frame))
                | ((with_reducible refine at_convert ?_); refine wpu_str G rfl rfl rfl rfl ?_; go_frame)
                | ((with_reducible refine at_slice ?_); first
                  | (refine wpu_sliceLo rfl rfl rfl rfl (by first | rfl | omega) (by omega) (by omega) ?_; go_frame)
                  | (refine wpu_sliceLH rfl rfl rfl rfl rfl (by first | rfl | omega) (by first | rfl | omega) (by omega) (by omega) ?_; go_frame))
                | fail)
              refine Calls.mono (fieldC (m := ⟨n, val, 1, false⟩) hlenW G (G.rd (.slice xo W.length xc))) ?_
              clear G; rintro e w ⟨rfl, G⟩
              rw [H1.out]
              go_wp2_with (first
                | ((with_reducible refine at_alloc ?_); refine wpu_new G ?_; clear G; intro w G)
                | ((with_reducible refine at_drew ?_); refine wpu_drew G ?_; clear G; intro w G)
                | ((with_reducible refine at_load ?_); first
                  | (refine wpu_load G rfl rfl rfl rfl ?_; go_frame)
                  | (refine wpu_loadB G rfl rfl rfl (by rfl) ?_; go_frame)
                  | (refine wpu_loadS G rfl rfl rfl (by rfl) ?_; simp only [List.drop_succ_cons, List.drop_zero, List.take_succ_cons, List.take_zero]; go_frame))
                | ((with_reducible refine at_store ?_); first
                  | (refine wpu_store G rfl rfl rfl rfl (by first | rfl | assumption | simp [*]) rfl ?_; clear G; intro w G; go_frame)
                  | (refine wpu_storeB G rfl rfl rfl rfl (by rfl) (by rfl) (by first | rfl | assumption | simp [*]) ?_; clear G; intro w G; go_frame)
                  | (refine wpu_storeS G rfl rfl rfl rfl (by rfl) (by rfl) (by first | rfl | assumption | simp [*]) ?_; clear G; intro w G; go_frame))
                | ((with_reducible refine at_convert ?_); refine wpu_str G rfl rfl rfl rfl ?_; go_frame)
                | ((with_reducible refine at_slice ?_); first
                  | (refine wpu_sliceLo rfl rfl rfl rfl (by first | rfl | omega) (by omega) (by omega) ?_; go_frame)
                  | (refine wpu_sliceLH rfl rfl rfl rfl rfl (by first | rfl | omega) (by first | rfl | omega) (by omega) (by omega) ?_; go_frame))
                | fail)
              refine Calls.mono (fieldC (m := ⟨n, val, 1, false⟩) hlenO G (G.rd (.slice oo O.length oc))) ?_
              clear G; rintro e w ⟨rfl, G⟩
              rw [H2.out]
              go_wp2_with fail
              go_roundw
              case rel => exact ⟨1 + 1, by go_num, by omega, G.right⟩
              case measure => simp [intOf]
            | 2, _ =>
              have H1 := Lib.hid (fieldR_with (O := O) (asks2 n val k))
              have H2 := Lib.hid (fieldR_others (n := n) (v := (val.take k)) (how := 2) HA.out)
              rw [HWW.out] at H1
              obtain ⟨v, hv⟩ : ∃ v : Txt, (val.take k) = v := ⟨_, rfl⟩
              rw [hv] at H1 H2
              have HV := Lib.hid hv
              clear hv
              go_wp2_with (first
                | ((with_reducible refine at_sliceAny ?_); first
                  | (refine wpu_strH (j := k) rfl (by kernel_rfl) rfl rfl (by first | rfl | exact HK.out) hk1 ?_; rw [HV.out]; go_frame)
                  | (refine wpu_strL (i := k) rfl (by kernel_rfl) rfl rfl (by first | rfl | exact HK.out) hk1 ?_; rw [HV.out]; go_frame))
                | ((with_reducible refine at_alloc ?_); refine wpu_new G ?_; clear G; intro w G)
                | ((with_reducible refine at_drew ?_); refine wpu_drew G ?_; clear G; intro w G)
                | ((with_reducible refine at_load ?_); first
                  | (refine wpu_load G rfl rfl rfl rfl ?_; go_frame)
                  | (refine wpu_loadB G rfl rfl rfl (by rfl) ?_; go_frame)
                  | (refine wpu_loadS G rfl rfl rfl (by rfl) ?_; simp only [List.drop_succ_cons, List.drop_zero, List.take_succ_cons, List.take_zero]; go_frame))
                | ((with_reducible refine at_store ?_); first
                  | (refine wpu_store G rfl rfl rfl rfl (by first | rfl | assumption | simp [*]) rfl ?_; clear G; intro w G; go_frame)
                  | (refine wpu_storeB G rfl rfl rfl rfl (by rfl) (by rfl) (by first | rfl | assumption | simp [*]) ?_; clear G; intro w G; go_frame)
                  | (refine wpu_storeS G rfl rfl rfl rfl (by rfl) (by rfl) (by first | rfl | assumption | simp [*]) ?_; clear G; intro w G; go_frame))
                | ((with_reducible refine at_convert ?_); refine wpu_str G rfl rfl rfl rfl ?_; go_frame)
                | ((with_reducible refine at_slice ?_); first
                  | (refine wpu_sliceLo rfl rfl rfl rfl (by first | rfl | omega) (by omega) (by omega) ?_; go_frame)
                  | (refine wpu_sliceLH rfl rfl rfl rfl rfl (by first | rfl | omega) (by first | rfl | omega) (by omega) (by omega) ?_; go_frame))
                | fail)
              refine Calls.mono (fieldC (m := ⟨n, v, 2, false⟩) hlenW G (G.rd (.slice xo W.length xc))) ?_
              clear G; rintro e w ⟨rfl, G⟩
              rw [H1.out]
              go_wp2_with (first
                | ((with_reducible refine at_alloc ?_); refine wpu_new G ?_; clear G; intro w G)
                | ((with_reducible refine at_drew ?_); refine wpu_drew G ?_; clear G; intro w G)
                | ((with_reducible refine at_load ?_); first
                  | (refine wpu_load G rfl rfl rfl rfl ?_; go_frame)
                  | (refine wpu_loadB G rfl rfl rfl (by rfl) ?_; go_frame)
                  | (refine wpu_loadS G rfl rfl rfl (by rfl) ?_; simp only [List.drop_succ_cons, List.drop_zero, List.take_succ_cons, List.take_zero]; go_frame))
                | ((with_reducible refine at_store ?_); first
                  | (refine wpu_store G rfl rfl rfl rfl (by first | rfl | assumption | simp [*]) rfl ?_; clear G; intro w G; go_frame)
                  | (refine wpu_storeB G rfl rfl rfl rfl (by rfl) (by rfl) (by first | rfl | assumption | simp [*]) ?_; clear G; intro w G; go_frame)
                  | (refine wpu_storeS G rfl rfl rfl rfl (by rfl) (by rfl) (by first | rfl | assumption | simp [*]) ?_; clear G; intro w G; go_frame))
                | ((with_reducible refine at_convert ?_); refine wpu_str G rfl rfl rfl rfl ?_; go_frame)
                | ((with_reducible refine at_slice ?_); first
                  | (refine wpu_sliceLo rfl rfl rfl rfl (by first | rfl | omega) (by omega) (by omega) ?_; go_frame)
                  | (refine wpu_sliceLH rfl rfl rfl rfl rfl (by first | rfl | omega) (by first | rfl | omega) (by omega) (by omega) ?_; go_frame))
                | fail)
              refine Calls.mono (fieldC (m := ⟨n, v, 2, false⟩) hlenO G (G.rd (.slice oo O.length oc))) ?_
              clear G; rintro e w ⟨rfl, G⟩
              rw [H2.out]
              go_wp2_with fail
              go_roundw
              case rel => exact ⟨2 + 1, by go_num, by omega, G.right⟩
              case measure => simp [intOf]
            | 3, _ =>
              have H1 := Lib.hid (fieldR_with (O := O) (asks3 n val k))
              have H2 := Lib.hid (fieldR_others (n := n) (v := (val.drop k)) (how := 3) HA.out)
              rw [HWW.out] at H1
              obtain ⟨v, hv⟩ : ∃ v : Txt, (val.drop k) = v := ⟨_, rfl⟩
              rw [hv] at H1 H2
              have HV := Lib.hid hv
              clear hv
              go_wp2_with (first
                | ((with_reducible refine at_sliceAny ?_); first
                  | (refine wpu_strH (j := k) rfl (by kernel_rfl) rfl rfl (by first | rfl | exact HK.out) hk1 ?_; rw [HV.out]; go_frame)
                  | (refine wpu_strL (i := k) rfl (by kernel_rfl) rfl rfl (by first | rfl | exact HK.out) hk1 ?_; rw [HV.out]; go_frame))
                | ((with_reducible refine at_alloc ?_); refine wpu_new G ?_; clear G; intro w G)
                | ((with_reducible refine at_drew ?_); refine wpu_drew G ?_; clear G; intro w G)
                | ((with_reducible refine at_load ?_); first
                  | (refine wpu_load G rfl rfl rfl rfl ?_; go_frame)
                  | (refine wpu_loadB G rfl rfl rfl (by rfl) ?_; go_frame)
                  | (refine wpu_loadS G rfl rfl rfl (by rfl) ?_; simp only [List.drop_succ_cons, List.drop_zero, List.take_succ_cons, List.take_zero]; go_frame))
                | ((with_reducible refine at_store ?_); first
                  | (refine wpu_store G rfl rfl rfl rfl (by first | rfl | assumption | simp [*]) rfl ?_; clear G; intro w G; go_frame)
                  | (refine wpu_storeB G rfl rfl rfl rfl (by rfl) (by rfl) (by first | rfl | assumption | simp [*]) ?_; clear G; intro w G; go_frame)
                  | (refine wpu_storeS G rfl rfl rfl rfl (by rfl) (by rfl) (by first | rfl | assumption | simp [*]) ?_; clear G; intro w G; go_frame))
                | ((with_reducible refine at_convert ?_); refine wpu_str G rfl rfl rfl rfl ?_; go_frame)
                | ((with_reducible refine at_slice ?_); first
                  | (refine wpu_sliceLo rfl rfl rfl rfl (by first | rfl | omega) (by omega) (by omega) ?_; go_frame)
                  | (refine wpu_sliceLH rfl rfl rfl rfl rfl (by first | rfl | omega) (by first | rfl | omega) (by omega) (by omega) ?_; go_frame))
                | fail)
              refine Calls.mono (fieldC (m := ⟨n, v, 3, false⟩) hlenW G (G.rd (.slice xo W.length xc))) ?_
              clear G; rintro e w ⟨rfl, G⟩
              rw [H1.out]
              go_wp2_with (first
                | ((with_reducible refine at_alloc ?_); refine wpu_new G ?_; clear G; intro w G)
                | ((with_reducible refine at_drew ?_); refine wpu_drew G ?_; clear G; intro w G)
                | ((with_reducible refine at_load ?_); first
                  | (refine wpu_load G rfl rfl rfl rfl ?_; go_frame)
                  | (refine wpu_loadB G rfl rfl rfl (by rfl) ?_; go_frame)
                  | (refine wpu_loadS G rfl rfl rfl (by rfl) ?_; simp only [List.drop_succ_cons, List.drop_zero, List.take_succ_cons, List.take_zero]; go_frame))
                | ((with_reducible refine at_store ?_); first
                  | (refine wpu_store G rfl rfl rfl rfl (by first | rfl | assumption | simp [*]) rfl ?_; clear G; intro w G; go_frame)
                  | (refine wpu_storeB G rfl rfl rfl rfl (by rfl) (by rfl) (by first | rfl | assumption | simp [*]) ?_; clear G; intro w G; go_frame)
                  | (refine wpu_storeS G rfl rfl rfl rfl (by rfl) (by rfl) (by first | rfl | assumption | simp [*]) ?_; clear G; intro w G; go_frame))
                | ((with_reducible refine at_convert ?_); refine wpu_str G rfl rfl rfl rfl ?_; go_frame)
                | ((with_reducible refine at_slice ?_); first
                  | (refine wpu_sliceLo rfl rfl rfl rfl (by first | rfl | omega) (by omega) (by omega) ?_; go_frame)
                  | (refine wpu_sliceLH rfl rfl rfl rfl rfl (by first | rfl | omega) (by first | rfl | omega) (by omega) (by omega) ?_; go_frame))
                | fail)
              refine Calls.mono (fieldC (m := ⟨n, v, 3, false⟩) hlenO G (G.rd (.slice oo O.length oc))) ?_
              clear G; rintro e w ⟨rfl, G⟩
              rw [H2.out]
              go_wp2_with fail
              go_roundw
              case rel => exact ⟨3 + 1, by go_num, by omega, G.right⟩
              case measure => simp [intOf]
            | 4, _ =>
              go_wp2_with fail
              go_ret
              exact ⟨rfl, G.below⟩
    · skip
      have hlenO : ∀ f ∈ O, f.2.1.length ≤ 9223372036854775807 := fun f hf => (HA.out f hf).2
      have HONE : Hid (∀ y ∈ fds O, y.oneCell' = true) := Lib.hid (fds_one O)
      obtain ⟨W, hW⟩ : ∃ W, O ++ [(n, val, false)] = W := ⟨_, rfl⟩
      have hlenW : ∀ f ∈ W, f.2.1.length ≤ 9223372036854775807 := by
        rw [← hW]
        intro f hf
        rcases List.mem_append.1 hf with hf | hf
        · exact hlenO f hf
        · rw [List.mem_singleton.1 hf]; show val.length ≤ _; omega
      have EW : Hid (fds O ++ [str n, str val, .bool false] = fds W) := Lib.hid (by rw [← hW]; exact fds_app O [(n, val, false)])
      have EL : Hid (O.length + 1 = W.length) := Lib.hid (by rw [← hW]; simp)
      have HWW := Lib.hid hW
      clear hW
      by_cases hat : 0 < at'
      · obtain ⟨k, hk, hk1⟩ := at_place (n := val.length) hat
        go_wp2_with (first
          | ((with_reducible refine at_append ?_); first
            | (refine wpu_append0 G rfl rfl rfl rfl (G.rd (.slice oo O.length oc) _ G) HONE.out (by unfold maxLen; omega) (by omega) ?_; clear G; intro v w G)
            | (refine wpu_append1 G rfl rfl rfl rfl (by rfl) (by rfl) (by unfold maxLen; omega) (by omega) ?_; clear G; intro v w G; go_frame))
          | ((with_reducible refine at_alloc ?_); refine wpu_new G ?_; clear G; intro w G)
          | ((with_reducible refine at_drew ?_); refine wpu_drew G ?_; clear G; intro w G)
          | ((with_reducible refine at_load ?_); first
            | (refine wpu_load G rfl rfl rfl rfl ?_; go_frame)
            | (refine wpu_loadB G rfl rfl rfl (by rfl) ?_; go_frame)
            | (refine wpu_loadS G rfl rfl rfl (by rfl) ?_; simp only [List.drop_succ_cons, List.drop_zero, List.take_succ_cons, List.take_zero]; go_frame))
          | ((with_reducible refine at_store ?_); first
            | (refine wpu_store G rfl rfl rfl rfl (by first | rfl | assumption | simp [*]) rfl ?_; clear G; intro w G; go_frame)
            | (refine wpu_storeB G rfl rfl rfl rfl (by rfl) (by rfl) (by first | rfl | assumption | simp [*]) ?_; clear G; intro w G; go_frame)
            | (refine wpu_storeS G rfl rfl rfl rfl (by rfl) (by rfl) (by first | rfl | assumption | simp [*]) ?_; clear G; intro w G; go_frame))
          | ((with_reducible refine at_convert ?_); refine wpu_str G rfl rfl rfl rfl ?_; go_frame)
          | ((with_reducible refine at_slice ?_); first
            | (refine wpu_sliceLo rfl rfl rfl rfl (by first | rfl | omega) (by omega) (by omega) ?_; go_frame)
            | (refine wpu_sliceLH rfl rfl rfl rfl rfl (by first | rfl | omega) (by first | rfl | omega) (by omega) (by omega) ?_; go_frame))
          | fail)
        rw [EW.out, EL.out] at G
        obtain ⟨xo, xc, rfl, i5, i6⟩ := G.hdr v
        clear hk hat
        go_loopw [14, 15, 16] (fun h _ _ wr => ∃ j : Nat, h = .int .i64 j ∧ j ≤ 4 ∧ Own w0 (sl 3 (.slice xo W.length xc) W.length (fds W) * (sl 3 (.slice oo O.length oc) O.length (fds O) * emp)) wr) (fun h _ _ _ => 4 - (intOf h).toNat)
        case atStart => exact ⟨0, rfl, by omega, G⟩
        case round =>
          clear G
          obtain ⟨j, rfl, hj, G⟩ := hrel
          match j, hj with
          | 0, _ =>
            have H1 := Lib.hid (fieldR_with (O := O) (asks0 n val val))
            have H2 := Lib.hid (fieldR_others (n := n) (v := val) (how := 0) HA.out)
            rw [HWW.out] at H1
            go_wp2_with (first
              | ((with_reducible refine at_sliceAny ?_); first
                | (refine wpu_strH (j := k) rfl (by kernel_rfl) rfl rfl (by first | rfl | exact HK.out) hk1 ?_; rw [HV.out]; go_frame)
                | (refine wpu_strL (i := k) rfl (by kernel_rfl) rfl rfl (by first | rfl | exact HK.out) hk1 ?_; rw [HV.out]; go_frame))
              | ((with_reducible refine at_alloc ?_); refine wpu_new G ?_; clear G; intro w G)
              | ((with_reducible refine at_drew ?_); refine wpu_drew G ?_; clear G; intro w G)
              | ((with_reducible refine at_load ?_); first
                | (refine wpu_load G rfl rfl rfl rfl ?_; go_frame)
                | (refine wpu_loadB G rfl rfl rfl (by rfl) ?_; go_frame)
                | (refine wpu_loadS G rfl rfl rfl (by rfl) ?_; simp only [List.drop_succ_cons, List.drop_zero, List.take_succ_cons, List.take_zero]; go_frame))
              | ((with_reducible refine at_store ?_); first
                | (refine wpu_store G rfl rfl rfl rfl (by first | rfl | assumption | simp [*]) rfl ?_; clear G; intro w G; go_frame)
                | (refine wpu_storeB G rfl rfl rfl rfl (by rfl) (by rfl) (by first | rfl | assumption | simp [*]) ?_; clear G; intro w G; go_frame)
                | (refine wpu_storeS G rfl rfl rfl rfl (by rfl) (by rfl) (by first | rfl | assumption | simp [*]) ?_; clear G; intro w G; go_frame))
              | ((with_reducible refine at_convert ?_); refine wpu_str G rfl rfl rfl rfl ?_; go_frame)
              | ((with_reducible refine at_slice ?_); first
                | (refine wpu_sliceLo rfl rfl rfl rfl (by first | rfl | omega) (by omega) (by omega) ?_; go_frame)
                | (refine wpu_sliceLH rfl rfl rfl rfl rfl (by first | rfl | omega) (by first | rfl | omega) (by omega) (by omega) ?_; go_frame))
              | fail)
            refine Calls.mono (fieldC (m := ⟨n, val, 0, false⟩) hlenW G (G.rd (.slice xo W.length xc))) ?_
            clear G; rintro e w ⟨rfl, G⟩
            rw [H1.out]
            go_wp2_with (first
              | ((with_reducible refine at_alloc ?_); refine wpu_new G ?_; clear G; intro w G)
              | ((with_reducible refine at_drew ?_); refine wpu_drew G ?_; clear G; intro w G)
              | ((with_reducible refine at_load ?_); first
                | (refine wpu_load G rfl rfl rfl rfl ?_; go_frame)
                | (refine wpu_loadB G rfl rfl rfl (by rfl) ?_; go_frame)
                | (refine wpu_loadS G rfl rfl rfl (by rfl) ?_; simp only [List.drop_succ_cons, List.drop_zero, List.take_succ_cons, List.take_zero]; go_frame))
              | ((with_reducible refine at_store ?_); first
                | (refine wpu_store G rfl rfl rfl rfl (by first | rfl | assumption | simp [*]) rfl ?_; clear G; intro w G; go_frame)
                | (refine wpu_storeB G rfl rfl rfl rfl (by rfl) (by rfl) (by first | rfl | assumption | simp [*]) ?_; clear G; intro w G; go_frame)
                | (refine wpu_storeS G rfl rfl rfl rfl (by rfl) (by rfl) (by first | rfl | assumption | simp [*]) ?_; clear G; intro w G; go_frame))
              | ((with_reducible refine at_convert ?_); refine wpu_str G rfl rfl rfl rfl ?_; go_frame)
              | ((with_reducible refine at_slice ?_); first
                | (refine wpu_sliceLo rfl rfl rfl rfl (by first | rfl | omega) (by omega) (by omega) ?_; go_frame)
                | (refine wpu_sliceLH rfl rfl rfl rfl rfl (by first | rfl | omega) (by first | rfl | omega) (by omega) (by omega) ?_; go_frame))
              | fail)
            refine Calls.mono (fieldC (m := ⟨n, val, 0, false⟩) hlenO G (G.rd (.slice oo O.length oc))) ?_
            clear G; rintro e w ⟨rfl, G⟩
            rw [H2.out]
            go_wp2_with fail
            go_roundw
            case rel => exact ⟨0 + 1, by go_num, by omega, G.right⟩
            case measure => simp [intOf]
          | 1, _ =>
            have H1 := Lib.hid (fieldR_with (O := O) (asks1 n val))
            have H2 := Lib.hid (fieldR_others (n := n) (v := val) (how := 1) HA.out)
            rw [HWW.out] at H1
            go_wp2_with (first
              | ((with_reducible refine at_sliceAny ?_); first
                | (refine wpu_strH (j := k) rfl (by kernel_rfl) rfl rfl (by first | rfl | exact HK.out) hk1 ?_; rw [HV.out]; go_frame)
                | (refine wpu_strL (i := k) rfl (by kernel_rfl) rfl rfl (by first | rfl | exact HK.out) hk1 ?_; rw [HV.out]; go_frame))
              | ((with_reducible refine at_alloc ?_); refine wpu_new G ?_; clear G; intro w G)
              | ((with_reducible refine at_drew ?_); refine wpu_drew G ?_; clear G; intro w G)
              | ((with_reducible refine at_load ?_); first
                | (refine wpu_load G rfl rfl rfl rfl ?_; go_frame)
                | (refine wpu_loadB G rfl rfl rfl (by rfl) ?_; go_frame)
                | (refine wpu_loadS G rfl rfl rfl (by rfl) ?_; simp only [List.drop_succ_cons, List.drop_zero, List.take_succ_cons, List.take_zero]; go_frame))
              | ((with_reducible refine at_store ?_); first
                | (refine wpu_store G rfl rfl rfl rfl (by first | rfl | assumption | simp [*]) rfl ?_; clear G; intro w G; go_frame)
                | (refine wpu_storeB G rfl rfl rfl rfl (by rfl) (by rfl) (by first | rfl | assumption | simp [*]) ?_; clear G; intro w G; go_frame)
                | (refine wpu_storeS G rfl rfl rfl rfl (by rfl) (by rfl) (by first | rfl | assumption | simp [*]) ?_; clear G; intro w G; go_frame))
              | ((with_reducible refine at_convert ?_); refine wpu_str G rfl rfl rfl rfl ?_; go_frame)
              | ((with_reducible refine at_slice ?_); first
                | (refine wpu_sliceLo rfl rfl rfl rfl (by first | rfl | omega) (by omega) (by omega) ?_; go_frame)
                | (refine wpu_sliceLH rfl rfl rfl rfl rfl (by first | rfl | omega) (by first | rfl | omega) (by omega) (by omega) ?_; go_frame))
              | fail)
            refine Calls.mono (fieldC (m := ⟨n, val, 1, false⟩) hlenW G (G.rd (.slice xo W.length xc))) ?_
            clear G; rintro e w ⟨rfl, G⟩
            rw [H1.out]
            go_wp2_with (first
              | ((with_reducible refine at_alloc ?_); refine wpu_new G ?_; clear G; intro w G)
              | ((with_reducible refine at_drew ?_); refine wpu_drew G ?_; clear G; intro w G)
              | ((with_reducible refine at_load ?_); first
                | (refine wpu_load G rfl rfl rfl rfl ?_; go_frame)
                | (refine wpu_loadB G rfl rfl rfl (by rfl) ?_; go_frame)
                | (refine wpu_loadS G rfl rfl rfl (by rfl) ?_; simp only [List.drop_succ_cons, List.drop_zero, List.take_succ_cons, List.take_zero]; go_frame))
              | ((with_reducible refine at_store ?_); first
                | (refine wpu_store G rfl rfl rfl rfl (by first | rfl | assumption | simp [*]) rfl ?_; clear G; intro w G; go_frame)
                | (refine wpu_storeB G rfl rfl rfl rfl (by rfl) (by rfl) (by first | rfl | assumption | simp [*]) ?_; clear G; intro w G; go_frame)
                | (refine wpu_storeS G rfl rfl rfl rfl (by rfl) (by rfl) (by first | rfl | assumption | simp [*]) ?_; clear G; intro w G; go_frame))
              | ((with_reducible refine at_convert ?_); refine wpu_str G rfl rfl rfl rfl ?_; go_frame)
              | ((with_reducible refine at_slice ?_); first
                | (refine wpu_sliceLo rfl rfl rfl rfl (by first | rfl | omega) (by omega) (by omega) ?_; go_frame)
                | (refine wpu_sliceLH rfl rfl rfl rfl rfl (by first | rfl | omega) (by first | rfl | omega) (by omega) (by omega) ?_; go_frame))
              | fail)
            refine Calls.mono (fieldC (m := ⟨n, val, 1, false⟩) hlenO G (G.rd (.slice oo O.length oc))) ?_
            clear G; rintro e w ⟨rfl, G⟩
            rw [H2.out]
            go_wp2_with fail
            go_roundw
            case rel => exact ⟨1 + 1, by go_num, by omega, G.right⟩
            case measure => simp [intOf]
          | 2, _ =>
            have H1 := Lib.hid (fieldR_with (O := O) (asks2 n val k))
            have H2 := Lib.hid (fieldR_others (n := n) (v := (val.take k)) (how := 2) HA.out)
            rw [HWW.out] at H1
            obtain ⟨v, hv⟩ : ∃ v : Txt, (val.take k) = v := ⟨_, rfl⟩
            rw [hv] at H1 H2
            have HV := Lib.hid hv
            clear hv
            go_wp2_with (first
              | ((with_reducible refine at_sliceAny ?_); first
                | (refine wpu_strH (j := k) rfl (by kernel_rfl) rfl rfl (by first | rfl | exact HK.out) hk1 ?_; rw [HV.out]; go_frame)
                | (refine wpu_strL (i := k) rfl (by kernel_rfl) rfl rfl (by first | rfl | exact HK.out) hk1 ?_; rw [HV.out]; go_frame))
              | ((with_reducible refine at_alloc ?_); refine wpu_new G ?_; clear G; intro w G)
              | ((with_reducible refine at_drew ?_); refine wpu_drew G ?_; clear G; intro w G)
              | ((with_reducible refine at_load ?_); first
                | (refine wpu_load G rfl rfl rfl rfl ?_; go_frame)
                | (refine wpu_loadB G rfl rfl rfl (by rfl) ?_; go_frame)
                | (refine wpu_loadS G rfl rfl rfl (by rfl) ?_; simp only [List.drop_succ_cons, List.drop_zero, List.take_succ_cons, List.take_zero]; go_frame))
              | ((with_reducible refine at_store ?_); first
                | (refine wpu_store G rfl rfl rfl rfl (by first | rfl | assumption | simp [*]) rfl ?_; clear G; intro w G; go_frame)
                | (refine wpu_storeB G rfl rfl rfl rfl (by rfl) (by rfl) (by first | rfl | assumption | simp [*]) ?_; clear G; intro w G; go_frame)
                | (refine wpu_storeS G rfl rfl rfl rfl (by rfl) (by rfl) (by first | rfl | assumption | simp [*]) ?_; clear G; intro w G; go_frame))
              | ((with_reducible refine at_convert ?_); refine wpu_str G rfl rfl rfl rfl ?_; go_frame)
              | ((with_reducible refine at_slice ?_); first
                | (refine wpu_sliceLo rfl rfl rfl rfl (by first | rfl | omega) (by omega) (by omega) ?_; go_frame)
                | (refine wpu_sliceLH rfl rfl rfl rfl rfl (by first | rfl | omega) (by first | rfl | omega) (by omega) (by omega) ?_; go_frame))
              | fail)
            refine Calls.mono (fieldC (m := ⟨n, v, 2, false⟩) hlenW G (G.rd (.slice xo W.length xc))) ?_
            clear G; rintro e w ⟨rfl, G⟩
            rw [H1.out]
            go_wp2_with (first
              | ((with_reducible refine at_alloc ?_); refine wpu_new G ?_; clear G; intro w G)
              | ((with_reducible refine at_drew ?_); refine wpu_drew G ?_; clear G; intro w G)
              | ((with_reducible refine at_load ?_); first
                | (refine wpu_load G rfl rfl rfl rfl ?_; go_frame)
                | (refine wpu_loadB G rfl rfl rfl (by rfl) ?_; go_frame)
                | (refine wpu_loadS G rfl rfl rfl (by rfl) ?_; simp only [List.drop_succ_cons, List.drop_zero, List.take_succ_cons, List.take_zero]; go_frame))
              | ((with_reducible refine at_store ?_); first
                | (refine wpu_store G rfl rfl rfl rfl (by first | rfl | assumption | simp [*]) rfl ?_; clear G; intro w G; go_frame)
                | (refine wpu_storeB G rfl rfl rfl rfl (by rfl) (by rfl) (by first | rfl | assumption | simp [*]) ?_; clear G; intro w G; go_frame)
                | (refine wpu_storeS G rfl rfl rfl rfl (by rfl) (by rfl) (by first | rfl | assumption | simp [*]) ?_; clear G; intro w G; go_frame))
              | ((with_reducible refine at_convert ?_); refine wpu_str G rfl rfl rfl rfl ?_; go_frame)
              | ((with_reducible refine at_slice ?_); first
                | (refine wpu_sliceLo rfl rfl rfl rfl (by first | rfl | omega) (by omega) (by omega) ?_; go_frame)
                | (refine wpu_sliceLH rfl rfl rfl rfl rfl (by first | rfl | omega) (by first | rfl | omega) (by omega) (by omega) ?_; go_frame))
              | fail)
            refine Calls.mono (fieldC (m := ⟨n, v, 2, false⟩) hlenO G (G.rd (.slice oo O.length oc))) ?_
            clear G; rintro e w ⟨rfl, G⟩
            rw [H2.out]
            go_wp2_with fail
            go_roundw
            case rel => exact ⟨2 + 1, by go_num, by omega, G.right⟩
            case measure => simp [intOf]
          | 3, _ =>
            have H1 := Lib.hid (fieldR_with (O := O) (asks3 n val k))
            have H2 := Lib.hid (fieldR_others (n := n) (v := (val.drop k)) (how := 3) HA.out)
            rw [HWW.out] at H1
            obtain ⟨v, hv⟩ : ∃ v : Txt, (val.drop k) = v := ⟨_, rfl⟩
            rw [hv] at H1 H2
            have HV := Lib.hid hv
            clear hv
            go_wp2_with (first
              | ((with_reducible refine at_sliceAny ?_); first
                | (refine wpu_strH (j := k) rfl (by kernel_rfl) rfl rfl (by first | rfl | exact HK.out) hk1 ?_; rw [HV.out]; go_frame)
                | (refine wpu_strL (i := k) rfl (by kernel_rfl) rfl rfl (by first | rfl | exact HK.out) hk1 ?_; rw [HV.out]; go_frame))
              | ((with_reducible refine at_alloc ?_); refine wpu_new G ?_; clear G; intro w G)
              | ((with_reducible refine at_drew ?_); refine wpu_drew G ?_; clear G; intro w G)
              | ((with_reducible refine at_load ?_); first
                | (refine wpu_load G rfl rfl rfl rfl ?_; go_frame)
                | (refine wpu_loadB G rfl rfl rfl (by rfl) ?_; go_frame)
                | (refine wpu_loadS G rfl rfl rfl (by rfl) ?_; simp only [List.drop_succ_cons, List.drop_zero, List.take_succ_cons, List.take_zero]; go_frame))
              | ((with_reducible refine at_store ?_); first
                | (refine wpu_store G rfl rfl rfl rfl (by first | rfl | assumption | simp [*]) rfl ?_; clear G; intro w G; go_frame)
                | (refine wpu_storeB G rfl rfl rfl rfl (by rfl) (by rfl) (by first | rfl | assumption | simp [*]) ?_; clear G; intro w G; go_frame)
                | (refine wpu_storeS G rfl rfl rfl rfl (by rfl) (by rfl) (by first | rfl | assumption | simp [*]) ?_; clear G; intro w G; go_frame))
              | ((with_reducible refine at_convert ?_); refine wpu_str G rfl rfl rfl rfl ?_; go_frame)
              | ((with_reducible refine at_slice ?_); first
                | (refine wpu_sliceLo rfl rfl rfl rfl (by first | rfl | omega) (by omega) (by omega) ?_; go_frame)
                | (refine wpu_sliceLH rfl rfl rfl rfl rfl (by first | rfl | omega) (by first | rfl | omega) (by omega) (by omega) ?_; go_frame))
              | fail)
            refine Calls.mono (fieldC (m := ⟨n, v, 3, false⟩) hlenW G (G.rd (.slice xo W.length xc))) ?_
            clear G; rintro e w ⟨rfl, G⟩
            rw [H1.out]
            go_wp2_with (first
              | ((with_reducible refine at_alloc ?_); refine wpu_new G ?_; clear G; intro w G)
              | ((with_reducible refine at_drew ?_); refine wpu_drew G ?_; clear G; intro w G)
              | ((with_reducible refine at_load ?_); first
                | (refine wpu_load G rfl rfl rfl rfl ?_; go_frame)
                | (refine wpu_loadB G rfl rfl rfl (by rfl) ?_; go_frame)
                | (refine wpu_loadS G rfl rfl rfl (by rfl) ?_; simp only [List.drop_succ_cons, List.drop_zero, List.take_succ_cons, List.take_zero]; go_frame))
              | ((with_reducible refine at_store ?_); first
                | (refine wpu_store G rfl rfl rfl rfl (by first | rfl | assumption | simp [*]) rfl ?_; clear G; intro w G; go_frame)
                | (refine wpu_storeB G rfl rfl rfl rfl (by rfl) (by rfl) (by first | rfl | assumption | simp [*]) ?_; clear G; intro w G; go_frame)
                | (refine wpu_storeS G rfl rfl rfl rfl (by rfl) (by rfl) (by first | rfl | assumption | simp [*]) ?_; clear G; intro w G; go_frame))
              | ((with_reducible refine at_convert ?_); refine wpu_str G rfl rfl rfl rfl ?_; go_frame)
              | ((with_reducible refine at_slice ?_); first
                | (refine wpu_sliceLo rfl rfl rfl rfl (by first | rfl | omega) (by omega) (by omega) ?_; go_frame)
                | (refine wpu_sliceLH rfl rfl rfl rfl rfl (by first | rfl | omega) (by first | rfl | omega) (by omega) (by omega) ?_; go_frame))
              | fail)
            refine Calls.mono (fieldC (m := ⟨n, v, 3, false⟩) hlenO G (G.rd (.slice oo O.length oc))) ?_
            clear G; rintro e w ⟨rfl, G⟩
            rw [H2.out]
            go_wp2_with fail
            go_roundw
            case rel => exact ⟨3 + 1, by go_num, by omega, G.right⟩
            case measure => simp [intOf]
          | 4, _ =>
            go_wp2_with fail
            go_ret
            exact ⟨rfl, G.below⟩
      · obtain ⟨k, HK, hk1⟩ : ∃ k : Nat, Hid ((0 : Int) = (k : Int)) ∧ k ≤ val.length := ⟨0, Lib.hid rfl, Nat.zero_le _⟩
        go_wp2_with (first
          | ((with_reducible refine at_append ?_); first
            | (refine wpu_append0 G rfl rfl rfl rfl (G.rd (.slice oo O.length oc) _ G) HONE.out (by unfold maxLen; omega) (by omega) ?_; clear G; intro v w G)
            | (refine wpu_append1 G rfl rfl rfl rfl (by rfl) (by rfl) (by unfold maxLen; omega) (by omega) ?_; clear G; intro v w G; go_frame))
          | ((with_reducible refine at_alloc ?_); refine wpu_new G ?_; clear G; intro w G)
          | ((with_reducible refine at_drew ?_); refine wpu_drew G ?_; clear G; intro w G)
          | ((with_reducible refine at_load ?_); first
            | (refine wpu_load G rfl rfl rfl rfl ?_; go_frame)
            | (refine wpu_loadB G rfl rfl rfl (by rfl) ?_; go_frame)
            | (refine wpu_loadS G rfl rfl rfl (by rfl) ?_; simp only [List.drop_succ_cons, List.drop_zero, List.take_succ_cons, List.take_zero]; go_frame))
          | ((with_reducible refine at_store ?_); first
            | (refine wpu_store G rfl rfl rfl rfl (by first | rfl | assumption | simp [*]) rfl ?_; clear G; intro w G; go_frame)
            | (refine wpu_storeB G rfl rfl rfl rfl (by rfl) (by rfl) (by first | rfl | assumption | simp [*]) ?_; clear G; intro w G; go_frame)
            | (refine wpu_storeS G rfl rfl rfl rfl (by rfl) (by rfl) (by first | rfl | assumption | simp [*]) ?_; clear G; intro w G; go_frame))
          | ((with_reducible refine at_convert ?_); refine wpu_str G rfl rfl rfl rfl ?_; go_frame)
          | ((with_reducible refine at_slice ?_); first
            | (refine wpu_sliceLo rfl rfl rfl rfl (by first | rfl | omega) (by omega) (by omega) ?_; go_frame)
            | (refine wpu_sliceLH rfl rfl rfl rfl rfl (by first | rfl | omega) (by first | rfl | omega) (by omega) (by omega) ?_; go_frame))
          | fail)
        rw [EW.out, EL.out] at G
        obtain ⟨xo, xc, rfl, i5, i6⟩ := G.hdr v
        clear hat
        go_loopw [14, 15, 16] (fun h _ _ wr => ∃ j : Nat, h = .int .i64 j ∧ j ≤ 4 ∧ Own w0 (sl 3 (.slice xo W.length xc) W.length (fds W) * (sl 3 (.slice oo O.length oc) O.length (fds O) * emp)) wr) (fun h _ _ _ => 4 - (intOf h).toNat)
        case atStart => exact ⟨0, rfl, by omega, G⟩
        case round =>
          clear G
          obtain ⟨j, rfl, hj, G⟩ := hrel
          match j, hj with
          | 0, _ =>
            have H1 := Lib.hid (fieldR_with (O := O) (asks0 n val val))
            have H2 := Lib.hid (fieldR_others (n := n) (v := val) (how := 0) HA.out)
            rw [HWW.out] at H1
            go_wp2_with (first
              | ((with_reducible refine at_sliceAny ?_); first
                | (refine wpu_strH (j := k) rfl (by kernel_rfl) rfl rfl (by first | rfl | exact HK.out) hk1 ?_; rw [HV.out]; go_frame)
                | (refine wpu_strL (i := k) rfl (by kernel_rfl) rfl rfl (by first | rfl | exact HK.out) hk1 ?_; rw [HV.out]; go_frame))
              | ((with_reducible refine at_alloc ?_); refine wpu_new G ?_; clear G; intro w G)
              | ((with_reducible refine at_drew ?_); refine wpu_drew G ?_; clear G; intro w G)
              | ((with_reducible refine at_load ?_); first
                | (refine wpu_load G rfl rfl rfl rfl ?_; go_frame)
                | (refine wpu_loadB G rfl rfl rfl (by rfl) ?_; go_frame)
                | (refine wpu_loadS G rfl rfl rfl (by rfl) ?_; simp only [List.drop_succ_cons, List.drop_zero, List.take_succ_cons, List.take_zero]; go_frame))
              | ((with_reducible refine at_store ?_); first
                | (refine wpu_store G rfl rfl rfl rfl (by first | rfl | assumption | simp [*]) rfl ?_; clear G; intro w G; go_frame)
                | (refine wpu_storeB G rfl rfl rfl rfl (by rfl) (by rfl) (by first | rfl | assumption | simp [*]) ?_; clear G; intro w G; go_frame)
                | (refine wpu_storeS G rfl rfl rfl rfl (by rfl) (by rfl) (by first | rfl | assumption | simp [*]) ?_; clear G; intro w G; go_frame))
              | ((with_reducible refine at_convert ?_); refine wpu_str G rfl rfl rfl rfl ?_; go_frame)
              | ((with_reducible refine at_slice ?_); first
                | (refine wpu_sliceLo rfl rfl rfl rfl (by first | rfl | omega) (by omega) (by omega) ?_; go_frame)
                | (refine wpu_sliceLH rfl rfl rfl rfl rfl (by first | rfl | omega) (by first | rfl | omega) (by omega) (by omega) ?_; go_frame))
              | fail)
            refine Calls.mono (fieldC (m := ⟨n, val, 0, false⟩) hlenW G (G.rd (.slice xo W.length xc))) ?_
            clear G; rintro e w ⟨rfl, G⟩
            rw [H1.out]
            go_wp2_with (first
              | ((with_reducible refine at_alloc ?_); refine wpu_new G ?_; clear G; intro w G)
              | ((with_reducible refine at_drew ?_); refine wpu_drew G ?_; clear G; intro w G)
              | ((with_reducible refine at_load ?_); first
                | (refine wpu_load G rfl rfl rfl rfl ?_; go_frame)
                | (refine wpu_loadB G rfl rfl rfl (by rfl) ?_; go_frame)
                | (refine wpu_loadS G rfl rfl rfl (by rfl) ?_; simp only [List.drop_succ_cons, List.drop_zero, List.take_succ_cons, List.take_zero]; go_frame))
              | ((with_reducible refine at_store ?_); first
                | (refine wpu_store G rfl rfl rfl rfl (by first | rfl | assumption | simp [*]) rfl ?_; clear G; intro w G; go_frame)
                | (refine wpu_storeB G rfl rfl rfl rfl (by rfl) (by rfl) (by first | rfl | assumption | simp [*]) ?_; clear G; intro w G; go_frame)
                | (refine wpu_storeS G rfl rfl rfl rfl (by rfl) (by rfl) (by first | rfl | assumption | simp [*]) ?_; clear G; intro w G; go_frame))
              | ((with_reducible refine at_convert ?_); refine wpu_str G rfl rfl rfl rfl ?_; go_frame)
              | ((with_reducible refine at_slice ?_); first
                | (refine wpu_sliceLo rfl rfl rfl rfl (by first | rfl | omega) (by omega) (by omega) ?_; go_frame)
                | (refine wpu_sliceLH rfl rfl rfl rfl rfl (by first | rfl | omega) (by first | rfl | omega) (by omega) (by omega) ?_; go_frame))
              | fail)
            refine Calls.mono (fieldC (m := ⟨n, val, 0, false⟩) hlenO G (G.rd (.slice oo O.length oc))) ?_
            clear G; rintro e w ⟨rfl, G⟩
            rw [H2.out]
            go_wp2_with fail
            go_roundw
            case rel => exact ⟨0 + 1, by go_num, by omega, G.right⟩
            case measure => simp [intOf]
          | 1, _ =>
            have H1 := Lib.hid (fieldR_with (O := O) (asks1 n val))
            have H2 := Lib.hid (fieldR_others (n := n) (v := val) (how := 1) HA.out)
            rw [HWW.out] at H1
            go_wp2_with (first
              | ((with_reducible refine at_sliceAny ?_); first
                | (refine wpu_strH (j := k) rfl (by kernel_rfl) rfl rfl (by first | rfl | exact HK.out) hk1 ?_; rw [HV.out]; go_frame)
                | (refine wpu_strL (i := k) rfl (by kernel_rfl) rfl rfl (by first | rfl | exact HK.out) hk1 ?_; rw [HV.out]; go_frame))
              | ((with_reducible refine at_alloc ?_); refine wpu_new G ?_; clear G; intro w G)
              | ((with_reducible refine at_drew ?_); refine wpu_drew G ?_; clear G; intro w G)
              | ((with_reducible refine at_load ?_); first
                | (refine wpu_load G rfl rfl rfl rfl ?_; go_frame)
                | (refine wpu_loadB G rfl rfl rfl (by rfl) ?_; go_frame)
                | (refine wpu_loadS G rfl rfl rfl (by rfl) ?_; simp only [List.drop_succ_cons, List.drop_zero, List.take_succ_cons, List.take_zero]; go_frame))
              | ((with_reducible refine at_store ?_); first
                | (refine wpu_store G rfl rfl rfl rfl (by first | rfl | assumption | simp [*]) rfl ?_; clear G; intro w G; go_frame)
                | (refine wpu_storeB G rfl rfl rfl rfl (by rfl) (by rfl) (by first | rfl | assumption | simp [*]) ?_; clear G; intro w G; go_frame)
                | (refine wpu_storeS G rfl rfl rfl rfl (by rfl) (by rfl) (by first | rfl | assumption | simp [*]) ?_; clear G; intro w G; go_frame))
              | ((with_reducible refine at_convert ?_); refine wpu_str G rfl rfl rfl rfl ?_; go_frame)
              | ((with_reducible refine at_slice ?_); first
                | (refine wpu_sliceLo rfl rfl rfl rfl (by first | rfl | omega) (by omega) (by omega) ?_; go_frame)
                | (refine wpu_sliceLH rfl rfl rfl rfl rfl (by first | rfl | omega) (by first | rfl | omega) (by omega) (by omega) ?_; go_frame))
              | fail)
            refine Calls.mono (fieldC (m := ⟨n, val, 1, false⟩) hlenW G (G.rd (.slice xo W.length xc))) ?_
            clear G; rintro e w ⟨rfl, G⟩
            rw [H1.out]
            go_wp2_with (first
              | ((with_reducible refine at_alloc ?_); refine wpu_new G ?_; clear G; intro w G)
              | ((with_reducible refine at_drew ?_); refine wpu_drew G ?_; clear G; intro w G)
              | ((with_reducible refine at_load ?_); first
                | (refine wpu_load G rfl rfl rfl rfl ?_; go_frame)
                | (refine wpu_loadB G rfl rfl rfl (by rfl) ?_; go_frame)
                | (refine wpu_loadS G rfl rfl rfl (by rfl) ?_; simp only [List.drop_succ_cons, List.drop_zero, List.take_succ_cons, List.take_zero]; go_frame))
              | ((with_reducible refine at_store ?_); first
                | (refine wpu_store G rfl rfl rfl rfl (by first | rfl | assumption | simp [*]) rfl ?_; clear G; intro w G; go_frame)
                | (refine wpu_storeB G rfl rfl rfl rfl (by rfl) (by rfl) (by first | rfl | assumption | simp [*]) ?_; clear G; intro w G; go_frame)
                | (refine wpu_storeS G rfl rfl rfl rfl (by rfl) (by rfl) (by first | rfl | assumption | simp [*]) ?_; clear G; intro w G; go_frame))
              | ((with_reducible refine at_convert ?_); refine wpu_str G rfl rfl rfl rfl ?_; go_frame)
              | ((with_reducible refine at_slice ?_); first
                | (refine wpu_sliceLo rfl rfl rfl rfl (by first | rfl | omega) (by omega) (by omega) ?_; go_frame)
                | (refine wpu_sliceLH rfl rfl rfl rfl rfl (by first | rfl | omega) (by first | rfl | omega) (by omega) (by omega) ?_; go_frame))
              | fail)
            refine Calls.mono (fieldC (m := ⟨n, val, 1, false⟩) hlenO G (G.rd (.slice oo O.length oc))) ?_
            clear G; rintro e w ⟨rfl, G⟩
            rw [H2.out]
            go_wp2_with fail
            go_roundw
            case rel => exact ⟨1 + 1, by go_num, by omega, G.right⟩
            case measure => simp [intOf]
          | 2, _ =>
            have H1 := Lib.hid (fieldR_with (O := O) (asks2 n val k))
            have H2 := Lib.hid (fieldR_others (n := n) (v := (val.take k)) (how := 2) HA.out)
            rw [HWW.out] at H1
            obtain ⟨v, hv⟩ : ∃ v : Txt, (val.take k) = v := ⟨_, rfl⟩
            rw [hv] at H1 H2
            have HV := Lib.hid hv
            clear hv
            go_wp2_with (first
              | ((with_reducible refine at_sliceAny ?_); first
                | (refine wpu_strH (j := k) rfl (by kernel_rfl) rfl rfl (by first | rfl | exact HK.out) hk1 ?_; rw [HV.out]; go_frame)
                | (refine wpu_strL (i := k) rfl (by kernel_rfl) rfl rfl (by first | rfl | exact HK.out) hk1 ?_; rw [HV.out]; go_frame))
              | ((with_reducible refine at_alloc ?_); refine wpu_new G ?_; clear G; intro w G)
              | ((with_reducible refine at_drew ?_); refine wpu_drew G ?_; clear G; intro w G)
              | ((with_reducible refine at_load ?_); first
                | (refine wpu_load G rfl rfl rfl rfl ?_; go_frame)
                | (refine wpu_loadB G rfl rfl rfl (by rfl) ?_; go_frame)
                | (refine wpu_loadS G rfl rfl rfl (by rfl) ?_; simp only [List.drop_succ_cons, List.drop_zero, List.take_succ_cons, List.take_zero]; go_frame))
              | ((with_reducible refine at_store ?_); first
                | (refine wpu_store G rfl rfl rfl rfl (by first | rfl | assumption | simp [*]) rfl ?_; clear G; intro w G; go_frame)
                | (refine wpu_storeB G rfl rfl rfl rfl (by rfl) (by rfl) (by first | rfl | assumption | simp [*]) ?_; clear G; intro w G; go_frame)
                | (refine wpu_storeS G rfl rfl rfl rfl (by rfl) (by rfl) (by first | rfl | assumption | simp [*]) ?_; clear G; intro w G; go_frame))
              | ((with_reducible refine at_convert ?_); refine wpu_str G rfl rfl rfl rfl ?_; go_frame)
              | ((with_reducible refine at_slice ?_); first
                | (refine wpu_sliceLo rfl rfl rfl rfl (by first | rfl | omega) (by omega) (by omega) ?_; go_frame)
                | (refine wpu_sliceLH rfl rfl rfl rfl rfl (by first | rfl | omega) (by first | rfl | omega) (by omega) (by omega) ?_; go_frame))
              | fail)
            refine Calls.mono (fieldC (m := ⟨n, v, 2, false⟩) hlenW G (G.rd (.slice xo W.length xc))) ?_
            clear G; rintro e w ⟨rfl, G⟩
            rw [H1.out]
            go_wp2_with (first
              | ((with_reducible refine at_alloc ?_); refine wpu_new G ?_; clear G; intro w G)
              | ((with_reducible refine at_drew ?_); refine wpu_drew G ?_; clear G; intro w G)
              | ((with_reducible refine at_load ?_); first
                | (refine wpu_load G rfl rfl rfl rfl ?_; go_frame)
                | (refine wpu_loadB G rfl rfl rfl (by rfl) ?_; go_frame)
                | (refine wpu_loadS G rfl rfl rfl (by rfl) ?_; simp only [List.drop_succ_cons, List.drop_zero, List.take_succ_cons, List.take_zero]; go_frame))
              | ((with_reducible refine at_store ?_); first
                | (refine wpu_store G rfl rfl rfl rfl (by first | rfl | assumption | simp [*]) rfl ?_; clear G; intro w G; go_frame)
                | (refine wpu_storeB G rfl rfl rfl rfl (by rfl) (by rfl) (by first | rfl | assumption | simp [*]) ?_; clear G; intro w G; go_frame)
                | (refine wpu_storeS G rfl rfl rfl rfl (by rfl) (by rfl) (by first | rfl | assumption | simp [*]) ?_; clear G; intro w G; go_frame))
              | ((with_reducible refine at_convert ?_); refine wpu_str G rfl rfl rfl rfl ?_; go_frame)
              | ((with_reducible refine at_slice ?_); first
                | (refine wpu_sliceLo rfl rfl rfl rfl (by first | rfl | omega) (by omega) (by omega) ?_; go_frame)
                | (refine wpu_sliceLH rfl rfl rfl rfl rfl (by first | rfl | omega) (by first | rfl | omega) (by omega) (by omega) ?_; go_frame))
              | fail)
            refine Calls.mono (fieldC (m := ⟨n, v, 2, false⟩) hlenO G (G.rd (.slice oo O.length oc))) ?_
            clear G; rintro e w ⟨rfl, G⟩
            rw [H2.out]
            go_wp2_with fail
            go_roundw
            case rel => exact ⟨2 + 1, by go_num, by omega, G.right⟩
            case measure => simp [intOf]
          | 3, _ =>
            have H1 := Lib.hid (fieldR_with (O := O) (asks3 n val k))
            have H2 := Lib.hid (fieldR_others (n := n) (v := (val.drop k)) (how := 3) HA.out)
            rw [HWW.out] at H1
            obtain ⟨v, hv⟩ : ∃ v : Txt, (val.drop k) = v := ⟨_, rfl⟩
            rw [hv] at H1 H2
            have HV := Lib.hid hv
            clear hv
            go_wp2_with (first
              | ((with_reducible refine at_sliceAny ?_); first
                | (refine wpu_strH (j := k) rfl (by kernel_rfl) rfl rfl (by first | rfl | exact HK.out) hk1 ?_; rw [HV.out]; go_frame)
                | (refine wpu_strL (i := k) rfl (by kernel_rfl) rfl rfl (by first | rfl | exact HK.out) hk1 ?_; rw [HV.out]; go_frame))
              | ((with_reducible refine at_alloc ?_); refine wpu_new G ?_; clear G; intro w G)
              | ((with_reducible refine at_drew ?_); refine wpu_drew G ?_; clear G; intro w G)
              | ((with_reducible refine at_load ?_); first
                | (refine wpu_load G rfl rfl rfl rfl ?_; go_frame)
                | (refine wpu_loadB G rfl rfl rfl (by rfl) ?_; go_frame)
                | (refine wpu_loadS G rfl rfl rfl (by rfl) ?_; simp only [List.drop_succ_cons, List.drop_zero, List.take_succ_cons, List.take_zero]; go_frame))
              | ((with_reducible refine at_store ?_); first
                | (refine wpu_store G rfl rfl rfl rfl (by first | rfl | assumption | simp [*]) rfl ?_; clear G; intro w G; go_frame)
                | (refine wpu_storeB G rfl rfl rfl rfl (by rfl) (by rfl) (by first | rfl | assumption | simp [*]) ?_; clear G; intro w G; go_frame)
                | (refine wpu_storeS G rfl rfl rfl rfl (by rfl) (by rfl) (by first | rfl | assumption | simp [*]) ?_; clear G; intro w G; go_frame))
              | ((with_reducible refine at_convert ?_); refine wpu_str G rfl rfl rfl rfl ?_; go_frame)
              | ((with_reducible refine at_slice ?_); first
                | (refine wpu_sliceLo rfl rfl rfl rfl (by first | rfl | omega) (by omega) (by omega) ?_; go_frame)
                | (refine wpu_sliceLH rfl rfl rfl rfl rfl (by first | rfl | omega) (by first | rfl | omega) (by omega) (by omega) ?_; go_frame))
              | fail)
            refine Calls.mono (fieldC (m := ⟨n, v, 3, false⟩) hlenW G (G.rd (.slice xo W.length xc))) ?_
            clear G; rintro e w ⟨rfl, G⟩
            rw [H1.out]
            go_wp2_with (first
              | ((with_reducible refine at_alloc ?_); refine wpu_new G ?_; clear G; intro w G)
              | ((with_reducible refine at_drew ?_); refine wpu_drew G ?_; clear G; intro w G)
              | ((with_reducible refine at_load ?_); first
                | (refine wpu_load G rfl rfl rfl rfl ?_; go_frame)
                | (refine wpu_loadB G rfl rfl rfl (by rfl) ?_; go_frame)
                | (refine wpu_loadS G rfl rfl rfl (by rfl) ?_; simp only [List.drop_succ_cons, List.drop_zero, List.take_succ_cons, List.take_zero]; go_frame))
              | ((with_reducible refine at_store ?_); first
                | (refine wpu_store G rfl rfl rfl rfl (by first | rfl | assumption | simp [*]) rfl ?_; clear G; intro w G; go_frame)
                | (refine wpu_storeB G rfl rfl rfl rfl (by rfl) (by rfl) (by first | rfl | assumption | simp [*]) ?_; clear G; intro w G; go_frame)
                | (refine wpu_storeS G rfl rfl rfl rfl (by rfl) (by rfl) (by first | rfl | assumption | simp [*]) ?_; clear G; intro w G; go_frame))
              | ((with_reducible refine at_convert ?_); refine wpu_str G rfl rfl rfl rfl ?_; go_frame)
              | ((with_reducible refine at_slice ?_); first
                | (refine wpu_sliceLo rfl rfl rfl rfl (by first | rfl | omega) (by omega) (by omega) ?_; go_frame)
                | (refine wpu_sliceLH rfl rfl rfl rfl rfl (by first | rfl | omega) (by first | rfl | omega) (by omega) (by omega) ?_; go_frame))
              | fail)
            refine Calls.mono (fieldC (m := ⟨n, v, 3, false⟩) hlenO G (G.rd (.slice oo O.length oc))) ?_
            clear G; rintro e w ⟨rfl, G⟩
            rw [H2.out]
            go_wp2_with fail
            go_roundw
            case rel => exact ⟨3 + 1, by go_num, by omega, G.right⟩
            case measure => simp [intOf]
          | 4, _ =>
            go_wp2_with fail
            go_ret
            exact ⟨rfl, G.below⟩

theorem contract {H : Type} {enc : TypeId × Value → H} {W : World} {vs : List Value} {ds : List (DataW H)}
    (hA : Args enc Tryd.prog W [9, 9, 33, 3] vs ds) (hsz : (DataW.weightsEach Tryd.prog [9, 9, 33, 3] ds).all (· ≤ reachBytes) = true) (hL : laidMetH Tryd.prog Rows.matchEndsRow.laid W) :
    Calls Tryd.prog 9 vs.toArray W fun e W' => e = .returned (.bool true) ∧ Below W.heap.size W W' := by
  obtain ⟨v0, _, d0, _, rfl, rfl, h0, hA⟩ := args_cons hA
  obtain ⟨v1, _, d1, _, rfl, rfl, h1, hA⟩ := args_cons hA
  obtain ⟨v2, _, d2, _, rfl, rfl, h2, hA⟩ := args_cons hA
  obtain ⟨v3, _, d3, _, rfl, rfl, h3, hA⟩ := args_cons hA
  obtain ⟨rfl, rfl⟩ := args_nil hA
  obtain ⟨l1, rfl, k1, -⟩ := arg_string Tryd.underlying9 h0
  obtain ⟨l2, rfl, k2, -⟩ := arg_string Tryd.underlying9 h1
  obtain ⟨F, hf, kf⟩ := fds_in h2
  obtain ⟨x, rfl, -⟩ := arg_i64 Tryd.underlying3 h3
  unfold maxLen at k1 k2 kf
  exact endsW (by omega) (by omega) hf (fun f h => (kf f h).2)


theorem spec {H : Type} : ∀ ds : List (DataW H), ds.length = 4 → Rows.matchEndsSpec.fn H ds = { results := [.lit (.bool true)], args := ds }
  | [_, _, _, _], _ => rfl
  | [], h => by cases h
  | [_], h => by cases h
  | [_, _], h => by cases h
  | [_, _, _], h => by cases h
  | _ :: _ :: _ :: _ :: _ :: _, h => by simp at h
theorem door_met (os : Os) (args : Array Value) : laidMetH Tryd.prog Rows.matchEndsRow.laid ((World.setRow (World.doorLaid Tryd.prog 19 os) (Tryd.prog.globalNamed "unicode/utf8.first").get! (Go.Pinned.utf8FirstZ.map fun z : Nat => Value.int .u8 (z : Int)).toArray).forCall (fun _ _ => 0) ⟨#[], args, []⟩).memory :=
  laidMetH_of_parts3 (fuel := 8) (laidMet_of_run' 8 (by kernel_rfl) (by kernel_rfl)) (by kernel_rfl) (by kernel_rfl)
set_option maxRecDepth 100000 in
theorem lifted (os : Os) (started : os.Started) (H : Type) (enc : TypeId × Value → H) :
    ReturnsInHanded {} Tryd.checked os 9 .any (fun w args => (Rows.matchEndsSpec.pre enc Tryd.prog Tryd.f9 Rows.matchEndsRow.domain false w args ∧ laidMetH Tryd.prog Rows.matchEndsRow.laid w) ∧ sizedMet enc Tryd.prog Tryd.f9 (OpenSpec.ofChange Rows.matchEndsSpec) false w args)
      (Rows.matchEndsSpec.post enc Tryd.prog Tryd.f9 false true false false) :=
  lifted_of_law_laid (C := Tryd.checked) (fn := Tryd.f9) (s := Rows.matchEndsSpec) (tb := 4) (by kernel_rfl) started (by kernel_rfl) Tryd.func9
    (ChangeSpec.witness_shaped (enc := enc) (C := Tryd.checked) (os := os) (X := fun w _ => laidMetH Tryd.prog Rows.matchEndsRow.laid w) false (World.setRow (World.doorLaid Tryd.prog 19 os) (Tryd.prog.globalNamed "unicode/utf8.first").get! (Go.Pinned.utf8FirstZ.map fun z : Nat => Value.int .u8 (z : Int)).toArray) #[.string ⟨#[]⟩, .string ⟨#[]⟩, .slice none 0 0, .int .i64 0] 8 rfl (World.shaped_of_RefB (by kernel_rfl) (by kernel_rfl)) (by kernel_rfl) (by kernel_rfl) (by kernel_rfl) (door_met os _))
    rfl spec (by kernel_rfl) Tryd.underlying4 (by kernel_rfl) (by kernel_rfl) (fun _ _ _ h1 h2 h3 => contract h1 h2 h3)

theorem holds : Rows.MatchEndsSaid :=
  OpenClaim.holds_of_wide 9 Tryd.f9 rfl rfl rfl rfl rfl rfl rfl ⟨rfl, rfl, rfl, rfl, rfl⟩ rfl rfl rfl rfl rfl (by kernel_rfl) Tryd.func9 (by kernel_rfl)
    (of_decide_eq_true (by kernel_rfl)) (by unfold Func.isWrapper; first | (rw [if_pos (by decide +kernel)]; kernel_rfl) | (rw [if_neg (by decide +kernel)]; exact ⟨rfl, rfl⟩))
    (fun os started H enc _ => lifted os started H enc)

theorem proved : Rows.MatchEndsCardSaid :=
  Claim7.holds_tied_plain_at .later [] [.data, .pinned] true (true, "f900cad1524d6485163f1f119ee05e345095a2ecf467c548b528305676b6aa51") false
    holds (fun _ h => by cases h) (by kernel_rfl) (fun _ h => by cases h) matchEnds_row_tie rfl ⟨rfl, rfl⟩ (by kernel_rfl) rfl
    (fun f fn hf hfn => by
      obtain rfl : f = 9 := Option.some.inj ((show Tryd.prog.funcNamed "flume/flumelaw15.MatchEnds" = some 9 by kernel_rfl).symm.trans hf) |>.symm
      obtain rfl : fn = Tryd.f9 := (Option.some.inj (Tryd.func9.symm.trans hfn)).symm
      exact ⟨by kernel_rfl, fun j t ht => by
        rw [Tryd.params9] at ht
        have hm : t ∈ [9, 9, 33, 3] := by simpa using Array.mem_of_getElem? ht
        have hall : ([9, 9, 33, 3].all fun u => !Tryd.prog.wantsStandIn u) = true := by kernel_rfl
        exact (show Tryd.prog.wantsStandIn t = false by simpa using List.all_eq_true.1 hall t hm)⟩)
    (by kernel_rfl)
end Go.Proofs.YtndlfieignhjjaaDoor.matchEnds

