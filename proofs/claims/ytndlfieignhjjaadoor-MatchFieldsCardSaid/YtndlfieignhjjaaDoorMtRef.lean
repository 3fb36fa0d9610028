
/-
  Package match: the document's Fields and Grpc.
-/
import Derived.Test.YtndlfieignhjjaaDoorMtGrpc
namespace Go.Proofs.YtndlfieignhjjaaDoor
open Go.RowKit Go.Sl Go.ChangeShapes

set_option maxHeartbeats 8000000 in
set_option maxRecDepth 100000 in
theorem fieldsRefC {B w : World} {R : Assn} {L : List Mr} {F : List Fd} {v u : Value} (hms : ∀ m ∈ L, m.value.length ≤ 9223372036854775807) (hlen : ∀ f ∈ F, f.2.1.length ≤ 9223372036854775807) (h : Own B R w) (hu : ∀ w, Own B R w → rd w 3 u F.length (fds F)) (hl : ∀ w, Own B R w → rd w 4 v L.length (mrs L)) :
    Calls Tryd.prog 25 #[v, u] w fun e w' => e = .returned (.bool (L.all fun m => fieldR m F)) ∧ Own B R w' := by
  obtain ⟨ao, ac, rfl, i1, i2, -⟩ := id (hl w h)
  unfold maxLen at i2
  go_enter Tryd.func25, Tryd.ntmps25
  go_wp2_with fail
  go_loopw [5, 6] (fun i o wr => ∃ j : Nat, i = .int .i64 j ∧ j ≤ L.length ∧ Hid (∀ m ∈ L.take j, fieldR m F = true) ∧ Own B R wr) (fun i _ _ => L.length - (intOf i).toNat)
  case atStart => exact ⟨0, rfl, Nat.zero_le _, Lib.hid (by simp), h⟩
  case round =>
    clear h
    obtain ⟨j, rfl, hj, HA, G⟩ := hrel
    by_cases hjn : j < L.length
    · obtain ⟨f, hf⟩ : ∃ f, L[j]? = some f := ⟨L[j], List.getElem?_eq_getElem hjn⟩
      obtain ⟨ad, rfl⟩ := rd_some (hl _ G) (by omega)
      have HF := Lib.hid (mrs_at hf)
      have hfl := hms f (List.mem_of_getElem? hf)
      have HMEM := Lib.hid (List.mem_of_getElem? hf)
      obtain ⟨r, hr⟩ : ∃ r, fieldR f F = r := ⟨_, rfl⟩
      have HR := Lib.hid hr
      have HTK : Hid (L.take (j + 1) = L.take j ++ [f]) := Lib.hid (by rw [List.take_add_one, hf]; rfl)
      clear hf hr
      go_wp2_with (first
        | ((with_reducible refine at_load ?_); refine wpu_loadE (k := j) (hl _ G) HF.out rfl (by kernel_rfl) rfl rfl ?_; go_frame)
        | fail)
      refine Calls.mono (fieldRefC hfl hlen G hu) ?_
      clear G; rintro e w ⟨rfl, G⟩
      rw [HR.out]
      cases r
      · go_wp2_with fail
        go_ret
        refine ⟨?_, G⟩
        have e : (L.all fun m => fieldR m F) = false := by
          rw [List.all_eq_false]
          exact ⟨f, HMEM.out, by rw [HR.out]; simp⟩
        rw [e]
        rfl
      · go_wp2_with fail
        go_roundw
        case rel => exact ⟨j + 1, by go_num, by omega, Lib.hid (by
          rw [HTK.out]
          intro g hg
          rcases List.mem_append.1 hg with hg | hg
          · exact HA.out g hg
          · rw [List.mem_singleton.1 hg]; exact HR.out), G⟩
        case measure => simp [intOf] <;> omega
    · go_wp2_with fail
      go_ret
      refine ⟨?_, G⟩
      have e : (L.all fun m => fieldR m F) = true := by
        have := HA.out
        rw [List.take_of_length_le (by omega)] at this
        exact List.all_eq_true.2 this
      rw [e]
      rfl


set_option maxHeartbeats 8000000 in
set_option maxRecDepth 100000 in
theorem grpcRefC {B w : World} {R : Assn} {L : List Fd} {v : Value} (hlen : ∀ f ∈ L, f.2.1.length ≤ 9223372036854775807) (h : Own B R w) (hl : ∀ w, Own B R w → rd w 3 v L.length (fds L)) :
    Calls Tryd.prog 27 #[v] w fun e w' => e = .returned (.bool (grpcR L)) ∧ Own B R w' := by
  obtain ⟨ao, ac, rfl, i1, i2, -⟩ := id (hl w h)
  unfold maxLen at i2
  go_enter Tryd.func27, Tryd.ntmps27
  go_wp2_with fail
  go_loopw [3, 4] (fun i o wr => ∃ j : Nat, i = .int .i64 j ∧ j ≤ L.length ∧ Hid (∀ m ∈ L.take j, isG m = false) ∧ Own B R wr) (fun i _ _ => L.length - (intOf i).toNat)
  case atStart => exact ⟨0, rfl, Nat.zero_le _, Lib.hid (by simp), h⟩
  case round =>
    clear h
    obtain ⟨j, rfl, hj, HA, G⟩ := hrel
    by_cases hjn : j < L.length
    · obtain ⟨f, hf⟩ : ∃ f, L[j]? = some f := ⟨L[j], List.getElem?_eq_getElem hjn⟩
      obtain ⟨ad, rfl⟩ := rd_some (hl _ G) (by omega)
      have HF := Lib.hid (fds_at hf)
      have hfl := hlen f (List.mem_of_getElem? hf)
      have HMEM := Lib.hid (List.mem_of_getElem? hf)
      have HTK : Hid (L.take (j + 1) = L.take j ++ [f]) := Lib.hid (by rw [List.take_add_one, hf]; rfl)
      obtain ⟨q, hq⟩ : ∃ q, decide (f.1 = [99, 111, 110, 116, 101, 110, 116, 45, 116, 121, 112, 101]) = q := ⟨_, rfl⟩
      obtain ⟨e, he⟩ : ∃ e, decide (f.2.1 = [97, 112, 112, 108, 105, 99, 97, 116, 105, 111, 110, 47, 103, 114, 112, 99]) = e := ⟨_, rfl⟩
      obtain ⟨b1, hb1⟩ : ∃ b1, ([97, 112, 112, 108, 105, 99, 97, 116, 105, 111, 110, 47, 103, 114, 112, 99, 43] : Txt).isPrefixOf f.2.1 = b1 := ⟨_, rfl⟩
      obtain ⟨b2, hb2⟩ : ∃ b2, ([97, 112, 112, 108, 105, 99, 97, 116, 105, 111, 110, 47, 103, 114, 112, 99, 59] : Txt).isPrefixOf f.2.1 = b2 := ⟨_, rfl⟩
      have HR : Hid (isG f = (q && (e || b1 || b2))) := Lib.hid (by unfold isG grpcV; rw [hq, he, hb1, hb2])
      have HB1 : Hid (∀ w, Calls Tryd.prog 33 #[str f.2.1, str [97, 112, 112, 108, 105, 99, 97, 116, 105, 111, 110, 47, 103, 114, 112, 99, 43]] w fun e w' => e = .returned (.bool b1) ∧ w' = w) := Lib.hid fun w => by
        have := beginsB (t := [97, 112, 112, 108, 105, 99, 97, 116, 105, 111, 110, 47, 103, 114, 112, 99, 43]) hfl (by decide) w
        rwa [hb1] at this
      have HB2 : Hid (∀ w, Calls Tryd.prog 33 #[str f.2.1, str [97, 112, 112, 108, 105, 99, 97, 116, 105, 111, 110, 47, 103, 114, 112, 99, 59]] w fun e w' => e = .returned (.bool b2) ∧ w' = w) := Lib.hid fun w => by
        have := beginsB (t := [97, 112, 112, 108, 105, 99, 97, 116, 105, 111, 110, 47, 103, 114, 112, 99, 59]) hfl (by decide) w
        rwa [hb2] at this
      have HQ := Lib.hid hq
      have HE := Lib.hid he
      clear hf hq he hb1 hb2
      cases q
      · skip
        go_wp2_with (first
          | ((with_reducible refine at_load ?_); first
            | (refine wpu_loadF (k := j) (hl _ G) HF.out rfl (by kernel_rfl) rfl rfl ?_; go_frame)
            | (refine wpu_loadF0 (k := j) (hl _ G) HF.out rfl (by kernel_rfl) rfl rfl ?_; go_frame))
          | (go_at_call 33; first
            | ((with_reducible refine Calls.mono (HB1.out _) ?_); rintro e w ⟨rfl, rfl⟩)
            | ((with_reducible refine Calls.mono (HB2.out _) ?_); rintro e w ⟨rfl, rfl⟩))
          | ((with_reducible refine at_eqS ?_); first
            | (refine wpu_eqS rfl (by kernel_rfl) rfl rfl HQ.out ?_; go_frame)
            | (refine wpu_eqS rfl (by kernel_rfl) rfl rfl HE.out ?_; go_frame))
          | fail)
        go_roundw
        case rel => exact ⟨j + 1, by go_num, by omega, Lib.hid (by
          rw [HTK.out]
          intro g hg
          rcases List.mem_append.1 hg with hg | hg
          · exact HA.out g hg
          · rw [List.mem_singleton.1 hg]; exact HR.out), G⟩
        case measure => simp [intOf] <;> omega
      · cases e
        · cases b1
          · cases b2
            · skip
              go_wp2_with (first
                | ((with_reducible refine at_load ?_); first
                  | (refine wpu_loadF (k := j) (hl _ G) HF.out rfl (by kernel_rfl) rfl rfl ?_; go_frame)
                  | (refine wpu_loadF0 (k := j) (hl _ G) HF.out rfl (by kernel_rfl) rfl rfl ?_; go_frame))
                | (go_at_call 33; first
                  | ((with_reducible refine Calls.mono (HB1.out _) ?_); rintro e w ⟨rfl, rfl⟩)
                  | ((with_reducible refine Calls.mono (HB2.out _) ?_); rintro e w ⟨rfl, rfl⟩))
                | ((with_reducible refine at_eqS ?_); first
                  | (refine wpu_eqS rfl (by kernel_rfl) rfl rfl HQ.out ?_; go_frame)
                  | (refine wpu_eqS rfl (by kernel_rfl) rfl rfl HE.out ?_; go_frame))
                | fail)
              go_roundw
              case rel => exact ⟨j + 1, by go_num, by omega, Lib.hid (by
                rw [HTK.out]
                intro g hg
                rcases List.mem_append.1 hg with hg | hg
                · exact HA.out g hg
                · rw [List.mem_singleton.1 hg]; exact HR.out), G⟩
              case measure => simp [intOf] <;> omega
            · skip
              as_aux_lemma =>
              go_wp2_with (first
                | ((with_reducible refine at_load ?_); first
                  | (refine wpu_loadF (k := j) (hl _ G) HF.out rfl (by kernel_rfl) rfl rfl ?_; go_frame)
                  | (refine wpu_loadF0 (k := j) (hl _ G) HF.out rfl (by kernel_rfl) rfl rfl ?_; go_frame))
                | (go_at_call 33; first
                  | ((with_reducible refine Calls.mono (HB1.out _) ?_); rintro e w ⟨rfl, rfl⟩)
                  | ((with_reducible refine Calls.mono (HB2.out _) ?_); rintro e w ⟨rfl, rfl⟩))
                | ((with_reducible refine at_eqS ?_); first
                  | (refine wpu_eqS rfl (by kernel_rfl) rfl rfl HQ.out ?_; go_frame)
                  | (refine wpu_eqS rfl (by kernel_rfl) rfl rfl HE.out ?_; go_frame))
                | fail)
              go_ret
              refine ⟨?_, G⟩
              have e : grpcR L = true := by
                unfold grpcR
                rw [List.any_eq_true]
                exact ⟨f, HMEM.out, HR.out⟩
              rw [e]
              rfl
          · skip
            as_aux_lemma =>
            go_wp2_with (first
              | ((with_reducible refine at_load ?_); first
                | (refine wpu_loadF (k := j) (hl _ G) HF.out rfl (by kernel_rfl) rfl rfl ?_; go_frame)
                | (refine wpu_loadF0 (k := j) (hl _ G) HF.out rfl (by kernel_rfl) rfl rfl ?_; go_frame))
              | (go_at_call 33; first
                | ((with_reducible refine Calls.mono (HB1.out _) ?_); rintro e w ⟨rfl, rfl⟩)
                | ((with_reducible refine Calls.mono (HB2.out _) ?_); rintro e w ⟨rfl, rfl⟩))
              | ((with_reducible refine at_eqS ?_); first
                | (refine wpu_eqS rfl (by kernel_rfl) rfl rfl HQ.out ?_; go_frame)
                | (refine wpu_eqS rfl (by kernel_rfl) rfl rfl HE.out ?_; go_frame))
              | fail)
            go_ret
            refine ⟨?_, G⟩
            have e : grpcR L = true := by
              unfold grpcR
              rw [List.any_eq_true]
              exact ⟨f, HMEM.out, HR.out⟩
            rw [e]
            rfl
        · skip
          as_aux_lemma =>
          go_wp2_with (first
            | ((with_reducible refine at_load ?_); first
              | (refine wpu_loadF (k := j) (hl _ G) HF.out rfl (by kernel_rfl) rfl rfl ?_; go_frame)
              | (refine wpu_loadF0 (k := j) (hl _ G) HF.out rfl (by kernel_rfl) rfl rfl ?_; go_frame))
            | (go_at_call 33; first
              | ((with_reducible refine Calls.mono (HB1.out _) ?_); rintro e w ⟨rfl, rfl⟩)
              | ((with_reducible refine Calls.mono (HB2.out _) ?_); rintro e w ⟨rfl, rfl⟩))
            | ((with_reducible refine at_eqS ?_); first
              | (refine wpu_eqS rfl (by kernel_rfl) rfl rfl HQ.out ?_; go_frame)
              | (refine wpu_eqS rfl (by kernel_rfl) rfl rfl HE.out ?_; go_frame))
            | fail)
          go_ret
          refine ⟨?_, G⟩
          have e : grpcR L = true := by
            unfold grpcR
            rw [List.any_eq_true]
            exact ⟨f, HMEM.out, HR.out⟩
          rw [e]
          rfl
    · go_wp2_with fail
      go_ret
      refine ⟨?_, G⟩
      have e : grpcR L = false := by
        have := HA.out
        rw [List.take_of_length_le (by omega)] at this
        unfold grpcR
        rw [List.any_eq_false]
        intro x hx
        rw [this x hx]
        simp
      rw [e]
      rfl
end Go.Proofs.YtndlfieignhjjaaDoor
