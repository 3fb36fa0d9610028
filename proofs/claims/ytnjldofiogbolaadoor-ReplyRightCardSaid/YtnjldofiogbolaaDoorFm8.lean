

/-
  Package fields: what goes on.
-/
import Derived.Test.YtnjldofiogbolaaDoorFm7
namespace Go.Proofs.YtnjldofiogbolaaDoor
open Go.RowKit Go.Sl Go.ChangeShapes

set_option maxHeartbeats 8000000 in
set_option maxRecDepth 100000 in
theorem idxDropC {B w : World} {R : Assn} {L : List Fd} {v : Value} (hlen : ∀ f ∈ L, True) (h : Own B R w) (hl : ∀ w, Own B R w → rd w 3 v L.length (fds L)) :
    Calls Tryd.prog 37 #[v, .func (.func 24) #[] #[]] w fun e w' => e = .returned (.int .i64 (firstR dropR L)) ∧ Own B R w' := by
  obtain ⟨ao, ac, rfl, i1, i2, -⟩ := id (hl w h)
  unfold maxLen at i2
  go_enter Tryd.func37, Tryd.ntmps37
  go_wp2_with fail
  go_loopw [5, 8] (fun _ i wr => ∃ j : Nat, i = .int .i64 j ∧ j ≤ L.length ∧ Hid (∀ f ∈ L.take j, dropR f = false) ∧ Own B R wr) (fun _ i _ => L.length - (intOf i).toNat)
  case atStart => exact ⟨0, rfl, Nat.zero_le _, Lib.hid (by simp), h⟩
  case round =>
    clear h
    obtain ⟨j, rfl, hj, HA, G⟩ := hrel
    by_cases hjn : j < L.length
    · obtain ⟨f, hf⟩ : ∃ f, L[j]? = some f := ⟨L[j], List.getElem?_eq_getElem hjn⟩
      obtain ⟨ad, rfl⟩ := rd_some (hl _ G) (by omega)
      have HF := Lib.hid (fds_at hf)
      have hfl := hlen f (List.mem_of_getElem? hf)
      obtain ⟨r, hr⟩ : ∃ r, dropR f = r := ⟨_, rfl⟩
      have HR := Lib.hid hr
      have HSPLIT : Hid (L = L.take j ++ f :: L.drop (j + 1)) := Lib.hid (by
        have := (List.getElem?_eq_some_iff.1 hf).2
        rw [← this, List.getElem_cons_drop, List.take_append_drop])
      have HTK : Hid (L.take (j + 1) = L.take j ++ [f]) := Lib.hid (by rw [List.take_add_one, hf]; rfl)
      clear hf hr
      go_wp2_with (first
        | ((with_reducible refine at_load ?_); refine wpu_loadE (k := j) (hl _ G) HF.out rfl (by kernel_rfl) rfl rfl ?_; go_frame)
        | fail)
      refine Calls.mono (dropC G) ?_
      clear G; rintro e w ⟨rfl, G⟩
      rw [HR.out]
      cases r
      · go_wp2_with fail
        go_roundw
        case rel => exact ⟨j + 1, by go_num, by omega, Lib.hid (by
          rw [HTK.out]
          intro g hg
          rcases List.mem_append.1 hg with hg | hg
          · exact HA.out g hg
          · rw [List.mem_singleton.1 hg]; exact HR.out), G⟩
        case measure => simp [intOf] <;> omega
      · go_wp2_with fail
        go_ret
        refine ⟨?_, G⟩
        have e : firstR dropR L = j := by
          rw [HSPLIT.out, firstR_app HA.out]
          have : firstR dropR (f :: L.drop (j + 1)) = 0 := by rw [firstR_cons, HR.out]; rfl
          rw [this]
          simp
          omega
        rw [e]
        rfl
    · go_wp2_with fail
      go_ret
      refine ⟨?_, G⟩
      have e : firstR dropR L = -1 := by
        have := firstR_app (l2 := []) HA.out
        rw [List.append_nil, List.take_of_length_le (by omega)] at this
        rw [this]
        rfl
      rw [e]
      rfl

theorem forward_take {L : List Fd} {m : Nat} {f : Fd} (h : L[m]? = some f) : forwardR (L.take (m + 1)) = if dropR f then forwardR (L.take m) else forwardR (L.take m) ++ [f] := by
  unfold forwardR
  rw [List.take_add_one, h, List.filter_append]
  simp only [Option.toList]
  cases e : dropR f <;> simp [e]
theorem forward_none {L : List Fd} (h : ∀ f ∈ L, dropR f = false) : forwardR L = L := by
  unfold forwardR
  rw [List.filter_eq_self]
  intro f hf
  rw [h f hf]
  rfl

set_option maxHeartbeats 8000000 in
set_option maxRecDepth 100000 in
theorem deleteC {B w : World} {R : Assn} {L : List Fd} {v : Value} (hL : L.length ≤ 1000) (h : Own B (sl 3 v L.length (fds L) * R) w) :
    Calls Tryd.prog 22 #[v, .func (.func 24) #[] #[]] w fun e w' => ∃ v', e = .returned v' ∧ Own B (sl 3 v' (forwardR L).length (fds (forwardR L)) * R) w' := by
  obtain ⟨ao, ac, rfl, i1, i2⟩ := h.hdr v
  unfold maxLen at i2
  have hc := idxDropC (fun _ _ => trivial) h (fun w h => own_rd h)
  obtain ⟨r, hr⟩ : ∃ r, firstR dropR L = r := ⟨_, rfl⟩
  rw [hr] at hc
  go_enter Tryd.func22, Tryd.ntmps22
  go_wp2_with fail
  refine Calls.mono hc ?_
  clear h hc; rintro e w ⟨rfl, G⟩
  rcases firstR_is dropR L with ⟨e, hno⟩ | ⟨k0, e, hk0, hno, f0, hf0, hp0⟩
  · have er : r = -1 := by rw [← hr, e]
    subst er
    have HE := Lib.hid (forward_none hno)
    clear hr e hno
    go_wp2_with fail
    go_ret
    rw [HE.out]
    exact ⟨_, rfl, G⟩
  · have er : r = (k0 : Int) := by rw [← hr, e]
    subst er
    have HK : Hid (L.take k0 = forwardR (L.take (k0 + 1))) := Lib.hid (by rw [forward_take hf0, hp0, if_pos rfl, forward_none hno])
    have y1 : ((k0 : Int) == -1) = false := by rw [beq_eq_false_iff_ne]; omega
    have y2 : decide ((k0 : Int) = -1) = false := decide_eq_false (by omega)
    clear hr e hno hf0 hp0
    go_wp2_with fail
    go_loopw [5, 6, 7] (fun i j _ wr => ∃ (k m : Nat) (X : List Fd), i = .int .i64 k ∧ j = .int .i64 m ∧ k ≤ m ∧ m ≤ L.length ∧ Hid (X.length = L.length) ∧ Hid (X.take k = forwardR (L.take m)) ∧ Hid (X.drop m = L.drop m) ∧
      Own B (sl 3 (.slice ao L.length ac) L.length (fds X) * R) wr) (fun _ j _ _ => L.length - (intOf j).toNat)
    case atStart => exact ⟨k0, k0 + 1, L, rfl, by go_num, by omega, by omega, Lib.hid rfl, HK, Lib.hid rfl, G⟩
    case round =>
      clear G
      obtain ⟨k, m, X, rfl, rfl, hkm, hm, HX, HT, HDR, G⟩ := hrel
      by_cases hmn : m < L.length
      · obtain ⟨f, hf⟩ : ∃ f, L[m]? = some f := ⟨L[m], List.getElem?_eq_getElem hmn⟩
        obtain ⟨ad, rfl⟩ := rd_some (G.rd (.slice ao L.length ac) _ G) (by omega)
        have hxm : X[m]? = some f := by
          have := congrArg (fun l => l[0]?) HDR.out
          simpa [hf] using this
        have HF := Lib.hid (fds_at hxm)
        have HFW := Lib.hid (forward_take hf)
        have HX2 : Hid (X.drop (m + 1) = L.drop (m + 1)) := Lib.hid (by rw [← List.drop_drop, ← List.drop_drop, HDR.out])
        obtain ⟨q, hq⟩ : ∃ q, dropR f = q := ⟨_, rfl⟩
        have HQ := Lib.hid hq
        clear hf hxm hq
        go_wp2_with (first
          | ((with_reducible refine at_load ?_); first
            | (refine wpu_loadE (k := m) (G.rd (.slice (some ad) L.length ac) _ G) HF.out rfl (by kernel_rfl) rfl rfl ?_; go_frame)
            | (refine wpu_loadB G rfl rfl rfl (by rfl) ?_; go_frame))
          | ((with_reducible refine at_alloc ?_); refine wpu_new G ?_; clear G; intro w G)
          | ((with_reducible refine at_drew ?_); refine wpu_drew G ?_; clear G; intro w G)
          | ((with_reducible refine at_load ?_); first
            | (refine wpu_load G rfl rfl rfl rfl ?_; go_frame)
            | (refine wpu_loadB G rfl rfl rfl (by rfl) ?_; go_frame)
            | (refine wpu_loadS G rfl rfl rfl (by rfl) ?_; simp only [List.drop_succ_cons, List.drop_zero, List.take_succ_cons, List.take_zero]; go_frame))
          | ((with_reducible refine at_store ?_); first
            | (refine wpu_store G rfl rfl rfl rfl (by first | rfl | assumption | simp [*]) rfl ?_; clear G; intro w G; go_frame)
            | (refine wpu_storeB G rfl rfl rfl rfl (by rfl) (by rfl) (by first | rfl | assumption | simp [*]) ?_; clear G; intro w G; go_frame)
            | (refine wpu_storeS G rfl rfl rfl rfl (by rfl) (by rfl) (by first | rfl | assumption | simp [*]) ?_; clear G; intro w G; go_frame))
          | ((with_reducible refine at_convert ?_); refine wpu_str G rfl rfl rfl rfl ?_; go_frame)
          | ((with_reducible refine at_slice ?_); first
            | (refine wpu_sliceLo rfl rfl rfl rfl (by first | rfl | omega) (by omega) (by omega) ?_; go_frame)
            | (refine wpu_sliceLH rfl rfl rfl rfl rfl (by first | rfl | omega) (by first | rfl | omega) (by omega) (by omega) ?_; go_frame))
          | fail)
        refine Calls.mono (dropC (f := f) G) ?_
        clear G; rintro e w ⟨rfl, G⟩
        rw [HQ.out]
        cases q
        · go_wp2_with (first
            | ((with_reducible refine at_load ?_); (refine wpu_loadB G rfl rfl rfl (by rfl) ?_; go_frame))
            | ((with_reducible refine at_store ?_); refine wpu_storeE (s := ad) (cap := ac) (n := L.length) (sz := 3) (k := k) G rfl rfl rfl rfl (by rfl) (by rfl) (by omega) ?_; clear G; intro w G; go_frame)
            | fail)
          have G2 : Own B (sl 3 (.slice (some ad) L.length ac) L.length (fds (X.set k f)) * R) w := by
            rw [fds_set (by rw [HX.out]; omega)]
            exact G.sub _
          clear G
          go_roundw
          case rel => exact ⟨k + 1, m + 1, X.set k f, by go_num, by go_num, by omega, by omega, Lib.hid (by rw [List.length_set]; exact HX.out), Lib.hid (by
            rw [HFW.out, HQ.out]
            have := HX.out
            rw [List.take_add_one, List.getElem?_set_self (by omega), List.take_set_of_le (by omega), HT.out]
            rfl), Lib.hid (by rw [List.drop_set_of_lt (by omega)]; exact HX2.out), G2⟩
          case measure => simp [intOf] <;> omega
        · go_wp2_with fail
          have G2 : Own B (sl 3 (.slice (some ad) L.length ac) L.length (fds X) * R) w := G.sub _
          clear G
          go_roundw
          case rel => exact ⟨k, m + 1, X, rfl, by go_num, by omega, by omega, HX, Lib.hid (by rw [HFW.out, HQ.out]; exact HT.out), HX2, G2⟩
          case measure => simp [intOf] <;> omega
      · have HT2 : Hid (X.take k = forwardR L) := Lib.hid (by have := HT.out; rwa [List.take_of_length_le (l := L) (by omega)] at this)
        have hkx : k ≤ X.length := by rw [HX.out]; omega
        have hlen : (forwardR L).length = k := by rw [← HT2.out, List.length_take]; omega
        go_wp2_with (first
          | ((with_reducible refine at_slice ?_); refine wpu_sliceLo (N := k) rfl rfl rfl rfl (by first | rfl | omega) (by omega) (by omega) ?_; go_frame)
          | ((with_reducible refine at_clear ?_); refine hold ?_)
          | fail)
        unfold Held
        refine wpu_clear (N := k) (n := L.length) (cap := ac) G rfl rfl ⟨isFields⟩ (by decide) (fun w => by kernel_rfl) (by omega) rfl ?_; clear G; intro w ys HY G; replace HY := Lib.hid HY; go_frame
        go_wp2_with fail
        have G2 := own_take G (k := k) (by omega)
        rw [HY.out, fds_takeE hkx, HT2.out] at G2
        go_ret
        rw [hlen]
        exact ⟨_, rfl, G2⟩

set_option maxHeartbeats 8000000 in
set_option maxRecDepth 100000 in
theorem forwardC {B w : World} {R : Assn} {L : List Fd} {v : Value} (hL : L.length ≤ 1000) (h : Own B R w) (hl : ∀ w, Own B R w → rd w 3 v L.length (fds L)) :
    Calls Tryd.prog 16 #[v] w fun e w' => ∃ v', e = .returned v' ∧ Own B (sl 3 v' (forwardR L).length (fds (forwardR L)) * R) w' := by
  go_enter Tryd.func16, Tryd.ntmps16
  go_wp2_with fail
  refine Calls.mono (cloneF h hl hL) ?_
  clear h; rintro e w ⟨v', rfl, G⟩
  go_wp2_with fail
  refine Calls.mono (deleteC hL G) ?_
  clear G; rintro e w ⟨v', rfl, G⟩
  go_wp2_with fail
  go_ret
  exact ⟨_, rfl, G⟩
end Go.Proofs.YtnjldofiogbolaaDoor
