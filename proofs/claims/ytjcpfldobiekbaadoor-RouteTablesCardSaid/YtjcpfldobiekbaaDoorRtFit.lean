




/-
  The value of a field; whether a request fits a route.
-/
import Derived.Test.YtjcpfldobiekbaaDoorRtRight
namespace Go.Proofs.YtjcpfldobiekbaaDoor
open Go.RowKit Go.Sl Go.ChangeShapes Go.Fl

theorem first_hit {F : List Fd} {n : Txt} {j : Nat} {f : Fd} (h : F[j]? = some f) (ha : ∀ g ∈ F.take j, g.1 ≠ n) (hn : f.1 = n) : firstF F n = f.2.1 := by
  have hs : F = F.take j ++ f :: F.drop (j + 1) := by
    obtain ⟨hj1, hj2⟩ := List.getElem?_eq_some_iff.1 h
    rw [← hj2, List.getElem_cons_drop, List.take_append_drop]
  unfold firstF
  rw [hs, List.find?_append, List.find?_eq_none.2 (fun g hg => by simpa using ha g hg), Option.none_or, List.find?_cons_of_pos (by simpa using hn)]
theorem first_none {F : List Fd} {n : Txt} (ha : ∀ g ∈ F, g.1 ≠ n) : firstF F n = [] := by
  unfold firstF
  rw [List.find?_eq_none.2 (fun g hg => by simpa using ha g hg)]
theorem first_len {F : List Fd} {n : Txt} {k : Nat} (h : ∀ f ∈ F, f.2.1.length ≤ k) : (firstF F n).length ≤ k := by
  unfold firstF
  cases e : F.find? fun f => decide (f.1 = n) with
  | none => exact Nat.zero_le _
  | some f => exact h f (List.mem_of_find?_eq_some e)

set_option maxHeartbeats 8000000 in
set_option maxRecDepth 100000 in
theorem firstC {B w : World} {R : Assn} {F : List Fd} {v : Value} {n : Txt} (h : Own B R w) (hl : ∀ w, Own B R w → rd w 3 v F.length (fds F)) :
    Calls Tryd.prog 25 #[v, str n] w fun e w' => e = .returned (str (firstF F n)) ∧ Own B R w' := by
  obtain ⟨ao, ac, rfl, i1, i2, -⟩ := id (hl w h)
  unfold maxLen at i2
  go_enter Tryd.func25, Tryd.ntmps25
  go_wp2_with fail
  go_loopw [6, 9] (fun _ i wr => ∃ j : Nat, i = .int .i64 j ∧ j ≤ F.length ∧ Hid (∀ g ∈ F.take j, g.1 ≠ n) ∧ Own B R wr) (fun _ i _ => F.length - (intOf i).toNat)
  case atStart => exact ⟨0, rfl, Nat.zero_le _, Lib.hid (by simp), h⟩
  case round =>
    clear h
    obtain ⟨j, rfl, hj, HA, G⟩ := hrel
    by_cases hjn : j < F.length
    · obtain ⟨f, hf⟩ : ∃ f, F[j]? = some f := ⟨F[j], List.getElem?_eq_getElem hjn⟩
      obtain ⟨ad, rfl⟩ := rd_some (hl _ G) (by omega)
      have HF := Lib.hid (fds_at hf)
      have HH := Lib.hid hf
      obtain ⟨q, hq⟩ : ∃ q, decide (f.1 = n) = q := ⟨_, rfl⟩
      have HQ := Lib.hid hq
      clear hf hq
      cases q
      · have HN : Hid (∀ g ∈ F.take (j + 1), g.1 ≠ n) := Lib.hid (by
          rw [List.take_add_one, HH.out]
          intro g hg
          rcases List.mem_append.1 hg with hg | hg
          · exact HA.out g hg
          · rw [List.mem_singleton.1 hg]; simpa using HQ.out)
        go_wp2_with (first
          | ((with_reducible refine at_alloc ?_); refine wpu_new G ?_; clear G; intro w G)
          | ((with_reducible refine at_drew ?_); refine wpu_drew G ?_; clear G; intro w G)
          | ((with_reducible refine at_load ?_); (refine wpu_loadE (k := j) (hl _ (G.sub R)) HF.out rfl (by kernel_rfl) rfl rfl ?_; go_frame))
          | ((with_reducible refine at_eqS ?_); refine wpu_eqS rfl (by kernel_rfl) rfl rfl HQ.out ?_; go_frame)
          | ((with_reducible refine at_alloc ?_); refine wpu_new G ?_; clear G; intro w G)
          | ((with_reducible refine at_drew ?_); refine wpu_drew G ?_; clear G; intro w G)
          | ((with_reducible refine at_load ?_); first
            | (refine wpu_load G rfl rfl rfl rfl ?_; go_frame)
            | (refine wpu_loadB G rfl rfl rfl (by rfl) ?_; go_frame)
            | (refine wpu_loadS G rfl rfl rfl (by rfl) ?_; simp only [List.drop_succ_cons, List.drop_zero, List.take_succ_cons, List.take_zero]; go_frame))
          | ((with_reducible refine at_store ?_); first
            | (refine wpu_store G rfl rfl rfl rfl (by first | rfl | assumption | simp [*]) rfl ?_; clear G; intro w G; go_frame)
            | (refine wpu_storeB G rfl rfl rfl rfl (by rfl) (by rfl) (by first | rfl | assumption | simp [*]) ?_; clear G; intro w G; go_frame)
            | (refine wpu_storeS G rfl rfl rfl rfl (by rfl) (by rfl) (by first | rfl | assumption | simp [*]) ?_; clear G; intro w G; go_frame))
          | ((with_reducible refine at_convert ?_); refine wpu_str G rfl rfl rfl rfl ?_; go_frame)
          | ((with_reducible refine at_slice ?_); first
            | (refine wpu_sliceLo rfl rfl rfl rfl (by first | rfl | omega) (by omega) (by omega) ?_; go_frame)
            | (refine wpu_sliceLH rfl rfl rfl rfl rfl (by first | rfl | omega) (by first | rfl | omega) (by omega) (by omega) ?_; go_frame))
          | fail)
        go_roundw
        case rel => exact ⟨j + 1, by go_num, by omega, HN, (G.sub R)⟩
        case measure => simp [intOf] <;> omega
      · have e : Hid (firstF F n = f.2.1) := Lib.hid (first_hit HH.out HA.out (by simpa using HQ.out))
        go_wp2_with (first
          | ((with_reducible refine at_alloc ?_); refine wpu_new G ?_; clear G; intro w G)
          | ((with_reducible refine at_drew ?_); refine wpu_drew G ?_; clear G; intro w G)
          | ((with_reducible refine at_load ?_); (refine wpu_loadE (k := j) (hl _ (G.sub R)) HF.out rfl (by kernel_rfl) rfl rfl ?_; go_frame))
          | ((with_reducible refine at_eqS ?_); refine wpu_eqS rfl (by kernel_rfl) rfl rfl HQ.out ?_; go_frame)
          | ((with_reducible refine at_alloc ?_); refine wpu_new G ?_; clear G; intro w G)
          | ((with_reducible refine at_drew ?_); refine wpu_drew G ?_; clear G; intro w G)
          | ((with_reducible refine at_load ?_); first
            | (refine wpu_load G rfl rfl rfl rfl ?_; go_frame)
            | (refine wpu_loadB G rfl rfl rfl (by rfl) ?_; go_frame)
            | (refine wpu_loadS G rfl rfl rfl (by rfl) ?_; simp only [List.drop_succ_cons, List.drop_zero, List.take_succ_cons, List.take_zero]; go_frame))
          | ((with_reducible refine at_store ?_); first
            | (refine wpu_store G rfl rfl rfl rfl (by first | rfl | assumption | simp [*]) rfl ?_; clear G; intro w G; go_frame)
            | (refine wpu_storeB G rfl rfl rfl rfl (by rfl) (by rfl) (by first | rfl | assumption | simp [*]) ?_; clear G; intro w G; go_frame)
            | (refine wpu_storeS G rfl rfl rfl rfl (by rfl) (by rfl) (by first | rfl | assumption | simp [*]) ?_; clear G; intro w G; go_frame))
          | ((with_reducible refine at_convert ?_); refine wpu_str G rfl rfl rfl rfl ?_; go_frame)
          | ((with_reducible refine at_slice ?_); first
            | (refine wpu_sliceLo rfl rfl rfl rfl (by first | rfl | omega) (by omega) (by omega) ?_; go_frame)
            | (refine wpu_sliceLH rfl rfl rfl rfl rfl (by first | rfl | omega) (by first | rfl | omega) (by omega) (by omega) ?_; go_frame))
          | fail)
        go_ret
        exact ⟨by rw [e.out]; rfl, (G.sub R)⟩
    · have e : Hid (firstF F n = []) := Lib.hid (first_none (by
        have := HA.out
        rwa [List.take_of_length_le (by omega)] at this))
      go_wp2_with fail
      go_ret
      exact ⟨by rw [e.out]; rfl, G⟩


def callOk (g : Bool) (service method : Txt) : Option (Txt × Txt) → Bool
  | none => false
  | some (s, m) => g && decide (s = service) && (decide (method = []) || decide (method = m))
theorem fits_eq (r : Rt) (path : Txt) (l : List Fd) : fitsR r path l = (pathR r.how r.path path && (r.fields.all fun m => fieldR m l) && (decide (r.service = []) || callOk (grpcR l) r.service r.method (callR path))) := by
  unfold fitsR
  cases callR path with
  | none => rfl
  | some o => rfl

set_option maxHeartbeats 16000000 in
set_option maxRecDepth 100000 in
theorem fitsC {w0 : World} {r : Rt} {cs : List Value} {F : List Fd} {u : Value} {path : Txt} (hr : rdRt w0 cs r) (ok : r.ok) (hF : rd w0 3 u F.length (fds F)) (okF : ∀ f ∈ F, f.2.1.length ≤ 140737488351232) (hp : path.length ≤ 140737488351232) :
    Calls Tryd.prog 27 #[.agg cs.toArray, str path, u] w0 fun e w' => e = .returned (.bool (fitsR r path F)) ∧ Below w0.heap.size w0 w' := by
  have G := own_begin w0
  obtain ⟨vf, vc, rfl, hf0, hc0⟩ := hr
  obtain ⟨fo, fc, rfl, i1, i2, -⟩ := id hf0
  obtain ⟨co, cc, rfl, i3, i4, -⟩ := id hc0
  unfold maxLen at i2 i4
  have hf : ∀ A w, Own w0 A w → rd w 4 (.slice fo r.fields.length fc) r.fields.length (mrs r.fields) := fun A w h => hf0.old h
  have hu : ∀ A w, Own w0 A w → rd w 3 u F.length (fds F) := fun A w h => hF.old h
  have hlen : ∀ f ∈ F, f.2.1.length ≤ 9223372036854775807 := fun f h => Nat.le_trans (okF f h) (by decide)
  clear hf0 hc0 hF
  obtain ⟨k1, k2, k3, -, -⟩ := ok
  obtain ⟨path0, how, service, method, Fs, C, ticks⟩ := r
  simp only at hf i1 i3 k1 k2 k3
  obtain ⟨R, hR⟩ : ∃ R, fitsR ⟨path0, how, service, method, Fs, C, ticks⟩ path F = R := ⟨_, rfl⟩
  obtain ⟨p1, h1⟩ : ∃ b, pathR how path0 path = b := ⟨_, rfl⟩
  obtain ⟨p2, h2⟩ : ∃ b, (Fs.all fun m => fieldR m F) = b := ⟨_, rfl⟩
  obtain ⟨z, hz⟩ : ∃ b, decide (service = []) = b := ⟨_, rfl⟩
  obtain ⟨o, ho⟩ : ∃ o, callR path = o := ⟨_, rfl⟩
  obtain ⟨g, hg⟩ : ∃ b, grpcR F = b := ⟨_, rfl⟩
  have HM : Hid (R = (p1 && p2 && (z || callOk g service method o))) := Lib.hid (by
    rw [← hR, fits_eq]
    simp only
    rw [h1, h2, hz, ho, hg])
  rw [hR]
  have H1 := Lib.hid h1
  have H2 := Lib.hid h2
  have HO := Lib.hid ho
  have HG := Lib.hid hg
  clear hR h1 h2 ho hg
  go_enter Tryd.func27, Tryd.ntmps27
  go_wp2_with (first
    | ((with_reducible refine at_alloc ?_); refine wpu_new G ?_; clear G; intro w G)
    | ((with_reducible refine at_drew ?_); refine wpu_drew G ?_; clear G; intro w G)
    | ((with_reducible refine at_alloc ?_); refine wpu_new G ?_; clear G; intro w G)
    | ((with_reducible refine at_drew ?_); refine wpu_drew G ?_; clear G; intro w G)
    | ((with_reducible refine at_load ?_); first
      | (refine wpu_load G rfl rfl rfl rfl ?_; go_frame)
      | (refine wpu_loadB G rfl rfl rfl (by rfl) ?_; go_frame)
      | (refine wpu_loadS G rfl rfl rfl (by rfl) ?_; simp only [List.drop_succ_cons, List.drop_zero, List.take_succ_cons, List.take_zero]; go_frame))
    | ((with_reducible refine at_store ?_); first
      | (refine wpu_store G rfl rfl rfl rfl (by first | rfl | assumption | simp [*]) rfl ?_; clear G; intro w G; go_frame)
      | (refine wpu_storeB G rfl rfl rfl rfl (by rfl) (by rfl) (by first | rfl | assumption | simp [*]) ?_; clear G; intro w G; go_frame)
      | (refine wpu_storeS G rfl rfl rfl rfl (by rfl) (by rfl) (by first | rfl | assumption | simp [*]) ?_; clear G; intro w G; go_frame))
    | ((with_reducible refine at_convert ?_); refine wpu_str G rfl rfl rfl rfl ?_; go_frame)
    | ((with_reducible refine at_slice ?_); first
      | (refine wpu_sliceLo rfl rfl rfl rfl (by first | rfl | omega) (by omega) (by omega) ?_; go_frame)
      | (refine wpu_sliceLH rfl rfl rfl rfl rfl (by first | rfl | omega) (by first | rfl | omega) (by omega) (by omega) ?_; go_frame))
    | fail)
  refine Calls.mono (pathC k1 hp G) ?_
  clear G; rintro e w ⟨rfl, G⟩
  rw [H1.out]
  cases p1
  · have e : R = false := HM.out
    subst e
    go_wp2_with (first | go_big_skip | fail)
    go_ret
    exact ⟨rfl, G.below⟩
  go_wp2_with (first
    | go_big_skip
    | (go_at_call 40; refine hold ?_)
    | ((with_reducible refine at_alloc ?_); refine wpu_new G ?_; clear G; intro w G)
    | ((with_reducible refine at_drew ?_); refine wpu_drew G ?_; clear G; intro w G)
    | go_big_skip
    | ((with_reducible refine at_load ?_); first
      | (refine wpu_load G rfl (by kernel_rfl) rfl rfl ?_; go_frame)
      | (refine wpu_loadB G rfl (by kernel_rfl) rfl (by rfl) ?_; go_frame)
      | (refine wpu_loadS G rfl (by kernel_rfl) rfl (by rfl) ?_; simp only [List.drop_succ_cons, List.drop_zero, List.take_succ_cons, List.take_zero]; go_frame))
    | ((with_reducible refine at_store ?_); first
      | (refine wpu_store G rfl (by kernel_rfl) rfl rfl (by first | rfl | assumption | simp [*]) rfl ?_; clear G; intro w G; go_frame)
      | (refine wpu_storeB G rfl (by kernel_rfl) rfl rfl (by rfl) (by rfl) (by first | rfl | assumption | simp [*]) ?_; clear G; intro w G; go_frame)
      | (refine wpu_storeS G rfl (by kernel_rfl) rfl rfl (by rfl) (by rfl) (by first | rfl | assumption | simp [*]) ?_; clear G; intro w G; go_frame))
    | ((with_reducible refine at_convert ?_); refine wpu_str G rfl (by kernel_rfl) rfl rfl ?_; go_frame)
    | fail)
  unfold Held
  refine Calls.mono (fieldsC hlen G (hu _) (hf _)) ?_
  clear G; rintro e w ⟨rfl, G⟩
  rw [H2.out]
  cases p2
  · have e : R = false := HM.out
    subst e
    go_wp2_with (first | go_big_skip | fail)
    go_ret
    exact ⟨rfl, G.below⟩
  go_wp2_with (first
    | go_big_skip
    | fail)
  refine Calls.mono (callC hp G) ?_
  clear G; rintro e w ⟨rfl, G⟩
  rw [HO.out]
  clear HO
  cases z with
  | true =>
    have e : R = true := HM.out
    subst e
    obtain ⟨x, y, b, hv⟩ : ∃ x y b, callV o = .tuple #[str x, str y, .bool b] := by
      cases o with
      | none => exact ⟨_, _, _, rfl⟩
      | some o => exact ⟨_, _, _, rfl⟩
    rw [hv]
    clear hv HM
    go_wp2_with (first
      | go_big_skip
      | ((with_reducible refine at_lss ?_); refine wpu_lss rfl (by kernel_rfl) rfl rfl (by assumption) ?_; go_frame)
      | ((with_reducible refine at_gtr ?_); refine wpu_gtr rfl (by kernel_rfl) rfl rfl (by assumption) ?_; go_frame)
      | ((with_reducible refine at_leq ?_); refine wpu_leq rfl (by kernel_rfl) rfl rfl (by assumption) ?_; go_frame)
      | ((with_reducible refine at_geq ?_); refine wpu_geq rfl (by kernel_rfl) rfl rfl (by assumption) ?_; go_frame)
      | ((with_reducible refine at_eqS ?_); refine wpu_eqS rfl (by kernel_rfl) rfl rfl (by assumption) ?_; go_frame)
      | ((with_reducible refine at_neS ?_); refine wpu_neS rfl (by kernel_rfl) rfl rfl (by assumption) ?_; go_frame)
      | ((with_reducible refine at_alloc ?_); refine wpu_new G ?_; clear G; intro w G)
      | ((with_reducible refine at_drew ?_); refine wpu_drew G ?_; clear G; intro w G)
      | go_big_skip
      | ((with_reducible refine at_load ?_); first
        | (refine wpu_load G rfl (by kernel_rfl) rfl rfl ?_; go_frame)
        | (refine wpu_loadB G rfl (by kernel_rfl) rfl (by rfl) ?_; go_frame)
        | (refine wpu_loadS G rfl (by kernel_rfl) rfl (by rfl) ?_; simp only [List.drop_succ_cons, List.drop_zero, List.take_succ_cons, List.take_zero]; go_frame))
      | ((with_reducible refine at_store ?_); first
        | (refine wpu_store G rfl (by kernel_rfl) rfl rfl (by first | rfl | assumption | simp [*]) rfl ?_; clear G; intro w G; go_frame)
        | (refine wpu_storeB G rfl (by kernel_rfl) rfl rfl (by rfl) (by rfl) (by first | rfl | assumption | simp [*]) ?_; clear G; intro w G; go_frame)
        | (refine wpu_storeS G rfl (by kernel_rfl) rfl rfl (by rfl) (by rfl) (by first | rfl | assumption | simp [*]) ?_; clear G; intro w G; go_frame))
      | ((with_reducible refine at_convert ?_); refine wpu_str G rfl (by kernel_rfl) rfl rfl ?_; go_frame)
      | fail)
    go_ret
    exact ⟨rfl, G.below⟩
  | false =>
  cases o with
  | none =>
    have e : R = false := HM.out
    subst e
    unfold callV
    go_wp2_with (first
      | go_big_skip
      | ((with_reducible refine at_lss ?_); refine wpu_lss rfl (by kernel_rfl) rfl rfl (by assumption) ?_; go_frame)
      | ((with_reducible refine at_gtr ?_); refine wpu_gtr rfl (by kernel_rfl) rfl rfl (by assumption) ?_; go_frame)
      | ((with_reducible refine at_leq ?_); refine wpu_leq rfl (by kernel_rfl) rfl rfl (by assumption) ?_; go_frame)
      | ((with_reducible refine at_geq ?_); refine wpu_geq rfl (by kernel_rfl) rfl rfl (by assumption) ?_; go_frame)
      | ((with_reducible refine at_eqS ?_); refine wpu_eqS rfl (by kernel_rfl) rfl rfl (by assumption) ?_; go_frame)
      | ((with_reducible refine at_neS ?_); refine wpu_neS rfl (by kernel_rfl) rfl rfl (by assumption) ?_; go_frame)
      | ((with_reducible refine at_alloc ?_); refine wpu_new G ?_; clear G; intro w G)
      | ((with_reducible refine at_drew ?_); refine wpu_drew G ?_; clear G; intro w G)
      | go_big_skip
      | ((with_reducible refine at_load ?_); first
        | (refine wpu_load G rfl (by kernel_rfl) rfl rfl ?_; go_frame)
        | (refine wpu_loadB G rfl (by kernel_rfl) rfl (by rfl) ?_; go_frame)
        | (refine wpu_loadS G rfl (by kernel_rfl) rfl (by rfl) ?_; simp only [List.drop_succ_cons, List.drop_zero, List.take_succ_cons, List.take_zero]; go_frame))
      | ((with_reducible refine at_store ?_); first
        | (refine wpu_store G rfl (by kernel_rfl) rfl rfl (by first | rfl | assumption | simp [*]) rfl ?_; clear G; intro w G; go_frame)
        | (refine wpu_storeB G rfl (by kernel_rfl) rfl rfl (by rfl) (by rfl) (by first | rfl | assumption | simp [*]) ?_; clear G; intro w G; go_frame)
        | (refine wpu_storeS G rfl (by kernel_rfl) rfl rfl (by rfl) (by rfl) (by first | rfl | assumption | simp [*]) ?_; clear G; intro w G; go_frame))
      | ((with_reducible refine at_convert ?_); refine wpu_str G rfl (by kernel_rfl) rfl rfl ?_; go_frame)
      | fail)
    go_ret
    exact ⟨rfl, G.below⟩
  | some sm =>
  obtain ⟨s, m⟩ := sm
  unfold callV
  obtain ⟨q1, w1⟩ : ∃ b, decide (s = service) = b := ⟨_, rfl⟩
  obtain ⟨q2, w2⟩ : ∃ b, decide (method = []) = b := ⟨_, rfl⟩
  obtain ⟨q3, w3⟩ : ∃ b, decide (method = m) = b := ⟨_, rfl⟩
  have HM2 : Hid (R = (g && q1 && (q2 || q3))) := Lib.hid (by
    rw [HM.out]
    show (true && true && (false || (g && decide (s = service) && (decide (method = []) || decide (method = m))))) = _
    rw [w1, w2, w3]
    rfl)
  clear HM
  go_wp2_with (first
    | go_big_skip
    | (go_at_call 42; refine hold ?_)
    | ((with_reducible refine at_lss ?_); refine wpu_lss rfl (by kernel_rfl) rfl rfl (by assumption) ?_; go_frame)
    | ((with_reducible refine at_gtr ?_); refine wpu_gtr rfl (by kernel_rfl) rfl rfl (by assumption) ?_; go_frame)
    | ((with_reducible refine at_leq ?_); refine wpu_leq rfl (by kernel_rfl) rfl rfl (by assumption) ?_; go_frame)
    | ((with_reducible refine at_geq ?_); refine wpu_geq rfl (by kernel_rfl) rfl rfl (by assumption) ?_; go_frame)
    | ((with_reducible refine at_eqS ?_); refine wpu_eqS rfl (by kernel_rfl) rfl rfl (by assumption) ?_; go_frame)
    | ((with_reducible refine at_neS ?_); refine wpu_neS rfl (by kernel_rfl) rfl rfl (by assumption) ?_; go_frame)
    | ((with_reducible refine at_alloc ?_); refine wpu_new G ?_; clear G; intro w G)
    | ((with_reducible refine at_drew ?_); refine wpu_drew G ?_; clear G; intro w G)
    | go_big_skip
    | ((with_reducible refine at_load ?_); first
      | (refine wpu_load G rfl (by kernel_rfl) rfl rfl ?_; go_frame)
      | (refine wpu_loadB G rfl (by kernel_rfl) rfl (by rfl) ?_; go_frame)
      | (refine wpu_loadS G rfl (by kernel_rfl) rfl (by rfl) ?_; simp only [List.drop_succ_cons, List.drop_zero, List.take_succ_cons, List.take_zero]; go_frame))
    | ((with_reducible refine at_store ?_); first
      | (refine wpu_store G rfl (by kernel_rfl) rfl rfl (by first | rfl | assumption | simp [*]) rfl ?_; clear G; intro w G; go_frame)
      | (refine wpu_storeB G rfl (by kernel_rfl) rfl rfl (by rfl) (by rfl) (by first | rfl | assumption | simp [*]) ?_; clear G; intro w G; go_frame)
      | (refine wpu_storeS G rfl (by kernel_rfl) rfl rfl (by rfl) (by rfl) (by first | rfl | assumption | simp [*]) ?_; clear G; intro w G; go_frame))
    | ((with_reducible refine at_convert ?_); refine wpu_str G rfl (by kernel_rfl) rfl rfl ?_; go_frame)
    | fail)
  unfold Held
  refine Calls.mono (grpcC G (hu _)) ?_
  clear G; rintro e w ⟨rfl, G⟩
  rw [HG.out]
  cases g
  · have e : R = false := HM2.out
    subst e
    go_wp2_with (first | go_big_skip | fail)
    go_ret
    exact ⟨rfl, G.below⟩
  · cases q1 <;> cases q2 <;> cases q3
    all_goals
      have e := HM2.out
      simp only [Bool.true_and, Bool.false_and, Bool.or_true, Bool.true_or, Bool.or_false, Bool.and_true, Bool.and_false, Bool.or_self] at e
      subst e
      go_wp2_with (first
        | go_big_skip
        | ((with_reducible refine at_lss ?_); refine wpu_lss rfl (by kernel_rfl) rfl rfl (by assumption) ?_; go_frame)
        | ((with_reducible refine at_gtr ?_); refine wpu_gtr rfl (by kernel_rfl) rfl rfl (by assumption) ?_; go_frame)
        | ((with_reducible refine at_leq ?_); refine wpu_leq rfl (by kernel_rfl) rfl rfl (by assumption) ?_; go_frame)
        | ((with_reducible refine at_geq ?_); refine wpu_geq rfl (by kernel_rfl) rfl rfl (by assumption) ?_; go_frame)
        | ((with_reducible refine at_eqS ?_); refine wpu_eqS rfl (by kernel_rfl) rfl rfl (by assumption) ?_; go_frame)
        | ((with_reducible refine at_neS ?_); refine wpu_neS rfl (by kernel_rfl) rfl rfl (by assumption) ?_; go_frame)
        | ((with_reducible refine at_alloc ?_); refine wpu_new G ?_; clear G; intro w G)
        | ((with_reducible refine at_drew ?_); refine wpu_drew G ?_; clear G; intro w G)
        | go_big_skip
        | ((with_reducible refine at_load ?_); first
          | (refine wpu_load G rfl (by kernel_rfl) rfl rfl ?_; go_frame)
          | (refine wpu_loadB G rfl (by kernel_rfl) rfl (by rfl) ?_; go_frame)
          | (refine wpu_loadS G rfl (by kernel_rfl) rfl (by rfl) ?_; simp only [List.drop_succ_cons, List.drop_zero, List.take_succ_cons, List.take_zero]; go_frame))
        | ((with_reducible refine at_store ?_); first
          | (refine wpu_store G rfl (by kernel_rfl) rfl rfl (by first | rfl | assumption | simp [*]) rfl ?_; clear G; intro w G; go_frame)
          | (refine wpu_storeB G rfl (by kernel_rfl) rfl rfl (by rfl) (by rfl) (by first | rfl | assumption | simp [*]) ?_; clear G; intro w G; go_frame)
          | (refine wpu_storeS G rfl (by kernel_rfl) rfl rfl (by rfl) (by rfl) (by first | rfl | assumption | simp [*]) ?_; clear G; intro w G; go_frame))
        | ((with_reducible refine at_convert ?_); refine wpu_str G rfl (by kernel_rfl) rfl rfl ?_; go_frame)
        | fail)
      go_ret
      exact ⟨rfl, G.below⟩

end Go.Proofs.YtjcpfldobiekbaaDoor
