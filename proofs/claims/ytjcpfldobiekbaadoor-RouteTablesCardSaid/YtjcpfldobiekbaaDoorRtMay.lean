




/-
  Lists of strings looked through; whether a route may be.
-/
import Derived.Test.YtjcpfldobiekbaaDoorRtWG
import Derived.Deep.Cut
import Derived.Deep.CutRange
namespace Go.Proofs.YtjcpfldobiekbaaDoor
open Go.RowKit Go.Sl Go.ChangeShapes Go.Fl

set_option maxHeartbeats 8000000 in
set_option maxRecDepth 100000 in
theorem indexS {B w : World} {R : Assn} {N : List Txt} {x : Txt} {v : Value} (h : Own B R w) (hl : ∀ w, Own B R w → rd w 1 v N.length (strs N)) :
    Calls Tryd.prog 54 #[v, str x] w fun e w' => (∃ i : Int, e = .returned (.int .i64 i) ∧ decide (0 ≤ i) = decide (x ∈ N)) ∧ Own B R w' := by
  obtain ⟨ao, ac, rfl, i1, i2, -⟩ := id (hl w h)
  unfold maxLen at i2
  go_enter Tryd.func54, Tryd.ntmps54
  go_wp2_with fail
  go_loopw [5, 8] (fun _ i wr => ∃ j : Nat, i = .int .i64 j ∧ j ≤ N.length ∧ Hid (∀ y ∈ N.take j, x ≠ y) ∧ Own B R wr) (fun _ i _ => N.length - (intOf i).toNat)
  case atStart => exact ⟨0, rfl, Nat.zero_le _, Lib.hid (by simp), h⟩
  case round =>
    clear h
    obtain ⟨j, rfl, hj, HA, G⟩ := hrel
    by_cases hjn : j < N.length
    · obtain ⟨y, hy⟩ : ∃ y, N[j]? = some y := ⟨N[j], List.getElem?_eq_getElem hjn⟩
      obtain ⟨ad, rfl⟩ := rd_some (hl _ G) (by omega)
      have HF := Lib.hid (strs_at hy)
      have HMEM := Lib.hid (List.mem_of_getElem? hy)
      have HTK : Hid (N.take (j + 1) = N.take j ++ [y]) := Lib.hid (by rw [List.take_add_one, hy]; rfl)
      obtain ⟨q, hq⟩ : ∃ q, decide (x = y) = q := ⟨_, rfl⟩
      clear hy
      cases q
      · go_wp2_with (first
          | ((with_reducible refine at_load ?_); refine wpu_loadC (k := j) (hl _ G) HF.out rfl (by kernel_rfl) rfl ?_; go_frame)
          | ((with_reducible refine at_eqS ?_); refine wpu_eqS rfl (by kernel_rfl) rfl rfl hq ?_; go_frame)
          | fail)
        go_roundw
        case rel => exact ⟨j + 1, by go_num, by omega, Lib.hid (by
          rw [HTK.out]
          intro g hg
          rcases List.mem_append.1 hg with hg | hg
          · exact HA.out g hg
          · rw [List.mem_singleton.1 hg]; simpa using hq), G⟩
        case measure => simp [intOf] <;> omega
      · go_wp2_with (first
          | ((with_reducible refine at_load ?_); refine wpu_loadC (k := j) (hl _ G) HF.out rfl (by kernel_rfl) rfl ?_; go_frame)
          | ((with_reducible refine at_eqS ?_); refine wpu_eqS rfl (by kernel_rfl) rfl rfl hq ?_; go_frame)
          | fail)
        go_ret
        have e : x = y := by simpa using hq
        exact ⟨⟨_, rfl, by rw [e, decide_eq_true HMEM.out]; simp⟩, G⟩
    · have hno : x ∉ N := fun e => HA.out x (by rwa [List.take_of_length_le (by omega)]) rfl
      go_wp2_with fail
      go_ret
      exact ⟨⟨_, rfl, by rw [decide_eq_false hno]; rfl⟩, G⟩

set_option maxHeartbeats 8000000 in
set_option maxRecDepth 100000 in
theorem containsS {B w : World} {R : Assn} {N : List Txt} {x : Txt} {v : Value} (h : Own B R w) (hl : ∀ w, Own B R w → rd w 1 v N.length (strs N)) :
    Calls Tryd.prog 36 #[v, str x] w fun e w' => e = .returned (.bool (decide (x ∈ N))) ∧ Own B R w' := by
  go_enter Tryd.func36, Tryd.ntmps36
  go_wp2_with fail
  refine Calls.mono (indexS h hl) ?_
  clear h; rintro e w ⟨⟨i, rfl, hi⟩, h⟩
  go_wp2_with fail
  go_ret
  exact ⟨by rw [← hi]; rfl, h⟩

set_option maxHeartbeats 8000000 in
set_option maxRecDepth 100000 in
theorem amongC {B w : World} {R : Assn} {N : List Txt} {x : Txt} {v : Value} (h : Own B R w) (hl : ∀ w, Own B R w → rd w 1 v N.length (strs N)) :
    Calls Tryd.prog 50 #[v, str x] w fun e w' => e = .returned (.bool (decide (x ∈ N))) ∧ Own B R w' := by
  obtain ⟨ao, ac, rfl, i1, i2, -⟩ := id (hl w h)
  unfold maxLen at i2
  go_enter Tryd.func50, Tryd.ntmps50
  go_wp2_with fail
  go_loopw [5] (fun i wr => ∃ j : Nat, i = .int .i64 j ∧ j ≤ N.length ∧ Hid (∀ y ∈ N.take j, x ≠ y) ∧ Own B R wr) (fun i _ => N.length - (intOf i).toNat)
  case atStart => exact ⟨0, rfl, Nat.zero_le _, Lib.hid (by simp), h⟩
  case round =>
    clear h
    obtain ⟨j, rfl, hj, HA, G⟩ := hrel
    by_cases hjn : j < N.length
    · obtain ⟨y, hy⟩ : ∃ y, N[j]? = some y := ⟨N[j], List.getElem?_eq_getElem hjn⟩
      obtain ⟨ad, rfl⟩ := rd_some (hl _ G) (by omega)
      have HF := Lib.hid (strs_at hy)
      have HMEM := Lib.hid (List.mem_of_getElem? hy)
      have HTK : Hid (N.take (j + 1) = N.take j ++ [y]) := Lib.hid (by rw [List.take_add_one, hy]; rfl)
      obtain ⟨q, hq⟩ : ∃ q, decide (y = x) = q := ⟨_, rfl⟩
      clear hy
      cases q
      · go_wp2_with (first
          | ((with_reducible refine at_load ?_); refine wpu_loadC (k := j) (hl _ G) HF.out rfl (by kernel_rfl) rfl ?_; go_frame)
          | ((with_reducible refine at_eqS ?_); refine wpu_eqS rfl (by kernel_rfl) rfl rfl hq ?_; go_frame)
          | fail)
        go_roundw
        case rel => exact ⟨j + 1, by go_num, by omega, Lib.hid (by
          rw [HTK.out]
          intro g hg
          rcases List.mem_append.1 hg with hg | hg
          · exact HA.out g hg
          · rw [List.mem_singleton.1 hg]; exact fun e => by simp [e] at hq), G⟩
        case measure => simp [intOf] <;> omega
      · go_wp2_with (first
          | ((with_reducible refine at_load ?_); refine wpu_loadC (k := j) (hl _ G) HF.out rfl (by kernel_rfl) rfl ?_; go_frame)
          | ((with_reducible refine at_eqS ?_); refine wpu_eqS rfl (by kernel_rfl) rfl rfl hq ?_; go_frame)
          | fail)
        go_ret
        have e : y = x := by simpa using hq
        exact ⟨by rw [← e, decide_eq_true HMEM.out]; rfl, G⟩
    · have hno : x ∉ N := fun e => HA.out x (by rwa [List.take_of_length_le (by omega)]) rfl
      go_wp2_with fail
      go_ret
      exact ⟨by rw [decide_eq_false hno]; rfl, G⟩

/-! ### the three ways of a path -/
def how3 (x : Int) : Bool := decide (x = 0) || decide (x = 1) || decide (x = 2)
theorem buildI (w : World) : (Instr.buildSlice 60 3 #[(0, .int .i64 0), (1, .int .i64 1), (2, .int .i64 2)]).run Tryd.prog w = .ok (.slice (some ⟨w.heap.size, 0, none⟩) 3 3) (w.alloc (.cells [.int .i64 0, .int .i64 1, .int .i64 2].toArray 3)) := by kernel_rfl
theorem containsI {B w : World} {R : Assn} {b : Nat} (x : Int) (h : Own B (blk b [.int .i64 0, .int .i64 1, .int .i64 2] * R) w) :
    Calls Tryd.prog 35 #[.slice (some ⟨b, 0, none⟩) 3 3, .int .i64 x] w fun e w' => e = .returned (.bool (how3 x)) ∧ w' = w := by
  have hc := Tryd.slices_Contains_int b 0 3 3 [0, 1, 2] x w (by decide) (by decide) (by
    intro j hj
    have hj : j < 3 := hj
    rw [own_cell h, Nat.zero_add]
    match j, hj with
    | 0, _ => rfl
    | 1, _ => rfl
    | 2, _ => rfl)
  have e : ([0, 1, 2].take 3 : List Int).contains x = how3 x := by
    unfold how3
    simp [List.contains_eq_mem, Bool.or_assoc]
  rwa [e] at hc

theorem mayR_eq (r : Rt) (cl : List Txt) : mayR r cl = (how3 r.how && !(!decide (r.method = []) && decide (r.service = [])) && decide (0 ≤ r.ticks) && decide (r.fields.length ≤ 16) && decide (r.choices.length ≤ 16)
    && (r.fields.all fun m => decide (0 ≤ m.how) && decide (m.how ≤ 3) && !decide (m.name = [])) && (r.choices.all fun c => decide (c.cluster ∈ cl)) && weighR (weightsR r.choices)) := by
  unfold mayR how3
  simp only [List.contains_eq_mem]

theorem rt_end {w0 : World} {A : Assn} {w : World} {e : Ending} {b : Bool} (h : e = .returned (.bool b)) (G : Own w0 A w) : e = .returned (.bool b) ∧ Below w0.heap.size w0 w := ⟨h, G.below⟩
def mOk (m : Mr) : Bool := decide (0 ≤ m.how) && decide (m.how ≤ 3) && !decide (m.name = [])
theorem all_stop {α : Type} {l : List α} {j : Nat} {x : α} {p : α → Bool} (h : l[j]? = some x) (h2 : p x = false) : l.all p = false := by
  rw [List.all_eq_false]
  exact ⟨x, List.mem_of_getElem? h, by simp [h2]⟩
theorem all_go {α : Type} {l : List α} {j : Nat} {x : α} {p : α → Bool} (h : l[j]? = some x) (h1 : (l.take j).all p = true) (h2 : p x = true) : (l.take (j + 1)).all p = true := by
  rw [List.take_add_one, h, List.all_append, h1]
  simp [h2]

set_option maxHeartbeats 8000000 in
set_option maxRecDepth 100000 in
theorem mayC {w0 : World} {r : Rt} {cl : List Txt} {cs : List Value} {u : Value} (hr : rdRt w0 cs r) (hcl : rd w0 1 u cl.length (strs cl)) :
    Calls Tryd.prog 24 #[.agg cs.toArray, u] w0 fun e w' => e = .returned (.bool (mayR r cl)) ∧ Below w0.heap.size w0 w' := by
  have G := own_begin w0
  obtain ⟨vf, vc, rfl, hf0, hc0⟩ := hr
  obtain ⟨fo, fc, rfl, i1, i2, -⟩ := id hf0
  obtain ⟨co, cc, rfl, i3, i4, -⟩ := id hc0
  unfold maxLen at i2 i4
  have hf : ∀ A w, Own w0 A w → rd w 4 (.slice fo r.fields.length fc) r.fields.length (mrs r.fields) := fun A w h => hf0.old h
  have hc : ∀ A w, Own w0 A w → rd w 2 (.slice co r.choices.length cc) r.choices.length (chs r.choices) := fun A w h => hc0.old h
  have hu : ∀ A w, Own w0 A w → rd w 1 u cl.length (strs cl) := fun A w h => hcl.old h
  clear hf0 hc0 hcl
  obtain ⟨path, how, service, method, F, C, ticks⟩ := r
  simp only at hf hc i1 i3
  have HM := Lib.hid (mayR_eq ⟨path, how, service, method, F, C, ticks⟩ cl)
  simp only at HM
  obtain ⟨R, hR⟩ : ∃ R, mayR ⟨path, how, service, method, F, C, ticks⟩ cl = R := ⟨_, rfl⟩
  rw [hR] at HM ⊢
  clear hR
  obtain ⟨c0, h0⟩ : ∃ b, how3 how = b := ⟨_, rfl⟩
  obtain ⟨c1, h1⟩ : ∃ b, (!(!decide (method = []) && decide (service = []))) = b := ⟨_, rfl⟩
  obtain ⟨c5, h5⟩ : ∃ b, (F.all mOk) = b := ⟨_, rfl⟩
  obtain ⟨c6, h6⟩ : ∃ b, (C.all fun c => decide (c.cluster ∈ cl)) = b := ⟨_, rfl⟩
  obtain ⟨c7, h7⟩ : ∃ b, weighR (weightsR C) = b := ⟨_, rfl⟩
  have HM2 : Hid (R = (c0 && c1 && decide (0 ≤ ticks) && decide (F.length ≤ 16) && decide (C.length ≤ 16) && c5 && c6 && c7)) := Lib.hid (by
    rw [HM.out, h0, h1, h7]
    rw [show (F.all fun m => decide (0 ≤ m.how) && decide (m.how ≤ 3) && !decide (m.name = [])) = c5 from h5, h6])
  have H0 := Lib.hid h0
  have H1 := Lib.hid h1
  have H5 := Lib.hid h5
  have H6 := Lib.hid h6
  have H7 := Lib.hid h7
  clear h0 h1 h5 h6 h7 HM
  go_enter Tryd.func24, Tryd.ntmps24
  go_wp2_with (first
    | ((with_reducible refine at_alloc ?_); refine wpu_new G ?_; clear G; intro w G)
    | ((with_reducible refine at_drew ?_); refine wpu_drew G ?_; clear G; intro w G)
    | ((with_reducible refine at_build ?_); refine wpu_val rfl (exec_buildT _ rfl (by kernel_rfl) (buildI _)) ?_; go_frame)
    | ((with_reducible refine at_alloc ?_); refine wpu_new G ?_; clear G; intro w G)
    | ((with_reducible refine at_drew ?_); refine wpu_drew G ?_; clear G; intro w G)
    | ((with_reducible refine at_load ?_); first
      | (refine wpu_load G rfl rfl rfl rfl ?_; go_frame)
      | (refine wpu_loadB G rfl rfl rfl (by rfl) ?_; go_frame)
      | (refine wpu_loadS G rfl rfl rfl (by rfl) ?_; simp only [List.drop_succ_cons, List.drop_zero, List.take_succ_cons, List.take_zero]; go_frame))
    | ((with_reducible refine at_store ?_); first
      | (refine wpu_store G rfl rfl rfl rfl (by first | rfl | assumption | simp [*]) rfl ?_; clear G; intro w G; go_frame)
      | (refine wpu_storeB G rfl rfl rfl rfl (by rfl) (by rfl) (by first | rfl | assumption | simp [*]) ?_; clear G; intro w G; go_frame)
      | (refine wpu_storeS G rfl rfl rfl rfl (by rfl) (by rfl) (by first | rfl | assumption | simp [*]) ?_; clear G; intro w G; go_frame))
    | ((with_reducible refine at_convert ?_); refine wpu_str G rfl rfl rfl rfl ?_; go_frame)
    | ((with_reducible refine at_slice ?_); first
      | (refine wpu_sliceLo rfl rfl rfl rfl (by first | rfl | omega) (by omega) (by omega) ?_; go_frame)
      | (refine wpu_sliceLH rfl rfl rfl rfl rfl (by first | rfl | omega) (by first | rfl | omega) (by omega) (by omega) ?_; go_frame))
    | fail)
  refine Calls.mono (containsI how G) ?_
  rintro e w ⟨rfl, rfl⟩
  have G := G.sub (blk w0.heap.size [str path, .int .i64 how, str service, str method, .slice fo F.length fc, .slice co C.length cc, .int .i64 ticks])
  rw [H0.out]
  cases c0
  · have e : R = false := HM2.out
    subst e
    go_wp2_with fail
    go_ret
    exact ⟨rfl, G.below⟩
  go_upto_region 2 with fail
  go_cut [9] from 15 to 22 (fun s9 wr => s9 = .bool (!c1) ∧ Own w0 (blk w0.heap.size [str path, .int .i64 how, str service, str method, .slice fo F.length fc, .slice co C.length cc, .int .i64 ticks]) wr)
  case first =>
    obtain ⟨b1, g1⟩ : ∃ b, decide (method = []) = b := ⟨_, rfl⟩
    obtain ⟨b2, g2⟩ : ∃ b, decide (service = []) = b := ⟨_, rfl⟩
    have HC : Hid (c1 = !(!b1 && b2)) := Lib.hid (by rw [← H1.out, g1, g2])
    cases b1 <;> cases b2
    all_goals
      go_wp2_with (first
        | go_big_skip
        | ((with_reducible refine at_lss ?_); refine wpu_lss rfl (by kernel_rfl) rfl rfl (by assumption) ?_; go_frame)
        | ((with_reducible refine at_gtr ?_); refine wpu_gtr rfl (by kernel_rfl) rfl rfl (by assumption) ?_; go_frame)
        | ((with_reducible refine at_leq ?_); refine wpu_leq rfl (by kernel_rfl) rfl rfl (by assumption) ?_; go_frame)
        | ((with_reducible refine at_geq ?_); refine wpu_geq rfl (by kernel_rfl) rfl rfl (by assumption) ?_; go_frame)
        | ((with_reducible refine at_eqS ?_); refine wpu_eqS rfl (by kernel_rfl) rfl rfl (by assumption) ?_; go_frame)
        | ((with_reducible refine at_neS ?_); refine wpu_neS rfl (by kernel_rfl) rfl rfl (by assumption) ?_; go_frame)
        | ((with_reducible refine at_alloc ?_); refine wpu_new G ?_; clear G; intro w G)
        | ((with_reducible refine at_drew ?_); refine wpu_drew G ?_; clear G; intro w G)
        | go_big_skip
        | ((with_reducible refine at_load ?_); first
          | (refine wpu_load G rfl (by kernel_rfl) rfl rfl ?_; go_frame)
          | (refine wpu_loadB G rfl (by kernel_rfl) rfl (by rfl) ?_; go_frame)
          | (refine wpu_loadS G rfl (by kernel_rfl) rfl (by rfl) ?_; simp only [List.drop_succ_cons, List.drop_zero, List.take_succ_cons, List.take_zero]; go_frame))
        | ((with_reducible refine at_store ?_); first
          | (refine wpu_store G rfl (by kernel_rfl) rfl rfl (by first | rfl | assumption | simp [*]) rfl ?_; clear G; intro w G; go_frame)
          | (refine wpu_storeB G rfl (by kernel_rfl) rfl rfl (by rfl) (by rfl) (by first | rfl | assumption | simp [*]) ?_; clear G; intro w G; go_frame)
          | (refine wpu_storeS G rfl (by kernel_rfl) rfl rfl (by rfl) (by rfl) (by first | rfl | assumption | simp [*]) ?_; clear G; intro w G; go_frame))
        | ((with_reducible refine at_convert ?_); refine wpu_str G rfl (by kernel_rfl) rfl rfl ?_; go_frame)
        | fail)
      go_meet
      case rel => exact ⟨by rw [HC.out]; rfl, G⟩
  case rest =>
    clear G
    obtain ⟨rfl, G⟩ := hcut
    cases c1
    · have e : R = false := HM2.out
      subst e
      go_wp2_with fail
      go_ret
      exact ⟨rfl, G.below⟩
    obtain ⟨b2, y2⟩ : ∃ b, decide (ticks < 0) = b := ⟨_, rfl⟩
    obtain ⟨b3, y3⟩ : ∃ b, decide ((F.length : Int) > 16) = b := ⟨_, rfl⟩
    obtain ⟨b4, y4⟩ : ∃ b, decide ((C.length : Int) > 16) = b := ⟨_, rfl⟩
    have z2 : decide (0 ≤ ticks) = !b2 := by rw [← y2, ← decide_not]; exact decide_eq_decide.2 (by omega)
    have z3 : decide (F.length ≤ 16) = !b3 := by rw [← y3, ← decide_not]; exact decide_eq_decide.2 (by omega)
    have z4 : decide (C.length ≤ 16) = !b4 := by rw [← y4, ← decide_not]; exact decide_eq_decide.2 (by omega)
    have HM3 : Hid (R = (true && true && !b2 && !b3 && !b4 && c5 && c6 && c7)) := Lib.hid (by rw [HM2.out, z2, z3, z4])
    clear HM2 z2 z3 z4
    cases b2 with
    | true =>
      have e : R = false := HM3.out
      subst e
      go_wp2_with (first
        | ((with_reducible refine at_lss ?_); refine wpu_lss rfl (by kernel_rfl) rfl rfl (by assumption) ?_; go_frame)
        | ((with_reducible refine at_gtr ?_); refine wpu_gtr rfl (by kernel_rfl) rfl rfl (by assumption) ?_; go_frame)
        | ((with_reducible refine at_leq ?_); refine wpu_leq rfl (by kernel_rfl) rfl rfl (by assumption) ?_; go_frame)
        | ((with_reducible refine at_geq ?_); refine wpu_geq rfl (by kernel_rfl) rfl rfl (by assumption) ?_; go_frame)
        | ((with_reducible refine at_eqS ?_); refine wpu_eqS rfl (by kernel_rfl) rfl rfl (by assumption) ?_; go_frame)
        | ((with_reducible refine at_neS ?_); refine wpu_neS rfl (by kernel_rfl) rfl rfl (by assumption) ?_; go_frame)
        | ((with_reducible refine at_alloc ?_); refine wpu_new G ?_; clear G; intro w G)
        | ((with_reducible refine at_drew ?_); refine wpu_drew G ?_; clear G; intro w G)
        | ((with_reducible refine at_load ?_); first
          | (refine wpu_load G rfl rfl rfl rfl ?_; go_frame)
          | (refine wpu_loadB G rfl rfl rfl (by rfl) ?_; go_frame)
          | (refine wpu_loadS G rfl rfl rfl (by rfl) ?_; simp only [List.drop_succ_cons, List.drop_zero, List.take_succ_cons, List.take_zero]; go_frame))
        | ((with_reducible refine at_store ?_); first
          | (refine wpu_store G rfl rfl rfl rfl (by first | rfl | assumption | simp [*]) rfl ?_; clear G; intro w G; go_frame)
          | (refine wpu_storeB G rfl rfl rfl rfl (by rfl) (by rfl) (by first | rfl | assumption | simp [*]) ?_; clear G; intro w G; go_frame)
          | (refine wpu_storeS G rfl rfl rfl rfl (by rfl) (by rfl) (by first | rfl | assumption | simp [*]) ?_; clear G; intro w G; go_frame))
        | ((with_reducible refine at_convert ?_); refine wpu_str G rfl rfl rfl rfl ?_; go_frame)
        | ((with_reducible refine at_slice ?_); first
          | (refine wpu_sliceLo rfl rfl rfl rfl (by first | rfl | omega) (by omega) (by omega) ?_; go_frame)
          | (refine wpu_sliceLH rfl rfl rfl rfl rfl (by first | rfl | omega) (by first | rfl | omega) (by omega) (by omega) ?_; go_frame))
        | fail)
      go_ret
      exact ⟨rfl, G.below⟩
    | false =>
    cases b3 with
    | true =>
      have e : R = false := HM3.out
      subst e
      go_wp2_with (first
        | ((with_reducible refine at_lss ?_); refine wpu_lss rfl (by kernel_rfl) rfl rfl (by assumption) ?_; go_frame)
        | ((with_reducible refine at_gtr ?_); refine wpu_gtr rfl (by kernel_rfl) rfl rfl (by assumption) ?_; go_frame)
        | ((with_reducible refine at_leq ?_); refine wpu_leq rfl (by kernel_rfl) rfl rfl (by assumption) ?_; go_frame)
        | ((with_reducible refine at_geq ?_); refine wpu_geq rfl (by kernel_rfl) rfl rfl (by assumption) ?_; go_frame)
        | ((with_reducible refine at_eqS ?_); refine wpu_eqS rfl (by kernel_rfl) rfl rfl (by assumption) ?_; go_frame)
        | ((with_reducible refine at_neS ?_); refine wpu_neS rfl (by kernel_rfl) rfl rfl (by assumption) ?_; go_frame)
        | ((with_reducible refine at_alloc ?_); refine wpu_new G ?_; clear G; intro w G)
        | ((with_reducible refine at_drew ?_); refine wpu_drew G ?_; clear G; intro w G)
        | ((with_reducible refine at_load ?_); first
          | (refine wpu_load G rfl rfl rfl rfl ?_; go_frame)
          | (refine wpu_loadB G rfl rfl rfl (by rfl) ?_; go_frame)
          | (refine wpu_loadS G rfl rfl rfl (by rfl) ?_; simp only [List.drop_succ_cons, List.drop_zero, List.take_succ_cons, List.take_zero]; go_frame))
        | ((with_reducible refine at_store ?_); first
          | (refine wpu_store G rfl rfl rfl rfl (by first | rfl | assumption | simp [*]) rfl ?_; clear G; intro w G; go_frame)
          | (refine wpu_storeB G rfl rfl rfl rfl (by rfl) (by rfl) (by first | rfl | assumption | simp [*]) ?_; clear G; intro w G; go_frame)
          | (refine wpu_storeS G rfl rfl rfl rfl (by rfl) (by rfl) (by first | rfl | assumption | simp [*]) ?_; clear G; intro w G; go_frame))
        | ((with_reducible refine at_convert ?_); refine wpu_str G rfl rfl rfl rfl ?_; go_frame)
        | ((with_reducible refine at_slice ?_); first
          | (refine wpu_sliceLo rfl rfl rfl rfl (by first | rfl | omega) (by omega) (by omega) ?_; go_frame)
          | (refine wpu_sliceLH rfl rfl rfl rfl rfl (by first | rfl | omega) (by first | rfl | omega) (by omega) (by omega) ?_; go_frame))
        | fail)
      go_ret
      exact ⟨rfl, G.below⟩
    | false =>
    cases b4 with
    | true =>
      have e : R = false := HM3.out
      subst e
      go_wp2_with (first
        | ((with_reducible refine at_lss ?_); refine wpu_lss rfl (by kernel_rfl) rfl rfl (by assumption) ?_; go_frame)
        | ((with_reducible refine at_gtr ?_); refine wpu_gtr rfl (by kernel_rfl) rfl rfl (by assumption) ?_; go_frame)
        | ((with_reducible refine at_leq ?_); refine wpu_leq rfl (by kernel_rfl) rfl rfl (by assumption) ?_; go_frame)
        | ((with_reducible refine at_geq ?_); refine wpu_geq rfl (by kernel_rfl) rfl rfl (by assumption) ?_; go_frame)
        | ((with_reducible refine at_eqS ?_); refine wpu_eqS rfl (by kernel_rfl) rfl rfl (by assumption) ?_; go_frame)
        | ((with_reducible refine at_neS ?_); refine wpu_neS rfl (by kernel_rfl) rfl rfl (by assumption) ?_; go_frame)
        | ((with_reducible refine at_alloc ?_); refine wpu_new G ?_; clear G; intro w G)
        | ((with_reducible refine at_drew ?_); refine wpu_drew G ?_; clear G; intro w G)
        | ((with_reducible refine at_load ?_); first
          | (refine wpu_load G rfl rfl rfl rfl ?_; go_frame)
          | (refine wpu_loadB G rfl rfl rfl (by rfl) ?_; go_frame)
          | (refine wpu_loadS G rfl rfl rfl (by rfl) ?_; simp only [List.drop_succ_cons, List.drop_zero, List.take_succ_cons, List.take_zero]; go_frame))
        | ((with_reducible refine at_store ?_); first
          | (refine wpu_store G rfl rfl rfl rfl (by first | rfl | assumption | simp [*]) rfl ?_; clear G; intro w G; go_frame)
          | (refine wpu_storeB G rfl rfl rfl rfl (by rfl) (by rfl) (by first | rfl | assumption | simp [*]) ?_; clear G; intro w G; go_frame)
          | (refine wpu_storeS G rfl rfl rfl rfl (by rfl) (by rfl) (by first | rfl | assumption | simp [*]) ?_; clear G; intro w G; go_frame))
        | ((with_reducible refine at_convert ?_); refine wpu_str G rfl rfl rfl rfl ?_; go_frame)
        | ((with_reducible refine at_slice ?_); first
          | (refine wpu_sliceLo rfl rfl rfl rfl (by first | rfl | omega) (by omega) (by omega) ?_; go_frame)
          | (refine wpu_sliceLH rfl rfl rfl rfl rfl (by first | rfl | omega) (by first | rfl | omega) (by omega) (by omega) ?_; go_frame))
        | fail)
      go_ret
      exact ⟨rfl, G.below⟩
    | false =>
    have HM4 : Hid (R = (c5 && c6 && c7)) := Lib.hid HM3.out
    have h16 : C.length ≤ 16 := by have := of_decide_eq_false y4; omega
    clear HM3
    go_wp2_with (first
      | ((with_reducible refine at_lss ?_); refine wpu_lss rfl (by kernel_rfl) rfl rfl (by assumption) ?_; go_frame)
      | ((with_reducible refine at_gtr ?_); refine wpu_gtr rfl (by kernel_rfl) rfl rfl (by assumption) ?_; go_frame)
      | ((with_reducible refine at_leq ?_); refine wpu_leq rfl (by kernel_rfl) rfl rfl (by assumption) ?_; go_frame)
      | ((with_reducible refine at_geq ?_); refine wpu_geq rfl (by kernel_rfl) rfl rfl (by assumption) ?_; go_frame)
      | ((with_reducible refine at_eqS ?_); refine wpu_eqS rfl (by kernel_rfl) rfl rfl (by assumption) ?_; go_frame)
      | ((with_reducible refine at_neS ?_); refine wpu_neS rfl (by kernel_rfl) rfl rfl (by assumption) ?_; go_frame)
      | ((with_reducible refine at_alloc ?_); refine wpu_new G ?_; clear G; intro w G)
      | ((with_reducible refine at_drew ?_); refine wpu_drew G ?_; clear G; intro w G)
      | ((with_reducible refine at_load ?_); first
        | (refine wpu_load G rfl rfl rfl rfl ?_; go_frame)
        | (refine wpu_loadB G rfl rfl rfl (by rfl) ?_; go_frame)
        | (refine wpu_loadS G rfl rfl rfl (by rfl) ?_; simp only [List.drop_succ_cons, List.drop_zero, List.take_succ_cons, List.take_zero]; go_frame))
      | ((with_reducible refine at_store ?_); first
        | (refine wpu_store G rfl rfl rfl rfl (by first | rfl | assumption | simp [*]) rfl ?_; clear G; intro w G; go_frame)
        | (refine wpu_storeB G rfl rfl rfl rfl (by rfl) (by rfl) (by first | rfl | assumption | simp [*]) ?_; clear G; intro w G; go_frame)
        | (refine wpu_storeS G rfl rfl rfl rfl (by rfl) (by rfl) (by first | rfl | assumption | simp [*]) ?_; clear G; intro w G; go_frame))
      | ((with_reducible refine at_convert ?_); refine wpu_str G rfl rfl rfl rfl ?_; go_frame)
      | ((with_reducible refine at_slice ?_); first
        | (refine wpu_sliceLo rfl rfl rfl rfl (by first | rfl | omega) (by omega) (by omega) ?_; go_frame)
        | (refine wpu_sliceLH rfl rfl rfl rfl rfl (by first | rfl | omega) (by first | rfl | omega) (by omega) (by omega) ?_; go_frame))
      | fail)
    clear y2 y3 y4
    go_loopw [6, 37] (fun _ i wr => ∃ j : Nat, i = .int .i64 j ∧ j ≤ F.length ∧ Hid ((F.take j).all mOk = true) ∧ Own w0 (blk w0.heap.size [str path, .int .i64 how, str service, str method, .slice fo F.length fc, .slice co C.length cc, .int .i64 ticks]) wr) (fun _ i _ => F.length - (intOf i).toNat)
    case atStart => exact ⟨0, rfl, Nat.zero_le _, Lib.hid (by simp), G⟩
    case round =>
      clear G
      obtain ⟨j, rfl, hj, HA, G⟩ := hrel
      by_cases hjn : j < F.length
      · obtain ⟨m, hm⟩ : ∃ m, F[j]? = some m := ⟨F[j], List.getElem?_eq_getElem hjn⟩
        obtain ⟨ad, rfl⟩ := rd_some (hf _ _ G) (by omega)
        have HF := Lib.hid (mrs_at hm)
        obtain ⟨b1, y1⟩ : ∃ b, decide (m.how < 0) = b := ⟨_, rfl⟩
        obtain ⟨b2, y2⟩ : ∃ b, decide (m.how > 3) = b := ⟨_, rfl⟩
        obtain ⟨b3, y3⟩ : ∃ b, decide (m.name = []) = b := ⟨_, rfl⟩
        have HK : Hid (mOk m = (!b1 && !b2 && !b3)) := Lib.hid (by
          unfold mOk
          have z1 : decide (0 ≤ m.how) = !b1 := by rw [← y1, ← decide_not]; exact decide_eq_decide.2 (by omega)
          have z2 : decide (m.how ≤ 3) = !b2 := by rw [← y2, ← decide_not]; exact decide_eq_decide.2 (by omega)
          rw [z1, z2, y3])
        have HH := Lib.hid hm
        clear hm
        by_cases hk : mOk m = true
        · have HN := Lib.hid (all_go HH.out HA.out hk)
          have hk2 := HK.out
          rw [hk] at hk2
          cases b1 with
          | true => simp at hk2
          | false =>
          cases b2 with
          | true => simp at hk2
          | false =>
          cases b3 with
          | true => simp at hk2
          | false =>
          clear hk2 hk HK
          go_wp2_with (first
            | go_big_skip
            | ((with_reducible refine at_alloc ?_); refine wpu_new G ?_; clear G; intro w G)
            | ((with_reducible refine at_drew ?_); refine wpu_drew G ?_; clear G; intro w G)
            | ((with_reducible refine at_load ?_); refine wpu_loadE (k := j) (hf _ _ G) HF.out rfl (by kernel_rfl) rfl rfl ?_; go_frame)
            | ((with_reducible refine at_lss ?_); refine wpu_lss rfl (by kernel_rfl) rfl rfl (by assumption) ?_; go_frame)
            | ((with_reducible refine at_gtr ?_); refine wpu_gtr rfl (by kernel_rfl) rfl rfl (by assumption) ?_; go_frame)
            | ((with_reducible refine at_leq ?_); refine wpu_leq rfl (by kernel_rfl) rfl rfl (by assumption) ?_; go_frame)
            | ((with_reducible refine at_geq ?_); refine wpu_geq rfl (by kernel_rfl) rfl rfl (by assumption) ?_; go_frame)
            | ((with_reducible refine at_eqS ?_); refine wpu_eqS rfl (by kernel_rfl) rfl rfl (by assumption) ?_; go_frame)
            | ((with_reducible refine at_neS ?_); refine wpu_neS rfl (by kernel_rfl) rfl rfl (by assumption) ?_; go_frame)
            | ((with_reducible refine at_alloc ?_); refine wpu_new G ?_; clear G; intro w G)
            | ((with_reducible refine at_drew ?_); refine wpu_drew G ?_; clear G; intro w G)
            | go_big_skip
            | ((with_reducible refine at_load ?_); first
              | (refine wpu_load G rfl (by kernel_rfl) rfl rfl ?_; go_frame)
              | (refine wpu_loadB G rfl (by kernel_rfl) rfl (by rfl) ?_; go_frame)
              | (refine wpu_loadS G rfl (by kernel_rfl) rfl (by rfl) ?_; simp only [List.drop_succ_cons, List.drop_zero, List.take_succ_cons, List.take_zero]; go_frame))
            | ((with_reducible refine at_store ?_); first
              | (refine wpu_store G rfl (by kernel_rfl) rfl rfl (by first | rfl | assumption | simp [*]) rfl ?_; clear G; intro w G; go_frame)
              | (refine wpu_storeB G rfl (by kernel_rfl) rfl rfl (by rfl) (by rfl) (by first | rfl | assumption | simp [*]) ?_; clear G; intro w G; go_frame)
              | (refine wpu_storeS G rfl (by kernel_rfl) rfl rfl (by rfl) (by rfl) (by first | rfl | assumption | simp [*]) ?_; clear G; intro w G; go_frame))
            | ((with_reducible refine at_convert ?_); refine wpu_str G rfl (by kernel_rfl) rfl rfl ?_; go_frame)
            | fail)
          go_roundw
          case rel => exact ⟨j + 1, by go_num, by omega, HN, G.sub _⟩
          case measure => simp [intOf] <;> omega
        · have e5 : c5 = false := by rw [← H5.out]; exact all_stop HH.out (by simpa using hk)
          have e : R = false := by rw [HM4.out, e5]; rfl
          subst e
          have hk2 := HK.out
          rw [Bool.not_eq_true] at hk
          rw [hk] at hk2
          clear hk HK
          cases b1 <;> cases b2 <;> cases b3 <;> first | (exfalso; simp at hk2; done) | skip
          all_goals
            clear hk2
            go_wp2_with (first
              | go_big_skip
              | ((with_reducible refine at_alloc ?_); refine wpu_new G ?_; clear G; intro w G)
              | ((with_reducible refine at_drew ?_); refine wpu_drew G ?_; clear G; intro w G)
              | ((with_reducible refine at_load ?_); refine wpu_loadE (k := j) (hf _ _ G) HF.out rfl (by kernel_rfl) rfl rfl ?_; go_frame)
              | ((with_reducible refine at_lss ?_); refine wpu_lss rfl (by kernel_rfl) rfl rfl (by assumption) ?_; go_frame)
              | ((with_reducible refine at_gtr ?_); refine wpu_gtr rfl (by kernel_rfl) rfl rfl (by assumption) ?_; go_frame)
              | ((with_reducible refine at_leq ?_); refine wpu_leq rfl (by kernel_rfl) rfl rfl (by assumption) ?_; go_frame)
              | ((with_reducible refine at_geq ?_); refine wpu_geq rfl (by kernel_rfl) rfl rfl (by assumption) ?_; go_frame)
              | ((with_reducible refine at_eqS ?_); refine wpu_eqS rfl (by kernel_rfl) rfl rfl (by assumption) ?_; go_frame)
              | ((with_reducible refine at_neS ?_); refine wpu_neS rfl (by kernel_rfl) rfl rfl (by assumption) ?_; go_frame)
              | ((with_reducible refine at_alloc ?_); refine wpu_new G ?_; clear G; intro w G)
              | ((with_reducible refine at_drew ?_); refine wpu_drew G ?_; clear G; intro w G)
              | go_big_skip
              | ((with_reducible refine at_load ?_); first
                | (refine wpu_load G rfl (by kernel_rfl) rfl rfl ?_; go_frame)
                | (refine wpu_loadB G rfl (by kernel_rfl) rfl (by rfl) ?_; go_frame)
                | (refine wpu_loadS G rfl (by kernel_rfl) rfl (by rfl) ?_; simp only [List.drop_succ_cons, List.drop_zero, List.take_succ_cons, List.take_zero]; go_frame))
              | ((with_reducible refine at_store ?_); first
                | (refine wpu_store G rfl (by kernel_rfl) rfl rfl (by first | rfl | assumption | simp [*]) rfl ?_; clear G; intro w G; go_frame)
                | (refine wpu_storeB G rfl (by kernel_rfl) rfl rfl (by rfl) (by rfl) (by first | rfl | assumption | simp [*]) ?_; clear G; intro w G; go_frame)
                | (refine wpu_storeS G rfl (by kernel_rfl) rfl rfl (by rfl) (by rfl) (by first | rfl | assumption | simp [*]) ?_; clear G; intro w G; go_frame))
              | ((with_reducible refine at_convert ?_); refine wpu_str G rfl (by kernel_rfl) rfl rfl ?_; go_frame)
              | fail)
            go_ret
            exact ⟨rfl, G.below⟩
      · have e5 : c5 = true := by
          have := HA.out
          rw [List.take_of_length_le (by omega)] at this
          rw [← H5.out, this]
        subst e5
        have HM5 : Hid (R = (c6 && c7)) := Lib.hid HM4.out
        clear HM4 HA H5
        go_wp2_with (first
          | ((with_reducible refine at_lss ?_); refine wpu_lss rfl (by kernel_rfl) rfl rfl (by assumption) ?_; go_frame)
          | ((with_reducible refine at_gtr ?_); refine wpu_gtr rfl (by kernel_rfl) rfl rfl (by assumption) ?_; go_frame)
          | ((with_reducible refine at_leq ?_); refine wpu_leq rfl (by kernel_rfl) rfl rfl (by assumption) ?_; go_frame)
          | ((with_reducible refine at_geq ?_); refine wpu_geq rfl (by kernel_rfl) rfl rfl (by assumption) ?_; go_frame)
          | ((with_reducible refine at_eqS ?_); refine wpu_eqS rfl (by kernel_rfl) rfl rfl (by assumption) ?_; go_frame)
          | ((with_reducible refine at_neS ?_); refine wpu_neS rfl (by kernel_rfl) rfl rfl (by assumption) ?_; go_frame)
          | ((with_reducible refine at_alloc ?_); refine wpu_new G ?_; clear G; intro w G)
          | ((with_reducible refine at_drew ?_); refine wpu_drew G ?_; clear G; intro w G)
          | ((with_reducible refine at_load ?_); first
            | (refine wpu_load G rfl rfl rfl rfl ?_; go_frame)
            | (refine wpu_loadB G rfl rfl rfl (by rfl) ?_; go_frame)
            | (refine wpu_loadS G rfl rfl rfl (by rfl) ?_; simp only [List.drop_succ_cons, List.drop_zero, List.take_succ_cons, List.take_zero]; go_frame))
          | ((with_reducible refine at_store ?_); first
            | (refine wpu_store G rfl rfl rfl rfl (by first | rfl | assumption | simp [*]) rfl ?_; clear G; intro w G; go_frame)
            | (refine wpu_storeB G rfl rfl rfl rfl (by rfl) (by rfl) (by first | rfl | assumption | simp [*]) ?_; clear G; intro w G; go_frame)
            | (refine wpu_storeS G rfl rfl rfl rfl (by rfl) (by rfl) (by first | rfl | assumption | simp [*]) ?_; clear G; intro w G; go_frame))
          | ((with_reducible refine at_convert ?_); refine wpu_str G rfl rfl rfl rfl ?_; go_frame)
          | ((with_reducible refine at_slice ?_); first
            | (refine wpu_sliceLo rfl rfl rfl rfl (by first | rfl | omega) (by omega) (by omega) ?_; go_frame)
            | (refine wpu_sliceLH rfl rfl rfl rfl rfl (by first | rfl | omega) (by first | rfl | omega) (by omega) (by omega) ?_; go_frame))
          | fail)
        go_loopw [8, 58] (fun _ i wr => ∃ j : Nat, i = .int .i64 j ∧ j ≤ C.length ∧ Hid ((C.take j).all (fun c => decide (c.cluster ∈ cl)) = true) ∧ Own w0 (blk w0.heap.size [str path, .int .i64 how, str service, str method, .slice fo F.length fc, .slice co C.length cc, .int .i64 ticks]) wr) (fun _ i _ => C.length - (intOf i).toNat)
        case atStart => exact ⟨0, rfl, Nat.zero_le _, Lib.hid (by simp), G⟩
        case round =>
          clear G
          obtain ⟨j, rfl, hj, HA, G⟩ := hrel
          by_cases hjn : j < C.length
          · obtain ⟨c, hcc⟩ : ∃ c, C[j]? = some c := ⟨C[j], List.getElem?_eq_getElem hjn⟩
            obtain ⟨ad, rfl⟩ := rd_some (hc _ _ G) (by omega)
            have HF := Lib.hid (chs_at hcc)
            obtain ⟨b, hb⟩ : ∃ b, decide (c.cluster ∈ cl) = b := ⟨_, rfl⟩
            have HB := Lib.hid hb
            have HH := Lib.hid hcc
            clear hcc hb
            go_wp2_with (first
              | ((with_reducible refine at_alloc ?_); refine wpu_new G ?_; clear G; intro w G)
              | ((with_reducible refine at_drew ?_); refine wpu_drew G ?_; clear G; intro w G)
              | ((with_reducible refine at_load ?_); refine wpu_loadE (k := j) (hc _ _ G) HF.out rfl (by kernel_rfl) rfl rfl ?_; go_frame)
              | ((with_reducible refine at_alloc ?_); refine wpu_new G ?_; clear G; intro w G)
              | ((with_reducible refine at_drew ?_); refine wpu_drew G ?_; clear G; intro w G)
              | ((with_reducible refine at_load ?_); first
                | (refine wpu_load G rfl rfl rfl rfl ?_; go_frame)
                | (refine wpu_loadB G rfl rfl rfl (by rfl) ?_; go_frame)
                | (refine wpu_loadS G rfl rfl rfl (by rfl) ?_; simp only [List.drop_succ_cons, List.drop_zero, List.take_succ_cons, List.take_zero]; go_frame))
              | ((with_reducible refine at_store ?_); first
                | (refine wpu_store G rfl rfl rfl rfl (by first | rfl | assumption | simp [*]) rfl ?_; clear G; intro w G; go_frame)
                | (refine wpu_storeB G rfl rfl rfl rfl (by rfl) (by rfl) (by first | rfl | assumption | simp [*]) ?_; clear G; intro w G; go_frame)
                | (refine wpu_storeS G rfl rfl rfl rfl (by rfl) (by rfl) (by first | rfl | assumption | simp [*]) ?_; clear G; intro w G; go_frame))
              | ((with_reducible refine at_convert ?_); refine wpu_str G rfl rfl rfl rfl ?_; go_frame)
              | ((with_reducible refine at_slice ?_); first
                | (refine wpu_sliceLo rfl rfl rfl rfl (by first | rfl | omega) (by omega) (by omega) ?_; go_frame)
                | (refine wpu_sliceLH rfl rfl rfl rfl rfl (by first | rfl | omega) (by first | rfl | omega) (by omega) (by omega) ?_; go_frame))
              | fail)
            refine Calls.mono (containsS (N := cl) G (hu _)) ?_
            clear G; rintro e w ⟨rfl, G⟩
            rw [HB.out]
            cases b
            · have e6 : c6 = false := by rw [← H6.out]; exact all_stop HH.out HB.out
              have e : R = false := by rw [HM5.out, e6]; rfl
              subst e
              go_wp2_with fail
              go_ret
              exact ⟨rfl, G.below⟩
            · have HN := Lib.hid (all_go (p := fun c => decide (c.cluster ∈ cl)) HH.out HA.out HB.out)
              go_wp2_with fail
              go_roundw
              case rel => exact ⟨j + 1, by go_num, by omega, HN, G.sub _⟩
              case measure => simp [intOf] <;> omega
          · have e6 : c6 = true := by
              have := HA.out
              rw [List.take_of_length_le (by omega)] at this
              rw [← H6.out, this]
            subst e6
            have e : R = c7 := by rw [HM5.out]; rfl
            subst e
            clear HA H6
            go_wp2_with (first
              | ((with_reducible refine at_alloc ?_); refine wpu_new G ?_; clear G; intro w G)
              | ((with_reducible refine at_drew ?_); refine wpu_drew G ?_; clear G; intro w G)
              | ((with_reducible refine at_load ?_); first
                | (refine wpu_load G rfl rfl rfl rfl ?_; go_frame)
                | (refine wpu_loadB G rfl rfl rfl (by rfl) ?_; go_frame)
                | (refine wpu_loadS G rfl rfl rfl (by rfl) ?_; simp only [List.drop_succ_cons, List.drop_zero, List.take_succ_cons, List.take_zero]; go_frame))
              | ((with_reducible refine at_store ?_); first
                | (refine wpu_store G rfl rfl rfl rfl (by first | rfl | assumption | simp [*]) rfl ?_; clear G; intro w G; go_frame)
                | (refine wpu_storeB G rfl rfl rfl rfl (by rfl) (by rfl) (by first | rfl | assumption | simp [*]) ?_; clear G; intro w G; go_frame)
                | (refine wpu_storeS G rfl rfl rfl rfl (by rfl) (by rfl) (by first | rfl | assumption | simp [*]) ?_; clear G; intro w G; go_frame))
              | ((with_reducible refine at_convert ?_); refine wpu_str G rfl rfl rfl rfl ?_; go_frame)
              | ((with_reducible refine at_slice ?_); first
                | (refine wpu_sliceLo rfl rfl rfl rfl (by first | rfl | omega) (by omega) (by omega) ?_; go_frame)
                | (refine wpu_sliceLH rfl rfl rfl rfl rfl (by first | rfl | omega) (by first | rfl | omega) (by omega) (by omega) ?_; go_frame))
              | fail)
            refine Calls.mono (weightsC (L := C) (by omega) G (hc _)) ?_
            clear G; rintro e w ⟨v', rfl, G⟩
            go_wp2_with fail
            have hwl := weights_len C
            refine Calls.mono (weighC (l := weightsR C) G (fun w h => by rw [hwl]; exact own_rd h)) ?_
            clear G; rintro e w ⟨rfl, G⟩
            rw [H7.out]
            clear hwl
            go_wp2_with fail
            go_ret
            exact ⟨rfl, G.below⟩
end Go.Proofs.YtjcpfldobiekbaaDoor
