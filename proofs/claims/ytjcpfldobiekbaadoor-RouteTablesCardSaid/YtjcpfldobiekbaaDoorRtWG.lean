




/-
  Weights: those of choices, and whether they are right.
  Weights: the document's look at them, sums, and picks.
  Weights: picks.
-/
import Derived.Test.YtjcpfldobiekbaaDoorRtRd
import Derived.Test.YtjcpfldobiekbaaDoorFlOps
import Derived.Test.YtjcpfldobiekbaaDoorStrB
namespace Go.Proofs.YtjcpfldobiekbaaDoor
open Go.RowKit Go.Sl Go.ChangeShapes Go.Fl

theorem weights_len (L : List Ch) : (weightsR L).length = L.length := by simp [weightsR]
theorem weights_at {L : List Ch} {j : Nat} {c : Ch} (h : L[j]? = some c) : (weightsR L)[j]? = some c.weight := by simp [weightsR, h]
/-- the first cells are so, one more of them -/
theorem set_first {xs ys : List Value} {k : Nat} {v : Value} (h : xs.take k = ys) (hk : k < xs.length) : (xs.set k v).take (k + 1) = ys ++ [v] := by
  rw [List.take_add_one, List.take_set_of_le (Nat.le_refl _), h, List.getElem?_set_self hk]
  rfl

set_option maxHeartbeats 8000000 in
set_option maxRecDepth 100000 in
theorem weightsC {B w : World} {R : Assn} {L : List Ch} {v : Value} (hL : L.length ≤ 1000) (h : Own B R w) (hl : ∀ w, Own B R w → rd w 2 v L.length (chs L)) :
    Calls Tryd.prog 29 #[v] w fun e w' => ∃ v', e = .returned v' ∧ Own B (sl 1 v' L.length (flts (weightsR L)) * R) w' := by
  obtain ⟨ao, ac, rfl, i1, i2, -⟩ := id (hl w h)
  unfold maxLen at i2
  go_enter Tryd.func29, Tryd.ntmps29
  go_wp2_with (first
    | ((with_reducible refine at_make ?_); refine wpu_makeN h rfl rfl rfl rfl (by omega) (by omega) ?_; clear h; intro v w xs hx G; go_frame)
    | fail)
  rw [Nat.mul_one] at hx
  obtain ⟨bo, bc, rfl, b1, b2⟩ := G.hdr v
  unfold maxLen at b2
  go_loopw [4, 5, 11] (fun _ _ i wr => ∃ (j : Nat) (ys : List Value), i = .int .i64 j ∧ j ≤ L.length ∧ Hid (ys.length = L.length) ∧ Hid (ys.take j = flts ((weightsR L).take j)) ∧ Own B (sl 1 (.slice bo L.length bc) L.length ys * R) wr) (fun _ _ i _ => L.length - (intOf i).toNat)
  case atStart => exact ⟨0, xs, rfl, Nat.zero_le _, Lib.hid hx, Lib.hid rfl, G⟩
  case round =>
    clear G hx
    obtain ⟨j, ys, rfl, hj, HY, HT, G⟩ := hrel
    by_cases hjn : j < L.length
    · obtain ⟨c, hc⟩ : ∃ c, L[j]? = some c := ⟨L[j], List.getElem?_eq_getElem hjn⟩
      obtain ⟨ad, rfl⟩ := rd_some (hl _ G.right) (by omega)
      obtain ⟨bd, rfl⟩ := rd_some (own_rd G) (by omega)
      have HF := Lib.hid (chs_at hc)
      have HN : Hid ((ys.set j (.float .f64 c.weight)).take (j + 1) = flts ((weightsR L).take (j + 1))) := Lib.hid (by
        rw [set_first HT.out (by rw [HY.out]; exact hjn), List.take_add_one, weights_at hc]
        simp [flts])
      clear hc
      go_wp2_with (first
        | ((with_reducible refine at_alloc ?_); refine wpu_new G ?_; clear G; intro w G)
        | ((with_reducible refine at_drew ?_); refine wpu_drew G ?_; clear G; intro w G)
        | ((with_reducible refine at_load ?_); refine wpu_loadE (k := j) (hl _ (G.sub R)) HF.out rfl (by kernel_rfl) rfl rfl ?_; go_frame)
        | ((with_reducible refine at_store ?_); refine wpu_store1 (k := j) (cap := bc) G rfl rfl rfl rfl rfl hjn ?_; clear G; intro w G; go_frame)
        | ((with_reducible refine at_alloc ?_); refine wpu_new G ?_; clear G; intro w G)
        | ((with_reducible refine at_drew ?_); refine wpu_drew G ?_; clear G; intro w G)
        | ((with_reducible refine at_load ?_); first
          | (refine wpu_load G rfl rfl rfl rfl ?_; go_frame)
          | (refine wpu_loadB G rfl rfl rfl (by rfl) ?_; go_frame)
          | (refine wpu_loadS G rfl rfl rfl (by rfl) ?_; simp only [List.drop_succ_cons, List.drop_zero, List.take_succ_cons, List.take_zero]; go_frame))
        | ((with_reducible refine at_store ?_); first
          | (refine wpu_store G rfl rfl rfl rfl (by first | rfl | assumption | simp [*]) rfl ?_; clear G; intro w G; go_frame)
          | (refine wpu_storeB G rfl rfl rfl rfl (by rfl) (by rfl) (by first | rfl | assumption | simp [*]) ?_; clear G; intro w G; go_frame)
          | (refine wpu_storeS G rfl rfl rfl rfl (by rfl) (by rfl) (by first | rfl | assumption | simp [*]) ?_; clear G; intro w G; go_frame))
        | ((with_reducible refine at_convert ?_); refine wpu_str G rfl rfl rfl rfl ?_; go_frame)
        | ((with_reducible refine at_slice ?_); first
          | (refine wpu_sliceLo rfl rfl rfl rfl (by first | rfl | omega) (by omega) (by omega) ?_; go_frame)
          | (refine wpu_sliceLH rfl rfl rfl rfl rfl (by first | rfl | omega) (by first | rfl | omega) (by omega) (by omega) ?_; go_frame))
        | fail)
      go_roundw
      case rel => exact ⟨j + 1, _, by go_num, by omega, Lib.hid (by rw [List.length_set]; exact HY.out), HN, G.sub _⟩
      case measure => simp [intOf] <;> omega
    · go_wp2_with fail
      go_ret
      refine ⟨_, rfl, ?_⟩
      have e : ys = flts (weightsR L) := by
        have := HT.out
        rw [List.take_of_length_le (by rw [HY.out]; omega), List.take_of_length_le (by rw [weights_len]; omega)] at this
        exact this
      rw [← e]
      exact G

theorem buildF (x : Nat) (w : World) : (Instr.buildSlice 72 1 #[(0, .float .f64 x)]).run Tryd.prog w = .ok (.slice (some ⟨w.heap.size, 0, none⟩) 1 1) (w.alloc (.cells (flts [x]).toArray 36)) := by kernel_rfl

set_option maxHeartbeats 8000000 in
set_option maxRecDepth 100000 in
theorem weightsRefC {B w : World} {R : Assn} {L : List Ch} {v : Value} (hL : L.length ≤ 1000) (h : Own B R w) (hl : ∀ w, Own B R w → rd w 2 v L.length (chs L)) :
    Calls Tryd.prog 68 #[v] w fun e w' => ∃ v', e = .returned v' ∧ Own B (sl 1 v' L.length (flts (weightsR L)) * R) w' := by
  obtain ⟨ao, ac, rfl, i1, i2, -⟩ := id (hl w h)
  unfold maxLen at i2
  have G := own_nil h 1
  clear h
  go_enter Tryd.func68, Tryd.ntmps68
  go_wp2_with fail
  go_loopw [3, 4] (fun o i wr => ∃ (j : Nat) (bo : Option Addr) (bc : Nat), o = .slice bo j bc ∧ j ≤ bc ∧ bc ≤ 9223372036854775807 ∧ i = .int .i64 j ∧ j ≤ L.length ∧ Own B (sl 1 (.slice bo j bc) j (flts ((weightsR L).take j)) * R) wr) (fun _ i _ => L.length - (intOf i).toNat)
  case atStart => exact ⟨0, _, _, rfl, Nat.le_refl _, by omega, rfl, Nat.zero_le _, G⟩
  case round =>
    clear G
    obtain ⟨j, bo, bc, rfl, b1, b2, rfl, hj, G⟩ := hrel
    by_cases hjn : j < L.length
    · obtain ⟨c, hc⟩ : ∃ c, L[j]? = some c := ⟨L[j], List.getElem?_eq_getElem hjn⟩
      obtain ⟨ad, rfl⟩ := rd_some (hl _ G.right) (by omega)
      have HF := Lib.hid (chs_at hc)
      have HN : Hid ((weightsR L).take (j + 1) = (weightsR L).take j ++ [c.weight]) := Lib.hid (by rw [List.take_add_one, weights_at hc]; rfl)
      clear hc
      go_wp2_with (first
        | ((with_reducible refine at_alloc ?_); refine wpu_new G ?_; clear G; intro w G)
        | ((with_reducible refine at_drew ?_); refine wpu_drew G ?_; clear G; intro w G)
        | ((with_reducible refine at_load ?_); refine wpu_loadF (k := j) (j := 0) (hl _ (G.sub R)) HF.out rfl (by kernel_rfl) rfl rfl ?_; go_frame)
        | ((with_reducible refine at_build ?_); refine wpu_val rfl (exec_buildT _ rfl (by kernel_rfl) (buildF c.weight _)) ?_; go_frame)
        | ((with_reducible refine at_append ?_); refine wpu_append1 (n := j) G rfl rfl rfl rfl rfl (by rfl) (by unfold maxLen; omega) (by omega) ?_; clear G; intro v w G; obtain ⟨bo, bc, rfl, b3, b4⟩ := G.hdr v; go_frame)
        | ((with_reducible refine at_alloc ?_); refine wpu_new G ?_; clear G; intro w G)
        | ((with_reducible refine at_drew ?_); refine wpu_drew G ?_; clear G; intro w G)
        | ((with_reducible refine at_load ?_); first
          | (refine wpu_load G rfl rfl rfl rfl ?_; go_frame)
          | (refine wpu_loadB G rfl rfl rfl (by rfl) ?_; go_frame)
          | (refine wpu_loadS G rfl rfl rfl (by rfl) ?_; simp only [List.drop_succ_cons, List.drop_zero, List.take_succ_cons, List.take_zero]; go_frame))
        | ((with_reducible refine at_store ?_); first
          | (refine wpu_store G rfl rfl rfl rfl (by first | rfl | assumption | simp [*]) rfl ?_; clear G; intro w G; go_frame)
          | (refine wpu_storeB G rfl rfl rfl rfl (by rfl) (by rfl) (by first | rfl | assumption | simp [*]) ?_; clear G; intro w G; go_frame)
          | (refine wpu_storeS G rfl rfl rfl rfl (by rfl) (by rfl) (by first | rfl | assumption | simp [*]) ?_; clear G; intro w G; go_frame))
        | ((with_reducible refine at_convert ?_); refine wpu_str G rfl rfl rfl rfl ?_; go_frame)
        | ((with_reducible refine at_slice ?_); first
          | (refine wpu_sliceLo rfl rfl rfl rfl (by first | rfl | omega) (by omega) (by omega) ?_; go_frame)
          | (refine wpu_sliceLH rfl rfl rfl rfl rfl (by first | rfl | omega) (by first | rfl | omega) (by omega) (by omega) ?_; go_frame))
        | fail)
      unfold maxLen at b4
      rw [flts_app, ← HN.out] at G
      go_roundw
      case rel => exact ⟨j + 1, _, _, rfl, b3, b4, by go_num, by omega, G⟩
      case measure => simp [intOf] <;> omega
    · go_wp2_with fail
      go_ret
      obtain rfl : j = L.length := by omega
      rw [List.take_of_length_le (by rw [weights_len]; omega)] at G
      exact ⟨_, rfl, G⟩

theorem all_take {l : List Nat} {j : Nat} {x : Nat} {p : Nat → Bool} (h : l[j]? = some x) (h1 : (l.take j).all p = true) (h2 : p x = true) : (l.take (j + 1)).all p = true := by
  rw [List.take_add_one, h, List.all_append, h1]
  simp [h2]
theorem any_take {l : List Nat} {j : Nat} {x : Nat} {p : Nat → Bool} (h : l[j]? = some x) : (l.take (j + 1)).any p = ((l.take j).any p || p x) := by
  rw [List.take_add_one, h, List.any_append]
  simp
theorem weigh_bad {l : List Nat} {j : Nat} {x : Nat} (h : l[j]? = some x) (h2 : okW x = false) : weighR l = false := by
  have : l.all okW = false := by
    rw [List.all_eq_false]
    exact ⟨x, List.mem_of_getElem? h, by simp [h2]⟩
  unfold weighR
  rw [this]
  simp
theorem pos_ok {x : Nat} (h : okW x = true) : (ord x 0 != some .eq) = pos x := by
  unfold okW at h
  unfold pos
  rw [Bool.and_eq_true] at h
  cases e : ord x 0 with
  | none => rw [e] at h; simp at h
  | some a => rw [e] at h; cases a <;> simp at h ⊢

set_option maxHeartbeats 8000000 in
set_option maxRecDepth 100000 in
theorem weighC {B w : World} {R : Assn} {l : List Nat} {v : Value} (h : Own B R w) (hl : ∀ w, Own B R w → rd w 1 v l.length (flts l)) :
    Calls Tryd.prog 37 #[v] w fun e w' => e = .returned (.bool (weighR l)) ∧ Own B R w' := by
  obtain ⟨ao, ac, rfl, i1, i2, -⟩ := id (hl w h)
  unfold maxLen at i2
  go_enter Tryd.func37, Tryd.ntmps37
  go_wp2_with fail
  go_loopw [3, 5, 8] (fun s _ i wr => ∃ j : Nat, i = .int .i64 j ∧ j ≤ l.length ∧ Hid ((l.take j).all okW = true) ∧ s = .bool ((l.take j).any pos) ∧ Own B R wr) (fun _ _ i _ => l.length - (intOf i).toNat)
  case atStart => exact ⟨0, rfl, Nat.zero_le _, Lib.hid (by simp), by simp, h⟩
  case round =>
    clear h
    obtain ⟨j, rfl, hj, HA, rfl, G⟩ := hrel
    obtain ⟨s, hs⟩ : ∃ s, (l.take j).any pos = s := ⟨_, rfl⟩
    rw [hs]
    by_cases hjn : j < l.length
    · obtain ⟨x, hx⟩ : ∃ x, l[j]? = some x := ⟨l[j], List.getElem?_eq_getElem hjn⟩
      obtain ⟨ad, rfl⟩ := rd_some (hl _ G) (by omega)
      have HF := Lib.hid (flts_at hx)
      obtain ⟨b1, h1⟩ : ∃ b, (ord x x != some .eq) = b := ⟨_, rfl⟩
      obtain ⟨b2, h2⟩ : ∃ b, (ord x 0 == some .lt) = b := ⟨_, rfl⟩
      obtain ⟨b3, h3⟩ : ∃ b, (ord x G9 == some .gt) = b := ⟨_, rfl⟩
      obtain ⟨b4, h4⟩ : ∃ b, (ord x 0 != some .eq) = b := ⟨_, rfl⟩
      have hbad := okW_not x
      rw [h1, h2, h3] at hbad
      have HB := Lib.hid hbad
      have HX := Lib.hid hx
      have H1 := Lib.hid h1
      have H2 := Lib.hid h2
      have H3 := Lib.hid h3
      have H4 := Lib.hid h4
      have HS := Lib.hid hs
      clear h1 h2 h3 h4 hbad hx hs
      have bad : (b1 || b2 || b3) = true → weighR l = false := fun e => by
        have := HB.out
        rw [e] at this
        exact weigh_bad HX.out (by simpa using this.symm)
      have good : (b1 || b2 || b3) = false → Hid ((l.take (j + 1)).all okW = true) ∧ Hid ((l.take (j + 1)).any pos = (s || b4)) := fun e => by
        have := HB.out
        rw [e] at this
        have hok : okW x = true := by simpa using this.symm
        refine ⟨Lib.hid (all_take HX.out HA.out hok), Lib.hid ?_⟩
        rw [any_take HX.out, HS.out, ← pos_ok hok, H4.out]
      cases b1
      · cases b2
        · cases b3
          · obtain ⟨g1, g2⟩ := good rfl
            clear bad good
            cases s <;> cases b4
            all_goals
              go_wp2_with (first
                | go_big_skip
                | ((with_reducible refine at_load ?_); refine wpu_loadC (k := j) (hl _ G) HF.out rfl (by kernel_rfl) rfl ?_; go_frame)
                | ((with_reducible refine at_neq ?_); first | (refine wpu_fneq rfl (by kernel_rfl) rfl rfl H1.out ?_; go_frame) | (refine wpu_fneq rfl (by kernel_rfl) rfl rfl H4.out ?_; go_frame))
                | ((with_reducible refine at_lss ?_); refine wpu_flss rfl (by kernel_rfl) rfl rfl H2.out ?_; go_frame)
                | ((with_reducible refine at_gtr ?_); refine wpu_fgtr rfl (by kernel_rfl) rfl rfl H3.out ?_; go_frame)
                | fail)
              go_roundw
              case rel => exact ⟨j + 1, by go_num, by omega, g1, by rw [g2.out]; rfl, G⟩
              case measure => simp [intOf] <;> omega
          · have e := bad rfl
            go_wp2_with (first
              | go_big_skip
              | ((with_reducible refine at_load ?_); refine wpu_loadC (k := j) (hl _ G) HF.out rfl (by kernel_rfl) rfl ?_; go_frame)
              | ((with_reducible refine at_neq ?_); first | (refine wpu_fneq rfl (by kernel_rfl) rfl rfl H1.out ?_; go_frame) | (refine wpu_fneq rfl (by kernel_rfl) rfl rfl H4.out ?_; go_frame))
              | ((with_reducible refine at_lss ?_); refine wpu_flss rfl (by kernel_rfl) rfl rfl H2.out ?_; go_frame)
              | ((with_reducible refine at_gtr ?_); refine wpu_fgtr rfl (by kernel_rfl) rfl rfl H3.out ?_; go_frame)
              | fail)
            go_ret
            exact ⟨by rw [e]; rfl, G⟩
        · have e := bad rfl
          go_wp2_with (first
            | go_big_skip
            | ((with_reducible refine at_load ?_); refine wpu_loadC (k := j) (hl _ G) HF.out rfl (by kernel_rfl) rfl ?_; go_frame)
            | ((with_reducible refine at_neq ?_); first | (refine wpu_fneq rfl (by kernel_rfl) rfl rfl H1.out ?_; go_frame) | (refine wpu_fneq rfl (by kernel_rfl) rfl rfl H4.out ?_; go_frame))
            | ((with_reducible refine at_lss ?_); refine wpu_flss rfl (by kernel_rfl) rfl rfl H2.out ?_; go_frame)
            | ((with_reducible refine at_gtr ?_); refine wpu_fgtr rfl (by kernel_rfl) rfl rfl H3.out ?_; go_frame)
            | fail)
          go_ret
          exact ⟨by rw [e]; rfl, G⟩
      · have e := bad rfl
        go_wp2_with (first
          | go_big_skip
          | ((with_reducible refine at_load ?_); refine wpu_loadC (k := j) (hl _ G) HF.out rfl (by kernel_rfl) rfl ?_; go_frame)
          | ((with_reducible refine at_neq ?_); first | (refine wpu_fneq rfl (by kernel_rfl) rfl rfl H1.out ?_; go_frame) | (refine wpu_fneq rfl (by kernel_rfl) rfl rfl H4.out ?_; go_frame))
          | ((with_reducible refine at_lss ?_); refine wpu_flss rfl (by kernel_rfl) rfl rfl H2.out ?_; go_frame)
          | ((with_reducible refine at_gtr ?_); refine wpu_fgtr rfl (by kernel_rfl) rfl rfl H3.out ?_; go_frame)
          | fail)
        go_ret
        exact ⟨by rw [e]; rfl, G⟩
    · obtain rfl : j = l.length := by omega
      have e : weighR l = (s && decide (l.length ≤ 64)) := by
        have h1 := HA.out
        rw [List.take_length] at h1 hs
        unfold weighR
        rw [h1, hs]
        have : s = true → 1 ≤ l.length := fun e => by
          rw [e] at hs
          cases l with
          | nil => simp at hs
          | cons a l => simp
        cases s
        · simp
        · simp [this rfl]
      cases s
      · go_wp2_with (first | go_big_skip | fail)
        go_ret
        exact ⟨by rw [e]; rfl, G⟩
      · by_cases h64 : l.length ≤ 64
        · have y1 : decide ((l.length : Int) ≤ 64) = true := by simp; omega
          have y2 : decide (l.length ≤ 64) = true := by simp; omega
          rw [y2] at e
          go_wp2_with (first | go_big_skip | ((with_reducible refine at_leq ?_); refine wpu_leq rfl (by kernel_rfl) rfl rfl (by assumption) ?_; go_frame) | fail)
          go_ret
          exact ⟨by rw [e]; rfl, G⟩
        · have y1 : decide ((l.length : Int) ≤ 64) = false := by simp; omega
          have y2 : decide (l.length ≤ 64) = false := by simp; omega
          rw [y2] at e
          go_wp2_with (first | go_big_skip | ((with_reducible refine at_leq ?_); refine wpu_leq rfl (by kernel_rfl) rfl rfl (by assumption) ?_; go_frame) | fail)
          go_ret
          exact ⟨by rw [e]; rfl, G⟩
end Go.Proofs.YtjcpfldobiekbaaDoor

namespace Go.Proofs.YtjcpfldobiekbaaDoor
open Go.RowKit Go.Sl Go.ChangeShapes Go.Fl

theorem weigh_short {l : List Nat} (h : l.length < 1 ∨ 64 < l.length) : weighR l = false := by
  unfold weighR
  rcases h with h | h
  · have : decide (1 ≤ l.length) = false := decide_eq_false (by omega)
    rw [this]; rfl
  · have : decide (l.length ≤ 64) = false := decide_eq_false (by omega)
    rw [this]; simp

set_option maxHeartbeats 8000000 in
set_option maxRecDepth 100000 in
theorem weighRefC {B w : World} {R : Assn} {l : List Nat} {v : Value} (h : Own B R w) (hl : ∀ w, Own B R w → rd w 1 v l.length (flts l)) :
    Calls Tryd.prog 67 #[v] w fun e w' => e = .returned (.bool (weighR l)) ∧ Own B R w' := by
  obtain ⟨ao, ac, rfl, i1, i2, -⟩ := id (hl w h)
  unfold maxLen at i2
  by_cases k1 : l.length < 1
  · have e := weigh_short (.inl k1)
    have y1 : decide ((l.length : Int) < 1) = true := by simp; omega
    go_enter Tryd.func67, Tryd.ntmps67
    go_wp2_with (first | go_big_skip | ((with_reducible refine at_lss ?_); refine wpu_lss rfl (by kernel_rfl) rfl rfl (by assumption) ?_; go_frame) | fail)
    go_ret
    exact ⟨by rw [e]; rfl, h⟩
  have y1 : decide ((l.length : Int) < 1) = false := by simp; omega
  by_cases k2 : 64 < l.length
  · have e := weigh_short (.inr k2)
    have y2 : decide ((l.length : Int) > 64) = true := by simp; omega
    go_enter Tryd.func67, Tryd.ntmps67
    go_wp2_with (first | go_big_skip | ((with_reducible refine at_lss ?_); refine wpu_lss rfl (by kernel_rfl) rfl rfl (by assumption) ?_; go_frame) | ((with_reducible refine at_gtr ?_); refine wpu_gtr rfl (by kernel_rfl) rfl rfl (by assumption) ?_; go_frame) | fail)
    go_ret
    exact ⟨by rw [e]; rfl, h⟩
  have y2 : decide ((l.length : Int) > 64) = false := by simp; omega
  go_enter Tryd.func67, Tryd.ntmps67
  go_wp2_with (first | go_big_skip | ((with_reducible refine at_lss ?_); refine wpu_lss rfl (by kernel_rfl) rfl rfl (by assumption) ?_; go_frame) | ((with_reducible refine at_gtr ?_); refine wpu_gtr rfl (by kernel_rfl) rfl rfl (by assumption) ?_; go_frame) | fail)
  clear y1 y2
  go_loopw [3, 4] (fun s i wr => ∃ j : Nat, i = .int .i64 j ∧ j ≤ l.length ∧ Hid ((l.take j).all okW = true) ∧ s = .bool ((l.take j).any pos) ∧ Own B R wr) (fun _ i _ => l.length - (intOf i).toNat)
  case atStart => exact ⟨0, rfl, Nat.zero_le _, Lib.hid (by simp), by simp, h⟩
  case round =>
    clear h
    obtain ⟨j, rfl, hj, HA, rfl, G⟩ := hrel
    obtain ⟨s, hs⟩ : ∃ s, (l.take j).any pos = s := ⟨_, rfl⟩
    rw [hs]
    by_cases hjn : j < l.length
    · obtain ⟨x, hx⟩ : ∃ x, l[j]? = some x := ⟨l[j], List.getElem?_eq_getElem hjn⟩
      obtain ⟨ad, rfl⟩ := rd_some (hl _ G) (by omega)
      have HF := Lib.hid (flts_at hx)
      obtain ⟨b1, h1⟩ : ∃ b, (ord x 0 == some .gt || ord x 0 == some .eq) = b := ⟨_, rfl⟩
      obtain ⟨b2, h2⟩ : ∃ b, (ord x G9 == some .lt || ord x G9 == some .eq) = b := ⟨_, rfl⟩
      obtain ⟨b3, h3⟩ : ∃ b, (ord x 0 == some .gt) = b := ⟨_, rfl⟩
      have HB : Hid (okW x = (b1 && b2)) := Lib.hid (by unfold okW; rw [h1, h2])
      have HX := Lib.hid hx
      have H1 := Lib.hid h1
      have H2 := Lib.hid h2
      have H3 := Lib.hid h3
      have HS := Lib.hid hs
      clear h1 h2 h3 hx hs
      have bad : (b1 && b2) = false → weighR l = false := fun e => weigh_bad HX.out (by rw [HB.out, e])
      have good : (b1 && b2) = true → Hid ((l.take (j + 1)).all okW = true) ∧ Hid ((l.take (j + 1)).any pos = (s || b3)) := fun e => by
        refine ⟨Lib.hid (all_take HX.out HA.out (by rw [HB.out, e])), Lib.hid ?_⟩
        rw [any_take HX.out, HS.out]
        have := H3.out
        rw [show pos x = b3 from this]
      cases b1
      · have e := bad rfl
        go_wp2_with (first
          | go_big_skip
          | ((with_reducible refine at_load ?_); refine wpu_loadC (k := j) (hl _ G) HF.out rfl (by kernel_rfl) rfl ?_; go_frame)
          | ((with_reducible refine at_geq ?_); refine wpu_fgeq rfl (by kernel_rfl) rfl rfl H1.out ?_; go_frame)
          | ((with_reducible refine at_leq ?_); refine wpu_fleq rfl (by kernel_rfl) rfl rfl H2.out ?_; go_frame)
          | ((with_reducible refine at_gtr ?_); refine wpu_fgtr rfl (by kernel_rfl) rfl rfl H3.out ?_; go_frame)
          | fail)
        go_ret
        exact ⟨by rw [e]; rfl, G⟩
      · cases b2
        · have e := bad rfl
          go_wp2_with (first
            | go_big_skip
            | ((with_reducible refine at_load ?_); refine wpu_loadC (k := j) (hl _ G) HF.out rfl (by kernel_rfl) rfl ?_; go_frame)
            | ((with_reducible refine at_geq ?_); refine wpu_fgeq rfl (by kernel_rfl) rfl rfl H1.out ?_; go_frame)
            | ((with_reducible refine at_leq ?_); refine wpu_fleq rfl (by kernel_rfl) rfl rfl H2.out ?_; go_frame)
            | ((with_reducible refine at_gtr ?_); refine wpu_fgtr rfl (by kernel_rfl) rfl rfl H3.out ?_; go_frame)
            | fail)
          go_ret
          exact ⟨by rw [e]; rfl, G⟩
        · obtain ⟨g1, g2⟩ := good rfl
          clear bad good
          cases s <;> cases b3
          all_goals
            go_wp2_with (first
              | go_big_skip
              | ((with_reducible refine at_load ?_); refine wpu_loadC (k := j) (hl _ G) HF.out rfl (by kernel_rfl) rfl ?_; go_frame)
              | ((with_reducible refine at_geq ?_); refine wpu_fgeq rfl (by kernel_rfl) rfl rfl H1.out ?_; go_frame)
              | ((with_reducible refine at_leq ?_); refine wpu_fleq rfl (by kernel_rfl) rfl rfl H2.out ?_; go_frame)
              | ((with_reducible refine at_gtr ?_); refine wpu_fgtr rfl (by kernel_rfl) rfl rfl H3.out ?_; go_frame)
              | fail)
            go_roundw
            case rel => exact ⟨j + 1, by go_num, by omega, g1, by rw [g2.out]; rfl, G⟩
            case measure => simp [intOf] <;> omega
    · obtain rfl : j = l.length := by omega
      have e : weighR l = s := by
        have h1 := HA.out
        rw [List.take_length] at h1 hs
        unfold weighR
        rw [h1, hs]
        have a1 : decide (1 ≤ l.length) = true := decide_eq_true (by omega)
        have a2 : decide (l.length ≤ 64) = true := decide_eq_true (by omega)
        rw [a1, a2]
        rfl
      clear hs
      go_wp2_with (first | go_big_skip | fail)
      go_ret
      exact ⟨by rw [e]; rfl, G⟩

/-! ### sums -/
def sumsR (l : List Nat) : List Nat := (List.range l.length).map fun i => sumF (l.take (i + 1))
theorem sums_len (l : List Nat) : (sumsR l).length = l.length := by simp [sumsR]
theorem sums_at {l : List Nat} {j : Nat} (h : j < l.length) : (sumsR l)[j]? = some (sumF (l.take (j + 1))) := by simp [sumsR, h]
theorem sum_next {l : List Nat} {j x : Nat} (h : l[j]? = some x) : sumF (l.take (j + 1)) = addF (sumF (l.take j)) x := by
  rw [List.take_add_one, h]
  exact sum_snoc _ _
theorem sum_add {l : List Nat} {j x : Nat} (hw : weighR l = true) (h : l[j]? = some x) : Ieee.double.add (sumF (l.take j)) x = some (sumF (l.take (j + 1))) := by
  unfold weighR at hw
  simp only [Bool.and_eq_true, decide_eq_true_eq] at hw
  obtain ⟨⟨⟨_, h1⟩, h2⟩, _⟩ := hw
  have hj := (List.getElem?_eq_some_iff.1 h).1
  rw [sum_next h]
  rw [List.all_eq_true] at h2
  exact add_sum (by simp; omega) (List.all_eq_true.2 fun y hy => h2 y (List.mem_of_mem_take hy)) (h2 x (List.mem_of_getElem? h))
theorem weigh_len {l : List Nat} (hw : weighR l = true) : 1 ≤ l.length ∧ l.length ≤ 64 := by
  unfold weighR at hw
  simp only [Bool.and_eq_true, decide_eq_true_eq] at hw
  exact ⟨hw.1.1.1, hw.1.1.2⟩

set_option maxHeartbeats 8000000 in
set_option maxRecDepth 100000 in
theorem sumsC {B w : World} {R : Assn} {l : List Nat} {v : Value} (hw : weighR l = true) (h : Own B R w) (hl : ∀ w, Own B R w → rd w 1 v l.length (flts l)) :
    Calls Tryd.prog 44 #[v] w fun e w' => ∃ v', e = .returned v' ∧ Own B (sl 1 v' l.length (flts (sumsR l)) * R) w' := by
  obtain ⟨ao, ac, rfl, i1, i2, -⟩ := id (hl w h)
  unfold maxLen at i2
  have hl64 := (weigh_len hw).2
  have HW := Lib.hid hw
  clear hw
  go_enter Tryd.func44, Tryd.ntmps44
  go_wp2_with (first
    | ((with_reducible refine at_make ?_); refine wpu_makeN h rfl rfl rfl rfl (by omega) (by omega) ?_; clear h; intro v w xs hx G; go_frame)
    | fail)
  rw [Nat.mul_one] at hx
  obtain ⟨bo, bc, rfl, b1, b2⟩ := G.hdr v
  unfold maxLen at b2
  go_loopw [4, 5, 6, 12] (fun s _ _ i wr => ∃ (j : Nat) (ys : List Value), i = .int .i64 j ∧ j ≤ l.length ∧ s = .float .f64 (sumF (l.take j)) ∧ Hid (ys.length = l.length) ∧ Hid (ys.take j = flts ((sumsR l).take j)) ∧ Own B (sl 1 (.slice bo l.length bc) l.length ys * R) wr) (fun _ _ _ i _ => l.length - (intOf i).toNat)
  case atStart => exact ⟨0, xs, rfl, Nat.zero_le _, rfl, Lib.hid hx, Lib.hid rfl, G⟩
  case round =>
    clear G hx
    obtain ⟨j, ys, rfl, hj, rfl, HY, HT, G⟩ := hrel
    by_cases hjn : j < l.length
    · obtain ⟨c, hc⟩ : ∃ c, l[j]? = some c := ⟨l[j], List.getElem?_eq_getElem hjn⟩
      obtain ⟨ad, rfl⟩ := rd_some (hl _ G.right) (by omega)
      obtain ⟨bd, rfl⟩ := rd_some (own_rd G) (by omega)
      have HF := Lib.hid (flts_at hc)
      have HS := Lib.hid (sum_add HW.out hc)
      have HN : Hid ((ys.set j (.float .f64 (sumF (l.take (j + 1))))).take (j + 1) = flts ((sumsR l).take (j + 1))) := Lib.hid (by
        rw [set_first HT.out (by rw [HY.out]; exact hjn), List.take_add_one (l := sumsR l), sums_at hjn]
        simp [flts])
      clear hc
      go_wp2_with (first
        | ((with_reducible refine at_load ?_); refine wpu_loadC (k := j) (hl _ (G.sub R)) HF.out rfl (by kernel_rfl) rfl ?_; go_frame)
        | ((with_reducible refine at_add ?_); refine wpu_fadd rfl (by kernel_rfl) rfl rfl HS.out ?_; go_frame)
        | ((with_reducible refine at_store ?_); refine wpu_store1 (k := j) (cap := bc) G rfl rfl rfl rfl rfl hjn ?_; clear G; intro w G; go_frame)
        | fail)
      go_roundw
      case rel => exact ⟨j + 1, _, by go_num, by omega, rfl, Lib.hid (by rw [List.length_set]; exact HY.out), HN, G⟩
      case measure => simp [intOf] <;> omega
    · go_wp2_with fail
      go_ret
      refine ⟨_, rfl, ?_⟩
      have e : ys = flts (sumsR l) := by
        have := HT.out
        rw [List.take_of_length_le (by rw [HY.out]; omega), List.take_of_length_le (by rw [sums_len]; omega)] at this
        exact this
      rw [← e]
      exact G
end Go.Proofs.YtjcpfldobiekbaaDoor

namespace Go.Proofs.YtjcpfldobiekbaaDoor
open Go.RowKit Go.Sl Go.ChangeShapes Go.Fl

theorem pick_step {x : Nat} {l : List Nat} {j c last : Nat} (h : l[j]? = some c) :
    pickL x (sumF (l.take j)) j last (l.drop j) = if over (sumF (l.take (j + 1))) x then j else pickL x (sumF (l.take (j + 1))) (j + 1) (if pos c then j else last) (l.drop (j + 1)) := by
  have e : l.drop j = c :: l.drop (j + 1) := by
    have hj := (List.getElem?_eq_some_iff.1 h)
    obtain ⟨hj1, hj2⟩ := hj
    rw [← hj2, List.getElem_cons_drop]
  rw [e, sum_next h]
  rfl
theorem pick_end {x : Nat} {l : List Nat} {last : Nat} : pickL x (sumF (l.take l.length)) l.length last (l.drop l.length) = last := by
  rw [List.drop_length]
  rfl
theorem sums_last {l : List Nat} (h : 1 ≤ l.length) : (sumsR l)[l.length - 1]? = some (sumF l) := by
  rw [sums_at (by omega), show l.length - 1 + 1 = l.length by omega, List.take_length]

set_option maxHeartbeats 8000000 in
set_option maxRecDepth 100000 in
theorem pickAtC {B w : World} {R : Assn} {l : List Nat} {v u : Value} {d : Nat} (hd : d < 18446744073709551616) (hw : weighR l = true) (h : Own B R w) (hl : ∀ w, Own B R w → rd w 1 v l.length (flts l)) (hs : ∀ w, Own B R w → rd w 1 u l.length (flts (sumsR l))) {D : Int} (hD : D = ((d / 2048 : Nat) : Int)) :
    Calls Tryd.prog 43 #[v, u, .int .u64 D] w fun e w' => e = .returned (.int .i64 (pickR l d)) ∧ Own B R w' := by
  subst hD
  obtain ⟨ao, ac, rfl, i1, i2, -⟩ := id (hl w h)
  obtain ⟨so, sc, rfl, s1, s2, -⟩ := id (hs w h)
  unfold maxLen at i2 s2
  have hl64 := weigh_len hw
  obtain ⟨q, Q1, Q2, -⟩ := place_run hd hw
  obtain ⟨x, hx⟩ : ∃ x, placeF d (sumF l) = x := ⟨_, rfl⟩
  have HP : Hid (pickR l d = pickL x (sumF (l.take 0)) 0 0 (l.drop 0)) := Lib.hid (by unfold pickR; rw [hx]; rfl)
  rw [hx] at Q2
  obtain ⟨ad, rfl⟩ := rd_some (hl w h) (by omega)
  obtain ⟨sd, rfl⟩ := rd_some (hs w h) (by omega)
  obtain ⟨m, hm⟩ : ∃ m : Nat, l.length = m + 1 := ⟨l.length - 1, by omega⟩
  have HF0 := Lib.hid (flts_at (sums_last hl64.1))
  rw [show l.length - 1 = m by omega] at HF0
  have hll : (l.length : Int) - 1 = (m : Int) := by omega
  have hml : m < l.length := by omega
  clear hm
  have Q1 := Lib.hid Q1
  have Q2 := Lib.hid Q2
  clear hx hw
  go_enter Tryd.func43, Tryd.ntmps43
  go_wp2_with (first
    | ((with_reducible refine at_convert ?_); refine wpu_float rfl rfl rfl (by kernel_rfl) Tryd.underlying36 ?_; go_frame)
    | ((with_reducible refine at_quo ?_); refine wpu_fquo rfl rfl rfl rfl Q1.out ?_; go_frame)
    | ((with_reducible refine at_mul ?_); refine wpu_fmul rfl rfl rfl rfl Q2.out ?_; go_frame)
    | ((with_reducible refine at_load ?_); refine wpu_loadC (k := m) (hs _ h) HF0.out rfl rfl rfl ?_; go_frame)
    | fail)
  clear Q1 Q2 HF0 hll hml
  go_loopw [8, 9, 10, 23] (fun last _ _ i wr => ∃ j la : Nat, i = .int .i64 j ∧ last = .int .i64 la ∧ j ≤ l.length ∧ Hid (pickR l d = pickL x (sumF (l.take j)) j la (l.drop j)) ∧ Own B R wr) (fun _ _ _ i _ => l.length - (intOf i).toNat)
  case atStart => exact ⟨0, 0, rfl, rfl, Nat.zero_le _, HP, h⟩
  case round =>
    clear h HP
    obtain ⟨j, la, rfl, rfl, hj, HP, G⟩ := hrel
    by_cases hjn : j < l.length
    · obtain ⟨c, hc⟩ : ∃ c, l[j]? = some c := ⟨l[j], List.getElem?_eq_getElem hjn⟩
      have HF := Lib.hid (flts_at hc)
      have HS := Lib.hid (flts_at (sums_at hjn))
      have HE := Lib.hid (pick_step (x := x) (last := la) hc)
      obtain ⟨b, hb⟩ : ∃ b, over (sumF (l.take (j + 1))) x = b := ⟨_, rfl⟩
      obtain ⟨z, hz⟩ : ∃ z, pos c = z := ⟨_, rfl⟩
      have HB := Lib.hid hb
      have HZ := Lib.hid hz
      obtain ⟨s, hs'⟩ : ∃ s, sumF (l.take (j + 1)) = s := ⟨_, rfl⟩
      rw [hs'] at HS HB
      have HSS := Lib.hid hs'
      clear hc hb hz hs'
      cases b
      · cases z
        all_goals
          go_wp2_with (first
            | ((with_reducible refine at_load ?_); first | (refine wpu_loadC (k := j) (hs _ G) HS.out rfl rfl rfl ?_; go_frame) | (refine wpu_loadC (k := j) (hl _ G) HF.out rfl rfl rfl ?_; go_frame))
            | ((with_reducible refine at_gtr ?_); first | (refine wpu_fgtr (p := s) rfl rfl rfl rfl HB.out ?_; go_frame) | (refine wpu_fgtr (p := c) rfl rfl rfl rfl HZ.out ?_; go_frame))
            | fail)
          go_roundw
          case rel =>
            refine ⟨j + 1, _, by go_num, rfl, by omega, Lib.hid ?_, G⟩
            rw [HP.out, HE.out, HSS.out, HB.out, HZ.out]
            rfl
          case measure => simp [intOf] <;> omega
      · go_wp2_with (first
          | ((with_reducible refine at_load ?_); first | (refine wpu_loadC (k := j) (hs _ G) HS.out rfl rfl rfl ?_; go_frame) | (refine wpu_loadC (k := j) (hl _ G) HF.out rfl rfl rfl ?_; go_frame))
          | ((with_reducible refine at_gtr ?_); first | (refine wpu_fgtr (p := s) rfl rfl rfl rfl HB.out ?_; go_frame) | (refine wpu_fgtr (p := c) rfl rfl rfl rfl HZ.out ?_; go_frame))
          | fail)
        go_ret
        refine ⟨?_, G⟩
        rw [HP.out, HE.out, HSS.out, HB.out]
        rfl
    · go_wp2_with fail
      go_ret
      obtain rfl : j = l.length := by omega
      refine ⟨?_, G⟩
      rw [HP.out, pick_end]
      rfl

set_option maxHeartbeats 8000000 in
set_option maxRecDepth 100000 in
theorem pickC {B w : World} {R : Assn} {l : List Nat} {v : Value} {d : Nat} (hd : d < 18446744073709551616) (hw : weighR l = true) (h : Own B R w) (hl : ∀ w, Own B R w → rd w 1 v l.length (flts l)) :
    Calls Tryd.prog 28 #[v, .int .u64 (d : Int)] w fun e w' => e = .returned (.int .i64 (pickR l d)) ∧ Own B R w' := by
  have HW := Lib.hid hw
  go_enter Tryd.func28, Tryd.ntmps28
  go_wp2_with fail
  refine Calls.mono (weighC h hl) ?_
  clear h; rintro e w ⟨rfl, G⟩
  rw [HW.out]
  go_wp2_with fail
  refine Calls.mono (sumsC HW.out G hl) ?_
  clear G; rintro e w ⟨u, rfl, G⟩
  go_wp2_with fail
  refine Calls.mono (pickAtC hd HW.out G (fun w h => hl w h.right) (fun w h => own_rd h) (by omega)) ?_
  clear G; rintro e w ⟨rfl, G⟩
  go_wp2_with fail
  go_ret
  exact ⟨rfl, G.right⟩

end Go.Proofs.YtjcpfldobiekbaaDoor
