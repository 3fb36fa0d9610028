

/-
  FieldsKinds: nothing is of two kinds.
-/
import Derived.Test.YtikngjdljdofkaaDoorFmEnd
import Derived.Test.YtikngjdljdofkaaDoorLawD
import Derived.Test.YtikngjdljdofkaaDoorTie
import Derived.Test.YtikngjdljdofkaaDoorCards
import Derived.SevenTiedAt
namespace Go.Proofs.YtikngjdljdofkaaDoor.fieldsKinds
open Go.RowKit Go.Sl Go.ChangeShapes

def xy : Fd := ([120], [121], false)
def xm : List Fd := [xy, (nMethod, [71, 69, 84], false)]
def xs2 : List Fd := [xy, (nStatus, [50, 48, 48], false)]
theorem no1 (L : List Fd) : requestR (L ++ xm) = none := by
  unfold requestR xm
  rw [message_behind rfl rfl]
theorem no2 (L : List Fd) : responseR (L ++ xs2) = none := by
  unfold responseR xs2
  rw [message_behind rfl rfl]
theorem nov : msgV none = .tuple #[.agg #[str [], str [], str [], str [], .int .i64 0, .int .i64 0], .bool false] := rfl
theorem len2 {L : List Fd} {a b : Fd} (h : L.length ≤ 200) (hs : ∀ f ∈ L, f.1.length ≤ 2000 ∧ f.2.1.length ≤ 2000) (ha : a.1.length ≤ 2000 ∧ a.2.1.length ≤ 2000) (hb : b.1.length ≤ 2000 ∧ b.2.1.length ≤ 2000) :
    (∀ f ∈ L ++ [a, b], f.1.length ≤ 1000000 ∧ f.2.1.length ≤ 1000000) ∧ (L ++ [a, b]).length ≤ 1000 := by
  refine ⟨fun f hf => ?_, by simp; omega⟩
  rcases List.mem_append.1 hf with hf | hf
  · have := hs f hf; omega
  · simp at hf
    rcases hf with rfl | rfl <;> omega
def cnt : List Bool → Nat
  | [] => 0
  | b :: l => (if b then 1 else 0) + cnt l
theorem cnt_app (l m : List Bool) : cnt (l ++ m) = cnt l + cnt m := by induction l with | nil => simp [cnt] | cons b l ih => simp [cnt, ih]; omega
theorem cnt_take {l : List Bool} {j : Nat} {q : Bool} (h : l[j]? = some q) : cnt (l.take (j + 1)) = cnt (l.take j) + (if q then 1 else 0) := by
  rw [List.take_add_one, h, cnt_app]
  simp [cnt]
theorem rd_len {w : World} {sz n n' : Nat} {v : Value} {xs : List Value} (e : n' = n) (h : rd w sz v n xs) : rd w sz v n' xs := e ▸ h
theorem buildB (a b c : Bool) (w : World) : (Instr.buildSlice 34 3 #[(0, .bool a), (1, .bool b), (2, .bool c)]).run Tryd.prog w = .ok (.slice (some ⟨w.heap.size, 0, none⟩) 3 3) (w.alloc (.cells [Value.bool a, .bool b, .bool c].toArray 4)) := by kernel_rfl


set_option maxHeartbeats 16000000 in
set_option maxRecDepth 100000 in
theorem kindsW {w0 : World} {v0 : Value} {L0 : List Fd} (h0 : rd w0 3 v0 L0.length (fds L0)) (hv0 : ∀ f ∈ L0, f.1.length ≤ 9223372036854775807 ∧ f.2.1.length ≤ 9223372036854775807) :
    Calls Tryd.prog 4 #[v0] w0 fun e w' => e = .returned (.bool true) ∧ Below w0.heap.size w0 w' := by
  have G := own_begin w0
  go_enter Tryd.func4, Tryd.ntmps4
  go_wp2_with fail
  refine Calls.mono (shownFm G) ?_
  clear G; rintro e w ⟨rfl, G⟩
  go_wp2_with fail
  refine Calls.mono (fewC (L := L0) (n := 200) (by decide) G (fun w h => h0.old h) hv0) ?_
  clear G; rintro e w ⟨v, rfl, G⟩
  have s1 : ∀ f ∈ fewR L0 200, f.1.length ≤ 2000 ∧ f.2.1.length ≤ 2000 := fewR_small L0 200
  have s2 : (fewR L0 200).length ≤ 200 := by rw [fewR_len]; omega
  generalize fewR L0 200 = L at G s1 s2
  clear h0 hv0
  have r1 : ∀ f ∈ L, f.1.length ≤ 1000000 ∧ f.2.1.length ≤ 1000000 := fun f hf => by have := s1 f hf; omega
  have hl : ∀ {X : Assn} [Sub (sl 3 v L.length (fds L)) X] (w : World), Own w0 X w → rd w 3 v L.length (fds L) := fun w h => own_rd ((h.sub (sl 3 v L.length (fds L))).eq (star_emp _).symm)
  obtain ⟨m, b, hm, hb, hmb⟩ := msgV_eq (requestR L)
  obtain ⟨n, c, hn, hc, hnc⟩ := msgV_eq (responseR L)
  obtain ⟨t, ht⟩ : ∃ t, trailersR L = t := ⟨_, rfl⟩
  have HM := Lib.hid hm
  have HN := Lib.hid hn
  have HT := Lib.hid ht
  have hbc : b = true → c = true → False := fun e1 e2 => kinds_ab (hb.trans e1) (hc.trans e2)
  have hbt : b = true → t = true → False := fun e1 e2 => kinds_ac (hb.trans e1) (ht.trans e2)
  have hct : c = true → t = true → False := fun e1 e2 => kinds_bc (hc.trans e1) (ht.trans e2)
  clear hm hb hmb hn hc hnc ht
  go_wp2_with fail
  refine Calls.mono (requestC (L := L) r1 (by omega) G hl) ?_
  clear G; rintro e w ⟨rfl, G⟩
  rw [HM.out]
  go_wp2_with (first
    | (go_at_call 14; refine hold ?_)
    | ((with_reducible refine at_alloc ?_); refine wpu_new G ?_; clear G; intro w G)
    | ((with_reducible refine at_drew ?_); refine wpu_drew G ?_; clear G; intro w G)
    | ((with_reducible refine at_load ?_); first
      | (refine wpu_load G rfl rfl rfl rfl ?_; go_frame)
      | (refine wpu_loadB G rfl rfl rfl (by rfl) ?_; go_frame)
      | (refine wpu_loadS G rfl rfl rfl (by rfl) ?_; simp only [List.drop_succ_cons, List.drop_zero, List.take_succ_cons, List.take_zero]; go_frame))
    | ((with_reducible refine at_store ?_); first
      | (refine wpu_store G rfl rfl rfl rfl (by first | rfl | assumption | simp [*]) rfl ?_; clear G; intro w G; go_frame)
      | (refine wpu_storeB G rfl rfl rfl rfl (by rfl) (by rfl) (by first | rfl | assumption | simp [*]) ?_; clear G; intro w G; go_frame)
      | (refine wpu_storeS G rfl rfl rfl rfl (by rfl) (by rfl) (by first | rfl | assumption | simp [*]) ?_; clear G; intro w G; go_frame))
    | ((with_reducible refine at_convert ?_); refine wpu_str G rfl rfl rfl rfl ?_; go_frame)
    | ((with_reducible refine at_slice ?_); first
      | (refine wpu_sliceLo rfl rfl rfl rfl (by first | rfl | omega) (by omega) (by omega) ?_; go_frame)
      | (refine wpu_sliceLH rfl rfl rfl rfl rfl (by first | rfl | omega) (by first | rfl | omega) (by omega) (by omega) ?_; go_frame))
    | fail)
  unfold Held
  refine Calls.mono (responseC (L := L) r1 (by omega) G hl) ?_
  clear G; rintro e w ⟨rfl, G⟩
  rw [HN.out]
  go_wp2_with (first
    | (go_at_call 15; refine hold ?_)
    | ((with_reducible refine at_alloc ?_); refine wpu_new G ?_; clear G; intro w G)
    | ((with_reducible refine at_drew ?_); refine wpu_drew G ?_; clear G; intro w G)
    | ((with_reducible refine at_load ?_); first
      | (refine wpu_load G rfl rfl rfl rfl ?_; go_frame)
      | (refine wpu_loadB G rfl rfl rfl (by rfl) ?_; go_frame)
      | (refine wpu_loadS G rfl rfl rfl (by rfl) ?_; simp only [List.drop_succ_cons, List.drop_zero, List.take_succ_cons, List.take_zero]; go_frame))
    | ((with_reducible refine at_store ?_); first
      | (refine wpu_store G rfl rfl rfl rfl (by first | rfl | assumption | simp [*]) rfl ?_; clear G; intro w G; go_frame)
      | (refine wpu_storeB G rfl rfl rfl rfl (by rfl) (by rfl) (by first | rfl | assumption | simp [*]) ?_; clear G; intro w G; go_frame)
      | (refine wpu_storeS G rfl rfl rfl rfl (by rfl) (by rfl) (by first | rfl | assumption | simp [*]) ?_; clear G; intro w G; go_frame))
    | ((with_reducible refine at_convert ?_); refine wpu_str G rfl rfl rfl rfl ?_; go_frame)
    | ((with_reducible refine at_slice ?_); first
      | (refine wpu_sliceLo rfl rfl rfl rfl (by first | rfl | omega) (by omega) (by omega) ?_; go_frame)
      | (refine wpu_sliceLH rfl rfl rfl rfl rfl (by first | rfl | omega) (by first | rfl | omega) (by omega) (by omega) ?_; go_frame))
    | fail)
  unfold Held
  refine Calls.mono (trailersC (L := L) r1 (by omega) G hl) ?_
  clear G; rintro e w ⟨rfl, G⟩
  rw [HT.out]
  go_wp2_with (first
    | ((with_reducible refine at_append ?_); refine wpu_append0 G rfl rfl rfl rfl (hl _ G) (fds_one _) (by unfold maxLen; omega) (by omega) ?_; clear G; intro v w G; refine hold ?_)
    | ((with_reducible refine at_alloc ?_); refine wpu_new G ?_; clear G; intro w G)
    | ((with_reducible refine at_drew ?_); refine wpu_drew G ?_; clear G; intro w G)
    | ((with_reducible refine at_load ?_); first
      | (refine wpu_load G rfl rfl rfl rfl ?_; go_frame)
      | (refine wpu_loadB G rfl rfl rfl (by rfl) ?_; go_frame)
      | (refine wpu_loadS G rfl rfl rfl (by rfl) ?_; simp only [List.drop_succ_cons, List.drop_zero, List.take_succ_cons, List.take_zero]; go_frame))
    | ((with_reducible refine at_store ?_); first
      | (refine wpu_store G rfl rfl rfl rfl (by first | rfl | assumption | simp [*]) rfl ?_; clear G; intro w G; go_frame)
      | (refine wpu_storeB G rfl rfl rfl rfl (by rfl) (by rfl) (by first | rfl | assumption | simp [*]) ?_; clear G; intro w G; go_frame)
      | (refine wpu_storeS G rfl rfl rfl rfl (by rfl) (by rfl) (by first | rfl | assumption | simp [*]) ?_; clear G; intro w G; go_frame))
    | ((with_reducible refine at_convert ?_); refine wpu_str G rfl rfl rfl rfl ?_; go_frame)
    | ((with_reducible refine at_slice ?_); first
      | (refine wpu_sliceLo rfl rfl rfl rfl (by first | rfl | omega) (by omega) (by omega) ?_; go_frame)
      | (refine wpu_sliceLH rfl rfl rfl rfl rfl (by first | rfl | omega) (by first | rfl | omega) (by omega) (by omega) ?_; go_frame))
    | fail)
  unfold Held
  obtain ⟨co, cc, rfl, c1, c2⟩ := G.hdr v
  unfold maxLen at c2
  try go_frame
  go_wp2_with (first
    | ((with_reducible refine at_build ?_); refine hold ?_)
    | ((with_reducible refine at_alloc ?_); refine wpu_new G ?_; clear G; intro w G)
    | ((with_reducible refine at_drew ?_); refine wpu_drew G ?_; clear G; intro w G)
    | ((with_reducible refine at_load ?_); first
      | (refine wpu_load G rfl rfl rfl rfl ?_; go_frame)
      | (refine wpu_loadB G rfl rfl rfl (by rfl) ?_; go_frame)
      | (refine wpu_loadS G rfl rfl rfl (by rfl) ?_; simp only [List.drop_succ_cons, List.drop_zero, List.take_succ_cons, List.take_zero]; go_frame))
    | ((with_reducible refine at_store ?_); first
      | (refine wpu_store G rfl rfl rfl rfl (by first | rfl | assumption | simp [*]) rfl ?_; clear G; intro w G; go_frame)
      | (refine wpu_storeB G rfl rfl rfl rfl (by rfl) (by rfl) (by first | rfl | assumption | simp [*]) ?_; clear G; intro w G; go_frame)
      | (refine wpu_storeS G rfl rfl rfl rfl (by rfl) (by rfl) (by first | rfl | assumption | simp [*]) ?_; clear G; intro w G; go_frame))
    | ((with_reducible refine at_convert ?_); refine wpu_str G rfl rfl rfl rfl ?_; go_frame)
    | ((with_reducible refine at_slice ?_); first
      | (refine wpu_sliceLo rfl rfl rfl rfl (by first | rfl | omega) (by omega) (by omega) ?_; go_frame)
      | (refine wpu_sliceLH rfl rfl rfl rfl rfl (by first | rfl | omega) (by first | rfl | omega) (by omega) (by omega) ?_; go_frame))
    | fail)
  unfold Held
  refine wpu_val rfl (exec_buildT _ rfl (by kernel_rfl) (bld4 [120] [121] nMethod [71, 69, 84] _)) ?_
  go_frame
  have G1 := own_new_sl (n := 4) (sz := 1) G (pairs xm) 9 rfl (by decide)
  clear G
  go_wp2_with fail
  refine Calls.mono (ofC (F := xm) (by first | rfl | decide) (by decide) G1 (fun w h => own_rd h)) ?_
  clear G1; rintro e w ⟨v, rfl, G⟩
  change Own _ (sl 3 v 2 (fds xm) * _) w at G
  obtain ⟨xo, xc, rfl, x1, x2⟩ := G.hdr v
  unfold maxLen at x2
  go_wp2_with (first
    | ((with_reducible refine at_append ?_); refine wpu_append (v := .slice co L.length cc) G rfl rfl rfl rfl (G.rd (.slice xo 2 xc) _ G) (fds_one _) (by unfold maxLen; omega) (by omega) ?_; clear G; intro v w G; refine hold ?_)
    | fail)
  unfold Held
  rw [fds_app] at G
  obtain ⟨jo, jc, rfl, z1, z2⟩ := G.hdr v
  unfold maxLen at z2
  try go_frame
  obtain ⟨r3, r4⟩ := len2 (a := xy) (b := (nMethod, [71, 69, 84], false)) s2 s1 (by decide) (by decide)
  go_wp2_with fail
  refine Calls.mono (requestC (L := L ++ xm) r3 r4 G (fun w h => rd_len (by simp [xm]) (own_rd h))) ?_
  clear G r3 r4; rintro e w ⟨rfl, G⟩
  rw [no1, nov]
  have G1 := G
  clear G
  have G := G1.sub (sl 3 v L.length (fds L) * emp)
  clear G1
  go_wp2_with (first
    | ((with_reducible refine at_append ?_); refine wpu_append0 G rfl rfl rfl rfl (hl _ G) (fds_one _) (by unfold maxLen; omega) (by omega) ?_; clear G; intro v w G; refine hold ?_)
    | ((with_reducible refine at_alloc ?_); refine wpu_new G ?_; clear G; intro w G)
    | ((with_reducible refine at_drew ?_); refine wpu_drew G ?_; clear G; intro w G)
    | ((with_reducible refine at_load ?_); first
      | (refine wpu_load G rfl rfl rfl rfl ?_; go_frame)
      | (refine wpu_loadB G rfl rfl rfl (by rfl) ?_; go_frame)
      | (refine wpu_loadS G rfl rfl rfl (by rfl) ?_; simp only [List.drop_succ_cons, List.drop_zero, List.take_succ_cons, List.take_zero]; go_frame))
    | ((with_reducible refine at_store ?_); first
      | (refine wpu_store G rfl rfl rfl rfl (by first | rfl | assumption | simp [*]) rfl ?_; clear G; intro w G; go_frame)
      | (refine wpu_storeB G rfl rfl rfl rfl (by rfl) (by rfl) (by first | rfl | assumption | simp [*]) ?_; clear G; intro w G; go_frame)
      | (refine wpu_storeS G rfl rfl rfl rfl (by rfl) (by rfl) (by first | rfl | assumption | simp [*]) ?_; clear G; intro w G; go_frame))
    | ((with_reducible refine at_convert ?_); refine wpu_str G rfl rfl rfl rfl ?_; go_frame)
    | ((with_reducible refine at_slice ?_); first
      | (refine wpu_sliceLo rfl rfl rfl rfl (by first | rfl | omega) (by omega) (by omega) ?_; go_frame)
      | (refine wpu_sliceLH rfl rfl rfl rfl rfl (by first | rfl | omega) (by first | rfl | omega) (by omega) (by omega) ?_; go_frame))
    | fail)
  unfold Held
  obtain ⟨co, cc, rfl, c1, c2⟩ := G.hdr v
  unfold maxLen at c2
  try go_frame
  go_wp2_with (first
    | ((with_reducible refine at_build ?_); refine hold ?_)
    | ((with_reducible refine at_alloc ?_); refine wpu_new G ?_; clear G; intro w G)
    | ((with_reducible refine at_drew ?_); refine wpu_drew G ?_; clear G; intro w G)
    | ((with_reducible refine at_load ?_); first
      | (refine wpu_load G rfl rfl rfl rfl ?_; go_frame)
      | (refine wpu_loadB G rfl rfl rfl (by rfl) ?_; go_frame)
      | (refine wpu_loadS G rfl rfl rfl (by rfl) ?_; simp only [List.drop_succ_cons, List.drop_zero, List.take_succ_cons, List.take_zero]; go_frame))
    | ((with_reducible refine at_store ?_); first
      | (refine wpu_store G rfl rfl rfl rfl (by first | rfl | assumption | simp [*]) rfl ?_; clear G; intro w G; go_frame)
      | (refine wpu_storeB G rfl rfl rfl rfl (by rfl) (by rfl) (by first | rfl | assumption | simp [*]) ?_; clear G; intro w G; go_frame)
      | (refine wpu_storeS G rfl rfl rfl rfl (by rfl) (by rfl) (by first | rfl | assumption | simp [*]) ?_; clear G; intro w G; go_frame))
    | ((with_reducible refine at_convert ?_); refine wpu_str G rfl rfl rfl rfl ?_; go_frame)
    | ((with_reducible refine at_slice ?_); first
      | (refine wpu_sliceLo rfl rfl rfl rfl (by first | rfl | omega) (by omega) (by omega) ?_; go_frame)
      | (refine wpu_sliceLH rfl rfl rfl rfl rfl (by first | rfl | omega) (by first | rfl | omega) (by omega) (by omega) ?_; go_frame))
    | fail)
  unfold Held
  refine wpu_val rfl (exec_buildT _ rfl (by kernel_rfl) (bld4 [120] [121] nStatus [50, 48, 48] _)) ?_
  go_frame
  have G1 := own_new_sl (n := 4) (sz := 1) G (pairs xs2) 9 rfl (by decide)
  clear G
  go_wp2_with fail
  refine Calls.mono (ofC (F := xs2) (by first | rfl | decide) (by decide) G1 (fun w h => own_rd h)) ?_
  clear G1; rintro e w ⟨v, rfl, G⟩
  change Own _ (sl 3 v 2 (fds xs2) * _) w at G
  obtain ⟨xo, xc, rfl, x1, x2⟩ := G.hdr v
  unfold maxLen at x2
  go_wp2_with (first
    | ((with_reducible refine at_append ?_); refine wpu_append (v := .slice co L.length cc) G rfl rfl rfl rfl (G.rd (.slice xo 2 xc) _ G) (fds_one _) (by unfold maxLen; omega) (by omega) ?_; clear G; intro v w G; refine hold ?_)
    | fail)
  unfold Held
  rw [fds_app] at G
  obtain ⟨jo, jc, rfl, z1, z2⟩ := G.hdr v
  unfold maxLen at z2
  try go_frame
  obtain ⟨r3, r4⟩ := len2 (a := xy) (b := (nStatus, [50, 48, 48], false)) s2 s1 (by decide) (by decide)
  go_wp2_with fail
  refine Calls.mono (responseC (L := L ++ xs2) r3 r4 G (fun w h => rd_len (by simp [xs2]) (own_rd h))) ?_
  clear G r3 r4; rintro e w ⟨rfl, G⟩
  rw [no2, nov]
  go_wp2_with (first
    | ((with_reducible refine at_build ?_); refine hold ?_)
    | ((with_reducible refine at_alloc ?_); refine wpu_new G ?_; clear G; intro w G)
    | ((with_reducible refine at_drew ?_); refine wpu_drew G ?_; clear G; intro w G)
    | ((with_reducible refine at_load ?_); first
      | (refine wpu_load G rfl rfl rfl rfl ?_; go_frame)
      | (refine wpu_loadB G rfl rfl rfl (by rfl) ?_; go_frame)
      | (refine wpu_loadS G rfl rfl rfl (by rfl) ?_; simp only [List.drop_succ_cons, List.drop_zero, List.take_succ_cons, List.take_zero]; go_frame))
    | ((with_reducible refine at_store ?_); first
      | (refine wpu_store G rfl rfl rfl rfl (by first | rfl | assumption | simp [*]) rfl ?_; clear G; intro w G; go_frame)
      | (refine wpu_storeB G rfl rfl rfl rfl (by rfl) (by rfl) (by first | rfl | assumption | simp [*]) ?_; clear G; intro w G; go_frame)
      | (refine wpu_storeS G rfl rfl rfl rfl (by rfl) (by rfl) (by first | rfl | assumption | simp [*]) ?_; clear G; intro w G; go_frame))
    | ((with_reducible refine at_convert ?_); refine wpu_str G rfl rfl rfl rfl ?_; go_frame)
    | ((with_reducible refine at_slice ?_); first
      | (refine wpu_sliceLo rfl rfl rfl rfl (by first | rfl | omega) (by omega) (by omega) ?_; go_frame)
      | (refine wpu_sliceLH rfl rfl rfl rfl rfl (by first | rfl | omega) (by first | rfl | omega) (by omega) (by omega) ?_; go_frame))
    | fail)
  unfold Held
  refine wpu_val rfl (exec_buildT _ rfl (by kernel_rfl) (buildB b c t _)) ?_
  have G1 := own_new G [.bool b, .bool c, .bool t] 4
  have G := G1.drop
  clear G1
  generalize w.heap.size = z at G ⊢
  go_frame
  go_wp2_with fail
  go_loopw [13, 15, 56] (fun n _ i wr => ∃ j k : Nat, i = .int .i64 j ∧ n = .int .i64 k ∧ j ≤ 3 ∧ k ≤ j ∧ Hid (k = cnt ([b, c, t].take j)) ∧ Own w0 (blk z [.bool b, .bool c, .bool t]) wr) (fun _ _ i _ => 3 - (intOf i).toNat)
  case atStart => exact ⟨0, 0, rfl, rfl, Nat.zero_le _, Nat.zero_le _, Lib.hid rfl, G⟩
  case round =>
    clear G
    obtain ⟨j, k, rfl, rfl, hj, hk, HK, G⟩ := hrel
    by_cases hjn : j < 3
    · obtain ⟨q, hq⟩ : ∃ q, [b, c, t][j]? = some q := ⟨[b, c, t][j]'hjn, List.getElem?_eq_getElem _⟩
      have HQ : Hid ([Value.bool b, .bool c, .bool t][j]? = some (.bool q)) := Lib.hid (by
        show (List.map Value.bool [b, c, t])[j]? = _
        rw [List.getElem?_map, hq]
        rfl)
      have HC := Lib.hid (cnt_take hq)
      clear hq
      cases q
      · go_wp2_with (first
          | ((with_reducible refine at_load ?_); refine wpu_load (i := j) G rfl rfl rfl HQ.out ?_; go_frame)
          | fail)
        go_roundw
        case rel => exact ⟨j + 1, k, by go_num, rfl, by omega, by omega, Lib.hid (by rw [HC.out, ← HK.out]; rfl), G⟩
        case measure => simp [intOf] <;> omega
      · go_wp2_with (first
          | ((with_reducible refine at_load ?_); refine wpu_load (i := j) G rfl rfl rfl HQ.out ?_; go_frame)
          | fail)
        go_roundw
        case rel => exact ⟨j + 1, k + 1, by go_num, by go_num, by omega, by omega, Lib.hid (by rw [HC.out, ← HK.out]; rfl), G⟩
        case measure => simp [intOf] <;> omega
    · have hk1 : k ≤ 1 := by
        rw [HK.out, List.take_of_length_le (by simp; omega)]
        cases b <;> cases c <;> cases t <;> first | decide | exact (hbc rfl rfl).elim | exact (hbt rfl rfl).elim | exact (hct rfl rfl).elim
      have y1 : decide ((k : Int) ≤ 1) = true := by simp; omega
      have y2 : decide (k ≤ 1) = true := by simp; omega
      clear HK
      go_wp2_with (first
        | ((with_reducible refine at_alloc ?_); refine wpu_new G ?_; clear G; intro w G)
        | ((with_reducible refine at_drew ?_); refine wpu_drew G ?_; clear G; intro w G)
        | go_big_skip
        | ((with_reducible refine at_load ?_); first
          | (refine wpu_load G rfl (by kernel_rfl) rfl rfl ?_; go_frame)
          | (refine wpu_loadB G rfl (by kernel_rfl) rfl (by rfl) ?_; go_frame)
          | (refine wpu_loadS G rfl (by kernel_rfl) rfl (by rfl) ?_; simp only [List.drop_succ_cons, List.drop_zero, List.take_succ_cons, List.take_zero]; go_frame))
        | ((with_reducible refine at_store ?_); first
          | (refine wpu_store G rfl (by kernel_rfl) rfl rfl (by first | rfl | assumption | simp [*]) rfl ?_; clear G; intro w G; go_frame)
          | (refine wpu_storeB G rfl (by kernel_rfl) rfl rfl (by rfl) (by rfl) (by first | rfl | assumption | simp [*]) ?_; clear G; intro w G; go_frame)
          | (refine wpu_storeS G rfl (by kernel_rfl) rfl rfl (by rfl) (by rfl) (by first | rfl | assumption | simp [*]) ?_; clear G; intro w G; go_frame))
        | ((with_reducible refine at_convert ?_); refine wpu_str G rfl (by kernel_rfl) rfl rfl ?_; go_frame)
        | fail)
      go_ret
      exact ⟨rfl, G.below⟩

theorem contract {H : Type} {enc : TypeId × Value → H} {W : World} {vs : List Value} {ds : List (DataW H)}
    (hA : Args enc Tryd.prog W [22] vs ds) (hsz : (DataW.weightsEach Tryd.prog [22] ds).all (· ≤ reachBytes) = true) (hL : laidMetH Tryd.prog Rows.fieldsKindsRow.laid W) :
    Calls Tryd.prog 4 vs.toArray W fun e W' => e = .returned (.bool true) ∧ Below W.heap.size W W' := by
  obtain ⟨v0, _, d0, _, rfl, rfl, h0, hA⟩ := args_cons hA
  obtain ⟨rfl, rfl⟩ := args_nil hA
  obtain ⟨F, hf, kf⟩ := fds_in h0
  exact kindsW hf kf



theorem spec {H : Type} : ∀ ds : List (DataW H), ds.length = 1 → Rows.fieldsKindsSpec.fn H ds = { results := [.lit (.bool true)], args := ds }
  | [_], _ => rfl
  | [], h => by cases h
  | _ :: _ :: _, h => by simp at h
theorem door_met (os : Os) (args : Array Value) : laidMetH Tryd.prog Rows.fieldsKindsRow.laid ((World.setRow (World.doorLaid Tryd.prog 72 os) (Tryd.prog.globalNamed "unicode/utf8.first").get! (Go.Pinned.utf8FirstZ.map fun z : Nat => Value.int .u8 (z : Int)).toArray).forCall (fun _ _ => 0) ⟨#[], args, []⟩).memory :=
  laidMetH_of_parts3 (fuel := 8) (laidMet_of_run' 8 (by kernel_rfl) (by kernel_rfl)) (by kernel_rfl) (by kernel_rfl)
set_option maxRecDepth 100000 in
theorem lifted (os : Os) (started : os.Started) (H : Type) (enc : TypeId × Value → H) :
    ReturnsInHanded {} Tryd.checked os 4 .any (fun w args => (Rows.fieldsKindsSpec.pre enc Tryd.prog Tryd.f4 Rows.fieldsKindsRow.domain false w args ∧ laidMetH Tryd.prog Rows.fieldsKindsRow.laid w) ∧ sizedMet enc Tryd.prog Tryd.f4 (OpenSpec.ofChange Rows.fieldsKindsSpec) false w args)
      (Rows.fieldsKindsSpec.post enc Tryd.prog Tryd.f4 false true false false) :=
  lifted_of_law_laid (C := Tryd.checked) (fn := Tryd.f4) (s := Rows.fieldsKindsSpec) (tb := 4) (by kernel_rfl) started (by kernel_rfl) Tryd.func4
    (ChangeSpec.witness_shaped (enc := enc) (C := Tryd.checked) (os := os) (X := fun w _ => laidMetH Tryd.prog Rows.fieldsKindsRow.laid w) false (World.setRow (World.doorLaid Tryd.prog 72 os) (Tryd.prog.globalNamed "unicode/utf8.first").get! (Go.Pinned.utf8FirstZ.map fun z : Nat => Value.int .u8 (z : Int)).toArray) #[.slice none 0 0] 8 rfl (World.shaped_of_RefB (by kernel_rfl) (by kernel_rfl)) (by kernel_rfl) (by kernel_rfl) (by kernel_rfl) (door_met os _))
    rfl spec (by kernel_rfl) Tryd.underlying4 (by kernel_rfl) (by kernel_rfl) (fun _ _ _ h1 h2 h3 => contract h1 h2 h3)

theorem holds : Rows.FieldsKindsSaid :=
  OpenClaim.holds_of_wide 4 Tryd.f4 rfl rfl rfl rfl rfl rfl rfl ⟨rfl, rfl, rfl, rfl, rfl⟩ rfl rfl rfl rfl rfl (by kernel_rfl) Tryd.func4 (by kernel_rfl)
    (of_decide_eq_true (by kernel_rfl)) (by unfold Func.isWrapper; first | (rw [if_pos (by decide +kernel)]; kernel_rfl) | (rw [if_neg (by decide +kernel)]; exact ⟨rfl, rfl⟩))
    (fun os started H enc _ => lifted os started H enc)

theorem proved : Rows.FieldsKindsCardSaid :=
  Claim7.holds_tied_plain_at .later [] [.data, .data, .data, .data, .sentinel, .sentinel, .pinned] true (true, "b7b04a5e23c144aaf3ed07f71e534f1c77dbf3b9fe34ff9557e3f13d899a9de9") true
    holds (fun _ h => by cases h) (by kernel_rfl) (fun _ h => by cases h) fieldsKinds_row_tie rfl ⟨rfl, rfl⟩ (by kernel_rfl) rfl
    (fun f fn hf hfn => by
      obtain rfl : f = 4 := Option.some.inj ((show Tryd.prog.funcNamed "flume/flumelaw10.FieldsKinds" = some 4 by kernel_rfl).symm.trans hf) |>.symm
      obtain rfl : fn = Tryd.f4 := (Option.some.inj (Tryd.func4.symm.trans hfn)).symm
      exact ⟨by kernel_rfl, fun j t ht => by
        rw [Tryd.params4] at ht
        have hm : t ∈ [22] := by simpa using Array.mem_of_getElem? ht
        have hall : ([22].all fun u => !Tryd.prog.wantsStandIn u) = true := by kernel_rfl
        exact (show Tryd.prog.wantsStandIn t = false by simpa using List.all_eq_true.1 hall t hm)⟩)
    (by kernel_rfl)
end Go.Proofs.YtikngjdljdofkaaDoor.fieldsKinds
