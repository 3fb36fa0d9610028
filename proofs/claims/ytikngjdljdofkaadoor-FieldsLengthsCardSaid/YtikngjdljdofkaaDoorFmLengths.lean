

/-
  FieldsLengths: a length is digits, and all lengths are one.
-/
import Derived.Test.YtikngjdljdofkaaDoorFmDig
import Derived.Test.YtikngjdljdofkaaDoorLawD
import Derived.Test.YtikngjdljdofkaaDoorTie
import Derived.Test.YtikngjdljdofkaaDoorCards
import Derived.SevenTiedAt
namespace Go.Proofs.YtikngjdljdofkaaDoor.fieldsLengths
open Go.RowKit Go.Sl Go.ChangeShapes

def L1 (a : Txt) : List Fd := [st, (CL, a, false)]
def L2 (a : Txt) : List Fd := [st, (CL, a, false), xy, (CL, a, false)]
def L3 (a b : Txt) : List Fd := [st, (CL, a, false), (CL, b, false)]
theorem bld8 (a b c d e f g h : Txt) (w : World) : (Instr.buildSlice 42 8 #[(0, str a), (1, str b), (2, str c), (3, str d), (4, str e), (5, str f), (6, str g), (7, str h)]).run Tryd.prog w = .ok (.slice (some ⟨w.heap.size, 0, none⟩) 8 8) (w.alloc (.cells (strs [a, b, c, d, e, f, g, h]).toArray 9)) := by kernel_rfl
theorem small_l {L : List Fd} {a b : Txt} (ha : a.length ≤ 12) (hb : b.length ≤ 12) (hL : L.length ≤ 1000) (h : ∀ f ∈ L, f = st ∨ f = xy ∨ f = (CL, a, false) ∨ f = (CL, b, false)) : (∀ f ∈ L, f.1.length ≤ 1000000 ∧ f.2.1.length ≤ 1000000) ∧ L.length ≤ 1000 := by
  refine ⟨fun f hf => ?_, hL⟩
  rcases h f hf with rfl | rfl | rfl | rfl
  · decide
  · decide
  · exact ⟨(by decide : CL.length ≤ 1000000), by show a.length ≤ 1000000; omega⟩
  · exact ⟨(by decide : CL.length ≤ 1000000), by show b.length ≤ 1000000; omega⟩

theorem mod_nat {j : Int} (h : 0 ≤ j) : ∃ N : Nat, N < 1000000000 ∧ j.tmod 1000000000 = (N : Int) := by
  obtain ⟨a, rfl⟩ := Int.eq_ofNat_of_zero_le h
  exact ⟨a % 1000000000, Nat.mod_lt _ (by decide), rfl⟩

set_option maxHeartbeats 16000000 in
set_option maxRecDepth 100000 in
theorem lenW {w0 : World} (n m x : Int) (hn : -9223372036854775808 ≤ n ∧ n ≤ 9223372036854775807) (hm : -9223372036854775808 ≤ m ∧ m ≤ 9223372036854775807) :
    Calls Tryd.prog 6 #[.int .i64 n, .int .i64 m, .int .i64 x] w0 fun e w' => e = .returned (.bool true) ∧ Below w0.heap.size w0 w' := by
  have G := own_begin w0
  obtain ⟨k, hk, hk3⟩ := and_i64 x 3 (by decide)
  have HK : Hid (bits .and .i64 x 3 = (k : Int)) := Lib.hid hk
  clear hk
  obtain ⟨N, hN, hNP, hNM⟩ : ∃ N : Nat, N < 1000000000 ∧ (0 ≤ n → n % 1000000000 = (N : Int)) ∧ (n < 0 → -((n + 1).tmod 1000000000) = (N : Int)) := by
    by_cases h0 : 0 ≤ n
    · exact ⟨(n % 1000000000).toNat, by omega, fun _ => by omega, fun h => by omega⟩
    · obtain ⟨N, h1, h2⟩ := mod_nat (j := -(n + 1)) (by omega)
      exact ⟨N, h1, fun h => by omega, fun _ => by rw [← h2, Int.neg_tmod]⟩
  obtain ⟨M, hM, hMP, hMM⟩ : ∃ N : Nat, N < 1000000000 ∧ (0 ≤ m → m % 1000000000 = (N : Int)) ∧ (m < 0 → -((m + 1).tmod 1000000000) = (N : Int)) := by
    by_cases h0 : 0 ≤ m
    · exact ⟨(m % 1000000000).toNat, by omega, fun _ => by omega, fun h => by omega⟩
    · obtain ⟨N, h1, h2⟩ := mod_nat (j := -(m + 1)) (by omega)
      exact ⟨N, h1, fun h => by omega, fun _ => by rw [← h2, Int.neg_tmod]⟩
  obtain ⟨a, hA⟩ : ∃ a, numT N k = a := ⟨_, rfl⟩
  have HA := Lib.hid hA
  obtain ⟨av, al1, al2⟩ := numT_valid (n := N) hk3
  have ad := numT_digits hN hk3
  rw [hA] at av al1 al2 ad
  have HAV := Lib.hid av
  have HAD := Lib.hid ad
  have hal : a.length ≤ 12 := al2
  clear hA av al1 al2 ad
  obtain ⟨j, hj, hj3⟩ := and_i64 (x / 4) 3 (by decide)
  have HJ : Hid (bits .and .i64 (x / 4) 3 = (j : Int)) := Lib.hid hj
  clear hj
  obtain ⟨b, hB⟩ : ∃ a, numT M j = a := ⟨_, rfl⟩
  have HB := Lib.hid hB
  obtain ⟨av, al1, al2⟩ := numT_valid (n := M) hj3
  have ad := numT_digits hM hj3
  rw [hB] at av al1 al2 ad
  have hbl : b.length ≤ 12 := al2
  have HR1 : Hid (msgV (responseR (L1 a)) = .tuple #[.agg #[str [], str [], str [], str [], .int .i64 200, .int .i64 N], .bool true]) := Lib.hid (by unfold L1; rw [resp1 HAV.out HAD.out]; rfl)
  have HR2 : Hid (msgV (responseR (L2 a)) = .tuple #[.agg #[str [], str [], str [], str [], .int .i64 200, .int .i64 N], .bool true]) := Lib.hid (by unfold L2; rw [resp2 HAV.out HAD.out]; rfl)
  obtain ⟨m3, q, hm3, hq3, -⟩ := msgV_eq (responseR (L3 a b))
  have HR3 := Lib.hid hm3
  have hq : decide (a = b) = q := by rw [← hq3]; unfold L3; rw [resp3 HAV.out HAD.out av ad]
  clear hB av al1 al2 ad HAV HAD hm3 hq3
  by_cases hn0 : n < 0
  · have HN := Lib.hid (hNM hn0)
    clear hNP hNM
    by_cases hm0 : m < 0
    · have HM := Lib.hid (hMM hm0)
      clear hMP hMM
      skip
      as_aux_lemma =>
      go_enter Tryd.func6, Tryd.ntmps6
      go_wp2_with fail
      refine Calls.mono (shownFm G) ?_
      clear G; rintro e w ⟨rfl, G⟩
      go_wp2_with (first
        | (go_at_call 16; refine hold ?_)
        | fail)
      unfold Held
      rw [HN.out, HM.out, HK.out]
      refine Calls.mono (digitsW (n := N) (k := k) hN hk3 G) ?_
      clear G; rintro e w ⟨rfl, G⟩
      rw [HA.out]
      go_wp2_with (first
        | (go_at_call 16; refine hold ?_)
        | fail)
      unfold Held
      rw [HJ.out]
      refine Calls.mono (digitsW (n := M) (k := j) hM hj3 G) ?_
      clear G; rintro e w ⟨rfl, G⟩
      rw [HB.out]
      go_wp2_with (first
        | ((with_reducible refine at_build ?_); refine hold ?_)
        | ((with_reducible refine at_alloc ?_); refine wpu_new G ?_; clear G; intro w G)
        | ((with_reducible refine at_drew ?_); refine wpu_drew G ?_; clear G; intro w G)
        | ((with_reducible refine at_load ?_); first
          | (refine wpu_load G rfl rfl rfl rfl ?_; go_frame)
          | (refine wpu_loadB G rfl rfl rfl (by rfl) ?_; go_frame)
          | (refine wpu_loadS G rfl rfl rfl (by rfl) ?_; simp only [List.drop_succ_cons, List.drop_zero, List.take_succ_cons, List.take_zero]; go_frame))
        | ((with_reducible refine at_store ?_); first
          | (refine wpu_store G rfl rfl rfl rfl (by first | rfl | assumption | simp [*]) rfl ?_; clear G; intro w G; go_frame)
          | (refine wpu_storeB G rfl rfl rfl rfl (by rfl) (by rfl) (by first | rfl | assumption | simp [*]) ?_; clear G; intro w G; go_frame)
          | (refine wpu_storeS G rfl rfl rfl rfl (by rfl) (by rfl) (by first | rfl | assumption | simp [*]) ?_; clear G; intro w G; go_frame))
        | ((with_reducible refine at_convert ?_); refine wpu_str G rfl rfl rfl rfl ?_; go_frame)
        | ((with_reducible refine at_slice ?_); first
          | (refine wpu_sliceLo rfl rfl rfl rfl (by first | rfl | omega) (by omega) (by omega) ?_; go_frame)
          | (refine wpu_sliceLH rfl rfl rfl rfl rfl (by first | rfl | omega) (by first | rfl | omega) (by omega) (by omega) ?_; go_frame))
        | fail)
      unfold Held
      refine wpu_val rfl (exec_buildT _ rfl (by kernel_rfl) (bld4 nStatus [50, 48, 48] CL a _)) ?_
      go_frame
      have G1 := own_new_sl (n := 4) (sz := 1) G (pairs (L1 a)) 9 rfl (by decide)
      clear G
      go_wp2_with fail
      refine Calls.mono (ofC (F := (L1 a)) rfl (by show 2 ≤ 1000; decide) G1 (fun w h => own_rd h)) ?_
      clear G1; rintro e w ⟨v, rfl, G⟩
      change Own _ (sl 3 v 2 (fds (L1 a)) * _) w at G
      obtain ⟨xo, xc, rfl, x1, x2⟩ := G.hdr v
      unfold maxLen at x2
      obtain ⟨s1, s2⟩ := small_l (L := (L1 a)) hal hbl (by show 2 ≤ 1000; decide) (by intro f hf; simp [L1, L2, L3] at hf; rcases hf with rfl | rfl | rfl | rfl <;> simp)
      go_wp2_with fail
      refine Calls.mono (responseC (L := (L1 a)) s1 s2 G (fun w h => own_rd h)) ?_
      clear G s1 s2; rintro e w ⟨rfl, G⟩
      rw [HR1.out]
      go_wp2_with (first
        | ((with_reducible refine at_build ?_); refine hold ?_)
        | ((with_reducible refine at_alloc ?_); refine wpu_new G ?_; clear G; intro w G)
        | ((with_reducible refine at_drew ?_); refine wpu_drew G ?_; clear G; intro w G)
        | ((with_reducible refine at_load ?_); first
          | (refine wpu_load G rfl rfl rfl rfl ?_; go_frame)
          | (refine wpu_loadB G rfl rfl rfl (by rfl) ?_; go_frame)
          | (refine wpu_loadS G rfl rfl rfl (by rfl) ?_; simp only [List.drop_succ_cons, List.drop_zero, List.take_succ_cons, List.take_zero]; go_frame))
        | ((with_reducible refine at_store ?_); first
          | (refine wpu_store G rfl rfl rfl rfl (by first | rfl | assumption | simp [*]) rfl ?_; clear G; intro w G; go_frame)
          | (refine wpu_storeB G rfl rfl rfl rfl (by rfl) (by rfl) (by first | rfl | assumption | simp [*]) ?_; clear G; intro w G; go_frame)
          | (refine wpu_storeS G rfl rfl rfl rfl (by rfl) (by rfl) (by first | rfl | assumption | simp [*]) ?_; clear G; intro w G; go_frame))
        | ((with_reducible refine at_convert ?_); refine wpu_str G rfl rfl rfl rfl ?_; go_frame)
        | ((with_reducible refine at_slice ?_); first
          | (refine wpu_sliceLo rfl rfl rfl rfl (by first | rfl | omega) (by omega) (by omega) ?_; go_frame)
          | (refine wpu_sliceLH rfl rfl rfl rfl rfl (by first | rfl | omega) (by first | rfl | omega) (by omega) (by omega) ?_; go_frame))
        | fail)
      unfold Held
      refine wpu_val rfl (exec_buildT _ rfl (by kernel_rfl) (bld8 nStatus [50, 48, 48] CL a [120] [121] CL a _)) ?_
      go_frame
      have G1 := own_new_sl (n := 8) (sz := 1) G (pairs (L2 a)) 9 rfl (by decide)
      clear G
      go_wp2_with fail
      refine Calls.mono (ofC (F := (L2 a)) rfl (by show 4 ≤ 1000; decide) G1 (fun w h => own_rd h)) ?_
      clear G1; rintro e w ⟨v, rfl, G⟩
      change Own _ (sl 3 v 4 (fds (L2 a)) * _) w at G
      obtain ⟨xo, xc, rfl, x1, x2⟩ := G.hdr v
      unfold maxLen at x2
      obtain ⟨s1, s2⟩ := small_l (L := (L2 a)) hal hbl (by show 4 ≤ 1000; decide) (by intro f hf; simp [L1, L2, L3] at hf; rcases hf with rfl | rfl | rfl | rfl <;> simp)
      go_wp2_with fail
      refine Calls.mono (responseC (L := (L2 a)) s1 s2 G (fun w h => own_rd h)) ?_
      clear G s1 s2; rintro e w ⟨rfl, G⟩
      rw [HR2.out]
      go_wp2_with (first
        | ((with_reducible refine at_build ?_); refine hold ?_)
        | ((with_reducible refine at_alloc ?_); refine wpu_new G ?_; clear G; intro w G)
        | ((with_reducible refine at_drew ?_); refine wpu_drew G ?_; clear G; intro w G)
        | ((with_reducible refine at_load ?_); first
          | (refine wpu_load G rfl rfl rfl rfl ?_; go_frame)
          | (refine wpu_loadB G rfl rfl rfl (by rfl) ?_; go_frame)
          | (refine wpu_loadS G rfl rfl rfl (by rfl) ?_; simp only [List.drop_succ_cons, List.drop_zero, List.take_succ_cons, List.take_zero]; go_frame))
        | ((with_reducible refine at_store ?_); first
          | (refine wpu_store G rfl rfl rfl rfl (by first | rfl | assumption | simp [*]) rfl ?_; clear G; intro w G; go_frame)
          | (refine wpu_storeB G rfl rfl rfl rfl (by rfl) (by rfl) (by first | rfl | assumption | simp [*]) ?_; clear G; intro w G; go_frame)
          | (refine wpu_storeS G rfl rfl rfl rfl (by rfl) (by rfl) (by first | rfl | assumption | simp [*]) ?_; clear G; intro w G; go_frame))
        | ((with_reducible refine at_convert ?_); refine wpu_str G rfl rfl rfl rfl ?_; go_frame)
        | ((with_reducible refine at_slice ?_); first
          | (refine wpu_sliceLo rfl rfl rfl rfl (by first | rfl | omega) (by omega) (by omega) ?_; go_frame)
          | (refine wpu_sliceLH rfl rfl rfl rfl rfl (by first | rfl | omega) (by first | rfl | omega) (by omega) (by omega) ?_; go_frame))
        | fail)
      unfold Held
      refine wpu_val rfl (exec_buildT _ rfl (by kernel_rfl) (bld6 nStatus [50, 48, 48] CL a CL b _)) ?_
      go_frame
      have G1 := own_new_sl (n := 6) (sz := 1) G (pairs (L3 a b)) 9 rfl (by decide)
      clear G
      go_wp2_with fail
      refine Calls.mono (ofC (F := (L3 a b)) rfl (by show 3 ≤ 1000; decide) G1 (fun w h => own_rd h)) ?_
      clear G1; rintro e w ⟨v, rfl, G⟩
      change Own _ (sl 3 v 3 (fds (L3 a b)) * _) w at G
      obtain ⟨xo, xc, rfl, x1, x2⟩ := G.hdr v
      unfold maxLen at x2
      obtain ⟨s1, s2⟩ := small_l (L := (L3 a b)) hal hbl (by show 3 ≤ 1000; decide) (by intro f hf; simp [L1, L2, L3] at hf; rcases hf with rfl | rfl | rfl | rfl <;> simp)
      go_wp2_with fail
      refine Calls.mono (responseC (L := (L3 a b)) s1 s2 G (fun w h => own_rd h)) ?_
      clear G s1 s2; rintro e w ⟨rfl, G⟩
      rw [HR3.out]
      clear HR1 HR2 HR3 HN HM HK HJ HA HB
      go_wp2_with (first
        | go_big_skip
        | ((with_reducible refine at_eqS ?_); refine wpu_eqS (l := a) (m := b) rfl (by kernel_rfl) rfl rfl hq ?_; go_frame)
        | ((with_reducible refine at_alloc ?_); refine wpu_new G ?_; clear G; intro w G)
        | ((with_reducible refine at_drew ?_); refine wpu_drew G ?_; clear G; intro w G)
        | go_big_skip
        | ((with_reducible refine at_load ?_); first
          | (refine wpu_load G rfl (by kernel_rfl) rfl rfl ?_; go_frame)
          | (refine wpu_loadB G rfl (by kernel_rfl) rfl (by rfl) ?_; go_frame)
          | (refine wpu_loadS G rfl (by kernel_rfl) rfl (by rfl) ?_; simp only [List.drop_succ_cons, List.drop_zero, List.take_succ_cons, List.take_zero]; go_frame))
        | ((with_reducible refine at_store ?_); first
          | (refine wpu_store G rfl (by kernel_rfl) rfl rfl (by first | rfl | assumption | simp [*]) rfl ?_; clear G; intro w G; go_frame)
          | (refine wpu_storeB G rfl (by kernel_rfl) rfl rfl (by rfl) (by rfl) (by first | rfl | assumption | simp [*]) ?_; clear G; intro w G; go_frame)
          | (refine wpu_storeS G rfl (by kernel_rfl) rfl rfl (by rfl) (by rfl) (by first | rfl | assumption | simp [*]) ?_; clear G; intro w G; go_frame))
        | ((with_reducible refine at_convert ?_); refine wpu_str G rfl (by kernel_rfl) rfl rfl ?_; go_frame)
        | fail)
      go_ret
      exact ⟨rfl, G.below⟩
    · have HM := Lib.hid (hMP (by omega))
      clear hMP hMM
      skip
      as_aux_lemma =>
      go_enter Tryd.func6, Tryd.ntmps6
      go_wp2_with fail
      refine Calls.mono (shownFm G) ?_
      clear G; rintro e w ⟨rfl, G⟩
      go_wp2_with (first
        | (go_at_call 16; refine hold ?_)
        | fail)
      unfold Held
      rw [HN.out, HM.out, HK.out]
      refine Calls.mono (digitsW (n := N) (k := k) hN hk3 G) ?_
      clear G; rintro e w ⟨rfl, G⟩
      rw [HA.out]
      go_wp2_with (first
        | (go_at_call 16; refine hold ?_)
        | fail)
      unfold Held
      rw [HJ.out]
      refine Calls.mono (digitsW (n := M) (k := j) hM hj3 G) ?_
      clear G; rintro e w ⟨rfl, G⟩
      rw [HB.out]
      go_wp2_with (first
        | ((with_reducible refine at_build ?_); refine hold ?_)
        | ((with_reducible refine at_alloc ?_); refine wpu_new G ?_; clear G; intro w G)
        | ((with_reducible refine at_drew ?_); refine wpu_drew G ?_; clear G; intro w G)
        | ((with_reducible refine at_load ?_); first
          | (refine wpu_load G rfl rfl rfl rfl ?_; go_frame)
          | (refine wpu_loadB G rfl rfl rfl (by rfl) ?_; go_frame)
          | (refine wpu_loadS G rfl rfl rfl (by rfl) ?_; simp only [List.drop_succ_cons, List.drop_zero, List.take_succ_cons, List.take_zero]; go_frame))
        | ((with_reducible refine at_store ?_); first
          | (refine wpu_store G rfl rfl rfl rfl (by first | rfl | assumption | simp [*]) rfl ?_; clear G; intro w G; go_frame)
          | (refine wpu_storeB G rfl rfl rfl rfl (by rfl) (by rfl) (by first | rfl | assumption | simp [*]) ?_; clear G; intro w G; go_frame)
          | (refine wpu_storeS G rfl rfl rfl rfl (by rfl) (by rfl) (by first | rfl | assumption | simp [*]) ?_; clear G; intro w G; go_frame))
        | ((with_reducible refine at_convert ?_); refine wpu_str G rfl rfl rfl rfl ?_; go_frame)
        | ((with_reducible refine at_slice ?_); first
          | (refine wpu_sliceLo rfl rfl rfl rfl (by first | rfl | omega) (by omega) (by omega) ?_; go_frame)
          | (refine wpu_sliceLH rfl rfl rfl rfl rfl (by first | rfl | omega) (by first | rfl | omega) (by omega) (by omega) ?_; go_frame))
        | fail)
      unfold Held
      refine wpu_val rfl (exec_buildT _ rfl (by kernel_rfl) (bld4 nStatus [50, 48, 48] CL a _)) ?_
      go_frame
      have G1 := own_new_sl (n := 4) (sz := 1) G (pairs (L1 a)) 9 rfl (by decide)
      clear G
      go_wp2_with fail
      refine Calls.mono (ofC (F := (L1 a)) rfl (by show 2 ≤ 1000; decide) G1 (fun w h => own_rd h)) ?_
      clear G1; rintro e w ⟨v, rfl, G⟩
      change Own _ (sl 3 v 2 (fds (L1 a)) * _) w at G
      obtain ⟨xo, xc, rfl, x1, x2⟩ := G.hdr v
      unfold maxLen at x2
      obtain ⟨s1, s2⟩ := small_l (L := (L1 a)) hal hbl (by show 2 ≤ 1000; decide) (by intro f hf; simp [L1, L2, L3] at hf; rcases hf with rfl | rfl | rfl | rfl <;> simp)
      go_wp2_with fail
      refine Calls.mono (responseC (L := (L1 a)) s1 s2 G (fun w h => own_rd h)) ?_
      clear G s1 s2; rintro e w ⟨rfl, G⟩
      rw [HR1.out]
      go_wp2_with (first
        | ((with_reducible refine at_build ?_); refine hold ?_)
        | ((with_reducible refine at_alloc ?_); refine wpu_new G ?_; clear G; intro w G)
        | ((with_reducible refine at_drew ?_); refine wpu_drew G ?_; clear G; intro w G)
        | ((with_reducible refine at_load ?_); first
          | (refine wpu_load G rfl rfl rfl rfl ?_; go_frame)
          | (refine wpu_loadB G rfl rfl rfl (by rfl) ?_; go_frame)
          | (refine wpu_loadS G rfl rfl rfl (by rfl) ?_; simp only [List.drop_succ_cons, List.drop_zero, List.take_succ_cons, List.take_zero]; go_frame))
        | ((with_reducible refine at_store ?_); first
          | (refine wpu_store G rfl rfl rfl rfl (by first | rfl | assumption | simp [*]) rfl ?_; clear G; intro w G; go_frame)
          | (refine wpu_storeB G rfl rfl rfl rfl (by rfl) (by rfl) (by first | rfl | assumption | simp [*]) ?_; clear G; intro w G; go_frame)
          | (refine wpu_storeS G rfl rfl rfl rfl (by rfl) (by rfl) (by first | rfl | assumption | simp [*]) ?_; clear G; intro w G; go_frame))
        | ((with_reducible refine at_convert ?_); refine wpu_str G rfl rfl rfl rfl ?_; go_frame)
        | ((with_reducible refine at_slice ?_); first
          | (refine wpu_sliceLo rfl rfl rfl rfl (by first | rfl | omega) (by omega) (by omega) ?_; go_frame)
          | (refine wpu_sliceLH rfl rfl rfl rfl rfl (by first | rfl | omega) (by first | rfl | omega) (by omega) (by omega) ?_; go_frame))
        | fail)
      unfold Held
      refine wpu_val rfl (exec_buildT _ rfl (by kernel_rfl) (bld8 nStatus [50, 48, 48] CL a [120] [121] CL a _)) ?_
      go_frame
      have G1 := own_new_sl (n := 8) (sz := 1) G (pairs (L2 a)) 9 rfl (by decide)
      clear G
      go_wp2_with fail
      refine Calls.mono (ofC (F := (L2 a)) rfl (by show 4 ≤ 1000; decide) G1 (fun w h => own_rd h)) ?_
      clear G1; rintro e w ⟨v, rfl, G⟩
      change Own _ (sl 3 v 4 (fds (L2 a)) * _) w at G
      obtain ⟨xo, xc, rfl, x1, x2⟩ := G.hdr v
      unfold maxLen at x2
      obtain ⟨s1, s2⟩ := small_l (L := (L2 a)) hal hbl (by show 4 ≤ 1000; decide) (by intro f hf; simp [L1, L2, L3] at hf; rcases hf with rfl | rfl | rfl | rfl <;> simp)
      go_wp2_with fail
      refine Calls.mono (responseC (L := (L2 a)) s1 s2 G (fun w h => own_rd h)) ?_
      clear G s1 s2; rintro e w ⟨rfl, G⟩
      rw [HR2.out]
      go_wp2_with (first
        | ((with_reducible refine at_build ?_); refine hold ?_)
        | ((with_reducible refine at_alloc ?_); refine wpu_new G ?_; clear G; intro w G)
        | ((with_reducible refine at_drew ?_); refine wpu_drew G ?_; clear G; intro w G)
        | ((with_reducible refine at_load ?_); first
          | (refine wpu_load G rfl rfl rfl rfl ?_; go_frame)
          | (refine wpu_loadB G rfl rfl rfl (by rfl) ?_; go_frame)
          | (refine wpu_loadS G rfl rfl rfl (by rfl) ?_; simp only [List.drop_succ_cons, List.drop_zero, List.take_succ_cons, List.take_zero]; go_frame))
        | ((with_reducible refine at_store ?_); first
          | (refine wpu_store G rfl rfl rfl rfl (by first | rfl | assumption | simp [*]) rfl ?_; clear G; intro w G; go_frame)
          | (refine wpu_storeB G rfl rfl rfl rfl (by rfl) (by rfl) (by first | rfl | assumption | simp [*]) ?_; clear G; intro w G; go_frame)
          | (refine wpu_storeS G rfl rfl rfl rfl (by rfl) (by rfl) (by first | rfl | assumption | simp [*]) ?_; clear G; intro w G; go_frame))
        | ((with_reducible refine at_convert ?_); refine wpu_str G rfl rfl rfl rfl ?_; go_frame)
        | ((with_reducible refine at_slice ?_); first
          | (refine wpu_sliceLo rfl rfl rfl rfl (by first | rfl | omega) (by omega) (by omega) ?_; go_frame)
          | (refine wpu_sliceLH rfl rfl rfl rfl rfl (by first | rfl | omega) (by first | rfl | omega) (by omega) (by omega) ?_; go_frame))
        | fail)
      unfold Held
      refine wpu_val rfl (exec_buildT _ rfl (by kernel_rfl) (bld6 nStatus [50, 48, 48] CL a CL b _)) ?_
      go_frame
      have G1 := own_new_sl (n := 6) (sz := 1) G (pairs (L3 a b)) 9 rfl (by decide)
      clear G
      go_wp2_with fail
      refine Calls.mono (ofC (F := (L3 a b)) rfl (by show 3 ≤ 1000; decide) G1 (fun w h => own_rd h)) ?_
      clear G1; rintro e w ⟨v, rfl, G⟩
      change Own _ (sl 3 v 3 (fds (L3 a b)) * _) w at G
      obtain ⟨xo, xc, rfl, x1, x2⟩ := G.hdr v
      unfold maxLen at x2
      obtain ⟨s1, s2⟩ := small_l (L := (L3 a b)) hal hbl (by show 3 ≤ 1000; decide) (by intro f hf; simp [L1, L2, L3] at hf; rcases hf with rfl | rfl | rfl | rfl <;> simp)
      go_wp2_with fail
      refine Calls.mono (responseC (L := (L3 a b)) s1 s2 G (fun w h => own_rd h)) ?_
      clear G s1 s2; rintro e w ⟨rfl, G⟩
      rw [HR3.out]
      clear HR1 HR2 HR3 HN HM HK HJ HA HB
      go_wp2_with (first
        | go_big_skip
        | ((with_reducible refine at_eqS ?_); refine wpu_eqS (l := a) (m := b) rfl (by kernel_rfl) rfl rfl hq ?_; go_frame)
        | ((with_reducible refine at_alloc ?_); refine wpu_new G ?_; clear G; intro w G)
        | ((with_reducible refine at_drew ?_); refine wpu_drew G ?_; clear G; intro w G)
        | go_big_skip
        | ((with_reducible refine at_load ?_); first
          | (refine wpu_load G rfl (by kernel_rfl) rfl rfl ?_; go_frame)
          | (refine wpu_loadB G rfl (by kernel_rfl) rfl (by rfl) ?_; go_frame)
          | (refine wpu_loadS G rfl (by kernel_rfl) rfl (by rfl) ?_; simp only [List.drop_succ_cons, List.drop_zero, List.take_succ_cons, List.take_zero]; go_frame))
        | ((with_reducible refine at_store ?_); first
          | (refine wpu_store G rfl (by kernel_rfl) rfl rfl (by first | rfl | assumption | simp [*]) rfl ?_; clear G; intro w G; go_frame)
          | (refine wpu_storeB G rfl (by kernel_rfl) rfl rfl (by rfl) (by rfl) (by first | rfl | assumption | simp [*]) ?_; clear G; intro w G; go_frame)
          | (refine wpu_storeS G rfl (by kernel_rfl) rfl rfl (by rfl) (by rfl) (by first | rfl | assumption | simp [*]) ?_; clear G; intro w G; go_frame))
        | ((with_reducible refine at_convert ?_); refine wpu_str G rfl (by kernel_rfl) rfl rfl ?_; go_frame)
        | fail)
      go_ret
      exact ⟨rfl, G.below⟩
  · have HN := Lib.hid (hNP (by omega))
    clear hNP hNM
    by_cases hm0 : m < 0
    · have HM := Lib.hid (hMM hm0)
      clear hMP hMM
      skip
      as_aux_lemma =>
      go_enter Tryd.func6, Tryd.ntmps6
      go_wp2_with fail
      refine Calls.mono (shownFm G) ?_
      clear G; rintro e w ⟨rfl, G⟩
      go_wp2_with (first
        | (go_at_call 16; refine hold ?_)
        | fail)
      unfold Held
      rw [HN.out, HM.out, HK.out]
      refine Calls.mono (digitsW (n := N) (k := k) hN hk3 G) ?_
      clear G; rintro e w ⟨rfl, G⟩
      rw [HA.out]
      go_wp2_with (first
        | (go_at_call 16; refine hold ?_)
        | fail)
      unfold Held
      rw [HJ.out]
      refine Calls.mono (digitsW (n := M) (k := j) hM hj3 G) ?_
      clear G; rintro e w ⟨rfl, G⟩
      rw [HB.out]
      go_wp2_with (first
        | ((with_reducible refine at_build ?_); refine hold ?_)
        | ((with_reducible refine at_alloc ?_); refine wpu_new G ?_; clear G; intro w G)
        | ((with_reducible refine at_drew ?_); refine wpu_drew G ?_; clear G; intro w G)
        | ((with_reducible refine at_load ?_); first
          | (refine wpu_load G rfl rfl rfl rfl ?_; go_frame)
          | (refine wpu_loadB G rfl rfl rfl (by rfl) ?_; go_frame)
          | (refine wpu_loadS G rfl rfl rfl (by rfl) ?_; simp only [List.drop_succ_cons, List.drop_zero, List.take_succ_cons, List.take_zero]; go_frame))
        | ((with_reducible refine at_store ?_); first
          | (refine wpu_store G rfl rfl rfl rfl (by first | rfl | assumption | simp [*]) rfl ?_; clear G; intro w G; go_frame)
          | (refine wpu_storeB G rfl rfl rfl rfl (by rfl) (by rfl) (by first | rfl | assumption | simp [*]) ?_; clear G; intro w G; go_frame)
          | (refine wpu_storeS G rfl rfl rfl rfl (by rfl) (by rfl) (by first | rfl | assumption | simp [*]) ?_; clear G; intro w G; go_frame))
        | ((with_reducible refine at_convert ?_); refine wpu_str G rfl rfl rfl rfl ?_; go_frame)
        | ((with_reducible refine at_slice ?_); first
          | (refine wpu_sliceLo rfl rfl rfl rfl (by first | rfl | omega) (by omega) (by omega) ?_; go_frame)
          | (refine wpu_sliceLH rfl rfl rfl rfl rfl (by first | rfl | omega) (by first | rfl | omega) (by omega) (by omega) ?_; go_frame))
        | fail)
      unfold Held
      refine wpu_val rfl (exec_buildT _ rfl (by kernel_rfl) (bld4 nStatus [50, 48, 48] CL a _)) ?_
      go_frame
      have G1 := own_new_sl (n := 4) (sz := 1) G (pairs (L1 a)) 9 rfl (by decide)
      clear G
      go_wp2_with fail
      refine Calls.mono (ofC (F := (L1 a)) rfl (by show 2 ≤ 1000; decide) G1 (fun w h => own_rd h)) ?_
      clear G1; rintro e w ⟨v, rfl, G⟩
      change Own _ (sl 3 v 2 (fds (L1 a)) * _) w at G
      obtain ⟨xo, xc, rfl, x1, x2⟩ := G.hdr v
      unfold maxLen at x2
      obtain ⟨s1, s2⟩ := small_l (L := (L1 a)) hal hbl (by show 2 ≤ 1000; decide) (by intro f hf; simp [L1, L2, L3] at hf; rcases hf with rfl | rfl | rfl | rfl <;> simp)
      go_wp2_with fail
      refine Calls.mono (responseC (L := (L1 a)) s1 s2 G (fun w h => own_rd h)) ?_
      clear G s1 s2; rintro e w ⟨rfl, G⟩
      rw [HR1.out]
      go_wp2_with (first
        | ((with_reducible refine at_build ?_); refine hold ?_)
        | ((with_reducible refine at_alloc ?_); refine wpu_new G ?_; clear G; intro w G)
        | ((with_reducible refine at_drew ?_); refine wpu_drew G ?_; clear G; intro w G)
        | ((with_reducible refine at_load ?_); first
          | (refine wpu_load G rfl rfl rfl rfl ?_; go_frame)
          | (refine wpu_loadB G rfl rfl rfl (by rfl) ?_; go_frame)
          | (refine wpu_loadS G rfl rfl rfl (by rfl) ?_; simp only [List.drop_succ_cons, List.drop_zero, List.take_succ_cons, List.take_zero]; go_frame))
        | ((with_reducible refine at_store ?_); first
          | (refine wpu_store G rfl rfl rfl rfl (by first | rfl | assumption | simp [*]) rfl ?_; clear G; intro w G; go_frame)
          | (refine wpu_storeB G rfl rfl rfl rfl (by rfl) (by rfl) (by first | rfl | assumption | simp [*]) ?_; clear G; intro w G; go_frame)
          | (refine wpu_storeS G rfl rfl rfl rfl (by rfl) (by rfl) (by first | rfl | assumption | simp [*]) ?_; clear G; intro w G; go_frame))
        | ((with_reducible refine at_convert ?_); refine wpu_str G rfl rfl rfl rfl ?_; go_frame)
        | ((with_reducible refine at_slice ?_); first
          | (refine wpu_sliceLo rfl rfl rfl rfl (by first | rfl | omega) (by omega) (by omega) ?_; go_frame)
          | (refine wpu_sliceLH rfl rfl rfl rfl rfl (by first | rfl | omega) (by first | rfl | omega) (by omega) (by omega) ?_; go_frame))
        | fail)
      unfold Held
      refine wpu_val rfl (exec_buildT _ rfl (by kernel_rfl) (bld8 nStatus [50, 48, 48] CL a [120] [121] CL a _)) ?_
      go_frame
      have G1 := own_new_sl (n := 8) (sz := 1) G (pairs (L2 a)) 9 rfl (by decide)
      clear G
      go_wp2_with fail
      refine Calls.mono (ofC (F := (L2 a)) rfl (by show 4 ≤ 1000; decide) G1 (fun w h => own_rd h)) ?_
      clear G1; rintro e w ⟨v, rfl, G⟩
      change Own _ (sl 3 v 4 (fds (L2 a)) * _) w at G
      obtain ⟨xo, xc, rfl, x1, x2⟩ := G.hdr v
      unfold maxLen at x2
      obtain ⟨s1, s2⟩ := small_l (L := (L2 a)) hal hbl (by show 4 ≤ 1000; decide) (by intro f hf; simp [L1, L2, L3] at hf; rcases hf with rfl | rfl | rfl | rfl <;> simp)
      go_wp2_with fail
      refine Calls.mono (responseC (L := (L2 a)) s1 s2 G (fun w h => own_rd h)) ?_
      clear G s1 s2; rintro e w ⟨rfl, G⟩
      rw [HR2.out]
      go_wp2_with (first
        | ((with_reducible refine at_build ?_); refine hold ?_)
        | ((with_reducible refine at_alloc ?_); refine wpu_new G ?_; clear G; intro w G)
        | ((with_reducible refine at_drew ?_); refine wpu_drew G ?_; clear G; intro w G)
        | ((with_reducible refine at_load ?_); first
          | (refine wpu_load G rfl rfl rfl rfl ?_; go_frame)
          | (refine wpu_loadB G rfl rfl rfl (by rfl) ?_; go_frame)
          | (refine wpu_loadS G rfl rfl rfl (by rfl) ?_; simp only [List.drop_succ_cons, List.drop_zero, List.take_succ_cons, List.take_zero]; go_frame))
        | ((with_reducible refine at_store ?_); first
          | (refine wpu_store G rfl rfl rfl rfl (by first | rfl | assumption | simp [*]) rfl ?_; clear G; intro w G; go_frame)
          | (refine wpu_storeB G rfl rfl rfl rfl (by rfl) (by rfl) (by first | rfl | assumption | simp [*]) ?_; clear G; intro w G; go_frame)
          | (refine wpu_storeS G rfl rfl rfl rfl (by rfl) (by rfl) (by first | rfl | assumption | simp [*]) ?_; clear G; intro w G; go_frame))
        | ((with_reducible refine at_convert ?_); refine wpu_str G rfl rfl rfl rfl ?_; go_frame)
        | ((with_reducible refine at_slice ?_); first
          | (refine wpu_sliceLo rfl rfl rfl rfl (by first | rfl | omega) (by omega) (by omega) ?_; go_frame)
          | (refine wpu_sliceLH rfl rfl rfl rfl rfl (by first | rfl | omega) (by first | rfl | omega) (by omega) (by omega) ?_; go_frame))
        | fail)
      unfold Held
      refine wpu_val rfl (exec_buildT _ rfl (by kernel_rfl) (bld6 nStatus [50, 48, 48] CL a CL b _)) ?_
      go_frame
      have G1 := own_new_sl (n := 6) (sz := 1) G (pairs (L3 a b)) 9 rfl (by decide)
      clear G
      go_wp2_with fail
      refine Calls.mono (ofC (F := (L3 a b)) rfl (by show 3 ≤ 1000; decide) G1 (fun w h => own_rd h)) ?_
      clear G1; rintro e w ⟨v, rfl, G⟩
      change Own _ (sl 3 v 3 (fds (L3 a b)) * _) w at G
      obtain ⟨xo, xc, rfl, x1, x2⟩ := G.hdr v
      unfold maxLen at x2
      obtain ⟨s1, s2⟩ := small_l (L := (L3 a b)) hal hbl (by show 3 ≤ 1000; decide) (by intro f hf; simp [L1, L2, L3] at hf; rcases hf with rfl | rfl | rfl | rfl <;> simp)
      go_wp2_with fail
      refine Calls.mono (responseC (L := (L3 a b)) s1 s2 G (fun w h => own_rd h)) ?_
      clear G s1 s2; rintro e w ⟨rfl, G⟩
      rw [HR3.out]
      clear HR1 HR2 HR3 HN HM HK HJ HA HB
      go_wp2_with (first
        | go_big_skip
        | ((with_reducible refine at_eqS ?_); refine wpu_eqS (l := a) (m := b) rfl (by kernel_rfl) rfl rfl hq ?_; go_frame)
        | ((with_reducible refine at_alloc ?_); refine wpu_new G ?_; clear G; intro w G)
        | ((with_reducible refine at_drew ?_); refine wpu_drew G ?_; clear G; intro w G)
        | go_big_skip
        | ((with_reducible refine at_load ?_); first
          | (refine wpu_load G rfl (by kernel_rfl) rfl rfl ?_; go_frame)
          | (refine wpu_loadB G rfl (by kernel_rfl) rfl (by rfl) ?_; go_frame)
          | (refine wpu_loadS G rfl (by kernel_rfl) rfl (by rfl) ?_; simp only [List.drop_succ_cons, List.drop_zero, List.take_succ_cons, List.take_zero]; go_frame))
        | ((with_reducible refine at_store ?_); first
          | (refine wpu_store G rfl (by kernel_rfl) rfl rfl (by first | rfl | assumption | simp [*]) rfl ?_; clear G; intro w G; go_frame)
          | (refine wpu_storeB G rfl (by kernel_rfl) rfl rfl (by rfl) (by rfl) (by first | rfl | assumption | simp [*]) ?_; clear G; intro w G; go_frame)
          | (refine wpu_storeS G rfl (by kernel_rfl) rfl rfl (by rfl) (by rfl) (by first | rfl | assumption | simp [*]) ?_; clear G; intro w G; go_frame))
        | ((with_reducible refine at_convert ?_); refine wpu_str G rfl (by kernel_rfl) rfl rfl ?_; go_frame)
        | fail)
      go_ret
      exact ⟨rfl, G.below⟩
    · have HM := Lib.hid (hMP (by omega))
      clear hMP hMM
      skip
      as_aux_lemma =>
      go_enter Tryd.func6, Tryd.ntmps6
      go_wp2_with fail
      refine Calls.mono (shownFm G) ?_
      clear G; rintro e w ⟨rfl, G⟩
      go_wp2_with (first
        | (go_at_call 16; refine hold ?_)
        | fail)
      unfold Held
      rw [HN.out, HM.out, HK.out]
      refine Calls.mono (digitsW (n := N) (k := k) hN hk3 G) ?_
      clear G; rintro e w ⟨rfl, G⟩
      rw [HA.out]
      go_wp2_with (first
        | (go_at_call 16; refine hold ?_)
        | fail)
      unfold Held
      rw [HJ.out]
      refine Calls.mono (digitsW (n := M) (k := j) hM hj3 G) ?_
      clear G; rintro e w ⟨rfl, G⟩
      rw [HB.out]
      go_wp2_with (first
        | ((with_reducible refine at_build ?_); refine hold ?_)
        | ((with_reducible refine at_alloc ?_); refine wpu_new G ?_; clear G; intro w G)
        | ((with_reducible refine at_drew ?_); refine wpu_drew G ?_; clear G; intro w G)
        | ((with_reducible refine at_load ?_); first
          | (refine wpu_load G rfl rfl rfl rfl ?_; go_frame)
          | (refine wpu_loadB G rfl rfl rfl (by rfl) ?_; go_frame)
          | (refine wpu_loadS G rfl rfl rfl (by rfl) ?_; simp only [List.drop_succ_cons, List.drop_zero, List.take_succ_cons, List.take_zero]; go_frame))
        | ((with_reducible refine at_store ?_); first
          | (refine wpu_store G rfl rfl rfl rfl (by first | rfl | assumption | simp [*]) rfl ?_; clear G; intro w G; go_frame)
          | (refine wpu_storeB G rfl rfl rfl rfl (by rfl) (by rfl) (by first | rfl | assumption | simp [*]) ?_; clear G; intro w G; go_frame)
          | (refine wpu_storeS G rfl rfl rfl rfl (by rfl) (by rfl) (by first | rfl | assumption | simp [*]) ?_; clear G; intro w G; go_frame))
        | ((with_reducible refine at_convert ?_); refine wpu_str G rfl rfl rfl rfl ?_; go_frame)
        | ((with_reducible refine at_slice ?_); first
          | (refine wpu_sliceLo rfl rfl rfl rfl (by first | rfl | omega) (by omega) (by omega) ?_; go_frame)
          | (refine wpu_sliceLH rfl rfl rfl rfl rfl (by first | rfl | omega) (by first | rfl | omega) (by omega) (by omega) ?_; go_frame))
        | fail)
      unfold Held
      refine wpu_val rfl (exec_buildT _ rfl (by kernel_rfl) (bld4 nStatus [50, 48, 48] CL a _)) ?_
      go_frame
      have G1 := own_new_sl (n := 4) (sz := 1) G (pairs (L1 a)) 9 rfl (by decide)
      clear G
      go_wp2_with fail
      refine Calls.mono (ofC (F := (L1 a)) rfl (by show 2 ≤ 1000; decide) G1 (fun w h => own_rd h)) ?_
      clear G1; rintro e w ⟨v, rfl, G⟩
      change Own _ (sl 3 v 2 (fds (L1 a)) * _) w at G
      obtain ⟨xo, xc, rfl, x1, x2⟩ := G.hdr v
      unfold maxLen at x2
      obtain ⟨s1, s2⟩ := small_l (L := (L1 a)) hal hbl (by show 2 ≤ 1000; decide) (by intro f hf; simp [L1, L2, L3] at hf; rcases hf with rfl | rfl | rfl | rfl <;> simp)
      go_wp2_with fail
      refine Calls.mono (responseC (L := (L1 a)) s1 s2 G (fun w h => own_rd h)) ?_
      clear G s1 s2; rintro e w ⟨rfl, G⟩
      rw [HR1.out]
      go_wp2_with (first
        | ((with_reducible refine at_build ?_); refine hold ?_)
        | ((with_reducible refine at_alloc ?_); refine wpu_new G ?_; clear G; intro w G)
        | ((with_reducible refine at_drew ?_); refine wpu_drew G ?_; clear G; intro w G)
        | ((with_reducible refine at_load ?_); first
          | (refine wpu_load G rfl rfl rfl rfl ?_; go_frame)
          | (refine wpu_loadB G rfl rfl rfl (by rfl) ?_; go_frame)
          | (refine wpu_loadS G rfl rfl rfl (by rfl) ?_; simp only [List.drop_succ_cons, List.drop_zero, List.take_succ_cons, List.take_zero]; go_frame))
        | ((with_reducible refine at_store ?_); first
          | (refine wpu_store G rfl rfl rfl rfl (by first | rfl | assumption | simp [*]) rfl ?_; clear G; intro w G; go_frame)
          | (refine wpu_storeB G rfl rfl rfl rfl (by rfl) (by rfl) (by first | rfl | assumption | simp [*]) ?_; clear G; intro w G; go_frame)
          | (refine wpu_storeS G rfl rfl rfl rfl (by rfl) (by rfl) (by first | rfl | assumption | simp [*]) ?_; clear G; intro w G; go_frame))
        | ((with_reducible refine at_convert ?_); refine wpu_str G rfl rfl rfl rfl ?_; go_frame)
        | ((with_reducible refine at_slice ?_); first
          | (refine wpu_sliceLo rfl rfl rfl rfl (by first | rfl | omega) (by omega) (by omega) ?_; go_frame)
          | (refine wpu_sliceLH rfl rfl rfl rfl rfl (by first | rfl | omega) (by first | rfl | omega) (by omega) (by omega) ?_; go_frame))
        | fail)
      unfold Held
      refine wpu_val rfl (exec_buildT _ rfl (by kernel_rfl) (bld8 nStatus [50, 48, 48] CL a [120] [121] CL a _)) ?_
      go_frame
      have G1 := own_new_sl (n := 8) (sz := 1) G (pairs (L2 a)) 9 rfl (by decide)
      clear G
      go_wp2_with fail
      refine Calls.mono (ofC (F := (L2 a)) rfl (by show 4 ≤ 1000; decide) G1 (fun w h => own_rd h)) ?_
      clear G1; rintro e w ⟨v, rfl, G⟩
      change Own _ (sl 3 v 4 (fds (L2 a)) * _) w at G
      obtain ⟨xo, xc, rfl, x1, x2⟩ := G.hdr v
      unfold maxLen at x2
      obtain ⟨s1, s2⟩ := small_l (L := (L2 a)) hal hbl (by show 4 ≤ 1000; decide) (by intro f hf; simp [L1, L2, L3] at hf; rcases hf with rfl | rfl | rfl | rfl <;> simp)
      go_wp2_with fail
      refine Calls.mono (responseC (L := (L2 a)) s1 s2 G (fun w h => own_rd h)) ?_
      clear G s1 s2; rintro e w ⟨rfl, G⟩
      rw [HR2.out]
      go_wp2_with (first
        | ((with_reducible refine at_build ?_); refine hold ?_)
        | ((with_reducible refine at_alloc ?_); refine wpu_new G ?_; clear G; intro w G)
        | ((with_reducible refine at_drew ?_); refine wpu_drew G ?_; clear G; intro w G)
        | ((with_reducible refine at_load ?_); first
          | (refine wpu_load G rfl rfl rfl rfl ?_; go_frame)
          | (refine wpu_loadB G rfl rfl rfl (by rfl) ?_; go_frame)
          | (refine wpu_loadS G rfl rfl rfl (by rfl) ?_; simp only [List.drop_succ_cons, List.drop_zero, List.take_succ_cons, List.take_zero]; go_frame))
        | ((with_reducible refine at_store ?_); first
          | (refine wpu_store G rfl rfl rfl rfl (by first | rfl | assumption | simp [*]) rfl ?_; clear G; intro w G; go_frame)
          | (refine wpu_storeB G rfl rfl rfl rfl (by rfl) (by rfl) (by first | rfl | assumption | simp [*]) ?_; clear G; intro w G; go_frame)
          | (refine wpu_storeS G rfl rfl rfl rfl (by rfl) (by rfl) (by first | rfl | assumption | simp [*]) ?_; clear G; intro w G; go_frame))
        | ((with_reducible refine at_convert ?_); refine wpu_str G rfl rfl rfl rfl ?_; go_frame)
        | ((with_reducible refine at_slice ?_); first
          | (refine wpu_sliceLo rfl rfl rfl rfl (by first | rfl | omega) (by omega) (by omega) ?_; go_frame)
          | (refine wpu_sliceLH rfl rfl rfl rfl rfl (by first | rfl | omega) (by first | rfl | omega) (by omega) (by omega) ?_; go_frame))
        | fail)
      unfold Held
      refine wpu_val rfl (exec_buildT _ rfl (by kernel_rfl) (bld6 nStatus [50, 48, 48] CL a CL b _)) ?_
      go_frame
      have G1 := own_new_sl (n := 6) (sz := 1) G (pairs (L3 a b)) 9 rfl (by decide)
      clear G
      go_wp2_with fail
      refine Calls.mono (ofC (F := (L3 a b)) rfl (by show 3 ≤ 1000; decide) G1 (fun w h => own_rd h)) ?_
      clear G1; rintro e w ⟨v, rfl, G⟩
      change Own _ (sl 3 v 3 (fds (L3 a b)) * _) w at G
      obtain ⟨xo, xc, rfl, x1, x2⟩ := G.hdr v
      unfold maxLen at x2
      obtain ⟨s1, s2⟩ := small_l (L := (L3 a b)) hal hbl (by show 3 ≤ 1000; decide) (by intro f hf; simp [L1, L2, L3] at hf; rcases hf with rfl | rfl | rfl | rfl <;> simp)
      go_wp2_with fail
      refine Calls.mono (responseC (L := (L3 a b)) s1 s2 G (fun w h => own_rd h)) ?_
      clear G s1 s2; rintro e w ⟨rfl, G⟩
      rw [HR3.out]
      clear HR1 HR2 HR3 HN HM HK HJ HA HB
      go_wp2_with (first
        | go_big_skip
        | ((with_reducible refine at_eqS ?_); refine wpu_eqS (l := a) (m := b) rfl (by kernel_rfl) rfl rfl hq ?_; go_frame)
        | ((with_reducible refine at_alloc ?_); refine wpu_new G ?_; clear G; intro w G)
        | ((with_reducible refine at_drew ?_); refine wpu_drew G ?_; clear G; intro w G)
        | go_big_skip
        | ((with_reducible refine at_load ?_); first
          | (refine wpu_load G rfl (by kernel_rfl) rfl rfl ?_; go_frame)
          | (refine wpu_loadB G rfl (by kernel_rfl) rfl (by rfl) ?_; go_frame)
          | (refine wpu_loadS G rfl (by kernel_rfl) rfl (by rfl) ?_; simp only [List.drop_succ_cons, List.drop_zero, List.take_succ_cons, List.take_zero]; go_frame))
        | ((with_reducible refine at_store ?_); first
          | (refine wpu_store G rfl (by kernel_rfl) rfl rfl (by first | rfl | assumption | simp [*]) rfl ?_; clear G; intro w G; go_frame)
          | (refine wpu_storeB G rfl (by kernel_rfl) rfl rfl (by rfl) (by rfl) (by first | rfl | assumption | simp [*]) ?_; clear G; intro w G; go_frame)
          | (refine wpu_storeS G rfl (by kernel_rfl) rfl rfl (by rfl) (by rfl) (by first | rfl | assumption | simp [*]) ?_; clear G; intro w G; go_frame))
        | ((with_reducible refine at_convert ?_); refine wpu_str G rfl (by kernel_rfl) rfl rfl ?_; go_frame)
        | fail)
      go_ret
      exact ⟨rfl, G.below⟩

theorem contract {H : Type} {enc : TypeId × Value → H} {W : World} {vs : List Value} {ds : List (DataW H)}
    (hA : Args enc Tryd.prog W [3, 3, 3] vs ds) (hsz : (DataW.weightsEach Tryd.prog [3, 3, 3] ds).all (· ≤ reachBytes) = true) (hL : laidMetH Tryd.prog Rows.fieldsLengthsRow.laid W) :
    Calls Tryd.prog 6 vs.toArray W fun e W' => e = .returned (.bool true) ∧ Below W.heap.size W W' := by
  obtain ⟨v0, _, d0, _, rfl, rfl, h0, hA⟩ := args_cons hA
  obtain ⟨v1, _, d1, _, rfl, rfl, h1, hA⟩ := args_cons hA
  obtain ⟨v2, _, d2, _, rfl, rfl, h2, hA⟩ := args_cons hA
  obtain ⟨rfl, rfl⟩ := args_nil hA
  obtain ⟨n, rfl, hn⟩ := arg_i64 Tryd.underlying3 h0
  obtain ⟨m, rfl, hm⟩ := arg_i64 Tryd.underlying3 h1
  obtain ⟨x, rfl, -⟩ := arg_i64 Tryd.underlying3 h2
  exact lenW n m x hn hm



theorem spec {H : Type} : ∀ ds : List (DataW H), ds.length = 3 → Rows.fieldsLengthsSpec.fn H ds = { results := [.lit (.bool true)], args := ds }
  | [_, _, _], _ => rfl
  | [], h => by cases h
  | [_], h => by cases h
  | [_, _], h => by cases h
  | _ :: _ :: _ :: _ :: _, h => by simp at h
theorem door_met (os : Os) (args : Array Value) : laidMetH Tryd.prog Rows.fieldsLengthsRow.laid ((World.setRow (World.doorLaid Tryd.prog 72 os) (Tryd.prog.globalNamed "unicode/utf8.first").get! (Go.Pinned.utf8FirstZ.map fun z : Nat => Value.int .u8 (z : Int)).toArray).forCall (fun _ _ => 0) ⟨#[], args, []⟩).memory :=
  laidMetH_of_parts3 (fuel := 8) (laidMet_of_run' 8 (by kernel_rfl) (by kernel_rfl)) (by kernel_rfl) (by kernel_rfl)
set_option maxRecDepth 100000 in
theorem lifted (os : Os) (started : os.Started) (H : Type) (enc : TypeId × Value → H) :
    ReturnsInHanded {} Tryd.checked os 6 .any (fun w args => (Rows.fieldsLengthsSpec.pre enc Tryd.prog Tryd.f6 Rows.fieldsLengthsRow.domain false w args ∧ laidMetH Tryd.prog Rows.fieldsLengthsRow.laid w) ∧ sizedMet enc Tryd.prog Tryd.f6 (OpenSpec.ofChange Rows.fieldsLengthsSpec) false w args)
      (Rows.fieldsLengthsSpec.post enc Tryd.prog Tryd.f6 false true false false) :=
  lifted_of_law_laid (C := Tryd.checked) (fn := Tryd.f6) (s := Rows.fieldsLengthsSpec) (tb := 4) (by kernel_rfl) started (by kernel_rfl) Tryd.func6
    (ChangeSpec.witness_shaped (enc := enc) (C := Tryd.checked) (os := os) (X := fun w _ => laidMetH Tryd.prog Rows.fieldsLengthsRow.laid w) false (World.setRow (World.doorLaid Tryd.prog 72 os) (Tryd.prog.globalNamed "unicode/utf8.first").get! (Go.Pinned.utf8FirstZ.map fun z : Nat => Value.int .u8 (z : Int)).toArray) #[.int .i64 0, .int .i64 0, .int .i64 0] 8 rfl (World.shaped_of_RefB (by kernel_rfl) (by kernel_rfl)) (by kernel_rfl) (by kernel_rfl) (by kernel_rfl) (door_met os _))
    rfl spec (by kernel_rfl) Tryd.underlying4 (by kernel_rfl) (by kernel_rfl) (fun _ _ _ h1 h2 h3 => contract h1 h2 h3)

theorem holds : Rows.FieldsLengthsSaid :=
  OpenClaim.holds_of_wide 6 Tryd.f6 rfl rfl rfl rfl rfl rfl rfl ⟨rfl, rfl, rfl, rfl, rfl⟩ rfl rfl rfl rfl rfl (by kernel_rfl) Tryd.func6 (by kernel_rfl)
    (of_decide_eq_true (by kernel_rfl)) (by unfold Func.isWrapper; first | (rw [if_pos (by decide +kernel)]; kernel_rfl) | (rw [if_neg (by decide +kernel)]; exact ⟨rfl, rfl⟩))
    (fun os started H enc _ => lifted os started H enc)

theorem proved : Rows.FieldsLengthsCardSaid :=
  Claim7.holds_tied_plain_at .later [] [.data, .data, .data, .data, .sentinel, .sentinel, .pinned] true (true, "b7b04a5e23c144aaf3ed07f71e534f1c77dbf3b9fe34ff9557e3f13d899a9de9") true
    holds (fun _ h => by cases h) (by kernel_rfl) (fun _ h => by cases h) fieldsLengths_row_tie rfl ⟨rfl, rfl⟩ (by kernel_rfl) rfl
    (fun f fn hf hfn => by
      obtain rfl : f = 6 := Option.some.inj ((show Tryd.prog.funcNamed "flume/flumelaw10.FieldsLengths" = some 6 by kernel_rfl).symm.trans hf) |>.symm
      obtain rfl : fn = Tryd.f6 := (Option.some.inj (Tryd.func6.symm.trans hfn)).symm
      exact ⟨by kernel_rfl, fun j t ht => by
        rw [Tryd.params6] at ht
        have hm : t ∈ [3, 3, 3] := by simpa using Array.mem_of_getElem? ht
        have hall : ([3, 3, 3].all fun u => !Tryd.prog.wantsStandIn u) = true := by kernel_rfl
        exact (show Tryd.prog.wantsStandIn t = false by simpa using List.all_eq_true.1 hall t hm)⟩)
    (by kernel_rfl)
end Go.Proofs.YtikngjdljdofkaaDoor.fieldsLengths
