

/-
  FieldsBytes: a name, and a value, stand or fall with each byte: not in front.
-/
import Derived.Test.YtikngjdljdofkaaDoorFmEnd
import Derived.Test.YtikngjdljdofkaaDoorStrAdd
import Derived.Test.YtikngjdljdofkaaDoorCmp
namespace Go.Proofs.YtikngjdljdofkaaDoor.fieldsBytes
open Go.RowKit Go.Sl Go.ChangeShapes

def nameB (c : UInt8) : Bool := decide (32 < c.toNat) && decide (c.toNat < 127) && !decide (c = 58) && !(decide (65 ≤ c.toNat) && decide (c.toNat ≤ 90))
def valueB (c : UInt8) (front : Bool) : Bool := !decide (c = 0) && !decide (c = 10) && !decide (c = 13) && !(front && (decide (c = 32) || decide (c = 9)))
def sOf (c : UInt8) (front : Bool) : Txt := if front then [c, 98] else [97, c, 98]
def F1 (c : UInt8) (front : Bool) : List Fd := [(sOf c front, [118], false)]
def F2 (c : UInt8) (front : Bool) : List Fd := [([110], sOf c front, false)]
set_option maxRecDepth 100000 in
theorem all_bytes (c : UInt8) (front : Bool) : trailersR (F1 c front) = nameB c ∧ trailersR (F2 c front) = valueB c front := by
  have key : ∀ n : Fin 256, ∀ b : Bool, trailersR (F1 (UInt8.ofNat n.val) b) = nameB (UInt8.ofNat n.val) ∧ trailersR (F2 (UInt8.ofNat n.val) b) = valueB (UInt8.ofNat n.val) b := by decide +kernel
  have := key ⟨c.toNat, c.toNat_lt⟩ front
  simp only [UInt8.ofNat_toNat] at this
  exact this
theorem buildU (c : UInt8) (w : World) : (Instr.buildSlice 35 1 #[(0, .int .u8 (c.toNat : Int))]).run Tryd.prog w = .ok (.slice (some ⟨w.heap.size, 0, none⟩) 1 1) (w.alloc (.cells (bs [c]).toArray 5)) := by kernel_rfl
theorem smallF (c : UInt8) (front : Bool) : small (F1 c front) = true ∧ small (F2 c front) = true := by cases front <;> simp [small, F1, F2, sOf]


theorem beqB {c d : UInt8} {b : Bool} (h : decide (c = d) = b) : ((c.toNat : Int) == (d.toNat : Int)) = b ∧ (c.toNat == d.toNat) = b ∧ ((c.toNat : Int) != (d.toNat : Int)) = !b ∧ (c.toNat != d.toNat) = !b ∧ decide ((c.toNat : Int) = (d.toNat : Int)) = b ∧ decide (c.toNat = d.toNat) = b := by
  cases b
  · obtain ⟨h1, h2⟩ := beq_u8 (of_decide_eq_false h)
    refine ⟨h1, h2, by rw [bne, h1], by rw [bne, h2], ?_, ?_⟩
    · rw [beq_eq_false_iff_ne] at h1; exact decide_eq_false h1
    · rw [beq_eq_false_iff_ne] at h2; exact decide_eq_false h2
  · have : c = d := of_decide_eq_true h
    subst this
    exact ⟨by simp, by simp, by simp, by simp, by simp, by simp⟩
theorem decB {n m : Nat} {b : Bool} (h : decide (n < m) = b) : decide ((n : Int) < (m : Int)) = b := by rw [← h]; exact decide_eq_decide.2 (by omega)
theorem decC {n m : Nat} {b : Bool} (h : decide (n ≤ m) = b) : decide ((n : Int) ≤ (m : Int)) = b := by rw [← h]; exact decide_eq_decide.2 (by omega)
set_option maxRecDepth 100000 in
theorem arg_u8 {H : Type} {enc : TypeId × Value → H} {W : World} {t : TypeId} {v : Value} {d : DataW H} (ht : Tryd.prog.underlying t = some (.int .u8)) (h : Arg enc Tryd.prog W t v d) : ∃ n : UInt8, v = byteV n := by
  obtain ⟨⟨b, h1⟩, h2⟩ := h
  rw [val_one h1 (by rw [ht]; intro _ e; cases e) (by rw [ht]; intro _ _ e; cases e)] at h2
  obtain ⟨n, e1⟩ := rdc_u8 ht h2
  exact ⟨n, (List.cons.inj e1).1⟩
set_option maxHeartbeats 16000000 in
set_option maxRecDepth 100000 in
theorem bytes_false {w0 : World} (c : UInt8) : Calls Tryd.prog 5 #[.int .u8 (c.toNat : Int), .bool false] w0 fun e w' => e = .returned (.bool true) ∧ Below w0.heap.size w0 w' := by
  have G := own_begin w0
  go_enter Tryd.func5, Tryd.ntmps5
  go_wp2_with fail
  refine Calls.mono (shownFm G) ?_
  clear G; rintro e w ⟨rfl, G⟩
  go_wp2_with (first
    | ((with_reducible refine at_build ?_); refine hold ?_)
    | fail)
  unfold Held
  refine wpu_val rfl (exec_buildT _ rfl (by kernel_rfl) (buildU c _)) ?_
  go_frame
  have G1 := own_new_sl (n := 1) (sz := 1) G (bs [c]) 5 rfl (by decide)
  clear G
  have G := G1.sub (sl 1 (.slice (some ⟨w.heap.size, 0, none⟩) 1 1) 1 (bs [c]) * emp)
  clear G1
  obtain ⟨hn, hv⟩ := all_bytes c false
  obtain ⟨q0, z0⟩ : ∃ q, decide (c = 0) = q := ⟨_, rfl⟩
  obtain ⟨q10, z10⟩ : ∃ q, decide (c = 10) = q := ⟨_, rfl⟩
  obtain ⟨q13, z13⟩ : ∃ q, decide (c = 13) = q := ⟨_, rfl⟩
  obtain ⟨q32, z32⟩ : ∃ q, decide (c = 32) = q := ⟨_, rfl⟩
  obtain ⟨q9, z9⟩ : ∃ q, decide (c = 9) = q := ⟨_, rfl⟩
  obtain ⟨q58, z58⟩ : ∃ q, decide (c = 58) = q := ⟨_, rfl⟩
  obtain ⟨p1, h1⟩ : ∃ q, decide (32 < c.toNat) = q := ⟨_, rfl⟩
  obtain ⟨p2, h2⟩ : ∃ q, decide (c.toNat < 127) = q := ⟨_, rfl⟩
  obtain ⟨p4, h4⟩ : ∃ q, decide (65 ≤ c.toNat) = q := ⟨_, rfl⟩
  obtain ⟨p5, h5⟩ : ∃ q, decide (c.toNat ≤ 90) = q := ⟨_, rfl⟩
  have HNB : Hid (trailersR (F1 c false) = (p1 && p2 && !q58 && !(p4 && p5))) := Lib.hid (by rw [hn]; unfold nameB; rw [h1, h2, h4, h5, z58])
  have HVB : Hid (trailersR (F2 c false) = (!q0 && !q10 && !q13 && !(false && (q32 || q9)))) := Lib.hid (by rw [hv]; unfold valueB; rw [z0, z10, z13, z32, z9])
  have hp : p1 = true → q0 = false ∧ q10 = false ∧ q13 = false ∧ q32 = false ∧ q9 = false := by
    intro e
    subst e
    have hlt : 32 < c.toNat := of_decide_eq_true h1
    refine ⟨?_, ?_, ?_, ?_, ?_⟩
    all_goals
      first | rw [← z0] | rw [← z10] | rw [← z13] | rw [← z32] | rw [← z9]
      refine decide_eq_false fun e => ?_
      subst e
      revert hlt
      decide
  clear hn hv
  obtain ⟨a0, b0, c0, d0, e0, f0⟩ := beqB z0
  obtain ⟨a10, b10, c10, d10, e10, f10⟩ := beqB z10
  obtain ⟨a13, b13, c13, d13, e13, f13⟩ := beqB z13
  obtain ⟨a32, b32, c32, d32, e32, f32⟩ := beqB z32
  obtain ⟨a9, b9, c9, d9, e9, f9⟩ := beqB z9
  obtain ⟨a58, b58, c58, d58, e58, f58⟩ := beqB z58
  have g1 := decB h1
  have g2 := decB h2
  have g4 := decC h4
  have g5 := decC h5
  have i1 : decide ((c.toNat : Int) > 32) = p1 := g1
  have i2 : decide (c.toNat > 32) = p1 := h1
  have i4 : decide ((c.toNat : Int) ≥ 65) = p4 := g4
  have i5 : decide (c.toNat ≥ 65) = p4 := h4
  simp only [UInt8.reduceToNat, Int.cast_ofNat_Int] at a0 a10 a13 a32 a9 a58 b0 b10 b13 b32 b9 b58 c0 c10 c13 c32 c9 c58 d0 d10 d13 d32 d9 d58 e0 e10 e13 e32 e9 e58 f0 f10 f13 f32 f9 f58
  clear z0 z10 z13 z32 z9 z58
  go_wp2_with (first
    | ((with_reducible refine at_convert ?_); refine wpu_str G rfl rfl rfl rfl ?_; go_frame)
    | ((with_reducible refine at_addS ?_); first
      | (refine wpu_addS (l := [97]) (m := [c]) rfl rfl rfl rfl rfl (by simp) ?_; go_frame)
      | (refine wpu_addS (l := [97, c]) (m := [98]) rfl rfl rfl rfl rfl (by simp) ?_; refine hold ?_))
    | fail)
  unfold Held
  generalize w.alloc _ = w1 at G ⊢
  cases p1
  · skip
    cases q0
    · skip
      cases q10
      · skip
        cases q13
        · skip
          have HN : Hid (trailersR (F1 c false) = false) := Lib.hid (HNB.out.trans rfl)
          have HV : Hid (trailersR (F2 c false) = true) := Lib.hid (HVB.out.trans rfl)
          clear HNB HVB
          skip
          as_aux_lemma =>
          go_wp2_with (first
            | go_big_skip
            | ((with_reducible refine at_lss ?_); refine wpu_lss rfl (by kernel_rfl) rfl rfl (by assumption) ?_; go_frame)
            | ((with_reducible refine at_gtr ?_); refine wpu_gtr rfl (by kernel_rfl) rfl rfl (by assumption) ?_; go_frame)
            | ((with_reducible refine at_leq ?_); refine wpu_leq rfl (by kernel_rfl) rfl rfl (by assumption) ?_; go_frame)
            | ((with_reducible refine at_geq ?_); refine wpu_geq rfl (by kernel_rfl) rfl rfl (by assumption) ?_; go_frame)
            | ((with_reducible refine at_eql ?_); refine wpu_eql rfl (by kernel_rfl) rfl rfl (by assumption) ?_; go_frame)
            | ((with_reducible refine at_neq ?_); refine wpu_neqE rfl (by kernel_rfl) rfl rfl (by assumption) ?_; go_frame)
            | ((with_reducible refine at_build ?_); refine hold ?_)
            | ((with_reducible refine at_alloc ?_); refine wpu_new G ?_; clear G; intro w G)
            | ((with_reducible refine at_drew ?_); refine wpu_drew G ?_; clear G; intro w G)
            | go_big_skip
            | ((with_reducible refine at_load ?_); first
              | (refine wpu_load G rfl (by kernel_rfl) rfl rfl ?_; go_frame)
              | (refine wpu_loadB G rfl (by kernel_rfl) rfl (by rfl) ?_; go_frame)
              | (refine wpu_loadS G rfl (by kernel_rfl) rfl (by rfl) ?_; simp only [List.drop_succ_cons, List.drop_zero, List.take_succ_cons, List.take_zero]; go_frame))
            | ((with_reducible refine at_store ?_); first
              | (refine wpu_store G rfl (by kernel_rfl) rfl rfl (by first | rfl | assumption | simp [*]) rfl ?_; clear G; intro w G; go_frame)
              | (refine wpu_storeB G rfl (by kernel_rfl) rfl rfl (by rfl) (by rfl) (by first | rfl | assumption | simp [*]) ?_; clear G; intro w G; go_frame)
              | (refine wpu_storeS G rfl (by kernel_rfl) rfl rfl (by rfl) (by rfl) (by first | rfl | assumption | simp [*]) ?_; clear G; intro w G; go_frame))
            | ((with_reducible refine at_convert ?_); refine wpu_str G rfl (by kernel_rfl) rfl rfl ?_; go_frame)
            | fail)
          unfold Held
          clear a0 a10 a13 a32 a9 a58 b0 b10 b13 b32 b9 b58 c0 c10 c13 c32 c9 c58 d0 d10 d13 d32 d9 d58 e0 e10 e13 e32 e9 e58 f0 f10 f13 f32 f9 f58 h1 h2 h4 h5 g1 g2 g4 g5 i1 i2 i4 i5
          refine wpu_val (by kernel_rfl) (exec_buildT _ rfl (by kernel_rfl) (bld2 (sOf c false) [118] _)) ?_
          go_frame
          have G1 := own_new_sl (n := 2) (sz := 1) G (pairs (F1 c false)) 9 rfl (by decide)
          clear G
          go_wp2_with fail
          refine Calls.mono (ofC (F := F1 c false) rfl (by show 1 ≤ 1000; decide) G1 (fun w h => own_rd h)) ?_
          clear G1; rintro e w ⟨v, rfl, G⟩
          change Own _ (sl 3 v 1 (fds (F1 c false)) * _) w at G
          obtain ⟨xo, xc, rfl, x1, x2⟩ := G.hdr v
          unfold maxLen at x2
          obtain ⟨s1, s2⟩ := small_of (L := F1 c false) (smallF c false).1
          go_wp2_with fail
          refine Calls.mono (trailersC (L := F1 c false) s1 s2 G (fun w h => own_rd h)) ?_
          clear G s1 s2; rintro e w ⟨rfl, G⟩
          rw [HN.out]
          go_wp2_with (first
            | ((with_reducible refine at_build ?_); refine hold ?_)
            | ((with_reducible refine at_alloc ?_); refine wpu_new G ?_; clear G; intro w G)
            | ((with_reducible refine at_drew ?_); refine wpu_drew G ?_; clear G; intro w G)
            | go_big_skip
            | ((with_reducible refine at_load ?_); first
              | (refine wpu_load G rfl (by kernel_rfl) rfl rfl ?_; go_frame)
              | (refine wpu_loadB G rfl (by kernel_rfl) rfl (by rfl) ?_; go_frame)
              | (refine wpu_loadS G rfl (by kernel_rfl) rfl (by rfl) ?_; simp only [List.drop_succ_cons, List.drop_zero, List.take_succ_cons, List.take_zero]; go_frame))
            | ((with_reducible refine at_store ?_); first
              | (refine wpu_store G rfl (by kernel_rfl) rfl rfl (by first | rfl | assumption | simp [*]) rfl ?_; clear G; intro w G; go_frame)
              | (refine wpu_storeB G rfl (by kernel_rfl) rfl rfl (by rfl) (by rfl) (by first | rfl | assumption | simp [*]) ?_; clear G; intro w G; go_frame)
              | (refine wpu_storeS G rfl (by kernel_rfl) rfl rfl (by rfl) (by rfl) (by first | rfl | assumption | simp [*]) ?_; clear G; intro w G; go_frame))
            | ((with_reducible refine at_convert ?_); refine wpu_str G rfl (by kernel_rfl) rfl rfl ?_; go_frame)
            | fail)
          unfold Held
          refine wpu_val (by kernel_rfl) (exec_buildT _ rfl (by kernel_rfl) (bld2 [110] (sOf c false) _)) ?_
          go_frame
          have G1 := own_new_sl (n := 2) (sz := 1) G (pairs (F2 c false)) 9 rfl (by decide)
          clear G
          go_wp2_with fail
          refine Calls.mono (ofC (F := F2 c false) rfl (by show 1 ≤ 1000; decide) G1 (fun w h => own_rd h)) ?_
          clear G1; rintro e w ⟨v, rfl, G⟩
          change Own _ (sl 3 v 1 (fds (F2 c false)) * _) w at G
          obtain ⟨yo, yc, rfl, y1, y2⟩ := G.hdr v
          unfold maxLen at y2
          obtain ⟨s1, s2⟩ := small_of (L := F2 c false) (smallF c false).2
          go_wp2_with fail
          refine Calls.mono (trailersC (L := F2 c false) s1 s2 G (fun w h => own_rd h)) ?_
          clear G s1 s2; rintro e w ⟨rfl, G⟩
          rw [HV.out]
          go_wp2_with fail
          go_ret
          exact ⟨rfl, G.below⟩
        · skip
          have HN : Hid (trailersR (F1 c false) = false) := Lib.hid (HNB.out.trans rfl)
          have HV : Hid (trailersR (F2 c false) = false) := Lib.hid (HVB.out.trans rfl)
          clear HNB HVB
          skip
          as_aux_lemma =>
          go_wp2_with (first
            | go_big_skip
            | ((with_reducible refine at_lss ?_); refine wpu_lss rfl (by kernel_rfl) rfl rfl (by assumption) ?_; go_frame)
            | ((with_reducible refine at_gtr ?_); refine wpu_gtr rfl (by kernel_rfl) rfl rfl (by assumption) ?_; go_frame)
            | ((with_reducible refine at_leq ?_); refine wpu_leq rfl (by kernel_rfl) rfl rfl (by assumption) ?_; go_frame)
            | ((with_reducible refine at_geq ?_); refine wpu_geq rfl (by kernel_rfl) rfl rfl (by assumption) ?_; go_frame)
            | ((with_reducible refine at_eql ?_); refine wpu_eql rfl (by kernel_rfl) rfl rfl (by assumption) ?_; go_frame)
            | ((with_reducible refine at_neq ?_); refine wpu_neqE rfl (by kernel_rfl) rfl rfl (by assumption) ?_; go_frame)
            | ((with_reducible refine at_build ?_); refine hold ?_)
            | ((with_reducible refine at_alloc ?_); refine wpu_new G ?_; clear G; intro w G)
            | ((with_reducible refine at_drew ?_); refine wpu_drew G ?_; clear G; intro w G)
            | go_big_skip
            | ((with_reducible refine at_load ?_); first
              | (refine wpu_load G rfl (by kernel_rfl) rfl rfl ?_; go_frame)
              | (refine wpu_loadB G rfl (by kernel_rfl) rfl (by rfl) ?_; go_frame)
              | (refine wpu_loadS G rfl (by kernel_rfl) rfl (by rfl) ?_; simp only [List.drop_succ_cons, List.drop_zero, List.take_succ_cons, List.take_zero]; go_frame))
            | ((with_reducible refine at_store ?_); first
              | (refine wpu_store G rfl (by kernel_rfl) rfl rfl (by first | rfl | assumption | simp [*]) rfl ?_; clear G; intro w G; go_frame)
              | (refine wpu_storeB G rfl (by kernel_rfl) rfl rfl (by rfl) (by rfl) (by first | rfl | assumption | simp [*]) ?_; clear G; intro w G; go_frame)
              | (refine wpu_storeS G rfl (by kernel_rfl) rfl rfl (by rfl) (by rfl) (by first | rfl | assumption | simp [*]) ?_; clear G; intro w G; go_frame))
            | ((with_reducible refine at_convert ?_); refine wpu_str G rfl (by kernel_rfl) rfl rfl ?_; go_frame)
            | fail)
          unfold Held
          clear a0 a10 a13 a32 a9 a58 b0 b10 b13 b32 b9 b58 c0 c10 c13 c32 c9 c58 d0 d10 d13 d32 d9 d58 e0 e10 e13 e32 e9 e58 f0 f10 f13 f32 f9 f58 h1 h2 h4 h5 g1 g2 g4 g5 i1 i2 i4 i5
          refine wpu_val (by kernel_rfl) (exec_buildT _ rfl (by kernel_rfl) (bld2 (sOf c false) [118] _)) ?_
          go_frame
          have G1 := own_new_sl (n := 2) (sz := 1) G (pairs (F1 c false)) 9 rfl (by decide)
          clear G
          go_wp2_with fail
          refine Calls.mono (ofC (F := F1 c false) rfl (by show 1 ≤ 1000; decide) G1 (fun w h => own_rd h)) ?_
          clear G1; rintro e w ⟨v, rfl, G⟩
          change Own _ (sl 3 v 1 (fds (F1 c false)) * _) w at G
          obtain ⟨xo, xc, rfl, x1, x2⟩ := G.hdr v
          unfold maxLen at x2
          obtain ⟨s1, s2⟩ := small_of (L := F1 c false) (smallF c false).1
          go_wp2_with fail
          refine Calls.mono (trailersC (L := F1 c false) s1 s2 G (fun w h => own_rd h)) ?_
          clear G s1 s2; rintro e w ⟨rfl, G⟩
          rw [HN.out]
          go_wp2_with (first
            | ((with_reducible refine at_build ?_); refine hold ?_)
            | ((with_reducible refine at_alloc ?_); refine wpu_new G ?_; clear G; intro w G)
            | ((with_reducible refine at_drew ?_); refine wpu_drew G ?_; clear G; intro w G)
            | go_big_skip
            | ((with_reducible refine at_load ?_); first
              | (refine wpu_load G rfl (by kernel_rfl) rfl rfl ?_; go_frame)
              | (refine wpu_loadB G rfl (by kernel_rfl) rfl (by rfl) ?_; go_frame)
              | (refine wpu_loadS G rfl (by kernel_rfl) rfl (by rfl) ?_; simp only [List.drop_succ_cons, List.drop_zero, List.take_succ_cons, List.take_zero]; go_frame))
            | ((with_reducible refine at_store ?_); first
              | (refine wpu_store G rfl (by kernel_rfl) rfl rfl (by first | rfl | assumption | simp [*]) rfl ?_; clear G; intro w G; go_frame)
              | (refine wpu_storeB G rfl (by kernel_rfl) rfl rfl (by rfl) (by rfl) (by first | rfl | assumption | simp [*]) ?_; clear G; intro w G; go_frame)
              | (refine wpu_storeS G rfl (by kernel_rfl) rfl rfl (by rfl) (by rfl) (by first | rfl | assumption | simp [*]) ?_; clear G; intro w G; go_frame))
            | ((with_reducible refine at_convert ?_); refine wpu_str G rfl (by kernel_rfl) rfl rfl ?_; go_frame)
            | fail)
          unfold Held
          refine wpu_val (by kernel_rfl) (exec_buildT _ rfl (by kernel_rfl) (bld2 [110] (sOf c false) _)) ?_
          go_frame
          have G1 := own_new_sl (n := 2) (sz := 1) G (pairs (F2 c false)) 9 rfl (by decide)
          clear G
          go_wp2_with fail
          refine Calls.mono (ofC (F := F2 c false) rfl (by show 1 ≤ 1000; decide) G1 (fun w h => own_rd h)) ?_
          clear G1; rintro e w ⟨v, rfl, G⟩
          change Own _ (sl 3 v 1 (fds (F2 c false)) * _) w at G
          obtain ⟨yo, yc, rfl, y1, y2⟩ := G.hdr v
          unfold maxLen at y2
          obtain ⟨s1, s2⟩ := small_of (L := F2 c false) (smallF c false).2
          go_wp2_with fail
          refine Calls.mono (trailersC (L := F2 c false) s1 s2 G (fun w h => own_rd h)) ?_
          clear G s1 s2; rintro e w ⟨rfl, G⟩
          rw [HV.out]
          go_wp2_with fail
          go_ret
          exact ⟨rfl, G.below⟩
      · skip
        have HN : Hid (trailersR (F1 c false) = false) := Lib.hid (HNB.out.trans rfl)
        have HV : Hid (trailersR (F2 c false) = false) := Lib.hid (HVB.out.trans rfl)
        clear HNB HVB
        skip
        as_aux_lemma =>
        go_wp2_with (first
          | go_big_skip
          | ((with_reducible refine at_lss ?_); refine wpu_lss rfl (by kernel_rfl) rfl rfl (by assumption) ?_; go_frame)
          | ((with_reducible refine at_gtr ?_); refine wpu_gtr rfl (by kernel_rfl) rfl rfl (by assumption) ?_; go_frame)
          | ((with_reducible refine at_leq ?_); refine wpu_leq rfl (by kernel_rfl) rfl rfl (by assumption) ?_; go_frame)
          | ((with_reducible refine at_geq ?_); refine wpu_geq rfl (by kernel_rfl) rfl rfl (by assumption) ?_; go_frame)
          | ((with_reducible refine at_eql ?_); refine wpu_eql rfl (by kernel_rfl) rfl rfl (by assumption) ?_; go_frame)
          | ((with_reducible refine at_neq ?_); refine wpu_neqE rfl (by kernel_rfl) rfl rfl (by assumption) ?_; go_frame)
          | ((with_reducible refine at_build ?_); refine hold ?_)
          | ((with_reducible refine at_alloc ?_); refine wpu_new G ?_; clear G; intro w G)
          | ((with_reducible refine at_drew ?_); refine wpu_drew G ?_; clear G; intro w G)
          | go_big_skip
          | ((with_reducible refine at_load ?_); first
            | (refine wpu_load G rfl (by kernel_rfl) rfl rfl ?_; go_frame)
            | (refine wpu_loadB G rfl (by kernel_rfl) rfl (by rfl) ?_; go_frame)
            | (refine wpu_loadS G rfl (by kernel_rfl) rfl (by rfl) ?_; simp only [List.drop_succ_cons, List.drop_zero, List.take_succ_cons, List.take_zero]; go_frame))
          | ((with_reducible refine at_store ?_); first
            | (refine wpu_store G rfl (by kernel_rfl) rfl rfl (by first | rfl | assumption | simp [*]) rfl ?_; clear G; intro w G; go_frame)
            | (refine wpu_storeB G rfl (by kernel_rfl) rfl rfl (by rfl) (by rfl) (by first | rfl | assumption | simp [*]) ?_; clear G; intro w G; go_frame)
            | (refine wpu_storeS G rfl (by kernel_rfl) rfl rfl (by rfl) (by rfl) (by first | rfl | assumption | simp [*]) ?_; clear G; intro w G; go_frame))
          | ((with_reducible refine at_convert ?_); refine wpu_str G rfl (by kernel_rfl) rfl rfl ?_; go_frame)
          | fail)
        unfold Held
        clear a0 a10 a13 a32 a9 a58 b0 b10 b13 b32 b9 b58 c0 c10 c13 c32 c9 c58 d0 d10 d13 d32 d9 d58 e0 e10 e13 e32 e9 e58 f0 f10 f13 f32 f9 f58 h1 h2 h4 h5 g1 g2 g4 g5 i1 i2 i4 i5
        refine wpu_val (by kernel_rfl) (exec_buildT _ rfl (by kernel_rfl) (bld2 (sOf c false) [118] _)) ?_
        go_frame
        have G1 := own_new_sl (n := 2) (sz := 1) G (pairs (F1 c false)) 9 rfl (by decide)
        clear G
        go_wp2_with fail
        refine Calls.mono (ofC (F := F1 c false) rfl (by show 1 ≤ 1000; decide) G1 (fun w h => own_rd h)) ?_
        clear G1; rintro e w ⟨v, rfl, G⟩
        change Own _ (sl 3 v 1 (fds (F1 c false)) * _) w at G
        obtain ⟨xo, xc, rfl, x1, x2⟩ := G.hdr v
        unfold maxLen at x2
        obtain ⟨s1, s2⟩ := small_of (L := F1 c false) (smallF c false).1
        go_wp2_with fail
        refine Calls.mono (trailersC (L := F1 c false) s1 s2 G (fun w h => own_rd h)) ?_
        clear G s1 s2; rintro e w ⟨rfl, G⟩
        rw [HN.out]
        go_wp2_with (first
          | ((with_reducible refine at_build ?_); refine hold ?_)
          | ((with_reducible refine at_alloc ?_); refine wpu_new G ?_; clear G; intro w G)
          | ((with_reducible refine at_drew ?_); refine wpu_drew G ?_; clear G; intro w G)
          | go_big_skip
          | ((with_reducible refine at_load ?_); first
            | (refine wpu_load G rfl (by kernel_rfl) rfl rfl ?_; go_frame)
            | (refine wpu_loadB G rfl (by kernel_rfl) rfl (by rfl) ?_; go_frame)
            | (refine wpu_loadS G rfl (by kernel_rfl) rfl (by rfl) ?_; simp only [List.drop_succ_cons, List.drop_zero, List.take_succ_cons, List.take_zero]; go_frame))
          | ((with_reducible refine at_store ?_); first
            | (refine wpu_store G rfl (by kernel_rfl) rfl rfl (by first | rfl | assumption | simp [*]) rfl ?_; clear G; intro w G; go_frame)
            | (refine wpu_storeB G rfl (by kernel_rfl) rfl rfl (by rfl) (by rfl) (by first | rfl | assumption | simp [*]) ?_; clear G; intro w G; go_frame)
            | (refine wpu_storeS G rfl (by kernel_rfl) rfl rfl (by rfl) (by rfl) (by first | rfl | assumption | simp [*]) ?_; clear G; intro w G; go_frame))
          | ((with_reducible refine at_convert ?_); refine wpu_str G rfl (by kernel_rfl) rfl rfl ?_; go_frame)
          | fail)
        unfold Held
        refine wpu_val (by kernel_rfl) (exec_buildT _ rfl (by kernel_rfl) (bld2 [110] (sOf c false) _)) ?_
        go_frame
        have G1 := own_new_sl (n := 2) (sz := 1) G (pairs (F2 c false)) 9 rfl (by decide)
        clear G
        go_wp2_with fail
        refine Calls.mono (ofC (F := F2 c false) rfl (by show 1 ≤ 1000; decide) G1 (fun w h => own_rd h)) ?_
        clear G1; rintro e w ⟨v, rfl, G⟩
        change Own _ (sl 3 v 1 (fds (F2 c false)) * _) w at G
        obtain ⟨yo, yc, rfl, y1, y2⟩ := G.hdr v
        unfold maxLen at y2
        obtain ⟨s1, s2⟩ := small_of (L := F2 c false) (smallF c false).2
        go_wp2_with fail
        refine Calls.mono (trailersC (L := F2 c false) s1 s2 G (fun w h => own_rd h)) ?_
        clear G s1 s2; rintro e w ⟨rfl, G⟩
        rw [HV.out]
        go_wp2_with fail
        go_ret
        exact ⟨rfl, G.below⟩
    · skip
      have HN : Hid (trailersR (F1 c false) = false) := Lib.hid (HNB.out.trans rfl)
      have HV : Hid (trailersR (F2 c false) = false) := Lib.hid (HVB.out.trans rfl)
      clear HNB HVB
      skip
      as_aux_lemma =>
      go_wp2_with (first
        | go_big_skip
        | ((with_reducible refine at_lss ?_); refine wpu_lss rfl (by kernel_rfl) rfl rfl (by assumption) ?_; go_frame)
        | ((with_reducible refine at_gtr ?_); refine wpu_gtr rfl (by kernel_rfl) rfl rfl (by assumption) ?_; go_frame)
        | ((with_reducible refine at_leq ?_); refine wpu_leq rfl (by kernel_rfl) rfl rfl (by assumption) ?_; go_frame)
        | ((with_reducible refine at_geq ?_); refine wpu_geq rfl (by kernel_rfl) rfl rfl (by assumption) ?_; go_frame)
        | ((with_reducible refine at_eql ?_); refine wpu_eql rfl (by kernel_rfl) rfl rfl (by assumption) ?_; go_frame)
        | ((with_reducible refine at_neq ?_); refine wpu_neqE rfl (by kernel_rfl) rfl rfl (by assumption) ?_; go_frame)
        | ((with_reducible refine at_build ?_); refine hold ?_)
        | ((with_reducible refine at_alloc ?_); refine wpu_new G ?_; clear G; intro w G)
        | ((with_reducible refine at_drew ?_); refine wpu_drew G ?_; clear G; intro w G)
        | go_big_skip
        | ((with_reducible refine at_load ?_); first
          | (refine wpu_load G rfl (by kernel_rfl) rfl rfl ?_; go_frame)
          | (refine wpu_loadB G rfl (by kernel_rfl) rfl (by rfl) ?_; go_frame)
          | (refine wpu_loadS G rfl (by kernel_rfl) rfl (by rfl) ?_; simp only [List.drop_succ_cons, List.drop_zero, List.take_succ_cons, List.take_zero]; go_frame))
        | ((with_reducible refine at_store ?_); first
          | (refine wpu_store G rfl (by kernel_rfl) rfl rfl (by first | rfl | assumption | simp [*]) rfl ?_; clear G; intro w G; go_frame)
          | (refine wpu_storeB G rfl (by kernel_rfl) rfl rfl (by rfl) (by rfl) (by first | rfl | assumption | simp [*]) ?_; clear G; intro w G; go_frame)
          | (refine wpu_storeS G rfl (by kernel_rfl) rfl rfl (by rfl) (by rfl) (by first | rfl | assumption | simp [*]) ?_; clear G; intro w G; go_frame))
        | ((with_reducible refine at_convert ?_); refine wpu_str G rfl (by kernel_rfl) rfl rfl ?_; go_frame)
        | fail)
      unfold Held
      clear a0 a10 a13 a32 a9 a58 b0 b10 b13 b32 b9 b58 c0 c10 c13 c32 c9 c58 d0 d10 d13 d32 d9 d58 e0 e10 e13 e32 e9 e58 f0 f10 f13 f32 f9 f58 h1 h2 h4 h5 g1 g2 g4 g5 i1 i2 i4 i5
      refine wpu_val (by kernel_rfl) (exec_buildT _ rfl (by kernel_rfl) (bld2 (sOf c false) [118] _)) ?_
      go_frame
      have G1 := own_new_sl (n := 2) (sz := 1) G (pairs (F1 c false)) 9 rfl (by decide)
      clear G
      go_wp2_with fail
      refine Calls.mono (ofC (F := F1 c false) rfl (by show 1 ≤ 1000; decide) G1 (fun w h => own_rd h)) ?_
      clear G1; rintro e w ⟨v, rfl, G⟩
      change Own _ (sl 3 v 1 (fds (F1 c false)) * _) w at G
      obtain ⟨xo, xc, rfl, x1, x2⟩ := G.hdr v
      unfold maxLen at x2
      obtain ⟨s1, s2⟩ := small_of (L := F1 c false) (smallF c false).1
      go_wp2_with fail
      refine Calls.mono (trailersC (L := F1 c false) s1 s2 G (fun w h => own_rd h)) ?_
      clear G s1 s2; rintro e w ⟨rfl, G⟩
      rw [HN.out]
      go_wp2_with (first
        | ((with_reducible refine at_build ?_); refine hold ?_)
        | ((with_reducible refine at_alloc ?_); refine wpu_new G ?_; clear G; intro w G)
        | ((with_reducible refine at_drew ?_); refine wpu_drew G ?_; clear G; intro w G)
        | go_big_skip
        | ((with_reducible refine at_load ?_); first
          | (refine wpu_load G rfl (by kernel_rfl) rfl rfl ?_; go_frame)
          | (refine wpu_loadB G rfl (by kernel_rfl) rfl (by rfl) ?_; go_frame)
          | (refine wpu_loadS G rfl (by kernel_rfl) rfl (by rfl) ?_; simp only [List.drop_succ_cons, List.drop_zero, List.take_succ_cons, List.take_zero]; go_frame))
        | ((with_reducible refine at_store ?_); first
          | (refine wpu_store G rfl (by kernel_rfl) rfl rfl (by first | rfl | assumption | simp [*]) rfl ?_; clear G; intro w G; go_frame)
          | (refine wpu_storeB G rfl (by kernel_rfl) rfl rfl (by rfl) (by rfl) (by first | rfl | assumption | simp [*]) ?_; clear G; intro w G; go_frame)
          | (refine wpu_storeS G rfl (by kernel_rfl) rfl rfl (by rfl) (by rfl) (by first | rfl | assumption | simp [*]) ?_; clear G; intro w G; go_frame))
        | ((with_reducible refine at_convert ?_); refine wpu_str G rfl (by kernel_rfl) rfl rfl ?_; go_frame)
        | fail)
      unfold Held
      refine wpu_val (by kernel_rfl) (exec_buildT _ rfl (by kernel_rfl) (bld2 [110] (sOf c false) _)) ?_
      go_frame
      have G1 := own_new_sl (n := 2) (sz := 1) G (pairs (F2 c false)) 9 rfl (by decide)
      clear G
      go_wp2_with fail
      refine Calls.mono (ofC (F := F2 c false) rfl (by show 1 ≤ 1000; decide) G1 (fun w h => own_rd h)) ?_
      clear G1; rintro e w ⟨v, rfl, G⟩
      change Own _ (sl 3 v 1 (fds (F2 c false)) * _) w at G
      obtain ⟨yo, yc, rfl, y1, y2⟩ := G.hdr v
      unfold maxLen at y2
      obtain ⟨s1, s2⟩ := small_of (L := F2 c false) (smallF c false).2
      go_wp2_with fail
      refine Calls.mono (trailersC (L := F2 c false) s1 s2 G (fun w h => own_rd h)) ?_
      clear G s1 s2; rintro e w ⟨rfl, G⟩
      rw [HV.out]
      go_wp2_with fail
      go_ret
      exact ⟨rfl, G.below⟩
  · skip
    obtain ⟨rfl, rfl, rfl, rfl, rfl⟩ := hp rfl
    cases p2
    · skip
      have HN : Hid (trailersR (F1 c false) = false) := Lib.hid (HNB.out.trans rfl)
      have HV : Hid (trailersR (F2 c false) = true) := Lib.hid (HVB.out.trans rfl)
      clear HNB HVB
      skip
      as_aux_lemma =>
      go_wp2_with (first
        | go_big_skip
        | ((with_reducible refine at_lss ?_); refine wpu_lss rfl (by kernel_rfl) rfl rfl (by assumption) ?_; go_frame)
        | ((with_reducible refine at_gtr ?_); refine wpu_gtr rfl (by kernel_rfl) rfl rfl (by assumption) ?_; go_frame)
        | ((with_reducible refine at_leq ?_); refine wpu_leq rfl (by kernel_rfl) rfl rfl (by assumption) ?_; go_frame)
        | ((with_reducible refine at_geq ?_); refine wpu_geq rfl (by kernel_rfl) rfl rfl (by assumption) ?_; go_frame)
        | ((with_reducible refine at_eql ?_); refine wpu_eql rfl (by kernel_rfl) rfl rfl (by assumption) ?_; go_frame)
        | ((with_reducible refine at_neq ?_); refine wpu_neqE rfl (by kernel_rfl) rfl rfl (by assumption) ?_; go_frame)
        | ((with_reducible refine at_build ?_); refine hold ?_)
        | ((with_reducible refine at_alloc ?_); refine wpu_new G ?_; clear G; intro w G)
        | ((with_reducible refine at_drew ?_); refine wpu_drew G ?_; clear G; intro w G)
        | go_big_skip
        | ((with_reducible refine at_load ?_); first
          | (refine wpu_load G rfl (by kernel_rfl) rfl rfl ?_; go_frame)
          | (refine wpu_loadB G rfl (by kernel_rfl) rfl (by rfl) ?_; go_frame)
          | (refine wpu_loadS G rfl (by kernel_rfl) rfl (by rfl) ?_; simp only [List.drop_succ_cons, List.drop_zero, List.take_succ_cons, List.take_zero]; go_frame))
        | ((with_reducible refine at_store ?_); first
          | (refine wpu_store G rfl (by kernel_rfl) rfl rfl (by first | rfl | assumption | simp [*]) rfl ?_; clear G; intro w G; go_frame)
          | (refine wpu_storeB G rfl (by kernel_rfl) rfl rfl (by rfl) (by rfl) (by first | rfl | assumption | simp [*]) ?_; clear G; intro w G; go_frame)
          | (refine wpu_storeS G rfl (by kernel_rfl) rfl rfl (by rfl) (by rfl) (by first | rfl | assumption | simp [*]) ?_; clear G; intro w G; go_frame))
        | ((with_reducible refine at_convert ?_); refine wpu_str G rfl (by kernel_rfl) rfl rfl ?_; go_frame)
        | fail)
      unfold Held
      clear a0 a10 a13 a32 a9 a58 b0 b10 b13 b32 b9 b58 c0 c10 c13 c32 c9 c58 d0 d10 d13 d32 d9 d58 e0 e10 e13 e32 e9 e58 f0 f10 f13 f32 f9 f58 h1 h2 h4 h5 g1 g2 g4 g5 i1 i2 i4 i5
      refine wpu_val (by kernel_rfl) (exec_buildT _ rfl (by kernel_rfl) (bld2 (sOf c false) [118] _)) ?_
      go_frame
      have G1 := own_new_sl (n := 2) (sz := 1) G (pairs (F1 c false)) 9 rfl (by decide)
      clear G
      go_wp2_with fail
      refine Calls.mono (ofC (F := F1 c false) rfl (by show 1 ≤ 1000; decide) G1 (fun w h => own_rd h)) ?_
      clear G1; rintro e w ⟨v, rfl, G⟩
      change Own _ (sl 3 v 1 (fds (F1 c false)) * _) w at G
      obtain ⟨xo, xc, rfl, x1, x2⟩ := G.hdr v
      unfold maxLen at x2
      obtain ⟨s1, s2⟩ := small_of (L := F1 c false) (smallF c false).1
      go_wp2_with fail
      refine Calls.mono (trailersC (L := F1 c false) s1 s2 G (fun w h => own_rd h)) ?_
      clear G s1 s2; rintro e w ⟨rfl, G⟩
      rw [HN.out]
      go_wp2_with (first
        | ((with_reducible refine at_build ?_); refine hold ?_)
        | ((with_reducible refine at_alloc ?_); refine wpu_new G ?_; clear G; intro w G)
        | ((with_reducible refine at_drew ?_); refine wpu_drew G ?_; clear G; intro w G)
        | go_big_skip
        | ((with_reducible refine at_load ?_); first
          | (refine wpu_load G rfl (by kernel_rfl) rfl rfl ?_; go_frame)
          | (refine wpu_loadB G rfl (by kernel_rfl) rfl (by rfl) ?_; go_frame)
          | (refine wpu_loadS G rfl (by kernel_rfl) rfl (by rfl) ?_; simp only [List.drop_succ_cons, List.drop_zero, List.take_succ_cons, List.take_zero]; go_frame))
        | ((with_reducible refine at_store ?_); first
          | (refine wpu_store G rfl (by kernel_rfl) rfl rfl (by first | rfl | assumption | simp [*]) rfl ?_; clear G; intro w G; go_frame)
          | (refine wpu_storeB G rfl (by kernel_rfl) rfl rfl (by rfl) (by rfl) (by first | rfl | assumption | simp [*]) ?_; clear G; intro w G; go_frame)
          | (refine wpu_storeS G rfl (by kernel_rfl) rfl rfl (by rfl) (by rfl) (by first | rfl | assumption | simp [*]) ?_; clear G; intro w G; go_frame))
        | ((with_reducible refine at_convert ?_); refine wpu_str G rfl (by kernel_rfl) rfl rfl ?_; go_frame)
        | fail)
      unfold Held
      refine wpu_val (by kernel_rfl) (exec_buildT _ rfl (by kernel_rfl) (bld2 [110] (sOf c false) _)) ?_
      go_frame
      have G1 := own_new_sl (n := 2) (sz := 1) G (pairs (F2 c false)) 9 rfl (by decide)
      clear G
      go_wp2_with fail
      refine Calls.mono (ofC (F := F2 c false) rfl (by show 1 ≤ 1000; decide) G1 (fun w h => own_rd h)) ?_
      clear G1; rintro e w ⟨v, rfl, G⟩
      change Own _ (sl 3 v 1 (fds (F2 c false)) * _) w at G
      obtain ⟨yo, yc, rfl, y1, y2⟩ := G.hdr v
      unfold maxLen at y2
      obtain ⟨s1, s2⟩ := small_of (L := F2 c false) (smallF c false).2
      go_wp2_with fail
      refine Calls.mono (trailersC (L := F2 c false) s1 s2 G (fun w h => own_rd h)) ?_
      clear G s1 s2; rintro e w ⟨rfl, G⟩
      rw [HV.out]
      go_wp2_with fail
      go_ret
      exact ⟨rfl, G.below⟩
    · cases q58
      · cases p4
        · skip
          have HN : Hid (trailersR (F1 c false) = true) := Lib.hid (HNB.out.trans rfl)
          have HV : Hid (trailersR (F2 c false) = true) := Lib.hid (HVB.out.trans rfl)
          clear HNB HVB
          skip
          as_aux_lemma =>
          go_wp2_with (first
            | go_big_skip
            | ((with_reducible refine at_lss ?_); refine wpu_lss rfl (by kernel_rfl) rfl rfl (by assumption) ?_; go_frame)
            | ((with_reducible refine at_gtr ?_); refine wpu_gtr rfl (by kernel_rfl) rfl rfl (by assumption) ?_; go_frame)
            | ((with_reducible refine at_leq ?_); refine wpu_leq rfl (by kernel_rfl) rfl rfl (by assumption) ?_; go_frame)
            | ((with_reducible refine at_geq ?_); refine wpu_geq rfl (by kernel_rfl) rfl rfl (by assumption) ?_; go_frame)
            | ((with_reducible refine at_eql ?_); refine wpu_eql rfl (by kernel_rfl) rfl rfl (by assumption) ?_; go_frame)
            | ((with_reducible refine at_neq ?_); refine wpu_neqE rfl (by kernel_rfl) rfl rfl (by assumption) ?_; go_frame)
            | ((with_reducible refine at_build ?_); refine hold ?_)
            | ((with_reducible refine at_alloc ?_); refine wpu_new G ?_; clear G; intro w G)
            | ((with_reducible refine at_drew ?_); refine wpu_drew G ?_; clear G; intro w G)
            | go_big_skip
            | ((with_reducible refine at_load ?_); first
              | (refine wpu_load G rfl (by kernel_rfl) rfl rfl ?_; go_frame)
              | (refine wpu_loadB G rfl (by kernel_rfl) rfl (by rfl) ?_; go_frame)
              | (refine wpu_loadS G rfl (by kernel_rfl) rfl (by rfl) ?_; simp only [List.drop_succ_cons, List.drop_zero, List.take_succ_cons, List.take_zero]; go_frame))
            | ((with_reducible refine at_store ?_); first
              | (refine wpu_store G rfl (by kernel_rfl) rfl rfl (by first | rfl | assumption | simp [*]) rfl ?_; clear G; intro w G; go_frame)
              | (refine wpu_storeB G rfl (by kernel_rfl) rfl rfl (by rfl) (by rfl) (by first | rfl | assumption | simp [*]) ?_; clear G; intro w G; go_frame)
              | (refine wpu_storeS G rfl (by kernel_rfl) rfl rfl (by rfl) (by rfl) (by first | rfl | assumption | simp [*]) ?_; clear G; intro w G; go_frame))
            | ((with_reducible refine at_convert ?_); refine wpu_str G rfl (by kernel_rfl) rfl rfl ?_; go_frame)
            | fail)
          unfold Held
          clear a0 a10 a13 a32 a9 a58 b0 b10 b13 b32 b9 b58 c0 c10 c13 c32 c9 c58 d0 d10 d13 d32 d9 d58 e0 e10 e13 e32 e9 e58 f0 f10 f13 f32 f9 f58 h1 h2 h4 h5 g1 g2 g4 g5 i1 i2 i4 i5
          refine wpu_val (by kernel_rfl) (exec_buildT _ rfl (by kernel_rfl) (bld2 (sOf c false) [118] _)) ?_
          go_frame
          have G1 := own_new_sl (n := 2) (sz := 1) G (pairs (F1 c false)) 9 rfl (by decide)
          clear G
          go_wp2_with fail
          refine Calls.mono (ofC (F := F1 c false) rfl (by show 1 ≤ 1000; decide) G1 (fun w h => own_rd h)) ?_
          clear G1; rintro e w ⟨v, rfl, G⟩
          change Own _ (sl 3 v 1 (fds (F1 c false)) * _) w at G
          obtain ⟨xo, xc, rfl, x1, x2⟩ := G.hdr v
          unfold maxLen at x2
          obtain ⟨s1, s2⟩ := small_of (L := F1 c false) (smallF c false).1
          go_wp2_with fail
          refine Calls.mono (trailersC (L := F1 c false) s1 s2 G (fun w h => own_rd h)) ?_
          clear G s1 s2; rintro e w ⟨rfl, G⟩
          rw [HN.out]
          go_wp2_with (first
            | ((with_reducible refine at_build ?_); refine hold ?_)
            | ((with_reducible refine at_alloc ?_); refine wpu_new G ?_; clear G; intro w G)
            | ((with_reducible refine at_drew ?_); refine wpu_drew G ?_; clear G; intro w G)
            | go_big_skip
            | ((with_reducible refine at_load ?_); first
              | (refine wpu_load G rfl (by kernel_rfl) rfl rfl ?_; go_frame)
              | (refine wpu_loadB G rfl (by kernel_rfl) rfl (by rfl) ?_; go_frame)
              | (refine wpu_loadS G rfl (by kernel_rfl) rfl (by rfl) ?_; simp only [List.drop_succ_cons, List.drop_zero, List.take_succ_cons, List.take_zero]; go_frame))
            | ((with_reducible refine at_store ?_); first
              | (refine wpu_store G rfl (by kernel_rfl) rfl rfl (by first | rfl | assumption | simp [*]) rfl ?_; clear G; intro w G; go_frame)
              | (refine wpu_storeB G rfl (by kernel_rfl) rfl rfl (by rfl) (by rfl) (by first | rfl | assumption | simp [*]) ?_; clear G; intro w G; go_frame)
              | (refine wpu_storeS G rfl (by kernel_rfl) rfl rfl (by rfl) (by rfl) (by first | rfl | assumption | simp [*]) ?_; clear G; intro w G; go_frame))
            | ((with_reducible refine at_convert ?_); refine wpu_str G rfl (by kernel_rfl) rfl rfl ?_; go_frame)
            | fail)
          unfold Held
          refine wpu_val (by kernel_rfl) (exec_buildT _ rfl (by kernel_rfl) (bld2 [110] (sOf c false) _)) ?_
          go_frame
          have G1 := own_new_sl (n := 2) (sz := 1) G (pairs (F2 c false)) 9 rfl (by decide)
          clear G
          go_wp2_with fail
          refine Calls.mono (ofC (F := F2 c false) rfl (by show 1 ≤ 1000; decide) G1 (fun w h => own_rd h)) ?_
          clear G1; rintro e w ⟨v, rfl, G⟩
          change Own _ (sl 3 v 1 (fds (F2 c false)) * _) w at G
          obtain ⟨yo, yc, rfl, y1, y2⟩ := G.hdr v
          unfold maxLen at y2
          obtain ⟨s1, s2⟩ := small_of (L := F2 c false) (smallF c false).2
          go_wp2_with fail
          refine Calls.mono (trailersC (L := F2 c false) s1 s2 G (fun w h => own_rd h)) ?_
          clear G s1 s2; rintro e w ⟨rfl, G⟩
          rw [HV.out]
          go_wp2_with fail
          go_ret
          exact ⟨rfl, G.below⟩
        · cases p5
          · skip
            have HN : Hid (trailersR (F1 c false) = true) := Lib.hid (HNB.out.trans rfl)
            have HV : Hid (trailersR (F2 c false) = true) := Lib.hid (HVB.out.trans rfl)
            clear HNB HVB
            skip
            as_aux_lemma =>
            go_wp2_with (first
              | go_big_skip
              | ((with_reducible refine at_lss ?_); refine wpu_lss rfl (by kernel_rfl) rfl rfl (by assumption) ?_; go_frame)
              | ((with_reducible refine at_gtr ?_); refine wpu_gtr rfl (by kernel_rfl) rfl rfl (by assumption) ?_; go_frame)
              | ((with_reducible refine at_leq ?_); refine wpu_leq rfl (by kernel_rfl) rfl rfl (by assumption) ?_; go_frame)
              | ((with_reducible refine at_geq ?_); refine wpu_geq rfl (by kernel_rfl) rfl rfl (by assumption) ?_; go_frame)
              | ((with_reducible refine at_eql ?_); refine wpu_eql rfl (by kernel_rfl) rfl rfl (by assumption) ?_; go_frame)
              | ((with_reducible refine at_neq ?_); refine wpu_neqE rfl (by kernel_rfl) rfl rfl (by assumption) ?_; go_frame)
              | ((with_reducible refine at_build ?_); refine hold ?_)
              | ((with_reducible refine at_alloc ?_); refine wpu_new G ?_; clear G; intro w G)
              | ((with_reducible refine at_drew ?_); refine wpu_drew G ?_; clear G; intro w G)
              | go_big_skip
              | ((with_reducible refine at_load ?_); first
                | (refine wpu_load G rfl (by kernel_rfl) rfl rfl ?_; go_frame)
                | (refine wpu_loadB G rfl (by kernel_rfl) rfl (by rfl) ?_; go_frame)
                | (refine wpu_loadS G rfl (by kernel_rfl) rfl (by rfl) ?_; simp only [List.drop_succ_cons, List.drop_zero, List.take_succ_cons, List.take_zero]; go_frame))
              | ((with_reducible refine at_store ?_); first
                | (refine wpu_store G rfl (by kernel_rfl) rfl rfl (by first | rfl | assumption | simp [*]) rfl ?_; clear G; intro w G; go_frame)
                | (refine wpu_storeB G rfl (by kernel_rfl) rfl rfl (by rfl) (by rfl) (by first | rfl | assumption | simp [*]) ?_; clear G; intro w G; go_frame)
                | (refine wpu_storeS G rfl (by kernel_rfl) rfl rfl (by rfl) (by rfl) (by first | rfl | assumption | simp [*]) ?_; clear G; intro w G; go_frame))
              | ((with_reducible refine at_convert ?_); refine wpu_str G rfl (by kernel_rfl) rfl rfl ?_; go_frame)
              | fail)
            unfold Held
            clear a0 a10 a13 a32 a9 a58 b0 b10 b13 b32 b9 b58 c0 c10 c13 c32 c9 c58 d0 d10 d13 d32 d9 d58 e0 e10 e13 e32 e9 e58 f0 f10 f13 f32 f9 f58 h1 h2 h4 h5 g1 g2 g4 g5 i1 i2 i4 i5
            refine wpu_val (by kernel_rfl) (exec_buildT _ rfl (by kernel_rfl) (bld2 (sOf c false) [118] _)) ?_
            go_frame
            have G1 := own_new_sl (n := 2) (sz := 1) G (pairs (F1 c false)) 9 rfl (by decide)
            clear G
            go_wp2_with fail
            refine Calls.mono (ofC (F := F1 c false) rfl (by show 1 ≤ 1000; decide) G1 (fun w h => own_rd h)) ?_
            clear G1; rintro e w ⟨v, rfl, G⟩
            change Own _ (sl 3 v 1 (fds (F1 c false)) * _) w at G
            obtain ⟨xo, xc, rfl, x1, x2⟩ := G.hdr v
            unfold maxLen at x2
            obtain ⟨s1, s2⟩ := small_of (L := F1 c false) (smallF c false).1
            go_wp2_with fail
            refine Calls.mono (trailersC (L := F1 c false) s1 s2 G (fun w h => own_rd h)) ?_
            clear G s1 s2; rintro e w ⟨rfl, G⟩
            rw [HN.out]
            go_wp2_with (first
              | ((with_reducible refine at_build ?_); refine hold ?_)
              | ((with_reducible refine at_alloc ?_); refine wpu_new G ?_; clear G; intro w G)
              | ((with_reducible refine at_drew ?_); refine wpu_drew G ?_; clear G; intro w G)
              | go_big_skip
              | ((with_reducible refine at_load ?_); first
                | (refine wpu_load G rfl (by kernel_rfl) rfl rfl ?_; go_frame)
                | (refine wpu_loadB G rfl (by kernel_rfl) rfl (by rfl) ?_; go_frame)
                | (refine wpu_loadS G rfl (by kernel_rfl) rfl (by rfl) ?_; simp only [List.drop_succ_cons, List.drop_zero, List.take_succ_cons, List.take_zero]; go_frame))
              | ((with_reducible refine at_store ?_); first
                | (refine wpu_store G rfl (by kernel_rfl) rfl rfl (by first | rfl | assumption | simp [*]) rfl ?_; clear G; intro w G; go_frame)
                | (refine wpu_storeB G rfl (by kernel_rfl) rfl rfl (by rfl) (by rfl) (by first | rfl | assumption | simp [*]) ?_; clear G; intro w G; go_frame)
                | (refine wpu_storeS G rfl (by kernel_rfl) rfl rfl (by rfl) (by rfl) (by first | rfl | assumption | simp [*]) ?_; clear G; intro w G; go_frame))
              | ((with_reducible refine at_convert ?_); refine wpu_str G rfl (by kernel_rfl) rfl rfl ?_; go_frame)
              | fail)
            unfold Held
            refine wpu_val (by kernel_rfl) (exec_buildT _ rfl (by kernel_rfl) (bld2 [110] (sOf c false) _)) ?_
            go_frame
            have G1 := own_new_sl (n := 2) (sz := 1) G (pairs (F2 c false)) 9 rfl (by decide)
            clear G
            go_wp2_with fail
            refine Calls.mono (ofC (F := F2 c false) rfl (by show 1 ≤ 1000; decide) G1 (fun w h => own_rd h)) ?_
            clear G1; rintro e w ⟨v, rfl, G⟩
            change Own _ (sl 3 v 1 (fds (F2 c false)) * _) w at G
            obtain ⟨yo, yc, rfl, y1, y2⟩ := G.hdr v
            unfold maxLen at y2
            obtain ⟨s1, s2⟩ := small_of (L := F2 c false) (smallF c false).2
            go_wp2_with fail
            refine Calls.mono (trailersC (L := F2 c false) s1 s2 G (fun w h => own_rd h)) ?_
            clear G s1 s2; rintro e w ⟨rfl, G⟩
            rw [HV.out]
            go_wp2_with fail
            go_ret
            exact ⟨rfl, G.below⟩
          · skip
            have HN : Hid (trailersR (F1 c false) = false) := Lib.hid (HNB.out.trans rfl)
            have HV : Hid (trailersR (F2 c false) = true) := Lib.hid (HVB.out.trans rfl)
            clear HNB HVB
            skip
            as_aux_lemma =>
            go_wp2_with (first
              | go_big_skip
              | ((with_reducible refine at_lss ?_); refine wpu_lss rfl (by kernel_rfl) rfl rfl (by assumption) ?_; go_frame)
              | ((with_reducible refine at_gtr ?_); refine wpu_gtr rfl (by kernel_rfl) rfl rfl (by assumption) ?_; go_frame)
              | ((with_reducible refine at_leq ?_); refine wpu_leq rfl (by kernel_rfl) rfl rfl (by assumption) ?_; go_frame)
              | ((with_reducible refine at_geq ?_); refine wpu_geq rfl (by kernel_rfl) rfl rfl (by assumption) ?_; go_frame)
              | ((with_reducible refine at_eql ?_); refine wpu_eql rfl (by kernel_rfl) rfl rfl (by assumption) ?_; go_frame)
              | ((with_reducible refine at_neq ?_); refine wpu_neqE rfl (by kernel_rfl) rfl rfl (by assumption) ?_; go_frame)
              | ((with_reducible refine at_build ?_); refine hold ?_)
              | ((with_reducible refine at_alloc ?_); refine wpu_new G ?_; clear G; intro w G)
              | ((with_reducible refine at_drew ?_); refine wpu_drew G ?_; clear G; intro w G)
              | go_big_skip
              | ((with_reducible refine at_load ?_); first
                | (refine wpu_load G rfl (by kernel_rfl) rfl rfl ?_; go_frame)
                | (refine wpu_loadB G rfl (by kernel_rfl) rfl (by rfl) ?_; go_frame)
                | (refine wpu_loadS G rfl (by kernel_rfl) rfl (by rfl) ?_; simp only [List.drop_succ_cons, List.drop_zero, List.take_succ_cons, List.take_zero]; go_frame))
              | ((with_reducible refine at_store ?_); first
                | (refine wpu_store G rfl (by kernel_rfl) rfl rfl (by first | rfl | assumption | simp [*]) rfl ?_; clear G; intro w G; go_frame)
                | (refine wpu_storeB G rfl (by kernel_rfl) rfl rfl (by rfl) (by rfl) (by first | rfl | assumption | simp [*]) ?_; clear G; intro w G; go_frame)
                | (refine wpu_storeS G rfl (by kernel_rfl) rfl rfl (by rfl) (by rfl) (by first | rfl | assumption | simp [*]) ?_; clear G; intro w G; go_frame))
              | ((with_reducible refine at_convert ?_); refine wpu_str G rfl (by kernel_rfl) rfl rfl ?_; go_frame)
              | fail)
            unfold Held
            clear a0 a10 a13 a32 a9 a58 b0 b10 b13 b32 b9 b58 c0 c10 c13 c32 c9 c58 d0 d10 d13 d32 d9 d58 e0 e10 e13 e32 e9 e58 f0 f10 f13 f32 f9 f58 h1 h2 h4 h5 g1 g2 g4 g5 i1 i2 i4 i5
            refine wpu_val (by kernel_rfl) (exec_buildT _ rfl (by kernel_rfl) (bld2 (sOf c false) [118] _)) ?_
            go_frame
            have G1 := own_new_sl (n := 2) (sz := 1) G (pairs (F1 c false)) 9 rfl (by decide)
            clear G
            go_wp2_with fail
            refine Calls.mono (ofC (F := F1 c false) rfl (by show 1 ≤ 1000; decide) G1 (fun w h => own_rd h)) ?_
            clear G1; rintro e w ⟨v, rfl, G⟩
            change Own _ (sl 3 v 1 (fds (F1 c false)) * _) w at G
            obtain ⟨xo, xc, rfl, x1, x2⟩ := G.hdr v
            unfold maxLen at x2
            obtain ⟨s1, s2⟩ := small_of (L := F1 c false) (smallF c false).1
            go_wp2_with fail
            refine Calls.mono (trailersC (L := F1 c false) s1 s2 G (fun w h => own_rd h)) ?_
            clear G s1 s2; rintro e w ⟨rfl, G⟩
            rw [HN.out]
            go_wp2_with (first
              | ((with_reducible refine at_build ?_); refine hold ?_)
              | ((with_reducible refine at_alloc ?_); refine wpu_new G ?_; clear G; intro w G)
              | ((with_reducible refine at_drew ?_); refine wpu_drew G ?_; clear G; intro w G)
              | go_big_skip
              | ((with_reducible refine at_load ?_); first
                | (refine wpu_load G rfl (by kernel_rfl) rfl rfl ?_; go_frame)
                | (refine wpu_loadB G rfl (by kernel_rfl) rfl (by rfl) ?_; go_frame)
                | (refine wpu_loadS G rfl (by kernel_rfl) rfl (by rfl) ?_; simp only [List.drop_succ_cons, List.drop_zero, List.take_succ_cons, List.take_zero]; go_frame))
              | ((with_reducible refine at_store ?_); first
                | (refine wpu_store G rfl (by kernel_rfl) rfl rfl (by first | rfl | assumption | simp [*]) rfl ?_; clear G; intro w G; go_frame)
                | (refine wpu_storeB G rfl (by kernel_rfl) rfl rfl (by rfl) (by rfl) (by first | rfl | assumption | simp [*]) ?_; clear G; intro w G; go_frame)
                | (refine wpu_storeS G rfl (by kernel_rfl) rfl rfl (by rfl) (by rfl) (by first | rfl | assumption | simp [*]) ?_; clear G; intro w G; go_frame))
              | ((with_reducible refine at_convert ?_); refine wpu_str G rfl (by kernel_rfl) rfl rfl ?_; go_frame)
              | fail)
            unfold Held
            refine wpu_val (by kernel_rfl) (exec_buildT _ rfl (by kernel_rfl) (bld2 [110] (sOf c false) _)) ?_
            go_frame
            have G1 := own_new_sl (n := 2) (sz := 1) G (pairs (F2 c false)) 9 rfl (by decide)
            clear G
            go_wp2_with fail
            refine Calls.mono (ofC (F := F2 c false) rfl (by show 1 ≤ 1000; decide) G1 (fun w h => own_rd h)) ?_
            clear G1; rintro e w ⟨v, rfl, G⟩
            change Own _ (sl 3 v 1 (fds (F2 c false)) * _) w at G
            obtain ⟨yo, yc, rfl, y1, y2⟩ := G.hdr v
            unfold maxLen at y2
            obtain ⟨s1, s2⟩ := small_of (L := F2 c false) (smallF c false).2
            go_wp2_with fail
            refine Calls.mono (trailersC (L := F2 c false) s1 s2 G (fun w h => own_rd h)) ?_
            clear G s1 s2; rintro e w ⟨rfl, G⟩
            rw [HV.out]
            go_wp2_with fail
            go_ret
            exact ⟨rfl, G.below⟩
      · skip
        have HN : Hid (trailersR (F1 c false) = false) := Lib.hid (HNB.out.trans rfl)
        have HV : Hid (trailersR (F2 c false) = true) := Lib.hid (HVB.out.trans rfl)
        clear HNB HVB
        skip
        as_aux_lemma =>
        go_wp2_with (first
          | go_big_skip
          | ((with_reducible refine at_lss ?_); refine wpu_lss rfl (by kernel_rfl) rfl rfl (by assumption) ?_; go_frame)
          | ((with_reducible refine at_gtr ?_); refine wpu_gtr rfl (by kernel_rfl) rfl rfl (by assumption) ?_; go_frame)
          | ((with_reducible refine at_leq ?_); refine wpu_leq rfl (by kernel_rfl) rfl rfl (by assumption) ?_; go_frame)
          | ((with_reducible refine at_geq ?_); refine wpu_geq rfl (by kernel_rfl) rfl rfl (by assumption) ?_; go_frame)
          | ((with_reducible refine at_eql ?_); refine wpu_eql rfl (by kernel_rfl) rfl rfl (by assumption) ?_; go_frame)
          | ((with_reducible refine at_neq ?_); refine wpu_neqE rfl (by kernel_rfl) rfl rfl (by assumption) ?_; go_frame)
          | ((with_reducible refine at_build ?_); refine hold ?_)
          | ((with_reducible refine at_alloc ?_); refine wpu_new G ?_; clear G; intro w G)
          | ((with_reducible refine at_drew ?_); refine wpu_drew G ?_; clear G; intro w G)
          | go_big_skip
          | ((with_reducible refine at_load ?_); first
            | (refine wpu_load G rfl (by kernel_rfl) rfl rfl ?_; go_frame)
            | (refine wpu_loadB G rfl (by kernel_rfl) rfl (by rfl) ?_; go_frame)
            | (refine wpu_loadS G rfl (by kernel_rfl) rfl (by rfl) ?_; simp only [List.drop_succ_cons, List.drop_zero, List.take_succ_cons, List.take_zero]; go_frame))
          | ((with_reducible refine at_store ?_); first
            | (refine wpu_store G rfl (by kernel_rfl) rfl rfl (by first | rfl | assumption | simp [*]) rfl ?_; clear G; intro w G; go_frame)
            | (refine wpu_storeB G rfl (by kernel_rfl) rfl rfl (by rfl) (by rfl) (by first | rfl | assumption | simp [*]) ?_; clear G; intro w G; go_frame)
            | (refine wpu_storeS G rfl (by kernel_rfl) rfl rfl (by rfl) (by rfl) (by first | rfl | assumption | simp [*]) ?_; clear G; intro w G; go_frame))
          | ((with_reducible refine at_convert ?_); refine wpu_str G rfl (by kernel_rfl) rfl rfl ?_; go_frame)
          | fail)
        unfold Held
        clear a0 a10 a13 a32 a9 a58 b0 b10 b13 b32 b9 b58 c0 c10 c13 c32 c9 c58 d0 d10 d13 d32 d9 d58 e0 e10 e13 e32 e9 e58 f0 f10 f13 f32 f9 f58 h1 h2 h4 h5 g1 g2 g4 g5 i1 i2 i4 i5
        refine wpu_val (by kernel_rfl) (exec_buildT _ rfl (by kernel_rfl) (bld2 (sOf c false) [118] _)) ?_
        go_frame
        have G1 := own_new_sl (n := 2) (sz := 1) G (pairs (F1 c false)) 9 rfl (by decide)
        clear G
        go_wp2_with fail
        refine Calls.mono (ofC (F := F1 c false) rfl (by show 1 ≤ 1000; decide) G1 (fun w h => own_rd h)) ?_
        clear G1; rintro e w ⟨v, rfl, G⟩
        change Own _ (sl 3 v 1 (fds (F1 c false)) * _) w at G
        obtain ⟨xo, xc, rfl, x1, x2⟩ := G.hdr v
        unfold maxLen at x2
        obtain ⟨s1, s2⟩ := small_of (L := F1 c false) (smallF c false).1
        go_wp2_with fail
        refine Calls.mono (trailersC (L := F1 c false) s1 s2 G (fun w h => own_rd h)) ?_
        clear G s1 s2; rintro e w ⟨rfl, G⟩
        rw [HN.out]
        go_wp2_with (first
          | ((with_reducible refine at_build ?_); refine hold ?_)
          | ((with_reducible refine at_alloc ?_); refine wpu_new G ?_; clear G; intro w G)
          | ((with_reducible refine at_drew ?_); refine wpu_drew G ?_; clear G; intro w G)
          | go_big_skip
          | ((with_reducible refine at_load ?_); first
            | (refine wpu_load G rfl (by kernel_rfl) rfl rfl ?_; go_frame)
            | (refine wpu_loadB G rfl (by kernel_rfl) rfl (by rfl) ?_; go_frame)
            | (refine wpu_loadS G rfl (by kernel_rfl) rfl (by rfl) ?_; simp only [List.drop_succ_cons, List.drop_zero, List.take_succ_cons, List.take_zero]; go_frame))
          | ((with_reducible refine at_store ?_); first
            | (refine wpu_store G rfl (by kernel_rfl) rfl rfl (by first | rfl | assumption | simp [*]) rfl ?_; clear G; intro w G; go_frame)
            | (refine wpu_storeB G rfl (by kernel_rfl) rfl rfl (by rfl) (by rfl) (by first | rfl | assumption | simp [*]) ?_; clear G; intro w G; go_frame)
            | (refine wpu_storeS G rfl (by kernel_rfl) rfl rfl (by rfl) (by rfl) (by first | rfl | assumption | simp [*]) ?_; clear G; intro w G; go_frame))
          | ((with_reducible refine at_convert ?_); refine wpu_str G rfl (by kernel_rfl) rfl rfl ?_; go_frame)
          | fail)
        unfold Held
        refine wpu_val (by kernel_rfl) (exec_buildT _ rfl (by kernel_rfl) (bld2 [110] (sOf c false) _)) ?_
        go_frame
        have G1 := own_new_sl (n := 2) (sz := 1) G (pairs (F2 c false)) 9 rfl (by decide)
        clear G
        go_wp2_with fail
        refine Calls.mono (ofC (F := F2 c false) rfl (by show 1 ≤ 1000; decide) G1 (fun w h => own_rd h)) ?_
        clear G1; rintro e w ⟨v, rfl, G⟩
        change Own _ (sl 3 v 1 (fds (F2 c false)) * _) w at G
        obtain ⟨yo, yc, rfl, y1, y2⟩ := G.hdr v
        unfold maxLen at y2
        obtain ⟨s1, s2⟩ := small_of (L := F2 c false) (smallF c false).2
        go_wp2_with fail
        refine Calls.mono (trailersC (L := F2 c false) s1 s2 G (fun w h => own_rd h)) ?_
        clear G s1 s2; rintro e w ⟨rfl, G⟩
        rw [HV.out]
        go_wp2_with fail
        go_ret
        exact ⟨rfl, G.below⟩
end Go.Proofs.YtikngjdljdofkaaDoor.fieldsBytes
