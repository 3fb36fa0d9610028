
/-
  Package block's laws: a frame of one's own; two frames that are the same.
-/
import Derived.Test.YtbjfokpdomogeaaBlkL
import Derived.Test.YtbjfokpdomogeaaLaw
namespace Go.Proofs.Ytbjfokpdomogeaa
open Go.RowKit Go.Sl

section
variable {B w : World} {A R : Assn}

/-- what 'own' leaves of a frame's octets and settings -/
def cutB (l : List UInt8) : List UInt8 := l.take 300
def cutN (nl : Nat) : Nat := min nl 20
def cutL (nl : Nat) (lc : List Value) : List Value := lc.take (min nl 20 * 2)
theorem cutB_le (l : List UInt8) : (cutB l).length ≤ 300 := by simp [cutB]; omega
theorem cutN_le (nl : Nat) : cutN nl ≤ 20 := by unfold cutN; omega

theorem ownBlk {f : Fr} {l : List UInt8} {nl : Nat} {lc : List Value} (G : Own B A w) (hp : rd B 1 f.pay l.length (bs l)) (hq : rd B 2 f.lst nl lc) (hlc : ∀ y ∈ lc, y.oneCell' = true) :
    Calls Try.prog 11 #[.agg f.cs.toArray, .int .i64 300] w fun e w' => ∃ v vl, e = .returned (.agg ({ f with pay := v, lst := vl } : Fr).cs.toArray) ∧ Own B (sl 1 v (cutB l).length (bs (cutB l)) * (sl 2 vl (cutN nl) (cutL nl lc) * A)) w' := by
  unfold cutB cutN cutL
  obtain ⟨fk, fs, fe, fh, fa, fp, pay, ffl, fpad, fdep, fex, fwt, fco, flst, fla, fin⟩ := f
  obtain ⟨y, hy0, hy1, hy1', hy2, hy3⟩ : ∃ y, y = l.take 300 ∧ y.length ≤ 300 ∧ y.length ≤ l.length ∧ min (l.length : Int) 300 = (y.length : Nat) ∧ True := ⟨_, rfl, by simp; omega, by simp; omega, by simp; omega, trivial⟩
  obtain ⟨po, pc, rfl, p1, p2, -⟩ := id hp
  obtain ⟨qo, qc, rfl, q1, q2, -⟩ := id hq
  unfold maxLen at p2 q2
  have hp' := rd_bs_take hp (N := y.length) hy1'
  have hq' := rd_take hq (k := min nl 20) (by omega)
  rw [show l.take y.length = y by rw [hy0, List.length_take, Nat.min_comm, take_min]] at hp'
  have e2 : min (nl : Int) 20 = (min nl 20 : Nat) := by omega
  obtain ⟨k, hk⟩ : ∃ k, k = min nl 20 := ⟨_, rfl⟩
  rw [← hk] at hq' e2 ⊢
  have hk' : k ≤ 20 := by omega
  have hk'' : k ≤ nl := by omega
  have HP := Lib.hid hp'
  have HQ := Lib.hid hq'
  have HY := Lib.hid hy0
  clear hp hq hp' hq' hy0 hk
  go_enter Try.func11, Try.ntmps11
  go_wp2_with (first
    | ((with_reducible refine at_alloc ?_); refine wpu_new G ?_; clear G; intro w G)
    | ((with_reducible refine at_drew ?_); refine wpu_drew G ?_; clear G; intro w G)
    | ((with_reducible refine at_load ?_); first
      | (refine wpu_load G rfl rfl rfl rfl ?_; go_frame)
      | (refine wpu_loadB G rfl rfl rfl (by rfl) ?_; go_frame)
      | (refine wpu_loadS G rfl rfl rfl (by rfl) ?_; simp only [List.drop_succ_cons, List.drop_zero, List.take_succ_cons, List.take_zero]; go_frame))
    | ((with_reducible refine at_store ?_); first
      | (refine wpu_store G rfl rfl rfl rfl (by first | rfl | assumption | simp [*]) rfl ?_; clear G; intro w G; go_frame)
      | (refine wpu_storeB G rfl rfl rfl rfl (by rfl) (by rfl) (by first | rfl | assumption | simp [*]) ?_; clear G; intro w G; go_frame)
      | (refine wpu_storeS G rfl rfl rfl rfl (by rfl) (by rfl) (by first | rfl | assumption | simp [*]) ?_; clear G; intro w G; go_frame))
    | ((with_reducible refine at_convert ?_); refine wpu_str G rfl rfl rfl rfl ?_; go_frame)
    | ((with_reducible refine at_slice ?_); first
      | (refine wpu_sliceLo rfl rfl rfl rfl (by first | rfl | omega) (by omega) (by omega) ?_; go_frame)
      | (refine wpu_sliceLH rfl rfl rfl rfl rfl (by first | rfl | omega) (by first | rfl | omega) (by omega) (by omega) ?_; go_frame))
    | ((with_reducible refine at_append ?_); refine wpu_append0 G rfl rfl rfl rfl (HP.out.old G) (bs_one _) (by unfold maxLen; omega) (by omega) ?_; clear G; intro v w G; obtain ⟨vo, vc, rfl, i1, i2⟩ := G.hdr v)
    | ((with_reducible refine at_append ?_); refine wpu_append0 G rfl rfl rfl rfl (HQ.out.old G) (fun y hy => hlc y (List.mem_of_mem_take hy)) (by unfold maxLen; omega) (by omega) ?_; clear G; intro v w G; obtain ⟨uo, uc, rfl, i3, i4⟩ := G.hdr v))
  try simp only [Exit.inBlock, Exit.then]
  refine bodyPost_ret (results1 rfl (by first | exact resT rfl | exact resB G rfl (by rfl) | exact resO G rfl rfl)) rfl ?_
  rw [← HY.out]
  exact ⟨.slice vo y.length vc, .slice uo k uc, rfl, G.give⟩

/-- element k of a list of settings -/
def SetAt (lc : List Value) (k : Nat) : Prop := ∃ x y : Int, (lc.drop (k * 2)).take 2 = [.int .i64 x, .int .u32 y]

set_option maxHeartbeats 4000000 in
set_option maxRecDepth 100000 in
theorem sameBlk {f : Fr} {v1 v2 u1 u2 : Value} {l : List UInt8} {nl : Nat} {lc : List Value} (G : Own B A w) (r1 : ∀ w, Own B A w → rd w 1 v1 l.length (bs l)) (r2 : ∀ w, Own B A w → rd w 1 v2 l.length (bs l))
    (q1 : ∀ w, Own B A w → rd w 2 u1 nl lc) (q2 : ∀ w, Own B A w → rd w 2 u2 nl lc) (hel : ∀ k, k < nl → SetAt lc k) :
    Calls Try.prog 14 #[.agg ({ f with pay := v1, lst := u1 } : Fr).cs.toArray, .agg ({ f with pay := v2, lst := u2 } : Fr).cs.toArray] w fun e w' => e = .returned (.bool true) ∧ Own B A w' := by
  obtain ⟨fk, fs, fe, fh, fa, fp, pay, ffl, fpad, fdep, fex, fwt, fco, flst, fla, fin⟩ := f
  obtain ⟨p1, c1, rfl, a1, a2, -⟩ := r1 _ G
  obtain ⟨p2, c2, rfl, a3, a4, -⟩ := r2 _ G
  obtain ⟨p3, c3, rfl, a5, a6, -⟩ := q1 _ G
  obtain ⟨p4, c4, rfl, a7, a8, -⟩ := q2 _ G
  unfold maxLen at a2 a4 a6 a8
  go_enter Try.func14, Try.ntmps14
  go_wp2_with (first
    | ((with_reducible refine at_alloc ?_); refine wpu_new G ?_; clear G; intro w G)
    | ((with_reducible refine at_drew ?_); refine wpu_drew G ?_; clear G; intro w G)
    | ((with_reducible refine at_load ?_); first
      | (refine wpu_load G rfl rfl rfl rfl ?_; go_frame)
      | (refine wpu_loadB G rfl rfl rfl (by rfl) ?_; go_frame)
      | (refine wpu_loadS G rfl rfl rfl (by rfl) ?_; simp only [List.drop_succ_cons, List.drop_zero, List.take_succ_cons, List.take_zero]; go_frame))
    | ((with_reducible refine at_store ?_); first
      | (refine wpu_store G rfl rfl rfl rfl (by first | rfl | assumption | simp [*]) rfl ?_; clear G; intro w G; go_frame)
      | (refine wpu_storeB G rfl rfl rfl rfl (by rfl) (by rfl) (by first | rfl | assumption | simp [*]) ?_; clear G; intro w G; go_frame)
      | (refine wpu_storeS G rfl rfl rfl rfl (by rfl) (by rfl) (by first | rfl | assumption | simp [*]) ?_; clear G; intro w G; go_frame))
    | ((with_reducible refine at_convert ?_); refine wpu_str G rfl rfl rfl rfl ?_; go_frame)
    | ((with_reducible refine at_slice ?_); first
      | (refine wpu_sliceLo rfl rfl rfl rfl (by first | rfl | omega) (by omega) (by omega) ?_; go_frame)
      | (refine wpu_sliceLH rfl rfl rfl rfl rfl (by first | rfl | omega) (by first | rfl | omega) (by omega) (by omega) ?_; go_frame))
    | ((with_reducible refine at_convert ?_); first | (refine wpu_strR (r1 _ G.right.right) rfl rfl rfl ?_) | (refine wpu_strR (r2 _ G.right.right) rfl rfl rfl ?_)))
  obtain ⟨A1, hA1, G⟩ : ∃ A1, _ = A1 ∧ Own B A1 w := ⟨_, rfl, G⟩
  have HA := Lib.hid hA1
  clear hA1
  go_loopw [5] (fun i wr => ∃ k : Nat, k ≤ nl ∧ i = .int .i64 k ∧ Own B A1 wr) (fun i _ => nl - (intOf i).toNat)
  case atStart => exact ⟨0, Nat.zero_le _, rfl, G⟩
  case round =>
    clear G
    obtain ⟨k, hk, rfl, G⟩ := hrel
    rw [← HA.out] at G
    by_cases hlt : k < nl
    · obtain ⟨x, y, hxy⟩ := hel k hlt
      obtain ⟨d3, rfl⟩ := rd_some (q1 _ G.right.right) (by omega)
      obtain ⟨d4, rfl⟩ := rd_some (q2 _ G.right.right) (by omega)
      have e0 : ∀ w', Own B _ w' → w'.cell? (d3.add (k * 2)) = some (.int .i64 x) := fun w' (h : Own B A w') => rd_elem0 (q1 _ h) hxy rfl
      have e1 : ∀ w', Own B _ w' → w'.cell? ⟨(d3.add (k * 2)).block, (d3.add (k * 2)).off + 1, none⟩ = some (.int .u32 y) := fun w' (h : Own B A w') => rd_elem (q1 _ h) hxy 0 rfl
      have e2 : ∀ w', Own B _ w' → w'.cell? (d4.add (k * 2)) = some (.int .i64 x) := fun w' (h : Own B A w') => rd_elem0 (q2 _ h) hxy rfl
      have e3 : ∀ w', Own B _ w' → w'.cell? ⟨(d4.add (k * 2)).block, (d4.add (k * 2)).off + 1, none⟩ = some (.int .u32 y) := fun w' (h : Own B A w') => rd_elem (q2 _ h) hxy 0 rfl
      go_wp2_with (first
        | ((with_reducible refine at_alloc ?_); refine wpu_new G ?_; clear G; intro w G)
        | ((with_reducible refine at_drew ?_); refine wpu_drew G ?_; clear G; intro w G)
        | ((with_reducible refine at_load ?_); first
          | (refine wpu_load G rfl rfl rfl rfl ?_; go_frame)
          | (refine wpu_loadB G rfl rfl rfl (by rfl) ?_; go_frame)
          | (refine wpu_loadS G rfl rfl rfl (by rfl) ?_; simp only [List.drop_succ_cons, List.drop_zero, List.take_succ_cons, List.take_zero]; go_frame))
        | ((with_reducible refine at_store ?_); first
          | (refine wpu_store G rfl rfl rfl rfl (by first | rfl | assumption | simp [*]) rfl ?_; clear G; intro w G; go_frame)
          | (refine wpu_storeB G rfl rfl rfl rfl (by rfl) (by rfl) (by first | rfl | assumption | simp [*]) ?_; clear G; intro w G; go_frame)
          | (refine wpu_storeS G rfl rfl rfl rfl (by rfl) (by rfl) (by first | rfl | assumption | simp [*]) ?_; clear G; intro w G; go_frame))
        | ((with_reducible refine at_convert ?_); refine wpu_str G rfl rfl rfl rfl ?_; go_frame)
        | ((with_reducible refine at_slice ?_); first
          | (refine wpu_sliceLo rfl rfl rfl rfl (by first | rfl | omega) (by omega) (by omega) ?_; go_frame)
          | (refine wpu_sliceLH rfl rfl rfl rfl rfl (by first | rfl | omega) (by first | rfl | omega) (by omega) (by omega) ?_; go_frame))
        | fail)
      refine wp_region_calm (C := Own _ _) (by kernel_rfl) (by kernel_rfl) (own_drew G) ?_
      intro ι W hne hW hs
      have e0 := fun i => e0 _ (hW i).right.right
      have e1 := fun i => e1 _ (hW i).right.right
      have e2 := fun i => e2 _ (hW i).right.right
      have e3 := fun i => e3 _ (hW i).right.right
      repeat (first | ((with_reducible refine atq_load ?_); first | (refine wpq_load hW rfl rfl rfl rfl ?_; go_frame) | (refine wpq_loadB hW rfl rfl rfl (by rfl) ?_; go_frame) | (refine wpq_loadS hW rfl rfl rfl (by rfl) ?_; simp only [List.drop_succ_cons, List.drop_zero, List.take_succ_cons, List.take_zero]; go_frame)) | (fail) | go_big_quiet_step (fail))
      refine wpQuiet_nil ?_
      intro i
      have g := hW i
      generalize W i = wg at g ⊢
      clear e0 e1 e2 e3 hs hW hne
      have G := g
      clear g
      go_wp2_with (first
        | ((with_reducible refine at_alloc ?_); refine wpu_new G ?_; clear G; intro w G)
        | ((with_reducible refine at_drew ?_); refine wpu_drew G ?_; clear G; intro w G)
        | ((with_reducible refine at_load ?_); first
          | (refine wpu_load G rfl rfl rfl rfl ?_; go_frame)
          | (refine wpu_loadB G rfl rfl rfl (by rfl) ?_; go_frame)
          | (refine wpu_loadS G rfl rfl rfl (by rfl) ?_; simp only [List.drop_succ_cons, List.drop_zero, List.take_succ_cons, List.take_zero]; go_frame))
        | ((with_reducible refine at_store ?_); first
          | (refine wpu_store G rfl rfl rfl rfl (by first | rfl | assumption | simp [*]) rfl ?_; clear G; intro w G; go_frame)
          | (refine wpu_storeB G rfl rfl rfl rfl (by rfl) (by rfl) (by first | rfl | assumption | simp [*]) ?_; clear G; intro w G; go_frame)
          | (refine wpu_storeS G rfl rfl rfl rfl (by rfl) (by rfl) (by first | rfl | assumption | simp [*]) ?_; clear G; intro w G; go_frame))
        | ((with_reducible refine at_convert ?_); refine wpu_str G rfl rfl rfl rfl ?_; go_frame)
        | ((with_reducible refine at_slice ?_); first
          | (refine wpu_sliceLo rfl rfl rfl rfl (by first | rfl | omega) (by omega) (by omega) ?_; go_frame)
          | (refine wpu_sliceLH rfl rfl rfl rfl rfl (by first | rfl | omega) (by first | rfl | omega) (by omega) (by omega) ?_; go_frame))
        | fail)
      go_roundw
      case rel => exact ⟨k + 1, by omega, by go_num, HA.out ▸ G⟩
      case measure => simp [intOf] <;> omega
    · go_wp2_with (first
        | ((with_reducible refine at_alloc ?_); refine wpu_new G ?_; clear G; intro w G)
        | ((with_reducible refine at_drew ?_); refine wpu_drew G ?_; clear G; intro w G)
        | ((with_reducible refine at_load ?_); first
          | (refine wpu_load G rfl rfl rfl rfl ?_; go_frame)
          | (refine wpu_loadB G rfl rfl rfl (by rfl) ?_; go_frame)
          | (refine wpu_loadS G rfl rfl rfl (by rfl) ?_; simp only [List.drop_succ_cons, List.drop_zero, List.take_succ_cons, List.take_zero]; go_frame))
        | ((with_reducible refine at_store ?_); first
          | (refine wpu_store G rfl rfl rfl rfl (by first | rfl | assumption | simp [*]) rfl ?_; clear G; intro w G; go_frame)
          | (refine wpu_storeB G rfl rfl rfl rfl (by rfl) (by rfl) (by first | rfl | assumption | simp [*]) ?_; clear G; intro w G; go_frame)
          | (refine wpu_storeS G rfl rfl rfl rfl (by rfl) (by rfl) (by first | rfl | assumption | simp [*]) ?_; clear G; intro w G; go_frame))
        | ((with_reducible refine at_convert ?_); refine wpu_str G rfl rfl rfl rfl ?_; go_frame)
        | ((with_reducible refine at_slice ?_); first
          | (refine wpu_sliceLo rfl rfl rfl rfl (by first | rfl | omega) (by omega) (by omega) ?_; go_frame)
          | (refine wpu_sliceLH rfl rfl rfl rfl rfl (by first | rfl | omega) (by first | rfl | omega) (by omega) (by omega) ?_; go_frame))
        | fail)
      go_ret
      exact ⟨rfl, G.give⟩
end

section
theorem frameCells {H : Type} {enc : TypeId × Value → H} {W : World} {cs : List Value} {d : DataW H} (h : RdC enc Try.prog W 32 cs d) :
    ∃ (x0 : Int) (x1 : Int) (x2 : Bool) (x3 : Bool) (x4 : Bool) (x5 : Bool) (x6 : Value) (x7 : Int) (x8 : Int) (x9 : Int) (x10 : Bool) (x11 : Int) (x12 : Nat) (x13 : Value) (x14 : Int) (x15 : Int), cs = [.int .i64 x0, .int .i64 x1, .bool x2, .bool x3, .bool x4, .bool x5, x6, .int .i64 x7, .int .i64 x8, .int .i64 x9, .bool x10, .int .i64 x11, .int .u32 x12, x13, .int .i64 x14, .int .i64 x15] ∧ (-9223372036854775808 ≤ x0 ∧ x0 ≤ 9223372036854775807) ∧ (-9223372036854775808 ≤ x1 ∧ x1 ≤ 9223372036854775807) ∧ True ∧ True ∧ True ∧ True ∧ (∃ d, RdC enc Try.prog W 22 [x6] d) ∧ (-9223372036854775808 ≤ x7 ∧ x7 ≤ 9223372036854775807) ∧ (-9223372036854775808 ≤ x8 ∧ x8 ≤ 9223372036854775807) ∧ (-9223372036854775808 ≤ x9 ∧ x9 ≤ 9223372036854775807) ∧ True ∧ (-9223372036854775808 ≤ x11 ∧ x11 ≤ 9223372036854775807) ∧ x12 < 4294967296 ∧ (∃ d, RdC enc Try.prog W 30 [x13] d) ∧ (-9223372036854775808 ≤ x14 ∧ x14 ≤ 9223372036854775807) ∧ (-9223372036854775808 ≤ x15 ∧ x15 ≤ 9223372036854775807) := by
  have hl := (rdc_struct Try.underlying32 h).1
  obtain ⟨e0, g0⟩ := rdc_field Try.underlying32 h 0 rfl (ft := 3) rfl (o := 0) rfl (c := 1) (by kernel_rfl)
  obtain ⟨x0, q0, b0⟩ := rdc_i64 Try.underlying3 g0
  obtain ⟨e1, g1⟩ := rdc_field Try.underlying32 h 1 rfl (ft := 3) rfl (o := 1) rfl (c := 1) (by kernel_rfl)
  obtain ⟨x1, q1, b1⟩ := rdc_i64 Try.underlying3 g1
  obtain ⟨e2, g2⟩ := rdc_field Try.underlying32 h 2 rfl (ft := 4) rfl (o := 2) rfl (c := 1) (by kernel_rfl)
  obtain ⟨x2, q2⟩ := rdc_bool Try.underlying4 g2
  obtain ⟨e3, g3⟩ := rdc_field Try.underlying32 h 3 rfl (ft := 4) rfl (o := 3) rfl (c := 1) (by kernel_rfl)
  obtain ⟨x3, q3⟩ := rdc_bool Try.underlying4 g3
  obtain ⟨e4, g4⟩ := rdc_field Try.underlying32 h 4 rfl (ft := 4) rfl (o := 4) rfl (c := 1) (by kernel_rfl)
  obtain ⟨x4, q4⟩ := rdc_bool Try.underlying4 g4
  obtain ⟨e5, g5⟩ := rdc_field Try.underlying32 h 5 rfl (ft := 4) rfl (o := 5) rfl (c := 1) (by kernel_rfl)
  obtain ⟨x5, q5⟩ := rdc_bool Try.underlying4 g5
  obtain ⟨e6, g6⟩ := rdc_field Try.underlying32 h 6 rfl (ft := 22) rfl (o := 6) rfl (c := 1) (by kernel_rfl)
  obtain ⟨x6, q6⟩ := rdc_slice_cell Try.underlying22 g6; rw [q6] at g6
  obtain ⟨e7, g7⟩ := rdc_field Try.underlying32 h 7 rfl (ft := 3) rfl (o := 7) rfl (c := 1) (by kernel_rfl)
  obtain ⟨x7, q7, b7⟩ := rdc_i64 Try.underlying3 g7
  obtain ⟨e8, g8⟩ := rdc_field Try.underlying32 h 8 rfl (ft := 3) rfl (o := 8) rfl (c := 1) (by kernel_rfl)
  obtain ⟨x8, q8, b8⟩ := rdc_i64 Try.underlying3 g8
  obtain ⟨e9, g9⟩ := rdc_field Try.underlying32 h 9 rfl (ft := 3) rfl (o := 9) rfl (c := 1) (by kernel_rfl)
  obtain ⟨x9, q9, b9⟩ := rdc_i64 Try.underlying3 g9
  obtain ⟨e10, g10⟩ := rdc_field Try.underlying32 h 10 rfl (ft := 4) rfl (o := 10) rfl (c := 1) (by kernel_rfl)
  obtain ⟨x10, q10⟩ := rdc_bool Try.underlying4 g10
  obtain ⟨e11, g11⟩ := rdc_field Try.underlying32 h 11 rfl (ft := 3) rfl (o := 11) rfl (c := 1) (by kernel_rfl)
  obtain ⟨x11, q11, b11⟩ := rdc_i64 Try.underlying3 g11
  obtain ⟨e12, g12⟩ := rdc_field Try.underlying32 h 12 rfl (ft := 29) rfl (o := 12) rfl (c := 1) (by kernel_rfl)
  obtain ⟨x12, q12, b12⟩ := rdc_u32 Try.underlying29 g12
  obtain ⟨e13, g13⟩ := rdc_field Try.underlying32 h 13 rfl (ft := 30) rfl (o := 13) rfl (c := 1) (by kernel_rfl)
  obtain ⟨x13, q13⟩ := rdc_slice_cell Try.underlying30 g13; rw [q13] at g13
  obtain ⟨e14, g14⟩ := rdc_field Try.underlying32 h 14 rfl (ft := 3) rfl (o := 14) rfl (c := 1) (by kernel_rfl)
  obtain ⟨x14, q14, b14⟩ := rdc_i64 Try.underlying3 g14
  obtain ⟨e15, g15⟩ := rdc_field Try.underlying32 h 15 rfl (ft := 3) rfl (o := 15) rfl (c := 1) (by kernel_rfl)
  obtain ⟨x15, q15, b15⟩ := rdc_i64 Try.underlying3 g15
  refine ⟨x0, x1, x2, x3, x4, x5, x6, x7, x8, x9, x10, x11, x12, x13, x14, x15, ?_, b0, b1, trivial, trivial, trivial, trivial, ⟨_, g6⟩, b7, b8, b9, trivial, b11, b12, ⟨_, g13⟩, b14, b15⟩
  have hl' : cs.length = 16 := hl.trans (by kernel_rfl)
  refine list_of_cells hl' [.int .i64 x0, .int .i64 x1, .bool x2, .bool x3, .bool x4, .bool x5, x6, .int .i64 x7, .int .i64 x8, .int .i64 x9, .bool x10, .int .i64 x11, .int .u32 x12, x13, .int .i64 x14, .int .i64 x15] rfl ?_
  intro i hi
  match i, hi with
  | 0, _ => exact take_one q0
  | 1, _ => exact take_one q1
  | 2, _ => exact take_one q2
  | 3, _ => exact take_one q3
  | 4, _ => exact take_one q4
  | 5, _ => exact take_one q5
  | 6, _ => exact take_one q6
  | 7, _ => exact take_one q7
  | 8, _ => exact take_one q8
  | 9, _ => exact take_one q9
  | 10, _ => exact take_one q10
  | 11, _ => exact take_one q11
  | 12, _ => exact take_one q12
  | 13, _ => exact take_one q13
  | 14, _ => exact take_one q14
  | 15, _ => exact take_one q15
  | i + 16, hi => exact absurd hi (by omega)
theorem settingCells {H : Type} {enc : TypeId × Value → H} {W : World} {cs : List Value} {d : DataW H} (h : RdC enc Try.prog W 56 cs d) :
    ∃ (x0 : Int) (x1 : Nat), cs = [.int .i64 x0, .int .u32 x1] ∧ (-9223372036854775808 ≤ x0 ∧ x0 ≤ 9223372036854775807) ∧ x1 < 4294967296 := by
  have hl := (rdc_struct Try.underlying56 h).1
  obtain ⟨e0, g0⟩ := rdc_field Try.underlying56 h 0 rfl (ft := 3) rfl (o := 0) rfl (c := 1) (by kernel_rfl)
  obtain ⟨x0, q0, b0⟩ := rdc_i64 Try.underlying3 g0
  obtain ⟨e1, g1⟩ := rdc_field Try.underlying56 h 1 rfl (ft := 28) rfl (o := 1) rfl (c := 1) (by kernel_rfl)
  obtain ⟨x1, q1, b1⟩ := rdc_u32 Try.underlying28 g1
  refine ⟨x0, x1, ?_, b0, b1⟩
  have hl' : cs.length = 2 := hl.trans (by kernel_rfl)
  refine list_of_cells hl' [.int .i64 x0, .int .u32 x1] rfl ?_
  intro i hi
  match i, hi with
  | 0, _ => exact take_one q0
  | 1, _ => exact take_one q1
  | i + 2, hi => exact absurd hi (by omega)

/-- a frame among the arguments -/
structure FrIn (W : World) (f : Fr) (l : List UInt8) (nl : Nat) (lc : List Value) : Prop where
  pay : rd W 1 f.pay l.length (bs l)
  lst : rd W 2 f.lst nl lc
  set : ∀ k, k < nl → SetAt lc k

theorem cutSet {lc : List Value} {nl : Nat} (h : ∀ k, k < nl → SetAt lc k) : ∀ k, k < cutN nl → SetAt (cutL nl lc) k := by
  intro k hk
  unfold cutN at hk
  obtain ⟨x, y, e⟩ := h k (by omega)
  refine ⟨x, y, ?_⟩
  rw [← e]
  unfold cutL
  rw [List.drop_take, List.take_take, Nat.min_eq_left (by omega)]

theorem setOne {lc : List Value} {nl : Nat} (hl : lc.length = nl * 2) (h : ∀ k, k < nl → SetAt lc k) : ∀ y ∈ lc, y.oneCell' = true := by
  intro y hy
  obtain ⟨i, hi, rfl⟩ := List.mem_iff_getElem.1 hy
  obtain ⟨a, b, e⟩ := h (i / 2) (by omega)
  have : (lc.drop (i / 2 * 2))[i % 2]? = some lc[i] := by
    rw [List.getElem?_drop, show i / 2 * 2 + i % 2 = i by omega, List.getElem?_eq_getElem hi]
  have e2 : ((lc.drop (i / 2 * 2)).take 2)[i % 2]? = some lc[i] := by rw [List.getElem?_take, if_pos (Nat.mod_lt _ (by decide)), this]
  rw [e] at e2
  have h2 : i % 2 = 0 ∨ i % 2 = 1 := by omega
  rcases h2 with h2 | h2 <;> rw [h2] at e2 <;> simp at e2 <;> rw [← e2] <;> rfl

theorem FrIn.one {W : World} {f : Fr} {l : List UInt8} {nl : Nat} {lc : List Value} (h : FrIn W f l nl lc) : ∀ y ∈ lc, y.oneCell' = true := setOne h.lst.len h.set

theorem frame_in {H : Type} {enc : TypeId × Value → H} {W : World} {cs : List Value} {d : DataW H} (h : RdC enc Try.prog W 32 cs d) : ∃ f l nl lc, cs = Fr.cs f ∧ FrIn W f l nl lc := by
  obtain ⟨x0, x1, x2, x3, x4, x5, x6, x7, x8, x9, x10, x11, x12, x13, x14, x15, rfl, _, _, _, _, _, _, ⟨d6, h6⟩, _, _, _, _, _, _, ⟨d13, h13⟩, _, _⟩ := frameCells h
  obtain ⟨v, l, e, hr, -⟩ := rdc_bytes Try.underlying22 Try.underlying5 (by kernel_rfl) h6
  obtain rfl := (List.cons.inj e).1
  obtain ⟨v, nl, lc, e, hq, -, hel⟩ := rdc_slice (sz := 2) Try.underlying30 (by kernel_rfl) h13
  obtain rfl := (List.cons.inj e).1
  refine ⟨⟨x0, x1, x2, x3, x4, x5, x6, x7, x8, x9, x10, x11, x12, x13, x14, x15⟩, l, nl, lc, rfl, hr, hq, fun k hk => ?_⟩
  obtain ⟨di, hi⟩ := hel k hk
  obtain ⟨a, b, e, -⟩ := settingCells hi
  exact ⟨a, b, e⟩


/-- a slice of frames among the arguments -/
theorem frames_in {H : Type} {enc : TypeId × Value → H} {W : World} {v : Value} {d : DataW H} (h : Arg enc Try.prog W 38 v d) :
    ∃ n xs, rd W 16 v n xs ∧ ∀ i, i < n → ∃ f l nl lc, (xs.drop (i * 16)).take 16 = Fr.cs f ∧ FrIn W f l nl lc := by
  obtain ⟨n, xs, hr, -, hel⟩ := arg_slice (sz := 16) Try.underlying38 (by kernel_rfl) h
  exact ⟨n, xs, hr, fun i hi => let ⟨_, hd⟩ := hel i hi; frame_in hd⟩
end
end Go.Proofs.Ytbjfokpdomogeaa
