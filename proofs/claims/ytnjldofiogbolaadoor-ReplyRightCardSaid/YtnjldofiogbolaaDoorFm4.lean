

/-
  Package fields: a name among some; what is done where a message is given up.
-/
import Derived.Test.YtnjldofiogbolaaDoorFm3
namespace Go.Proofs.YtnjldofiogbolaaDoor
open Go.RowKit Go.Sl Go.ChangeShapes

def strs (l : List Txt) : List Value := l.map str
theorem strs_at {l : List Txt} {j : Nat} {x : Txt} (h : l[j]? = some x) : (strs l)[j]? = some (str x) := by simp [strs, h]

set_option maxHeartbeats 8000000 in
set_option maxRecDepth 100000 in
theorem indexS {B w : World} {R : Assn} {N : List Txt} {x : Txt} {v : Value} (h : Own B R w) (hl : ∀ w, Own B R w → rd w 1 v N.length (strs N)) :
    Calls Tryd.prog 40 #[v, str x] w fun e w' => (∃ i : Int, e = .returned (.int .i64 i) ∧ decide (0 ≤ i) = decide (x ∈ N)) ∧ Own B R w' := by
  obtain ⟨ao, ac, rfl, i1, i2, -⟩ := id (hl w h)
  unfold maxLen at i2
  go_enter Tryd.func40, Tryd.ntmps40
  go_wp2_with fail
  go_loopw [5, 8] (fun _ i wr => ∃ j : Nat, i = .int .i64 j ∧ j ≤ N.length ∧ Hid (∀ y ∈ N.take j, x ≠ y) ∧ Own B R wr) (fun _ i _ => N.length - (intOf i).toNat)
  case atStart => exact ⟨0, rfl, Nat.zero_le _, Lib.hid (by simp), h⟩
  case round =>
    clear h
    obtain ⟨j, rfl, hj, HA, G⟩ := hrel
    by_cases hjn : j < N.length
    · obtain ⟨y, hy⟩ : ∃ y, N[j]? = some y := ⟨N[j], List.getElem?_eq_getElem hjn⟩
      obtain ⟨ad, rfl⟩ := rd_some (hl _ G) (by omega)
      have HF := Lib.hid (strs_at hy)
      have HMEM := Lib.hid (List.mem_of_getElem? hy)
      have HTK : Hid (N.take (j + 1) = N.take j ++ [y]) := Lib.hid (by rw [List.take_add_one, hy]; rfl)
      obtain ⟨q, hq⟩ : ∃ q, decide (x = y) = q := ⟨_, rfl⟩
      clear hy
      cases q
      · go_wp2_with (first
          | ((with_reducible refine at_load ?_); refine wpu_loadC (k := j) (hl _ G) HF.out rfl (by kernel_rfl) rfl ?_; go_frame)
          | ((with_reducible refine at_eqS ?_); refine wpu_eqS rfl (by kernel_rfl) rfl rfl hq ?_; go_frame)
          | fail)
        go_roundw
        case rel => exact ⟨j + 1, by go_num, by omega, Lib.hid (by
          rw [HTK.out]
          intro g hg
          rcases List.mem_append.1 hg with hg | hg
          · exact HA.out g hg
          · rw [List.mem_singleton.1 hg]; simpa using hq), G⟩
        case measure => simp [intOf] <;> omega
      · go_wp2_with (first
          | ((with_reducible refine at_load ?_); refine wpu_loadC (k := j) (hl _ G) HF.out rfl (by kernel_rfl) rfl ?_; go_frame)
          | ((with_reducible refine at_eqS ?_); refine wpu_eqS rfl (by kernel_rfl) rfl rfl hq ?_; go_frame)
          | fail)
        go_ret
        have e : x = y := by simpa using hq
        exact ⟨⟨_, rfl, by rw [e, decide_eq_true HMEM.out]; simp⟩, G⟩
    · have hno : x ∉ N := fun e => HA.out x (by rwa [List.take_of_length_le (by omega)]) rfl
      go_wp2_with fail
      go_ret
      exact ⟨⟨_, rfl, by rw [decide_eq_false hno]; rfl⟩, G⟩

set_option maxHeartbeats 8000000 in
set_option maxRecDepth 100000 in
theorem containsS {B w : World} {R : Assn} {N : List Txt} {x : Txt} {v : Value} (h : Own B R w) (hl : ∀ w, Own B R w → rd w 1 v N.length (strs N)) :
    Calls Tryd.prog 34 #[v, str x] w fun e w' => e = .returned (.bool (decide (x ∈ N))) ∧ Own B R w' := by
  go_enter Tryd.func34, Tryd.ntmps34
  go_wp2_with fail
  refine Calls.mono (indexS h hl) ?_
  clear h; rintro e w ⟨⟨i, rfl, hi⟩, h⟩
  go_wp2_with fail
  go_ret
  exact ⟨by rw [← hi]; rfl, h⟩

/-! ### giving up -/
def msgC (l : Int) : List Value := [str [], str [], str [], str [], .int .i64 0, .int .i64 l]


set_option maxHeartbeats 8000000 in
set_option maxRecDepth 100000 in
theorem catchT {x y z : Value} (w : World) : CallsD Tryd.prog 27 #[x, y, z] .returning w fun e u' w' => e = .returned (.tuple #[]) ∧ u' = .returning ∧ w' = w := by
  have hnil : ∀ w : World, (binOp BinOp.eql 20 .nilIface .nilIface).run Tryd.prog w = .ok (.bool true) w := fun _ => by kernel_rfl
  refine callsD_of_wpS Tryd.func27 rfl fun c₀ cs hu => ?_
  apply wpS_seq
  apply wpS_region
  simp [wpOpsS, go_sem, recoverD, hu, Tryd.ntmps27, Exit.thenS]
  refine wpS_of_wp ?_
  change Code.wp _ _ _ { tmps := #[x, y, z, undef, undef, undef, .nilIface, undef, undef, undef, undef, undef, undef], defers := [] } _
  go_wp2_with fail
  cases c₀
  simp_all [bodyPostS, results, Tryd.results27]

set_option maxHeartbeats 8000000 in
set_option maxRecDepth 100000 in
theorem catchP {B w : World} {R : Assn} {b4 b5 b6 : Nat} {l : Int} {m : Value} {k : Bool} (G : Own B (blk b4 (msgC l) * (blk b5 [m] * (blk b6 [.bool k] * R))) w) :
    CallsD Tryd.prog 27 #[.pointer (some ⟨b4, 0, none⟩), .pointer (some ⟨b5, 0, none⟩), .pointer (some ⟨b6, 0, none⟩)] (.panicking [wrongE]) w fun e u' w' =>
      e = .returned (.tuple #[]) ∧ u' = .panicking [{ wrongE with recovered := true }] ∧ Own B (blk b4 (msgC 0) * (blk b5 [.map none] * (blk b6 [.bool false] * R))) w' := by
  unfold msgC at *
  unfold wrongE
  have hnn : ∀ (v : Value) (w : World), (binOp BinOp.eql 20 (.iface 59 v) .nilIface).run Tryd.prog w = .ok (.bool false) w := fun _ _ => by kernel_rfl
  have hta : ∀ (w : World), (Instr.typeAssert (.iface 59 (.agg #[])) 20 59 true).run Tryd.prog w = .ok (.tuple #[.agg #[], .bool true]) w := fun _ => by kernel_rfl
  refine callsD_of_wpS Tryd.func27 rfl fun c₀ cs hu => ?_
  apply wpS_seq
  apply wpS_region
  simp [wpOpsS, go_sem, recoverD, hu, Tryd.ntmps27, Exit.thenS]
  refine wpS_of_wp ?_
  change Code.wp _ _ _ { tmps := #[.pointer (some ⟨b4, 0, none⟩), .pointer (some ⟨b5, 0, none⟩), .pointer (some ⟨b6, 0, none⟩), undef, undef, undef, .iface 59 (.agg #[]), undef, undef, undef, undef, undef, undef], defers := [] } _
  go_wp2_with (first
    | ((with_reducible refine at_alloc ?_); refine wpu_new G ?_; clear G; intro w G)
    | ((with_reducible refine at_drew ?_); refine wpu_drew G ?_; clear G; intro w G)
    | ((with_reducible refine at_load ?_); first
      | (refine wpu_load G rfl rfl rfl rfl ?_; go_frame)
      | (refine wpu_loadB G rfl rfl rfl (by rfl) ?_; go_frame)
      | (refine wpu_loadS G rfl rfl rfl (by rfl) ?_; simp only [List.drop_succ_cons, List.drop_zero, List.take_succ_cons, List.take_zero]; go_frame))
    | ((with_reducible refine at_store ?_); first
      | (refine wpu_store G rfl rfl rfl rfl (by first | rfl | assumption | simp [*]) rfl ?_; clear G; intro w G; go_frame)
      | (refine wpu_storeB G rfl rfl rfl rfl (by rfl) (by rfl) (by first | rfl | assumption | simp [*]) ?_; clear G; intro w G; go_frame)
      | (refine wpu_storeS G rfl rfl rfl rfl (by rfl) (by rfl) (by first | rfl | assumption | simp [*]) ?_; clear G; intro w G; go_frame))
    | ((with_reducible refine at_convert ?_); refine wpu_str G rfl rfl rfl rfl ?_; go_frame)
    | ((with_reducible refine at_slice ?_); first
      | (refine wpu_sliceLo rfl rfl rfl rfl (by first | rfl | omega) (by omega) (by omega) ?_; go_frame)
      | (refine wpu_sliceLH rfl rfl rfl rfl rfl (by first | rfl | omega) (by first | rfl | omega) (by omega) (by omega) ?_; go_frame))
    | fail)
  exact ⟨rfl, _, rfl, _, by simp [results, Tryd.results27], rfl, rfl, G.right⟩
end Go.Proofs.YtnjldofiogbolaaDoor
