

/-
  The laws of package fields: fields by names and values; at most so many.
-/
import Derived.Test.YtikngjdljdofkaaDoorFm8
import Derived.Test.YtikngjdljdofkaaDoorPre
namespace Go.Proofs.YtikngjdljdofkaaDoor
open Go.RowKit Go.Sl Go.ChangeShapes

def pairs (F : List Fd) : List Value := F.flatMap fun f => [str f.1, str f.2.1]
theorem pairs_len (F : List Fd) : (pairs F).length = 2 * F.length := by induction F with | nil => rfl | cons f l ih => simp [pairs] at ih ⊢; omega
theorem pairs_at : ∀ {F : List Fd} {m : Nat} {f : Fd}, F[m]? = some f → (pairs F)[2 * m]? = some (str f.1) ∧ (pairs F)[2 * m + 1]? = some (str f.2.1)
  | [], m, f, h => by simp at h
  | g :: F, 0, f, h => by simp at h; subst h; exact ⟨rfl, rfl⟩
  | g :: F, m + 1, f, h => by
    have := pairs_at (F := F) (m := m) (f := f) (by simpa using h)
    show ([str g.1, str g.2.1] ++ pairs F)[2 * (m + 1)]? = _ ∧ ([str g.1, str g.2.1] ++ pairs F)[2 * (m + 1) + 1]? = _
    rw [show 2 * (m + 1) = 2 * m + 1 + 1 by omega]
    exact this

theorem wpk_val {P : Program} {w w' : World} {a : Act} {o : Oper} {v : Value} {K : Act → World → Prop} {Q : Exit → Act → World → Prop} (hr : (execOp a.eval o).run P w = .ok (.value v) w') (k : K (a.put o.dst v) w') : o.wp P a w K Q := by
  unfold Oper.wp
  rw [hr]
  exact k
theorem build1 (a b : Txt) (c : Bool) (w : World) : (Instr.buildSlice 22 1 #[(0, .agg #[str a, str b, .bool c])]).run Tryd.prog w = .ok (.slice (some ⟨w.heap.size, 0, none⟩) 1 1) (w.alloc (.cells (fds [(a, b, c)]).toArray 24)) := by kernel_rfl

set_option maxHeartbeats 8000000 in
set_option maxRecDepth 100000 in
theorem ofC {B w : World} {R : Assn} {F : List Fd} {v : Value} (hF : F.all (fun f => !f.2.2) = true) (hL : F.length ≤ 1000) (h : Own B R w) (hl : ∀ w, Own B R w → rd w 1 v (2 * F.length) (pairs F)) :
    Calls Tryd.prog 12 #[v] w fun e w' => ∃ v', e = .returned v' ∧ Own B (sl 3 v' F.length (fds F) * R) w' := by
  obtain ⟨ao, ac, rfl, i1, i2, -⟩ := id (hl w h)
  unfold maxLen at i2
  have HFA := Lib.hid hF
  clear hF
  have G := own_nil h 3
  clear h
  go_enter Tryd.func12, Tryd.ntmps12
  go_wp2_with fail
  go_loopw [3, 4] (fun o i wr => ∃ (m k : Nat) (oo : Option Addr) (oc : Nat), o = .slice oo m oc ∧ m ≤ oc ∧ oc ≤ 9223372036854775807 ∧ i = .int .i64 k ∧ k ≤ 2 * m ∧ 2 * m ≤ k ∧ m ≤ F.length ∧ Own B (sl 3 (.slice oo m oc) m (fds (F.take m)) * R) wr) (fun _ i _ => 2 * F.length - (intOf i).toNat)
  case atStart => exact ⟨0, 0, _, _, rfl, Nat.le_refl _, by omega, rfl, by omega, by omega, Nat.zero_le _, G⟩
  case round =>
    clear G
    obtain ⟨m, k, oo, oc, rfl, j1, j2, rfl, k1, k2, hm, G⟩ := hrel
    by_cases hmn : m < F.length
    · obtain ⟨f, hf⟩ : ∃ f, F[m]? = some f := ⟨F[m], List.getElem?_eq_getElem hmn⟩
      obtain ⟨ad, rfl⟩ := rd_some (hl _ (G.sub R)) (by omega)
      have hn : f.2.2 = false := by
        have := List.all_eq_true.1 HFA.out f (List.mem_of_getElem? hf)
        simpa using this
      obtain ⟨n, x, z⟩ := f
      simp only at hn
      subst hn
      have P1 : Hid ((pairs F)[k]? = some (str n)) := Lib.hid (by rw [show k = 2 * m by omega]; exact (pairs_at hf).1)
      have P2 : Hid ((pairs F)[k + 1]? = some (str x)) := Lib.hid (by rw [show k = 2 * m by omega]; exact (pairs_at hf).2)
      have HTK : Hid (F.take (m + 1) = F.take m ++ [(n, x, false)]) := Lib.hid (by rw [List.take_add_one, hf]; rfl)
      clear hf
      go_wp2_with fail
      refine wp_region_mix [0, 0, 0, 0, 0, 0, 0, 0, 0, 0, 0, 1, 2, 3] (Own B _) (by kernel_rfl) (by kernel_rfl) (own_drew G) ?_
      refine mix_calm 11 ((own_drew G)) (by rfl) (by rfl) ?_
      intro ι W hne hW
      dsimp only [List.take, List.drop]
      repeat (first | ((with_reducible refine atq_load ?_); first | (refine wpq_loadC (k := k) (fun i => hl _ ((hW i).sub R)) P1.out rfl rfl rfl ?_; go_frame) | (refine wpq_loadC (k := k + 1) (fun i => hl _ ((hW i).sub R)) P2.out rfl rfl rfl ?_; go_frame)) | ((with_reducible refine atq_load ?_); first | (refine wpq_load hW rfl rfl rfl rfl ?_; go_frame) | (refine wpq_loadB hW rfl rfl rfl (by rfl) ?_; go_frame)) | go_big_quiet_step (fail))
      refine wpQuiet_nil ?_
      clear  hW hne W ι
      refine mix_loud rfl (fun K hK => ?_)
      refine wpk_val (exec_buildT _ rfl (by kernel_rfl) (build1 n x false _)) ?_
      have G1 := own_new (own_drew G) (fds [(n, x, false)]) 24
      refine hK _ _ ⟨own_alloc (own_drew G) _, ?_⟩
      clear hK G
      try go_frame
      refine mix_last rfl (fun K hK => ?_)
      refine wpk_append1 G1 rfl rfl rfl rfl (by rfl) (by unfold maxLen; omega) (by omega) fun v w G => ?_
      refine hK _ _ ?_
      clear hK G1
      try go_frame
      refine mix_plain 1 (by rfl) (by rfl) ?_
      intro ι W hne
      dsimp only [List.take, List.drop]
      repeat (go_big_quiet_step (fail))
      refine wpQuiet_nil ?_
      clear hne W ι
      refine mix_nil ?_
      rw [fds_app, ← HTK.out] at G
      obtain ⟨vo, vc, rfl, i7, i8⟩ := G.hdr v
      unfold maxLen at i8
      go_wp2_with fail
      go_roundw
      case rel => exact ⟨m + 1, k + 2, vo, vc, rfl, by omega, by omega, by go_num, by omega, by omega, by omega, G⟩
      case measure => simp [intOf] <;> omega
    · go_wp2_with fail
      go_ret
      obtain rfl : m = F.length := by omega
      rw [List.take_length] at G
      exact ⟨_, rfl, G⟩

def cutF (f : Fd) : Fd := (f.1.take 2000, f.2.1.take 2000, f.2.2)
def fewR (L : List Fd) (n : Nat) : List Fd := (L.take n).map cutF
theorem fewR_len (L : List Fd) (n : Nat) : (fewR L n).length = min n L.length := by simp [fewR]
theorem fewR_small (L : List Fd) (n : Nat) : ∀ f ∈ fewR L n, f.1.length ≤ 2000 ∧ f.2.1.length ≤ 2000 := by
  intro f hf
  obtain ⟨g, _, rfl⟩ := List.mem_map.1 hf
  simp [cutF]
  omega
def cut2 (l : Txt) : Txt := l.take 2000

set_option maxHeartbeats 8000000 in
set_option maxRecDepth 100000 in
theorem fewC {B w : World} {R : Assn} {L : List Fd} {v : Value} {n : Nat} (hn : n ≤ 1000) (h : Own B R w) (hl : ∀ w, Own B R w → rd w 3 v L.length (fds L)) (hv : ∀ f ∈ L, f.1.length ≤ 9223372036854775807 ∧ f.2.1.length ≤ 9223372036854775807) :
    Calls Tryd.prog 11 #[v, .int .i64 n] w fun e w' => ∃ v', e = .returned v' ∧ Own B (sl 3 v' (fewR L n).length (fds (fewR L n)) * R) w' := by
  obtain ⟨ao, ac, rfl, i1, i2, -⟩ := id (hl w h)
  unfold maxLen at i2
  have G := own_nil h 3
  clear h
  go_enter Tryd.func11, Tryd.ntmps11
  go_wp2_with fail
  go_loopw [5, 6, 7] (fun o i _ wr => ∃ (m : Nat) (oo : Option Addr) (oc : Nat), o = .slice oo m oc ∧ m ≤ oc ∧ oc ≤ 9223372036854775807 ∧ i = .int .i64 m ∧ m ≤ L.length ∧ m ≤ n ∧ Own B (sl 3 (.slice oo m oc) m (fds ((L.take m).map cutF)) * R) wr) (fun _ i _ _ => L.length - (intOf i).toNat)
  case atStart => exact ⟨0, _, _, rfl, Nat.le_refl _, by omega, rfl, by omega, by omega, G⟩
  case round =>
    clear G
    obtain ⟨m, oo, oc, rfl, j1, j2, rfl, hm, hmn', G⟩ := hrel
    by_cases hml : m < L.length
    · have y1 : decide ((m : Int) < (L.length : Int)) = true := by simp; omega
      have y2 : decide (m < L.length) = true := by simp; omega
      by_cases hmn : m < n
      · have y3 : decide ((m : Int) < (n : Int)) = true := by simp; omega
        have y4 : decide (m < n) = true := by simp; omega
        obtain ⟨f, hf⟩ : ∃ f, L[m]? = some f := ⟨L[m], List.getElem?_eq_getElem hml⟩
        obtain ⟨ad, rfl⟩ := rd_some (hl _ (G.sub R)) (by omega)
        have HF := Lib.hid (fds_at hf)
        have HTK : Hid ((L.take (m + 1)).map cutF = (L.take m).map cutF ++ [cutF f]) := Lib.hid (by rw [List.take_add_one, hf]; simp)
        obtain ⟨l1, l2⟩ := hv f (List.mem_of_getElem? hf)
        obtain ⟨p, p0, p1, p2⟩ : ∃ k : Nat, min (f.1.length : Int) 2000 = (k : Int) ∧ k ≤ f.1.length ∧ Hid (f.1.take k = cut2 f.1) := ⟨min f.1.length 2000, by omega, by omega, Lib.hid (take_min _ _)⟩
        obtain ⟨q, q0, q1, q2⟩ : ∃ k : Nat, min (f.2.1.length : Int) 2000 = (k : Int) ∧ k ≤ f.2.1.length ∧ Hid (f.2.1.take k = cut2 f.2.1) := ⟨min f.2.1.length 2000, by omega, by omega, Lib.hid (take_min _ _)⟩
        clear hf
        go_wp2_with (first
          | ((with_reducible refine at_load ?_); first
            | (refine wpu_loadE (k := m) (hl _ (G.sub R)) HF.out rfl (by kernel_rfl) rfl rfl ?_; go_frame)
            | (refine wpu_load G rfl rfl rfl rfl ?_; go_frame)
            | (refine wpu_loadB G rfl rfl rfl (by rfl) ?_; go_frame))
          | ((with_reducible refine at_sliceAny ?_); first
            | (refine wpu_strH (l := f.1) (j := p) rfl rfl rfl rfl rfl p1 ?_; rw [p2.out]; go_frame)
            | (refine wpu_strH (l := f.2.1) (j := q) rfl rfl rfl rfl rfl q1 ?_; rw [q2.out]; go_frame))
          | ((with_reducible refine at_build ?_); refine hold ?_)
          | ((with_reducible refine at_alloc ?_); refine wpu_new G ?_; clear G; intro w G)
          | ((with_reducible refine at_drew ?_); refine wpu_drew G ?_; clear G; intro w G)
          | ((with_reducible refine at_load ?_); first
            | (refine wpu_load G rfl rfl rfl rfl ?_; go_frame)
            | (refine wpu_loadB G rfl rfl rfl (by rfl) ?_; go_frame)
            | (refine wpu_loadS G rfl rfl rfl (by rfl) ?_; simp only [List.drop_succ_cons, List.drop_zero, List.take_succ_cons, List.take_zero]; go_frame))
          | ((with_reducible refine at_store ?_); first
            | (refine wpu_store G rfl rfl rfl rfl (by first | rfl | assumption | simp [*]) rfl ?_; clear G; intro w G; go_frame)
            | (refine wpu_storeB G rfl rfl rfl rfl (by rfl) (by rfl) (by first | rfl | assumption | simp [*]) ?_; clear G; intro w G; go_frame)
            | (refine wpu_storeS G rfl rfl rfl rfl (by rfl) (by rfl) (by first | rfl | assumption | simp [*]) ?_; clear G; intro w G; go_frame))
          | ((with_reducible refine at_convert ?_); refine wpu_str G rfl rfl rfl rfl ?_; go_frame)
          | ((with_reducible refine at_slice ?_); first
            | (refine wpu_sliceLo rfl rfl rfl rfl (by first | rfl | omega) (by omega) (by omega) ?_; go_frame)
            | (refine wpu_sliceLH rfl rfl rfl rfl rfl (by first | rfl | omega) (by first | rfl | omega) (by omega) (by omega) ?_; go_frame))
          | fail)
        unfold Held
        refine wpu_val rfl (exec_buildT _ rfl (by kernel_rfl) (build1 (cut2 f.1) (cut2 f.2.1) f.2.2 _)) ?_
        have G1 := own_new (G.sub (sl 3 (.slice oo m oc) m (fds ((L.take m).map cutF)) * R)) (fds [(cut2 f.1, cut2 f.2.1, f.2.2)]) 24
        clear G
        go_frame
        go_wp2_with (first
          | ((with_reducible refine at_append ?_); refine wpu_append1 G1 rfl rfl rfl rfl rfl (by rfl) (by unfold maxLen; omega) (by omega) ?_; clear G1; intro v w G; obtain ⟨vo, vc, rfl, i7, i8⟩ := G.hdr v; go_frame)
          | fail)
        unfold maxLen at i8
        rw [fds_app, show [(cut2 f.1, cut2 f.2.1, f.2.2)] = [cutF f] from rfl, ← HTK.out] at G
        go_roundw
        case rel => exact ⟨m + 1, vo, vc, rfl, by omega, by omega, by go_num, by omega, by omega, G⟩
        case measure => simp [intOf] <;> omega
      · have y3 : decide ((m : Int) < (n : Int)) = false := by simp; omega
        have y4 : decide (m < n) = false := by simp; omega
        have e : (L.take m).map cutF = fewR L n := by unfold fewR; rw [show m = n by omega]
        rw [e] at G
        have e2 : m = (fewR L n).length := by rw [fewR_len]; omega
        have G2 := G
        go_wp2_with (first
          | go_big_skip
          | fail)
        go_ret
        exact ⟨_, rfl, by rw [← e2]; exact G⟩
    · have y1 : decide ((m : Int) < (L.length : Int)) = false := by simp; omega
      have y2 : decide (m < L.length) = false := by simp; omega
      have e : (L.take m).map cutF = fewR L n := by unfold fewR; rw [List.take_of_length_le (by omega), List.take_of_length_le (by omega)]
      rw [e] at G
      have e2 : m = (fewR L n).length := by rw [fewR_len]; omega
      go_wp2_with (first
        | go_big_skip
        | fail)
      go_ret
      exact ⟨_, rfl, by rw [← e2]; exact G⟩

/-! ### what must be in any case -/
theorem bld2 (a b : Txt) (w : World) : (Instr.buildSlice 42 2 #[(0, str a), (1, str b)]).run Tryd.prog w = .ok (.slice (some ⟨w.heap.size, 0, none⟩) 2 2) (w.alloc (.cells (strs [a, b]).toArray 9)) := by kernel_rfl
theorem bld4 (a b c d : Txt) (w : World) : (Instr.buildSlice 42 4 #[(0, str a), (1, str b), (2, str c), (3, str d)]).run Tryd.prog w = .ok (.slice (some ⟨w.heap.size, 0, none⟩) 4 4) (w.alloc (.cells (strs [a, b, c, d]).toArray 9)) := by kernel_rfl
theorem bld6 (a b c d e f : Txt) (w : World) : (Instr.buildSlice 42 6 #[(0, str a), (1, str b), (2, str c), (3, str d), (4, str e), (5, str f)]).run Tryd.prog w = .ok (.slice (some ⟨w.heap.size, 0, none⟩) 6 6) (w.alloc (.cells (strs [a, b, c, d, e, f]).toArray 9)) := by kernel_rfl

def small (L : List Fd) : Bool := decide (L.length ≤ 1000) && L.all fun f => decide (f.1.length ≤ 1000000) && decide (f.2.1.length ≤ 1000000)
theorem small_of {L : List Fd} (h : small L = true) : (∀ f ∈ L, f.1.length ≤ 1000000 ∧ f.2.1.length ≤ 1000000) ∧ L.length ≤ 1000 := by
  unfold small at h
  simp only [Bool.and_eq_true, decide_eq_true_eq, List.all_eq_true] at h
  exact ⟨fun f hf => h.2 f hf, h.1⟩
def get3 : List Fd := [(nMethod, [71, 69, 84], false), (nScheme, [104, 116, 116, 112], false), (nPath, [47], false)]
def bad3 : List Fd := [(nPath, [47], false), ([97], [98], false), (nMethod, [71, 69, 84], false)]
def ok3 : List Fd := [(nStatus, [50, 48, 48], false), (CL, [53], false), (CL, [53], false)]
def no3 : List Fd := [(nStatus, [50, 48, 48], false), (CL, [53], false), (CL, [54], false)]
set_option maxRecDepth 100000 in
theorem shown1 : requestR get3 = some ⟨[71, 69, 84], [104, 116, 116, 112], [], [47], 0, -1⟩ := by decide +kernel
set_option maxRecDepth 100000 in
theorem shown2 : requestR (get3 ++ [([72, 111, 115, 116], [120], false)]) = none := by decide +kernel
set_option maxRecDepth 100000 in
theorem shown3 : requestR bad3 = none := by decide +kernel
set_option maxRecDepth 100000 in
theorem shown4 : responseR ok3 = some ⟨[], [], [], [], 200, 5⟩ := by decide +kernel
set_option maxRecDepth 100000 in
theorem shown5 : responseR no3 = none := by decide +kernel
theorem trailers_nil : trailersR [] = true := rfl

theorem val1 : msgV (requestR get3) = .tuple #[.agg #[str [71, 69, 84], str [104, 116, 116, 112], str [], str [47], .int .i64 0, .int .i64 (-1)], .bool true] := by rw [shown1]; rfl
theorem val2 : msgV (requestR (get3 ++ [([72, 111, 115, 116], [120], false)])) = .tuple #[.agg #[str [], str [], str [], str [], .int .i64 0, .int .i64 0], .bool false] := by rw [shown2]; rfl
theorem val3 : msgV (requestR bad3) = .tuple #[.agg #[str [], str [], str [], str [], .int .i64 0, .int .i64 0], .bool false] := by rw [shown3]; rfl
theorem val4 : msgV (responseR ok3) = .tuple #[.agg #[str [], str [], str [], str [], .int .i64 200, .int .i64 5], .bool true] := by rw [shown4]; rfl
theorem val5 : msgV (responseR no3) = .tuple #[.agg #[str [], str [], str [], str [], .int .i64 0, .int .i64 0], .bool false] := by rw [shown5]; rfl
def host1 : List Fd := [([72, 111, 115, 116], [120], false)]

set_option maxHeartbeats 16000000 in
set_option maxRecDepth 100000 in
theorem shownFm {B w : World} (G : Own B emp w) : Calls Tryd.prog 10 #[] w fun e w' => e = .returned (.bool true) ∧ Own B emp w' := by
  go_enter Tryd.func10, Tryd.ntmps10
  go_wp2_with (first
    | ((with_reducible refine at_build ?_); refine hold ?_)
    | ((with_reducible refine at_alloc ?_); refine wpu_new G ?_; clear G; intro w G)
    | ((with_reducible refine at_drew ?_); refine wpu_drew G ?_; clear G; intro w G)
    | ((with_reducible refine at_load ?_); first
      | (refine wpu_load G rfl rfl rfl rfl ?_; go_frame)
      | (refine wpu_loadB G rfl rfl rfl (by rfl) ?_; go_frame)
      | (refine wpu_loadS G rfl rfl rfl (by rfl) ?_; simp only [List.drop_succ_cons, List.drop_zero, List.take_succ_cons, List.take_zero]; go_frame))
    | ((with_reducible refine at_store ?_); first
      | (refine wpu_store G rfl rfl rfl rfl (by first | rfl | assumption | simp [*]) rfl ?_; clear G; intro w G; go_frame)
      | (refine wpu_storeB G rfl rfl rfl rfl (by rfl) (by rfl) (by first | rfl | assumption | simp [*]) ?_; clear G; intro w G; go_frame)
      | (refine wpu_storeS G rfl rfl rfl rfl (by rfl) (by rfl) (by first | rfl | assumption | simp [*]) ?_; clear G; intro w G; go_frame))
    | ((with_reducible refine at_convert ?_); refine wpu_str G rfl rfl rfl rfl ?_; go_frame)
    | ((with_reducible refine at_slice ?_); first
      | (refine wpu_sliceLo rfl rfl rfl rfl (by first | rfl | omega) (by omega) (by omega) ?_; go_frame)
      | (refine wpu_sliceLH rfl rfl rfl rfl rfl (by first | rfl | omega) (by first | rfl | omega) (by omega) (by omega) ?_; go_frame))
    | fail)
  unfold Held
  refine wpu_val rfl (exec_buildT _ rfl (by kernel_rfl) (bld6 nMethod [71, 69, 84] nScheme [104, 116, 116, 112] nPath [47] _)) ?_
  go_frame
  have G1 := own_new_sl (n := 6) (sz := 1) G (pairs get3) 9 rfl (by decide)
  clear G
  go_wp2_with fail
  refine Calls.mono (ofC (F := get3) (by first | rfl | decide) (by decide) G1 (fun w h => own_rd h)) ?_
  clear G1; rintro e w ⟨v, rfl, G⟩
  change Own _ (sl 3 v 3 (fds get3) * _) w at G
  obtain ⟨to, tc, rfl, t1, t2⟩ := G.hdr v
  unfold maxLen at t2
  obtain ⟨s1, s2⟩ := small_of (L := get3) (by decide)
  go_wp2_with fail
  refine Calls.mono (requestC (L := get3) s1 s2 G (fun w h => own_rd h)) ?_
  clear G; rintro e w ⟨rfl, G⟩
  rw [val1]
  clear s1 s2
  go_wp2_with (first
    | ((with_reducible refine at_build ?_); refine hold ?_)
    | ((with_reducible refine at_alloc ?_); refine wpu_new G ?_; clear G; intro w G)
    | ((with_reducible refine at_drew ?_); refine wpu_drew G ?_; clear G; intro w G)
    | ((with_reducible refine at_load ?_); first
      | (refine wpu_load G rfl rfl rfl rfl ?_; go_frame)
      | (refine wpu_loadB G rfl rfl rfl (by rfl) ?_; go_frame)
      | (refine wpu_loadS G rfl rfl rfl (by rfl) ?_; simp only [List.drop_succ_cons, List.drop_zero, List.take_succ_cons, List.take_zero]; go_frame))
    | ((with_reducible refine at_store ?_); first
      | (refine wpu_store G rfl rfl rfl rfl (by first | rfl | assumption | simp [*]) rfl ?_; clear G; intro w G; go_frame)
      | (refine wpu_storeB G rfl rfl rfl rfl (by rfl) (by rfl) (by first | rfl | assumption | simp [*]) ?_; clear G; intro w G; go_frame)
      | (refine wpu_storeS G rfl rfl rfl rfl (by rfl) (by rfl) (by first | rfl | assumption | simp [*]) ?_; clear G; intro w G; go_frame))
    | ((with_reducible refine at_convert ?_); refine wpu_str G rfl rfl rfl rfl ?_; go_frame)
    | ((with_reducible refine at_slice ?_); first
      | (refine wpu_sliceLo rfl rfl rfl rfl (by first | rfl | omega) (by omega) (by omega) ?_; go_frame)
      | (refine wpu_sliceLH rfl rfl rfl rfl rfl (by first | rfl | omega) (by first | rfl | omega) (by omega) (by omega) ?_; go_frame))
    | fail)
  unfold Held
  refine wpu_val rfl (exec_buildT _ rfl (by kernel_rfl) (bld2 [72, 111, 115, 116] [120] _)) ?_
  go_frame
  have G1 := own_new_sl (n := 2) (sz := 1) G (pairs host1) 9 rfl (by decide)
  clear G
  go_wp2_with fail
  refine Calls.mono (ofC (F := host1) (by first | rfl | decide) (by decide) G1 (fun w h => own_rd h)) ?_
  clear G1; rintro e w ⟨v, rfl, G⟩
  change Own _ (sl 3 v 1 (fds host1) * _) w at G
  obtain ⟨uo, uc, rfl, t3, t4⟩ := G.hdr v
  unfold maxLen at t4
  go_wp2_with (first
    | ((with_reducible refine at_append ?_); refine wpu_appendP (v := .slice to 3 tc) G rfl rfl rfl rfl (G.rd (.slice uo 1 uc) _ G) (fds_one _) (by unfold maxLen; omega) (by omega) ?_; clear G; intro v w G; refine hold ?_)
    | fail)
  unfold Held
  obtain ⟨ao, ac, rfl, t5, t6⟩ : ∃ ao cap, v = .slice ao 4 cap ∧ 4 ≤ cap ∧ cap ≤ maxLen := by obtain ⟨ao, cap, e, a1, a2, _⟩ := pre_new G; exact ⟨ao, cap, e, a1, a2⟩
  unfold maxLen at t6
  try go_frame
  obtain ⟨s1, s2⟩ := small_of (L := get3 ++ host1) (by decide)
  go_wp2_with fail
  refine Calls.mono (requestC (L := get3 ++ host1) s1 s2 G (fun w h => pre_new h)) ?_
  clear G; rintro e w ⟨rfl, G⟩
  rw [show msgV (requestR (get3 ++ host1)) = _ from val2]
  clear s1 s2
  go_wp2_with (first
    | ((with_reducible refine at_build ?_); refine hold ?_)
    | ((with_reducible refine at_alloc ?_); refine wpu_new G ?_; clear G; intro w G)
    | ((with_reducible refine at_drew ?_); refine wpu_drew G ?_; clear G; intro w G)
    | ((with_reducible refine at_load ?_); first
      | (refine wpu_load G rfl rfl rfl rfl ?_; go_frame)
      | (refine wpu_loadB G rfl rfl rfl (by rfl) ?_; go_frame)
      | (refine wpu_loadS G rfl rfl rfl (by rfl) ?_; simp only [List.drop_succ_cons, List.drop_zero, List.take_succ_cons, List.take_zero]; go_frame))
    | ((with_reducible refine at_store ?_); first
      | (refine wpu_store G rfl rfl rfl rfl (by first | rfl | assumption | simp [*]) rfl ?_; clear G; intro w G; go_frame)
      | (refine wpu_storeB G rfl rfl rfl rfl (by rfl) (by rfl) (by first | rfl | assumption | simp [*]) ?_; clear G; intro w G; go_frame)
      | (refine wpu_storeS G rfl rfl rfl rfl (by rfl) (by rfl) (by first | rfl | assumption | simp [*]) ?_; clear G; intro w G; go_frame))
    | ((with_reducible refine at_convert ?_); refine wpu_str G rfl rfl rfl rfl ?_; go_frame)
    | ((with_reducible refine at_slice ?_); first
      | (refine wpu_sliceLo rfl rfl rfl rfl (by first | rfl | omega) (by omega) (by omega) ?_; go_frame)
      | (refine wpu_sliceLH rfl rfl rfl rfl rfl (by first | rfl | omega) (by first | rfl | omega) (by omega) (by omega) ?_; go_frame))
    | fail)
  unfold Held
  refine wpu_val rfl (exec_buildT _ rfl (by kernel_rfl) (bld6 nPath [47] [97] [98] nMethod [71, 69, 84] _)) ?_
  go_frame
  have G1 := own_new_sl (n := 6) (sz := 1) G (pairs bad3) 9 rfl (by decide)
  clear G
  go_wp2_with fail
  refine Calls.mono (ofC (F := bad3) (by first | rfl | decide) (by decide) G1 (fun w h => own_rd h)) ?_
  clear G1; rintro e w ⟨v, rfl, G⟩
  change Own _ (sl 3 v 3 (fds bad3) * _) w at G
  obtain ⟨xo, xc, rfl, t7, t8⟩ := G.hdr v
  unfold maxLen at t8
  obtain ⟨s1, s2⟩ := small_of (L := bad3) (by decide)
  go_wp2_with fail
  refine Calls.mono (requestC (L := bad3) s1 s2 G (fun w h => own_rd h)) ?_
  clear G; rintro e w ⟨rfl, G⟩
  rw [val3]
  clear s1 s2
  go_wp2_with (first
    | ((with_reducible refine at_build ?_); refine hold ?_)
    | ((with_reducible refine at_alloc ?_); refine wpu_new G ?_; clear G; intro w G)
    | ((with_reducible refine at_drew ?_); refine wpu_drew G ?_; clear G; intro w G)
    | ((with_reducible refine at_load ?_); first
      | (refine wpu_load G rfl rfl rfl rfl ?_; go_frame)
      | (refine wpu_loadB G rfl rfl rfl (by rfl) ?_; go_frame)
      | (refine wpu_loadS G rfl rfl rfl (by rfl) ?_; simp only [List.drop_succ_cons, List.drop_zero, List.take_succ_cons, List.take_zero]; go_frame))
    | ((with_reducible refine at_store ?_); first
      | (refine wpu_store G rfl rfl rfl rfl (by first | rfl | assumption | simp [*]) rfl ?_; clear G; intro w G; go_frame)
      | (refine wpu_storeB G rfl rfl rfl rfl (by rfl) (by rfl) (by first | rfl | assumption | simp [*]) ?_; clear G; intro w G; go_frame)
      | (refine wpu_storeS G rfl rfl rfl rfl (by rfl) (by rfl) (by first | rfl | assumption | simp [*]) ?_; clear G; intro w G; go_frame))
    | ((with_reducible refine at_convert ?_); refine wpu_str G rfl rfl rfl rfl ?_; go_frame)
    | ((with_reducible refine at_slice ?_); first
      | (refine wpu_sliceLo rfl rfl rfl rfl (by first | rfl | omega) (by omega) (by omega) ?_; go_frame)
      | (refine wpu_sliceLH rfl rfl rfl rfl rfl (by first | rfl | omega) (by first | rfl | omega) (by omega) (by omega) ?_; go_frame))
    | fail)
  unfold Held
  refine wpu_val rfl (exec_buildT _ rfl (by kernel_rfl) (bld6 nStatus [50, 48, 48] CL [53] CL [53] _)) ?_
  go_frame
  have G1 := own_new_sl (n := 6) (sz := 1) G (pairs ok3) 9 rfl (by decide)
  clear G
  go_wp2_with fail
  refine Calls.mono (ofC (F := ok3) (by first | rfl | decide) (by decide) G1 (fun w h => own_rd h)) ?_
  clear G1; rintro e w ⟨v, rfl, G⟩
  change Own _ (sl 3 v 3 (fds ok3) * _) w at G
  obtain ⟨xo, xc, rfl, t7, t8⟩ := G.hdr v
  unfold maxLen at t8
  obtain ⟨s1, s2⟩ := small_of (L := ok3) (by decide)
  go_wp2_with fail
  refine Calls.mono (responseC (L := ok3) s1 s2 G (fun w h => own_rd h)) ?_
  clear G; rintro e w ⟨rfl, G⟩
  rw [val4]
  clear s1 s2
  go_wp2_with (first
    | ((with_reducible refine at_build ?_); refine hold ?_)
    | ((with_reducible refine at_alloc ?_); refine wpu_new G ?_; clear G; intro w G)
    | ((with_reducible refine at_drew ?_); refine wpu_drew G ?_; clear G; intro w G)
    | ((with_reducible refine at_load ?_); first
      | (refine wpu_load G rfl rfl rfl rfl ?_; go_frame)
      | (refine wpu_loadB G rfl rfl rfl (by rfl) ?_; go_frame)
      | (refine wpu_loadS G rfl rfl rfl (by rfl) ?_; simp only [List.drop_succ_cons, List.drop_zero, List.take_succ_cons, List.take_zero]; go_frame))
    | ((with_reducible refine at_store ?_); first
      | (refine wpu_store G rfl rfl rfl rfl (by first | rfl | assumption | simp [*]) rfl ?_; clear G; intro w G; go_frame)
      | (refine wpu_storeB G rfl rfl rfl rfl (by rfl) (by rfl) (by first | rfl | assumption | simp [*]) ?_; clear G; intro w G; go_frame)
      | (refine wpu_storeS G rfl rfl rfl rfl (by rfl) (by rfl) (by first | rfl | assumption | simp [*]) ?_; clear G; intro w G; go_frame))
    | ((with_reducible refine at_convert ?_); refine wpu_str G rfl rfl rfl rfl ?_; go_frame)
    | ((with_reducible refine at_slice ?_); first
      | (refine wpu_sliceLo rfl rfl rfl rfl (by first | rfl | omega) (by omega) (by omega) ?_; go_frame)
      | (refine wpu_sliceLH rfl rfl rfl rfl rfl (by first | rfl | omega) (by first | rfl | omega) (by omega) (by omega) ?_; go_frame))
    | fail)
  unfold Held
  refine wpu_val rfl (exec_buildT _ rfl (by kernel_rfl) (bld6 nStatus [50, 48, 48] CL [53] CL [54] _)) ?_
  go_frame
  have G1 := own_new_sl (n := 6) (sz := 1) G (pairs no3) 9 rfl (by decide)
  clear G
  go_wp2_with fail
  refine Calls.mono (ofC (F := no3) (by first | rfl | decide) (by decide) G1 (fun w h => own_rd h)) ?_
  clear G1; rintro e w ⟨v, rfl, G⟩
  change Own _ (sl 3 v 3 (fds no3) * _) w at G
  obtain ⟨xo, xc, rfl, t7, t8⟩ := G.hdr v
  unfold maxLen at t8
  obtain ⟨s1, s2⟩ := small_of (L := no3) (by decide)
  go_wp2_with fail
  refine Calls.mono (responseC (L := no3) s1 s2 G (fun w h => own_rd h)) ?_
  clear G; rintro e w ⟨rfl, G⟩
  rw [val5]
  clear s1 s2
  go_wp2_with (first
    | ((with_reducible refine at_eqS ?_); refine wpu_eqS (b := true) rfl (by kernel_rfl) rfl rfl (by decide) ?_; go_frame)
    | (go_at_call 15; refine hold ?_)
    | ((with_reducible refine at_alloc ?_); refine wpu_new G ?_; clear G; intro w G)
    | ((with_reducible refine at_drew ?_); refine wpu_drew G ?_; clear G; intro w G)
    | go_big_skip
    | ((with_reducible refine at_load ?_); first
      | (refine wpu_load G rfl (by kernel_rfl) rfl rfl ?_; go_frame)
      | (refine wpu_loadB G rfl (by kernel_rfl) rfl (by rfl) ?_; go_frame)
      | (refine wpu_loadS G rfl (by kernel_rfl) rfl (by rfl) ?_; simp only [List.drop_succ_cons, List.drop_zero, List.take_succ_cons, List.take_zero]; go_frame))
    | ((with_reducible refine at_store ?_); first
      | (refine wpu_store G rfl (by kernel_rfl) rfl rfl (by first | rfl | assumption | simp [*]) rfl ?_; clear G; intro w G; go_frame)
      | (refine wpu_storeB G rfl (by kernel_rfl) rfl rfl (by rfl) (by rfl) (by first | rfl | assumption | simp [*]) ?_; clear G; intro w G; go_frame)
      | (refine wpu_storeS G rfl (by kernel_rfl) rfl rfl (by rfl) (by rfl) (by first | rfl | assumption | simp [*]) ?_; clear G; intro w G; go_frame))
    | ((with_reducible refine at_convert ?_); refine wpu_str G rfl (by kernel_rfl) rfl rfl ?_; go_frame)
    | fail)
  unfold Held
  obtain ⟨s1, s2⟩ := small_of (L := []) (by decide)
  refine Calls.mono (trailersC (L := []) s1 s2 G (fun w _ => rd_nil w 3)) ?_
  clear G; rintro e w ⟨rfl, G⟩
  rw [trailers_nil]
  clear s1 s2
  go_wp2_with (first
    | (go_at_call 17; refine hold ?_)
    | fail)
  unfold Held
  obtain ⟨s1, s2⟩ := small_of (L := get3) (by decide)
  refine Calls.mono (sizeC (L := get3) s1 s2 G (fun w h => pre_old (h.pull (pre 3 (.slice to 3 tc) 3 (fds get3) (.slice ao 4 ac) (3 + 1) (fds get3 ++ fds host1))))) ?_
  have G2 := G.sub emp
  clear G; rintro e w ⟨rfl, G⟩
  rw [show ((sizeR get3 : Nat) : Int) = 123 from rfl]
  clear s1 s2
  go_wp2_with fail
  go_ret
  exact ⟨rfl, G.sub emp⟩
end Go.Proofs.YtikngjdljdofkaaDoor
