
/-
  The document's table of answers.
-/
import Derived.Test.YtnjldofiogbolaaDoorRp2
namespace Go.Proofs.YtnjldofiogbolaaDoor
open Go.RowKit Go.Sl Go.ChangeShapes

theorem wpk_val {P : Program} {w w' : World} {a : Act} {o : Oper} {v : Value} {K : Act → World → Prop} {Q : Exit → Act → World → Prop} (hr : (execOp a.eval o).run P w = .ok (.value v) w') (k : K (a.put o.dst v) w') : o.wp P a w K Q := by
  unfold Oper.wp
  rw [hr]
  exact k
theorem exec_buildT {P : Program} {w w' : World} {o : Oper} {a : Act} {T : TypeId} {n : Nat} {parts : Array (Nat × Operand)} {v : Value} (ps : Array (Nat × Value)) (ho : o.op = .buildSlice T n parts) (hp : (parts.map fun (i, x) => (i, a.eval x)) = ps) (hr : (Instr.buildSlice T n ps).run P w = .ok v w') : (execOp a.eval o).run P w = .ok (.value v) w' := by
  unfold execOp
  rw [ho]
  subst hp
  simp [hr]

def Fd.v (f : Fd) : Value := .agg #[str f.1, str f.2.1, .bool f.2.2]
theorem build2 (a b : Fd) (w : World) : (Instr.buildSlice 24 2 #[(0, a.v), (1, b.v)]).run Tryd.prog w = .ok (.slice (some ⟨w.heap.size, 0, none⟩) 2 2) (w.alloc (.cells (fds [a, b]).toArray 28)) := by kernel_rfl
theorem build4 (a b c d : Fd) (w : World) : (Instr.buildSlice 24 4 #[(0, a.v), (1, b.v), (2, c.v), (3, d.v)]).run Tryd.prog w = .ok (.slice (some ⟨w.heap.size, 0, none⟩) 4 4) (w.alloc (.cells (fds [a, b, c, d]).toArray 28)) := by kernel_rfl

abbrev Rw := Int × List UInt8 × List UInt8 × List UInt8
def Rw.cs (r : Rw) : List Value := [.int .i64 r.1, str r.2.1, str r.2.2.1, str r.2.2.2]
def rowsL : List Rw := [(400, [52, 48, 48], [49, 51], [98, 97, 100, 32, 114, 101, 113, 117, 101, 115, 116]), (404, [52, 48, 52], [49, 50], [110, 111, 32, 114, 111, 117, 116, 101]), (502, [53, 48, 50], [49, 52], [117, 112, 115, 116, 114, 101, 97, 109, 32, 102, 97, 105, 108, 101, 100]), (503, [53, 48, 51], [49, 52], [110, 111, 32, 117, 112, 115, 116, 114, 101, 97, 109]), (504, [53, 48, 52], [52], [116, 111, 111, 32, 108, 97, 116, 101])]
def rcs (l : List Rw) : List Value := l.flatMap Rw.cs
theorem rcs_at {j : Nat} {r : Rw} (h : rowsL[j]? = some r) : ((rcs rowsL).drop (j * 4)).take 4 = r.cs := by
  have hj : j < 5 := (List.getElem?_eq_some_iff.1 h).1
  match j, hj with
  | 0, _ => cases h; rfl
  | 1, _ => cases h; rfl
  | 2, _ => cases h; rfl
  | 3, _ => cases h; rfl
  | 4, _ => cases h; rfl
theorem row_at {j : Nat} {r : Rw} (h : rowsL[j]? = some r) : row r.1 = some (r.2.1, r.2.2.1, r.2.2.2) := by
  have hj : j < 5 := (List.getElem?_eq_some_iff.1 h).1
  match j, hj with
  | 0, _ => cases h; rfl
  | 1, _ => cases h; rfl
  | 2, _ => cases h; rfl
  | 3, _ => cases h; rfl
  | 4, _ => cases h; rfl
theorem row_none {st : Int} (h : ∀ k, k < 5 → ∀ r, rowsL[k]? = some r → r.1 ≠ st) : row st = none := by
  have h0 : (400 : Int) ≠ st := h 0 (by decide) _ rfl
  have h1 : (404 : Int) ≠ st := h 1 (by decide) _ rfl
  have h2 : (502 : Int) ≠ st := h 2 (by decide) _ rfl
  have h3 : (503 : Int) ≠ st := h 3 (by decide) _ rfl
  have h4 : (504 : Int) ≠ st := h 4 (by decide) _ rfl
  unfold row
  rw [if_neg (Ne.symm h0), if_neg (Ne.symm h1), if_neg (Ne.symm h2), if_neg (Ne.symm h3), if_neg (Ne.symm h4)]

set_option maxHeartbeats 4000000 in
set_option maxRecDepth 100000 in
theorem rowsC {B w : World} {A : Assn} (h : Own B A w) : Calls Tryd.prog 19 #[] w fun e w' => ∃ v, e = .returned v ∧ Own B (sl 4 v 5 (rcs rowsL) * A) w' := by
  go_enter Tryd.func19, Tryd.ntmps19
  go_wp2_with fail
  have G2 := own_new_sl (n := 5) (sz := 4) h (rcs rowsL) 48 rfl (by decide)
  go_ret
  exact ⟨_, rfl, G2⟩

set_option maxHeartbeats 4000000 in
set_option maxRecDepth 100000 in
theorem refLocalC {B w : World} {A : Assn} {st : Int} {g : Bool} (h : Own B A w) :
    Calls Tryd.prog 10 #[.int .i64 st, .bool g] w fun e w' => ∃ v, e = .returned v ∧ Own B (sl 3 v (localL st g).length (fds (localL st g)) * A) w' := by
  go_enter Tryd.func10, Tryd.ntmps10
  go_wp2_with fail
  refine Calls.mono (rowsC h) ?_
  clear h; rintro e w ⟨v, rfl, G⟩
  obtain ⟨ao, ac, rfl, j1, j2⟩ := G.hdr v
  obtain ⟨ad, rfl⟩ := rd_some (G.rd (.slice ao 5 ac) _ G) (by decide)
  unfold maxLen at j2
  go_wp2_with fail
  go_loopw [6] (fun i wr => ∃ j : Nat, i = .int .i64 j ∧ j ≤ 5 ∧ Hid (∀ k, k < j → ∀ r, rowsL[k]? = some r → r.1 ≠ st) ∧ Own B (sl 4 (.slice (some ad) 5 ac) 5 (rcs rowsL) * A) wr) (fun i _ => 5 - (intOf i).toNat)
  case atStart => exact ⟨0, rfl, Nat.zero_le _, Lib.hid (fun k hk => by cases hk), G⟩
  case round =>
    clear G
    obtain ⟨j, rfl, hj, HA, G⟩ := hrel
    by_cases hjn : j < 5
    · obtain ⟨⟨s, t, c, rs⟩, hr⟩ : ∃ r, rowsL[j]? = some r := ⟨rowsL[j]'(by exact hjn), List.getElem?_eq_getElem _⟩
      have HX := Lib.hid (rcs_at hr)
      by_cases hs : s = st
      · have hrow := row_at hr
        have HL : Hid (localL st g = if g then [([58, 115, 116, 97, 116, 117, 115], [50, 48, 48], false), ([99, 111, 110, 116, 101, 110, 116, 45, 116, 121, 112, 101], [97, 112, 112, 108, 105, 99, 97, 116, 105, 111, 110, 47, 103, 114, 112, 99], false), ([103, 114, 112, 99, 45, 115, 116, 97, 116, 117, 115], c, false), ([103, 114, 112, 99, 45, 109, 101, 115, 115, 97, 103, 101], rs, false)] else [([58, 115, 116, 97, 116, 117, 115], t, false), ([99, 111, 110, 116, 101, 110, 116, 45, 108, 101, 110, 103, 116, 104], [48], false)]) := Lib.hid (by
          unfold localL
          rw [← hs]
          simp only at hrow
          rw [hrow])
        have z1 : (s == st) = true := by simp [hs]
        have z2 : decide (s = st) = true := by simp [hs]
        clear hr hs hrow
        cases g
        · as_aux_lemma =>
          have HB2 := build2 ([58, 115, 116, 97, 116, 117, 115], t, false) ([99, 111, 110, 116, 101, 110, 116, 45, 108, 101, 110, 103, 116, 104], [48], false) wr
          go_wp2_with (first
            | ((with_reducible refine at_build ?_); refine wpu_val rfl (exec_buildT _ rfl (by kernel_rfl) HB2) ?_; go_frame)
            | ((with_reducible refine at_load ?_); first
              | (refine wpu_loadF0 (k := j) (G.rd (.slice (some ad) 5 ac) _ G) HX.out rfl rfl rfl rfl ?_; go_frame)
              | (refine wpu_loadF (k := j) (G.rd (.slice (some ad) 5 ac) _ G) HX.out rfl rfl rfl rfl ?_; go_frame))
            | fail)
          have G2 := own_new_sl (n := 2) (sz := 3) G (fds [([58, 115, 116, 97, 116, 117, 115], t, false), ([99, 111, 110, 116, 101, 110, 116, 45, 108, 101, 110, 103, 116, 104], [48], false)]) 28 rfl (by decide)
          have e : localL st false = [([58, 115, 116, 97, 116, 117, 115], t, false), ([99, 111, 110, 116, 101, 110, 116, 45, 108, 101, 110, 103, 116, 104], [48], false)] := HL.out
          have G3 := G2.sub (sl 3 (.slice (some ⟨wr.heap.size, 0, none⟩) 2 2) 2 (fds [([58, 115, 116, 97, 116, 117, 115], t, false), ([99, 111, 110, 116, 101, 110, 116, 45, 108, 101, 110, 103, 116, 104], [48], false)]) * A)
          clear G2 HL
          go_ret
          rw [e]
          exact ⟨_, rfl, G3⟩
        · as_aux_lemma =>
          go_wp2_with (first
            | ((with_reducible refine at_load ?_); first
              | (refine wpu_loadF0 (k := j) (G.rd (.slice (some ad) 5 ac) _ G) HX.out rfl rfl rfl rfl ?_; go_frame)
              | (refine wpu_loadF (k := j) (G.rd (.slice (some ad) 5 ac) _ G) HX.out rfl rfl rfl rfl ?_; go_frame))
            | fail)
          refine wp_region_mix (List.replicate 14 0 ++ [2, 3]) (Own B _) (by kernel_rfl) (by kernel_rfl) (own_drew G) ?_
          refine mix_calm 14 ((own_drew G)) (by rfl) (by rfl) ?_
          intro ι W hne hW
          dsimp only [List.take, List.drop]
          repeat (first | ((with_reducible refine atq_load ?_); first | (refine wpq_load hW rfl rfl rfl rfl ?_; go_frame) | (refine wpq_loadB hW rfl rfl rfl (by rfl) ?_; go_frame) | (refine wpq_loadS hW rfl rfl rfl (by rfl) ?_; simp only [List.drop_succ_cons, List.drop_zero, List.take_succ_cons, List.take_zero]; go_frame)) | ((with_reducible refine atq_load ?_); refine wpq_loadF (k := j) (fun i => G.rd (.slice (some ad) 5 ac) _ (hW i)) HX.out rfl rfl rfl rfl ?_; go_frame) | go_big_quiet_step (fail))
          refine wpQuiet_nil ?_
          clear  hW hne W ι
          refine mix_last rfl (fun K hK => ?_)
          have HB := build4 ([58, 115, 116, 97, 116, 117, 115], [50, 48, 48], false) ([99, 111, 110, 116, 101, 110, 116, 45, 116, 121, 112, 101], [97, 112, 112, 108, 105, 99, 97, 116, 105, 111, 110, 47, 103, 114, 112, 99], false) ([103, 114, 112, 99, 45, 115, 116, 97, 116, 117, 115], c, false) ([103, 114, 112, 99, 45, 109, 101, 115, 115, 97, 103, 101], rs, false) wr.drew
          refine wpk_val (exec_buildT _ rfl (by kernel_rfl) HB) (hK _ _ ?_)
          clear hK
          try go_frame
          refine mix_plain 1 (by rfl) (by rfl) ?_
          intro ι W hne
          dsimp only [List.take, List.drop]
          repeat (go_big_quiet_step (fail))
          refine wpQuiet_nil ?_
          clear hne W ι
          refine mix_nil ?_
          have G2 := own_new_sl (n := 4) (sz := 3) (own_drew G) (fds [([58, 115, 116, 97, 116, 117, 115], [50, 48, 48], false), ([99, 111, 110, 116, 101, 110, 116, 45, 116, 121, 112, 101], [97, 112, 112, 108, 105, 99, 97, 116, 105, 111, 110, 47, 103, 114, 112, 99], false), ([103, 114, 112, 99, 45, 115, 116, 97, 116, 117, 115], c, false), ([103, 114, 112, 99, 45, 109, 101, 115, 115, 97, 103, 101], rs, false)]) 28 rfl (by decide)
          have e : localL st true = [([58, 115, 116, 97, 116, 117, 115], [50, 48, 48], false), ([99, 111, 110, 116, 101, 110, 116, 45, 116, 121, 112, 101], [97, 112, 112, 108, 105, 99, 97, 116, 105, 111, 110, 47, 103, 114, 112, 99], false), ([103, 114, 112, 99, 45, 115, 116, 97, 116, 117, 115], c, false), ([103, 114, 112, 99, 45, 109, 101, 115, 115, 97, 103, 101], rs, false)] := HL.out
          have G3 := G2.sub (sl 3 (.slice (some ⟨wr.drew.heap.size, 0, none⟩) 4 4) 4 (fds [([58, 115, 116, 97, 116, 117, 115], [50, 48, 48], false), ([99, 111, 110, 116, 101, 110, 116, 45, 116, 121, 112, 101], [97, 112, 112, 108, 105, 99, 97, 116, 105, 111, 110, 47, 103, 114, 112, 99], false), ([103, 114, 112, 99, 45, 115, 116, 97, 116, 117, 115], c, false), ([103, 114, 112, 99, 45, 109, 101, 115, 115, 97, 103, 101], rs, false)]) * A)
          clear G2 HL
          go_wp2_with fail
          go_ret
          rw [e]
          exact ⟨_, rfl, G3⟩
      · have z1 : (s == st) = false := by simp [hs]
        have z2 : decide (s = st) = false := by simp [hs]
        as_aux_lemma =>
        go_wp2_with (first
          | ((with_reducible refine at_load ?_); refine wpu_loadF0 (k := j) (G.rd (.slice (some ad) 5 ac) _ G) HX.out rfl rfl rfl rfl ?_; go_frame)
          | fail)
        go_roundw
        case rel => exact ⟨j + 1, by go_num, by omega, Lib.hid (fun k hk r hk2 => by
          by_cases e : k = j
          · subst e
            rw [hr] at hk2
            cases hk2
            exact hs
          · exact HA.out k (by omega) r hk2), G⟩
        case measure => simp [intOf] <;> omega
    · as_aux_lemma =>
      have e : localL st g = [] := by
        unfold localL
        rw [row_none fun k hk => HA.out k (by omega)]
      go_wp2_with fail
      go_ret
      rw [e]
      exact ⟨_, rfl, own_nil G.right 3⟩
end Go.Proofs.YtnjldofiogbolaaDoor
