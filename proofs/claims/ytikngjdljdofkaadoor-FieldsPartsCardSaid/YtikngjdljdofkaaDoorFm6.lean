

/-
  Package fields: requests, responses, trailers.
-/
import Derived.Test.YtikngjdljdofkaaDoorFm5
namespace Go.Sl
open Go Go.RowKit Go.ChangeShapes Go.BigFrame Go.ChangeMaps Go.MapKept
section
variable {P : Program} {B w : World} {A A' R : Assn} {t k e : TypeId} {b : Nat} {M : List (List UInt8 × List UInt8)} {ops : Array Oper} {rest : List Oper} {o : Oper} {a : Act} {x v : List UInt8} {m key val : Operand} {ι : Type} {W : ι → World} {q : Act → Prop}
theorem atq_lookup {C : World → Prop} {d : Option Tmp} {T ty : TypeId} {pos : String} {after : Array Edge} {g : Option (Nat × Bool)} {x y : Operand} {c : Bool} (h : wpQuiet P ops C q (⟨d, .lookup T x y c, ty, pos, after, g⟩ :: rest) a) : wpQuiet P ops C q (⟨d, .lookup T x y c, ty, pos, after, g⟩ :: rest) a := h
theorem wpq_strLook (h : ∀ i, Own B A (W i)) [T : TyMap P t k e] (ho : o.op = .lookup t m key false) (hw : Region.wanted o (yielded ops a.tmps) = true) (hm : evalO a m = some (.map (some b))) (hk : evalO a key = some (str x))
    [tk : TakeF (strA P k e b) M A A'] (h1 : x.length ≤ maxLen) {r : List UInt8} (hr : (getM M x).getD [] = r) (kk : wpQuiet P ops (fun w' => ∃ i, w' = W i) q rest (a.put o.dst (str r))) : wpQuiet P ops (fun w' => ∃ i, w' = W i) q (o :: rest) a := by
  subst hr
  exact wpq_val hw (fun i => by unfold execOp; rw [ho]; simp [evalO_eq hm, evalO_eq hk, run_strLook ((h i).eq tk.out) h1 (T := T)]) kk
theorem wpq_nilLook [T : TyMap P t k e] (ho : o.op = .lookup t m key false) (hw : Region.wanted o (yielded ops a.tmps) = true) (hm : evalO a m = some (.map none)) (hk : evalO a key = some (str x))
    (h1 : x.length ≤ maxLen) (kk : wpQuiet P ops (fun w' => ∃ i, w' = W i) q rest (a.put o.dst (str []))) : wpQuiet P ops (fun w' => ∃ i, w' = W i) q (o :: rest) a :=
  wpq_val hw (fun i => by unfold execOp; rw [ho]; simp [evalO_eq hm, evalO_eq hk, run_nilLook (t := t) (w := W i) h1 (T := T)]) kk
end
end Go.Sl
namespace Go.Proofs.YtikngjdljdofkaaDoor
open Go.RowKit Go.Sl Go.ChangeShapes

def Msg.cs (m : Msg) : List Value := [str m.method, str m.scheme, str m.authority, str m.path, .int .i64 m.status, .int .i64 m.len]
def Msg.zero : Msg := ⟨[], [], [], [], 0, 0⟩
def msgV (o : Option Msg) : Value := .tuple #[.agg (o.getD Msg.zero).cs.toArray, .bool o.isSome]

def oks (p1 p2 p3 p4 p5 p6 p7 p8 p9 : Bool) : Bool := !p1 && (if p2 then !p3 && !p4 && !p5 else !p6 && (p7 || (p8 && p9)))
theorem requestOk_eq (M : List (Txt × Txt)) : requestOk M = oks (decide (getV M nMethod = [])) (decide (getV M nMethod = [67, 79, 78, 78, 69, 67, 84])) (decide (getV M nAuth = [])) (getM M nScheme).isSome (getM M nPath).isSome
    (decide (getV M nScheme = [])) (([47] : Txt).isPrefixOf (getV M nPath)) (decide (getV M nPath = [42])) (decide (getV M nMethod = [79, 80, 84, 73, 79, 78, 83])) := by
  unfold requestOk oks
  by_cases h1 : getV M nMethod = []
  · rw [if_pos h1, decide_eq_true h1]; rfl
  · rw [if_neg h1, decide_eq_false h1]
    by_cases h2 : getV M nMethod = [67, 79, 78, 78, 69, 67, 84]
    · rw [if_pos h2, decide_eq_true h2]; rfl
    · rw [if_neg h2, decide_eq_false h2]; rfl

theorem exec_buildT {P : Program} {w w' : World} {o : Oper} {a : Act} {T : TypeId} {n : Nat} {parts : Array (Nat × Operand)} {v : Value} (ps : Array (Nat × Value)) (ho : o.op = .buildSlice T n parts) (hp : (parts.map fun (i, x) => (i, a.eval x)) = ps) (hr : (Instr.buildSlice T n ps).run P w = .ok v w') : (execOp a.eval o).run P w = .ok (.value v) w' := by
  unfold execOp
  rw [ho]
  subst hp
  simp [hr]
theorem buildSt (w : World) : (Instr.buildSlice 42 1 #[(0, str nStatus)]).run Tryd.prog w = .ok (.slice (some ⟨w.heap.size, 0, none⟩) 1 1) (w.alloc (.cells (strs [nStatus]).toArray 9)) := by kernel_rfl
theorem buildRq (w : World) : (Instr.buildSlice 42 4 #[(0, str nMethod), (1, str nScheme), (2, str nAuth), (3, str nPath)]).run Tryd.prog w = .ok (.slice (some ⟨w.heap.size, 0, none⟩) 4 4) (w.alloc (.cells (strs reqN).toArray 9)) := by kernel_rfl

set_option maxHeartbeats 16000000 in
set_option maxRecDepth 100000 in
theorem trailersC {B w : World} {R : Assn} {L : List Fd} {v : Value} (hv : ∀ f ∈ L, f.1.length ≤ 1000000 ∧ f.2.1.length ≤ 1000000) (hL : L.length ≤ 1000) (h : Own B R w)
    (hl : ∀ w, Own B R w → rd w 3 v L.length (fds L)) :
    Calls Tryd.prog 15 #[v] w fun e w' => e = .returned (.bool (trailersR L)) ∧ Own B R w' := by
  obtain ⟨o, ho⟩ : ∃ o, messageR [] L = o := ⟨_, rfl⟩
  have HO : Hid (trailersR L = o.isSome) := Lib.hid (by unfold trailersR; rw [ho])
  have hc := messageC (N := []) (u := .slice none 0 0) hv hL h hl (fun w _ => rd_nil w 1)
  rw [ho] at hc
  clear ho
  go_enter Tryd.func15, Tryd.ntmps15
  go_wp2_with fail
  refine Calls.mono hc ?_
  clear hc h
  intro e w h
  cases o with
  | none =>
    obtain ⟨rfl, G⟩ := h
    unfold msgC
    go_wp2_with (first
      | ((with_reducible refine at_alloc ?_); refine wpu_new G ?_; clear G; intro w G)
      | ((with_reducible refine at_drew ?_); refine wpu_drew G ?_; clear G; intro w G)
      | ((with_reducible refine at_load ?_); first
        | (refine wpu_load G rfl rfl rfl rfl ?_; go_frame)
        | (refine wpu_loadB G rfl rfl rfl (by rfl) ?_; go_frame)
        | (refine wpu_loadS G rfl rfl rfl (by rfl) ?_; simp only [List.drop_succ_cons, List.drop_zero, List.take_succ_cons, List.take_zero]; go_frame))
      | ((with_reducible refine at_store ?_); first
        | (refine wpu_store G rfl rfl rfl rfl (by first | rfl | assumption | simp [*]) rfl ?_; clear G; intro w G; go_frame)
        | (refine wpu_storeB G rfl rfl rfl rfl (by rfl) (by rfl) (by first | rfl | assumption | simp [*]) ?_; clear G; intro w G; go_frame)
        | (refine wpu_storeS G rfl rfl rfl rfl (by rfl) (by rfl) (by first | rfl | assumption | simp [*]) ?_; clear G; intro w G; go_frame))
      | ((with_reducible refine at_convert ?_); refine wpu_str G rfl rfl rfl rfl ?_; go_frame)
      | ((with_reducible refine at_slice ?_); first
        | (refine wpu_sliceLo rfl rfl rfl rfl (by first | rfl | omega) (by omega) (by omega) ?_; go_frame)
        | (refine wpu_sliceLH rfl rfl rfl rfl rfl (by first | rfl | omega) (by first | rfl | omega) (by omega) (by omega) ?_; go_frame))
      | fail)
    go_ret
    exact ⟨by rw [HO.out]; rfl, G.sub R⟩
  | some s =>
    obtain ⟨b, rfl, G⟩ := h
    unfold msgC
    go_wp2_with (first
      | ((with_reducible refine at_alloc ?_); refine wpu_new G ?_; clear G; intro w G)
      | ((with_reducible refine at_drew ?_); refine wpu_drew G ?_; clear G; intro w G)
      | ((with_reducible refine at_load ?_); first
        | (refine wpu_load G rfl rfl rfl rfl ?_; go_frame)
        | (refine wpu_loadB G rfl rfl rfl (by rfl) ?_; go_frame)
        | (refine wpu_loadS G rfl rfl rfl (by rfl) ?_; simp only [List.drop_succ_cons, List.drop_zero, List.take_succ_cons, List.take_zero]; go_frame))
      | ((with_reducible refine at_store ?_); first
        | (refine wpu_store G rfl rfl rfl rfl (by first | rfl | assumption | simp [*]) rfl ?_; clear G; intro w G; go_frame)
        | (refine wpu_storeB G rfl rfl rfl rfl (by rfl) (by rfl) (by first | rfl | assumption | simp [*]) ?_; clear G; intro w G; go_frame)
        | (refine wpu_storeS G rfl rfl rfl rfl (by rfl) (by rfl) (by first | rfl | assumption | simp [*]) ?_; clear G; intro w G; go_frame))
      | ((with_reducible refine at_convert ?_); refine wpu_str G rfl rfl rfl rfl ?_; go_frame)
      | ((with_reducible refine at_slice ?_); first
        | (refine wpu_sliceLo rfl rfl rfl rfl (by first | rfl | omega) (by omega) (by omega) ?_; go_frame)
        | (refine wpu_sliceLH rfl rfl rfl rfl rfl (by first | rfl | omega) (by first | rfl | omega) (by omega) (by omega) ?_; go_frame))
      | fail)
    go_ret
    exact ⟨by rw [HO.out]; rfl, G.sub R⟩

def respD (d : Option Nat) (len : Int) : Option Msg := match d with | none => none | some n => if n < 100 then none else some ⟨[], [], [], [], n, len⟩
theorem responseR_of {L : List Fd} {s : Ms} (h : messageR [nStatus] L = some s) : responseR L = respD (digitsR (getV s.map nStatus) 3 3) s.len := by
  unfold responseR respD
  rw [h]
  rfl
set_option maxHeartbeats 16000000 in
set_option maxRecDepth 100000 in
theorem responseC {B w : World} {R : Assn} {L : List Fd} {v : Value} (hv : ∀ f ∈ L, f.1.length ≤ 1000000 ∧ f.2.1.length ≤ 1000000) (hL : L.length ≤ 1000) (h : Own B R w)
    (hl : ∀ w, Own B R w → rd w 3 v L.length (fds L)) :
    Calls Tryd.prog 14 #[v] w fun e w' => e = .returned (msgV (responseR L)) ∧ Own B R w' := by
  obtain ⟨o, ho⟩ : ∃ o, messageR [nStatus] L = o := ⟨_, rfl⟩
  have HO := Lib.hid ho
  obtain ⟨r, hr⟩ : ∃ r, responseR L = r := ⟨_, rfl⟩
  have HR := Lib.hid hr
  rw [hr]
  clear hr ho
  have G := h
  clear h
  go_enter Tryd.func14, Tryd.ntmps14
  go_wp2_with (first
    | ((with_reducible refine at_alloc ?_); refine wpu_new G ?_; clear G; intro w G)
    | ((with_reducible refine at_drew ?_); refine wpu_drew G ?_; clear G; intro w G)
    | ((with_reducible refine at_load ?_); first
      | (refine wpu_load G rfl rfl rfl rfl ?_; go_frame)
      | (refine wpu_loadB G rfl rfl rfl (by rfl) ?_; go_frame)
      | (refine wpu_loadS G rfl rfl rfl (by rfl) ?_; simp only [List.drop_succ_cons, List.drop_zero, List.take_succ_cons, List.take_zero]; go_frame))
    | ((with_reducible refine at_store ?_); first
      | (refine wpu_store G rfl rfl rfl rfl (by first | rfl | assumption | simp [*]) rfl ?_; clear G; intro w G; go_frame)
      | (refine wpu_storeB G rfl rfl rfl rfl (by rfl) (by rfl) (by first | rfl | assumption | simp [*]) ?_; clear G; intro w G; go_frame)
      | (refine wpu_storeS G rfl rfl rfl rfl (by rfl) (by rfl) (by first | rfl | assumption | simp [*]) ?_; clear G; intro w G; go_frame))
    | ((with_reducible refine at_convert ?_); refine wpu_str G rfl rfl rfl rfl ?_; go_frame)
    | ((with_reducible refine at_slice ?_); first
      | (refine wpu_sliceLo rfl rfl rfl rfl (by first | rfl | omega) (by omega) (by omega) ?_; go_frame)
      | (refine wpu_sliceLH rfl rfl rfl rfl rfl (by first | rfl | omega) (by first | rfl | omega) (by omega) (by omega) ?_; go_frame))
    | ((with_reducible refine at_build ?_); refine hold ?_)
    | fail)
  unfold Held
  refine wpu_val rfl (exec_buildT _ rfl (by kernel_rfl) (buildSt _)) ?_
  go_frame
  have G1 := own_new_sl (n := 1) (sz := 1) G (strs [nStatus]) 9 rfl (by decide)
  have hc := messageC (N := [nStatus]) hv hL G1 (fun w h => hl w (h.sub R)) (fun w h => own_rd h)
  rw [HO.out] at hc
  clear G G1
  go_wp2_with fail
  refine Calls.mono hc ?_
  clear hc
  intro e w h
  cases o with
  | none =>
    obtain ⟨rfl, G⟩ := h
    unfold msgC
    have HB : Hid (r = none) := Lib.hid (by rw [← HR.out]; unfold responseR; rw [HO.out])
    have HV : Hid (True) := Lib.hid trivial
    have HD : Hid (numV (digitsR [] 3 3) = .tuple #[.int .i64 0, .bool false]) := Lib.hid (by rfl)
    go_wp2_with (first
      | (go_at_call 22; refine hold ?_)
      | ((with_reducible refine at_lookup ?_); first
        | (refine wpu_strLook G rfl (by kernel_rfl) rfl rfl (by decide) HV.out ?_; go_frame)
        | (refine wpu_nilLook rfl (by kernel_rfl) rfl rfl (by decide) ?_; go_frame))
      | ((with_reducible refine at_alloc ?_); refine wpu_new G ?_; clear G; intro w G)
      | ((with_reducible refine at_drew ?_); refine wpu_drew G ?_; clear G; intro w G)
      | ((with_reducible refine at_load ?_); first
        | (refine wpu_load G rfl rfl rfl rfl ?_; go_frame)
        | (refine wpu_loadB G rfl rfl rfl (by rfl) ?_; go_frame)
        | (refine wpu_loadS G rfl rfl rfl (by rfl) ?_; simp only [List.drop_succ_cons, List.drop_zero, List.take_succ_cons, List.take_zero]; go_frame))
      | ((with_reducible refine at_store ?_); first
        | (refine wpu_store G rfl rfl rfl rfl (by first | rfl | assumption | simp [*]) rfl ?_; clear G; intro w G; go_frame)
        | (refine wpu_storeB G rfl rfl rfl rfl (by rfl) (by rfl) (by first | rfl | assumption | simp [*]) ?_; clear G; intro w G; go_frame)
        | (refine wpu_storeS G rfl rfl rfl rfl (by rfl) (by rfl) (by first | rfl | assumption | simp [*]) ?_; clear G; intro w G; go_frame))
      | ((with_reducible refine at_convert ?_); refine wpu_str G rfl rfl rfl rfl ?_; go_frame)
      | ((with_reducible refine at_slice ?_); first
        | (refine wpu_sliceLo rfl rfl rfl rfl (by first | rfl | omega) (by omega) (by omega) ?_; go_frame)
        | (refine wpu_sliceLH rfl rfl rfl rfl rfl (by first | rfl | omega) (by first | rfl | omega) (by omega) (by omega) ?_; go_frame))
      | fail)
    unfold Held
    refine Calls.mono (digitsC (a := 3) (b := 3) (by decide) (by decide) G) ?_
    clear G; rintro e w ⟨rfl, G⟩
    rw [HD.out]
    go_wp2_with (first
      | ((with_reducible refine at_alloc ?_); refine wpu_new G ?_; clear G; intro w G)
      | ((with_reducible refine at_drew ?_); refine wpu_drew G ?_; clear G; intro w G)
      | ((with_reducible refine at_load ?_); first
        | (refine wpu_load G rfl rfl rfl rfl ?_; go_frame)
        | (refine wpu_loadB G rfl rfl rfl (by rfl) ?_; go_frame)
        | (refine wpu_loadS G rfl rfl rfl (by rfl) ?_; simp only [List.drop_succ_cons, List.drop_zero, List.take_succ_cons, List.take_zero]; go_frame))
      | ((with_reducible refine at_store ?_); first
        | (refine wpu_store G rfl rfl rfl rfl (by first | rfl | assumption | simp [*]) rfl ?_; clear G; intro w G; go_frame)
        | (refine wpu_storeB G rfl rfl rfl rfl (by rfl) (by rfl) (by first | rfl | assumption | simp [*]) ?_; clear G; intro w G; go_frame)
        | (refine wpu_storeS G rfl rfl rfl rfl (by rfl) (by rfl) (by first | rfl | assumption | simp [*]) ?_; clear G; intro w G; go_frame))
      | ((with_reducible refine at_convert ?_); refine wpu_str G rfl rfl rfl rfl ?_; go_frame)
      | ((with_reducible refine at_slice ?_); first
        | (refine wpu_sliceLo rfl rfl rfl rfl (by first | rfl | omega) (by omega) (by omega) ?_; go_frame)
        | (refine wpu_sliceLH rfl rfl rfl rfl rfl (by first | rfl | omega) (by first | rfl | omega) (by omega) (by omega) ?_; go_frame))
      | fail)
    try simp only [Exit.inBlock, Exit.then]
    refine bodyPost_ret (results2 rfl (by first | exact resT rfl | exact resB G rfl (by rfl) | exact resO G rfl rfl) (by first | exact resT rfl | exact resB G rfl (by rfl) | exact resO G rfl rfl)) rfl ?_
    rw [HB.out]
    exact ⟨rfl, G.sub R⟩
  | some s =>
    obtain ⟨b, rfl, G⟩ := h
    unfold msgC
    obtain ⟨x, hx⟩ : ∃ x, (getM s.map nStatus).getD [] = x := ⟨_, rfl⟩
    have HV := Lib.hid hx
    obtain ⟨d, hd⟩ : ∃ d, digitsR x 3 3 = d := ⟨_, rfl⟩
    have HB0 : r = respD d s.len := by
      rw [← HR.out, responseR_of HO.out, ← hd, ← hx]
      rfl
    cases d with
    | none =>
      have HB : Hid (r = none) := Lib.hid HB0
      have HD : Hid (numV (digitsR x 3 3) = .tuple #[.int .i64 0, .bool false]) := Lib.hid (by rw [hd]; rfl)
      clear hd hx HB0
      skip
      go_wp2_with (first
        | (go_at_call 22; refine hold ?_)
        | ((with_reducible refine at_lookup ?_); first
          | (refine wpu_strLook G rfl (by kernel_rfl) rfl rfl (by decide) HV.out ?_; go_frame)
          | (refine wpu_nilLook rfl (by kernel_rfl) rfl rfl (by decide) ?_; go_frame))
        | ((with_reducible refine at_alloc ?_); refine wpu_new G ?_; clear G; intro w G)
        | ((with_reducible refine at_drew ?_); refine wpu_drew G ?_; clear G; intro w G)
        | ((with_reducible refine at_load ?_); first
          | (refine wpu_load G rfl rfl rfl rfl ?_; go_frame)
          | (refine wpu_loadB G rfl rfl rfl (by rfl) ?_; go_frame)
          | (refine wpu_loadS G rfl rfl rfl (by rfl) ?_; simp only [List.drop_succ_cons, List.drop_zero, List.take_succ_cons, List.take_zero]; go_frame))
        | ((with_reducible refine at_store ?_); first
          | (refine wpu_store G rfl rfl rfl rfl (by first | rfl | assumption | simp [*]) rfl ?_; clear G; intro w G; go_frame)
          | (refine wpu_storeB G rfl rfl rfl rfl (by rfl) (by rfl) (by first | rfl | assumption | simp [*]) ?_; clear G; intro w G; go_frame)
          | (refine wpu_storeS G rfl rfl rfl rfl (by rfl) (by rfl) (by first | rfl | assumption | simp [*]) ?_; clear G; intro w G; go_frame))
        | ((with_reducible refine at_convert ?_); refine wpu_str G rfl rfl rfl rfl ?_; go_frame)
        | ((with_reducible refine at_slice ?_); first
          | (refine wpu_sliceLo rfl rfl rfl rfl (by first | rfl | omega) (by omega) (by omega) ?_; go_frame)
          | (refine wpu_sliceLH rfl rfl rfl rfl rfl (by first | rfl | omega) (by first | rfl | omega) (by omega) (by omega) ?_; go_frame))
        | fail)
      unfold Held
      refine Calls.mono (digitsC (a := 3) (b := 3) (by decide) (by decide) G) ?_
      clear G; rintro e w ⟨rfl, G⟩
      rw [HD.out]
      go_wp2_with (first
        | ((with_reducible refine at_alloc ?_); refine wpu_new G ?_; clear G; intro w G)
        | ((with_reducible refine at_drew ?_); refine wpu_drew G ?_; clear G; intro w G)
        | ((with_reducible refine at_load ?_); first
          | (refine wpu_load G rfl rfl rfl rfl ?_; go_frame)
          | (refine wpu_loadB G rfl rfl rfl (by rfl) ?_; go_frame)
          | (refine wpu_loadS G rfl rfl rfl (by rfl) ?_; simp only [List.drop_succ_cons, List.drop_zero, List.take_succ_cons, List.take_zero]; go_frame))
        | ((with_reducible refine at_store ?_); first
          | (refine wpu_store G rfl rfl rfl rfl (by first | rfl | assumption | simp [*]) rfl ?_; clear G; intro w G; go_frame)
          | (refine wpu_storeB G rfl rfl rfl rfl (by rfl) (by rfl) (by first | rfl | assumption | simp [*]) ?_; clear G; intro w G; go_frame)
          | (refine wpu_storeS G rfl rfl rfl rfl (by rfl) (by rfl) (by first | rfl | assumption | simp [*]) ?_; clear G; intro w G; go_frame))
        | ((with_reducible refine at_convert ?_); refine wpu_str G rfl rfl rfl rfl ?_; go_frame)
        | ((with_reducible refine at_slice ?_); first
          | (refine wpu_sliceLo rfl rfl rfl rfl (by first | rfl | omega) (by omega) (by omega) ?_; go_frame)
          | (refine wpu_sliceLH rfl rfl rfl rfl rfl (by first | rfl | omega) (by first | rfl | omega) (by omega) (by omega) ?_; go_frame))
        | fail)
      try simp only [Exit.inBlock, Exit.then]
      refine bodyPost_ret (results2 rfl (by first | exact resT rfl | exact resB G rfl (by rfl) | exact resO G rfl rfl) (by first | exact resT rfl | exact resB G rfl (by rfl) | exact resO G rfl rfl)) rfl ?_
      rw [HB.out]
      exact ⟨rfl, G.sub R⟩
    | some n =>
      have HD : Hid (numV (digitsR x 3 3) = .tuple #[.int .i64 (n : Int), .bool true]) := Lib.hid (by rw [hd]; rfl)
      clear hd hx
      by_cases hn : n < 100
      · have HB : Hid (r = none) := Lib.hid (by rw [HB0]; simp [respD, hn])
        have y1 : decide ((n : Int) < 100) = true := by simp; omega
        have y2 : decide (n < 100) = true := by simp; omega
        clear HB0 hn
        skip
        go_wp2_with (first
          | (go_at_call 22; refine hold ?_)
          | ((with_reducible refine at_lookup ?_); first
            | (refine wpu_strLook G rfl (by kernel_rfl) rfl rfl (by decide) HV.out ?_; go_frame)
            | (refine wpu_nilLook rfl (by kernel_rfl) rfl rfl (by decide) ?_; go_frame))
          | ((with_reducible refine at_alloc ?_); refine wpu_new G ?_; clear G; intro w G)
          | ((with_reducible refine at_drew ?_); refine wpu_drew G ?_; clear G; intro w G)
          | ((with_reducible refine at_load ?_); first
            | (refine wpu_load G rfl rfl rfl rfl ?_; go_frame)
            | (refine wpu_loadB G rfl rfl rfl (by rfl) ?_; go_frame)
            | (refine wpu_loadS G rfl rfl rfl (by rfl) ?_; simp only [List.drop_succ_cons, List.drop_zero, List.take_succ_cons, List.take_zero]; go_frame))
          | ((with_reducible refine at_store ?_); first
            | (refine wpu_store G rfl rfl rfl rfl (by first | rfl | assumption | simp [*]) rfl ?_; clear G; intro w G; go_frame)
            | (refine wpu_storeB G rfl rfl rfl rfl (by rfl) (by rfl) (by first | rfl | assumption | simp [*]) ?_; clear G; intro w G; go_frame)
            | (refine wpu_storeS G rfl rfl rfl rfl (by rfl) (by rfl) (by first | rfl | assumption | simp [*]) ?_; clear G; intro w G; go_frame))
          | ((with_reducible refine at_convert ?_); refine wpu_str G rfl rfl rfl rfl ?_; go_frame)
          | ((with_reducible refine at_slice ?_); first
            | (refine wpu_sliceLo rfl rfl rfl rfl (by first | rfl | omega) (by omega) (by omega) ?_; go_frame)
            | (refine wpu_sliceLH rfl rfl rfl rfl rfl (by first | rfl | omega) (by first | rfl | omega) (by omega) (by omega) ?_; go_frame))
          | fail)
        unfold Held
        refine Calls.mono (digitsC (a := 3) (b := 3) (by decide) (by decide) G) ?_
        clear G; rintro e w ⟨rfl, G⟩
        rw [HD.out]
        go_wp2_with (first
          | ((with_reducible refine at_alloc ?_); refine wpu_new G ?_; clear G; intro w G)
          | ((with_reducible refine at_drew ?_); refine wpu_drew G ?_; clear G; intro w G)
          | ((with_reducible refine at_load ?_); first
            | (refine wpu_load G rfl rfl rfl rfl ?_; go_frame)
            | (refine wpu_loadB G rfl rfl rfl (by rfl) ?_; go_frame)
            | (refine wpu_loadS G rfl rfl rfl (by rfl) ?_; simp only [List.drop_succ_cons, List.drop_zero, List.take_succ_cons, List.take_zero]; go_frame))
          | ((with_reducible refine at_store ?_); first
            | (refine wpu_store G rfl rfl rfl rfl (by first | rfl | assumption | simp [*]) rfl ?_; clear G; intro w G; go_frame)
            | (refine wpu_storeB G rfl rfl rfl rfl (by rfl) (by rfl) (by first | rfl | assumption | simp [*]) ?_; clear G; intro w G; go_frame)
            | (refine wpu_storeS G rfl rfl rfl rfl (by rfl) (by rfl) (by first | rfl | assumption | simp [*]) ?_; clear G; intro w G; go_frame))
          | ((with_reducible refine at_convert ?_); refine wpu_str G rfl rfl rfl rfl ?_; go_frame)
          | ((with_reducible refine at_slice ?_); first
            | (refine wpu_sliceLo rfl rfl rfl rfl (by first | rfl | omega) (by omega) (by omega) ?_; go_frame)
            | (refine wpu_sliceLH rfl rfl rfl rfl rfl (by first | rfl | omega) (by first | rfl | omega) (by omega) (by omega) ?_; go_frame))
          | fail)
        try simp only [Exit.inBlock, Exit.then]
        refine bodyPost_ret (results2 rfl (by first | exact resT rfl | exact resB G rfl (by rfl) | exact resO G rfl rfl) (by first | exact resT rfl | exact resB G rfl (by rfl) | exact resO G rfl rfl)) rfl ?_
        rw [HB.out]
        exact ⟨rfl, G.sub R⟩
      · have HB : Hid (r = some ⟨[], [], [], [], n, s.len⟩) := Lib.hid (by rw [HB0]; simp [respD, hn])
        have y1 : decide ((n : Int) < 100) = false := by simp; omega
        have y2 : decide (n < 100) = false := by simp; omega
        clear HB0 hn
        skip
        go_wp2_with (first
          | (go_at_call 22; refine hold ?_)
          | ((with_reducible refine at_lookup ?_); first
            | (refine wpu_strLook G rfl (by kernel_rfl) rfl rfl (by decide) HV.out ?_; go_frame)
            | (refine wpu_nilLook rfl (by kernel_rfl) rfl rfl (by decide) ?_; go_frame))
          | ((with_reducible refine at_alloc ?_); refine wpu_new G ?_; clear G; intro w G)
          | ((with_reducible refine at_drew ?_); refine wpu_drew G ?_; clear G; intro w G)
          | ((with_reducible refine at_load ?_); first
            | (refine wpu_load G rfl rfl rfl rfl ?_; go_frame)
            | (refine wpu_loadB G rfl rfl rfl (by rfl) ?_; go_frame)
            | (refine wpu_loadS G rfl rfl rfl (by rfl) ?_; simp only [List.drop_succ_cons, List.drop_zero, List.take_succ_cons, List.take_zero]; go_frame))
          | ((with_reducible refine at_store ?_); first
            | (refine wpu_store G rfl rfl rfl rfl (by first | rfl | assumption | simp [*]) rfl ?_; clear G; intro w G; go_frame)
            | (refine wpu_storeB G rfl rfl rfl rfl (by rfl) (by rfl) (by first | rfl | assumption | simp [*]) ?_; clear G; intro w G; go_frame)
            | (refine wpu_storeS G rfl rfl rfl rfl (by rfl) (by rfl) (by first | rfl | assumption | simp [*]) ?_; clear G; intro w G; go_frame))
          | ((with_reducible refine at_convert ?_); refine wpu_str G rfl rfl rfl rfl ?_; go_frame)
          | ((with_reducible refine at_slice ?_); first
            | (refine wpu_sliceLo rfl rfl rfl rfl (by first | rfl | omega) (by omega) (by omega) ?_; go_frame)
            | (refine wpu_sliceLH rfl rfl rfl rfl rfl (by first | rfl | omega) (by first | rfl | omega) (by omega) (by omega) ?_; go_frame))
          | fail)
        unfold Held
        refine Calls.mono (digitsC (a := 3) (b := 3) (by decide) (by decide) G) ?_
        clear G; rintro e w ⟨rfl, G⟩
        rw [HD.out]
        go_wp2_with (first
          | ((with_reducible refine at_alloc ?_); refine wpu_new G ?_; clear G; intro w G)
          | ((with_reducible refine at_drew ?_); refine wpu_drew G ?_; clear G; intro w G)
          | ((with_reducible refine at_load ?_); first
            | (refine wpu_load G rfl rfl rfl rfl ?_; go_frame)
            | (refine wpu_loadB G rfl rfl rfl (by rfl) ?_; go_frame)
            | (refine wpu_loadS G rfl rfl rfl (by rfl) ?_; simp only [List.drop_succ_cons, List.drop_zero, List.take_succ_cons, List.take_zero]; go_frame))
          | ((with_reducible refine at_store ?_); first
            | (refine wpu_store G rfl rfl rfl rfl (by first | rfl | assumption | simp [*]) rfl ?_; clear G; intro w G; go_frame)
            | (refine wpu_storeB G rfl rfl rfl rfl (by rfl) (by rfl) (by first | rfl | assumption | simp [*]) ?_; clear G; intro w G; go_frame)
            | (refine wpu_storeS G rfl rfl rfl rfl (by rfl) (by rfl) (by first | rfl | assumption | simp [*]) ?_; clear G; intro w G; go_frame))
          | ((with_reducible refine at_convert ?_); refine wpu_str G rfl rfl rfl rfl ?_; go_frame)
          | ((with_reducible refine at_slice ?_); first
            | (refine wpu_sliceLo rfl rfl rfl rfl (by first | rfl | omega) (by omega) (by omega) ?_; go_frame)
            | (refine wpu_sliceLH rfl rfl rfl rfl rfl (by first | rfl | omega) (by first | rfl | omega) (by omega) (by omega) ?_; go_frame))
          | fail)
        try simp only [Exit.inBlock, Exit.then]
        refine bodyPost_ret (results2 rfl (by first | exact resT rfl | exact resB G rfl (by rfl) | exact resO G rfl rfl) (by first | exact resT rfl | exact resB G rfl (by rfl) | exact resO G rfl rfl)) rfl ?_
        rw [HB.out]
        exact ⟨rfl, G.sub R⟩

theorem requestR_of {L : List Fd} {s : Ms} (h : messageR reqN L = some s) : requestR L = if requestOk s.map = true then some ⟨getV s.map nMethod, getV s.map nScheme, getV s.map nAuth, getV s.map nPath, 0, s.len⟩ else none := by
  unfold requestR
  rw [h]
set_option maxHeartbeats 16000000 in
set_option maxRecDepth 100000 in
theorem requestC {B w : World} {R : Assn} {L : List Fd} {v : Value} (hv : ∀ f ∈ L, f.1.length ≤ 1000000 ∧ f.2.1.length ≤ 1000000) (hL : L.length ≤ 1000) (h : Own B R w)
    (hl : ∀ w, Own B R w → rd w 3 v L.length (fds L)) :
    Calls Tryd.prog 13 #[v] w fun e w' => e = .returned (msgV (requestR L)) ∧ Own B R w' := by
  obtain ⟨o, ho⟩ : ∃ o, messageR reqN L = o := ⟨_, rfl⟩
  have HO := Lib.hid ho
  obtain ⟨r, hr⟩ : ∃ r, requestR L = r := ⟨_, rfl⟩
  have HR := Lib.hid hr
  rw [hr]
  clear hr ho
  have G := h
  clear h
  go_enter Tryd.func13, Tryd.ntmps13
  go_wp2_with (first
    | ((with_reducible refine at_alloc ?_); refine wpu_new G ?_; clear G; intro w G)
    | ((with_reducible refine at_drew ?_); refine wpu_drew G ?_; clear G; intro w G)
    | ((with_reducible refine at_load ?_); first
      | (refine wpu_load G rfl rfl rfl rfl ?_; go_frame)
      | (refine wpu_loadB G rfl rfl rfl (by rfl) ?_; go_frame)
      | (refine wpu_loadS G rfl rfl rfl (by rfl) ?_; simp only [List.drop_succ_cons, List.drop_zero, List.take_succ_cons, List.take_zero]; go_frame))
    | ((with_reducible refine at_store ?_); first
      | (refine wpu_store G rfl rfl rfl rfl (by first | rfl | assumption | simp [*]) rfl ?_; clear G; intro w G; go_frame)
      | (refine wpu_storeB G rfl rfl rfl rfl (by rfl) (by rfl) (by first | rfl | assumption | simp [*]) ?_; clear G; intro w G; go_frame)
      | (refine wpu_storeS G rfl rfl rfl rfl (by rfl) (by rfl) (by first | rfl | assumption | simp [*]) ?_; clear G; intro w G; go_frame))
    | ((with_reducible refine at_convert ?_); refine wpu_str G rfl rfl rfl rfl ?_; go_frame)
    | ((with_reducible refine at_slice ?_); first
      | (refine wpu_sliceLo rfl rfl rfl rfl (by first | rfl | omega) (by omega) (by omega) ?_; go_frame)
      | (refine wpu_sliceLH rfl rfl rfl rfl rfl (by first | rfl | omega) (by first | rfl | omega) (by omega) (by omega) ?_; go_frame))
    | ((with_reducible refine at_build ?_); refine hold ?_)
    | fail)
  unfold Held
  refine wpu_val rfl (exec_buildT _ rfl (by kernel_rfl) (buildRq _)) ?_
  go_frame
  have G1 := own_new_sl (n := 4) (sz := 1) G (strs reqN) 9 rfl (by decide)
  have hc := messageC (N := reqN) hv hL G1 (fun w h => hl w (h.sub R)) (fun w h => own_rd h)
  rw [HO.out] at hc
  clear G G1
  go_wp2_with fail
  refine Calls.mono hc ?_
  clear hc
  intro e w h
  cases o with
  | none =>
    obtain ⟨rfl, G⟩ := h
    unfold msgC
    have HB : Hid (r = none) := Lib.hid (by rw [← HR.out]; unfold requestR; rw [HO.out])
    go_wp2_with (first
      | ((with_reducible refine at_lookup ?_); refine wpu_nilLookOk rfl (by kernel_rfl) rfl rfl (by decide) ?_; go_frame)
      | ((with_reducible refine at_alloc ?_); refine wpu_new G ?_; clear G; intro w G)
      | ((with_reducible refine at_drew ?_); refine wpu_drew G ?_; clear G; intro w G)
      | ((with_reducible refine at_load ?_); first
        | (refine wpu_load G rfl rfl rfl rfl ?_; go_frame)
        | (refine wpu_loadB G rfl rfl rfl (by rfl) ?_; go_frame)
        | (refine wpu_loadS G rfl rfl rfl (by rfl) ?_; simp only [List.drop_succ_cons, List.drop_zero, List.take_succ_cons, List.take_zero]; go_frame))
      | ((with_reducible refine at_store ?_); first
        | (refine wpu_store G rfl rfl rfl rfl (by first | rfl | assumption | simp [*]) rfl ?_; clear G; intro w G; go_frame)
        | (refine wpu_storeB G rfl rfl rfl rfl (by rfl) (by rfl) (by first | rfl | assumption | simp [*]) ?_; clear G; intro w G; go_frame)
        | (refine wpu_storeS G rfl rfl rfl rfl (by rfl) (by rfl) (by first | rfl | assumption | simp [*]) ?_; clear G; intro w G; go_frame))
      | ((with_reducible refine at_convert ?_); refine wpu_str G rfl rfl rfl rfl ?_; go_frame)
      | ((with_reducible refine at_slice ?_); first
        | (refine wpu_sliceLo rfl rfl rfl rfl (by first | rfl | omega) (by omega) (by omega) ?_; go_frame)
        | (refine wpu_sliceLH rfl rfl rfl rfl rfl (by first | rfl | omega) (by first | rfl | omega) (by omega) (by omega) ?_; go_frame))
      | fail)
    refine wp_region_mix [3, 3, 3, 3, 3, 3, 3, 3, 3, 1, 3, 1, 3, 1, 3, 1] (fun _ => True) (by kernel_rfl) (by kernel_rfl) trivial ?_
    refine mix_plain 8 (by rfl) (by rfl) ?_
    intro ι W hne
    dsimp only [List.take, List.drop]
    repeat (first | ((with_reducible refine atq_lookup ?_); refine wpq_nilLook rfl (by kernel_rfl) rfl rfl (by decide) ?_; go_frame) | go_big_quiet_step (fail))
    refine wpQuiet_nil ?_
    clear hne W ι
    refine mix_plain 1 (by rfl) (by rfl) ?_
    intro ι W hne
    dsimp only [List.take, List.drop]
    repeat (go_big_quiet_step (fail))
    refine wpQuiet_nil ?_
    clear hne W ι
    refine mix_loud rfl (fun K hK => ?_)
    refine wpk_store (own_drew G) rfl rfl rfl rfl (by rfl) ?_
    clear G; intro w G
    refine hK _ _ ⟨trivial, ?_⟩
    clear hK
    try go_frame
    refine mix_plain 1 (by rfl) (by rfl) ?_
    intro ι W hne
    dsimp only [List.take, List.drop]
    repeat (go_big_quiet_step (fail))
    refine wpQuiet_nil ?_
    clear hne W ι
    refine mix_loud rfl (fun K hK => ?_)
    refine wpk_store G rfl rfl rfl rfl (by rfl) ?_
    clear G; intro w G
    refine hK _ _ ⟨trivial, ?_⟩
    clear hK
    try go_frame
    refine mix_plain 1 (by rfl) (by rfl) ?_
    intro ι W hne
    dsimp only [List.take, List.drop]
    repeat (go_big_quiet_step (fail))
    refine wpQuiet_nil ?_
    clear hne W ι
    refine mix_loud rfl (fun K hK => ?_)
    refine wpk_store G rfl rfl rfl rfl (by rfl) ?_
    clear G; intro w G
    refine hK _ _ ⟨trivial, ?_⟩
    clear hK
    try go_frame
    refine mix_plain 1 (by rfl) (by rfl) ?_
    intro ι W hne
    dsimp only [List.take, List.drop]
    repeat (go_big_quiet_step (fail))
    refine wpQuiet_nil ?_
    clear hne W ι
    refine mix_loud rfl (fun K hK => ?_)
    refine wpk_store G rfl rfl rfl rfl (by rfl) ?_
    clear G; intro w G
    refine hK _ _ ⟨trivial, ?_⟩
    clear hK
    try go_frame
    refine mix_nil ?_
    as_aux_lemma =>
    go_wp2_with (first
      | ((with_reducible refine at_eqS ?_); refine wpu_eqS rfl (by kernel_rfl) rfl rfl (by assumption) ?_; go_frame)
      | ((with_reducible refine at_neS ?_); refine wpu_neS rfl (by kernel_rfl) rfl rfl (by assumption) ?_; go_frame)
      | (go_at_call 21; refine Calls.mono (hasPrefixC pa [47] _) ?_; rintro e w ⟨rfl, rfl⟩; rw [H7.out])
      | ((with_reducible refine at_alloc ?_); refine wpu_new G ?_; clear G; intro w G)
      | ((with_reducible refine at_drew ?_); refine wpu_drew G ?_; clear G; intro w G)
      | go_big_skip
      | ((with_reducible refine at_load ?_); first
        | (refine wpu_load G rfl (by kernel_rfl) rfl rfl ?_; go_frame)
        | (refine wpu_loadB G rfl (by kernel_rfl) rfl (by rfl) ?_; go_frame)
        | (refine wpu_loadS G rfl (by kernel_rfl) rfl (by rfl) ?_; simp only [List.drop_succ_cons, List.drop_zero, List.take_succ_cons, List.take_zero]; go_frame))
      | ((with_reducible refine at_store ?_); first
        | (refine wpu_store G rfl (by kernel_rfl) rfl rfl (by first | rfl | assumption | simp [*]) rfl ?_; clear G; intro w G; go_frame)
        | (refine wpu_storeB G rfl (by kernel_rfl) rfl rfl (by rfl) (by rfl) (by first | rfl | assumption | simp [*]) ?_; clear G; intro w G; go_frame)
        | (refine wpu_storeS G rfl (by kernel_rfl) rfl rfl (by rfl) (by rfl) (by first | rfl | assumption | simp [*]) ?_; clear G; intro w G; go_frame))
      | ((with_reducible refine at_convert ?_); refine wpu_str G rfl (by kernel_rfl) rfl rfl ?_; go_frame)
      | fail)
    try simp only [Exit.inBlock, Exit.then]
    refine bodyPost_ret (results2 rfl (by first | exact resT rfl | exact resB G rfl (by rfl) | exact resO G rfl rfl) (by first | exact resT rfl | exact resB G rfl (by rfl) | exact resO G rfl rfl)) rfl ?_
    rw [HB.out]
    exact ⟨rfl, G.sub R⟩
  | some s =>
    obtain ⟨b, rfl, G⟩ := h
    unfold msgC
    obtain ⟨me, hme⟩ : ∃ x, (getM s.map nMethod).getD [] = x := ⟨_, rfl⟩
    obtain ⟨sc, hsc⟩ : ∃ x, (getM s.map nScheme).getD [] = x := ⟨_, rfl⟩
    obtain ⟨au, hau⟩ : ∃ x, (getM s.map nAuth).getD [] = x := ⟨_, rfl⟩
    obtain ⟨pa, hpa⟩ : ∃ x, (getM s.map nPath).getD [] = x := ⟨_, rfl⟩
    obtain ⟨p4, h4⟩ : ∃ x, (getM s.map nScheme).isSome = x := ⟨_, rfl⟩
    obtain ⟨p5, h5⟩ : ∃ x, (getM s.map nPath).isSome = x := ⟨_, rfl⟩
    obtain ⟨p1, h1⟩ : ∃ x, decide (me = []) = x := ⟨_, rfl⟩
    obtain ⟨p2, h2⟩ : ∃ x, decide (me = [67, 79, 78, 78, 69, 67, 84]) = x := ⟨_, rfl⟩
    obtain ⟨p3, h3⟩ : ∃ x, decide (au = []) = x := ⟨_, rfl⟩
    obtain ⟨p6, h6⟩ : ∃ x, decide (sc = []) = x := ⟨_, rfl⟩
    obtain ⟨p7, h7⟩ : ∃ x, ([47] : Txt).isPrefixOf pa = x := ⟨_, rfl⟩
    obtain ⟨p8, h8⟩ : ∃ x, decide (pa = [42]) = x := ⟨_, rfl⟩
    obtain ⟨p9, h9⟩ : ∃ x, decide (me = [79, 80, 84, 73, 79, 78, 83]) = x := ⟨_, rfl⟩
    have HB0 : r = if oks p1 p2 p3 p4 p5 p6 p7 p8 p9 = true then some ⟨me, sc, au, pa, 0, s.len⟩ else none := by
      rw [← HR.out, requestR_of HO.out, requestOk_eq]
      unfold getV
      rw [hme, hsc, hau, hpa, h1, h2, h3, h4, h5, h6, h7, h8, h9]
    have H7 := Lib.hid h7
    have M1 := Lib.hid hme
    have M2 := Lib.hid hsc
    have M3 := Lib.hid hau
    have M4 := Lib.hid hpa
    have E4 := Lib.hid h4
    have E5 := Lib.hid h5
    clear h7 hme hsc hau hpa h4 h5
    go_wp2_with (first
      | ((with_reducible refine at_lookup ?_); first
        | (refine wpu_strLookOk G rfl (by kernel_rfl) rfl rfl (by decide) M2.out E4.out ?_; go_frame)
        | (refine wpu_strLookOk G rfl (by kernel_rfl) rfl rfl (by decide) M4.out E5.out ?_; go_frame))
      | ((with_reducible refine at_alloc ?_); refine wpu_new G ?_; clear G; intro w G)
      | ((with_reducible refine at_drew ?_); refine wpu_drew G ?_; clear G; intro w G)
      | ((with_reducible refine at_load ?_); first
        | (refine wpu_load G rfl rfl rfl rfl ?_; go_frame)
        | (refine wpu_loadB G rfl rfl rfl (by rfl) ?_; go_frame)
        | (refine wpu_loadS G rfl rfl rfl (by rfl) ?_; simp only [List.drop_succ_cons, List.drop_zero, List.take_succ_cons, List.take_zero]; go_frame))
      | ((with_reducible refine at_store ?_); first
        | (refine wpu_store G rfl rfl rfl rfl (by first | rfl | assumption | simp [*]) rfl ?_; clear G; intro w G; go_frame)
        | (refine wpu_storeB G rfl rfl rfl rfl (by rfl) (by rfl) (by first | rfl | assumption | simp [*]) ?_; clear G; intro w G; go_frame)
        | (refine wpu_storeS G rfl rfl rfl rfl (by rfl) (by rfl) (by first | rfl | assumption | simp [*]) ?_; clear G; intro w G; go_frame))
      | ((with_reducible refine at_convert ?_); refine wpu_str G rfl rfl rfl rfl ?_; go_frame)
      | ((with_reducible refine at_slice ?_); first
        | (refine wpu_sliceLo rfl rfl rfl rfl (by first | rfl | omega) (by omega) (by omega) ?_; go_frame)
        | (refine wpu_sliceLH rfl rfl rfl rfl rfl (by first | rfl | omega) (by first | rfl | omega) (by omega) (by omega) ?_; go_frame))
      | fail)
    refine wp_region_mix [0, 0, 0, 0, 0, 0, 0, 0, 3, 1, 3, 1, 3, 1, 3, 1] (fun w => Own B (mapA b s.map) w) (by kernel_rfl) (by kernel_rfl) ((own_drew G).sub _) ?_
    refine mix_calm 8 ((own_drew G).sub _) (by rfl) (by rfl) ?_
    intro ι W hne hW
    dsimp only [List.take, List.drop]
    repeat (first
      | ((with_reducible refine atq_lookup ?_); first
        | (refine wpq_strLook hW rfl (by kernel_rfl) rfl rfl (by decide) M1.out ?_; go_frame)
        | (refine wpq_strLook hW rfl (by kernel_rfl) rfl rfl (by decide) M2.out ?_; go_frame)
        | (refine wpq_strLook hW rfl (by kernel_rfl) rfl rfl (by decide) M3.out ?_; go_frame)
        | (refine wpq_strLook hW rfl (by kernel_rfl) rfl rfl (by decide) M4.out ?_; go_frame))
      | go_big_quiet_step (fail))
    refine wpQuiet_nil ?_
    clear hW hne W ι
    refine mix_plain 1 (by rfl) (by rfl) ?_
    intro ι W hne
    dsimp only [List.take, List.drop]
    repeat (go_big_quiet_step (fail))
    refine wpQuiet_nil ?_
    clear hne W ι
    refine mix_loud rfl (fun K hK => ?_)
    refine wpk_store (own_drew G) rfl rfl rfl rfl (by rfl) ?_
    clear G; intro w G
    refine hK _ _ ⟨(G.sub _), ?_⟩
    clear hK
    try go_frame
    refine mix_plain 1 (by rfl) (by rfl) ?_
    intro ι W hne
    dsimp only [List.take, List.drop]
    repeat (go_big_quiet_step (fail))
    refine wpQuiet_nil ?_
    clear hne W ι
    refine mix_loud rfl (fun K hK => ?_)
    refine wpk_store G rfl rfl rfl rfl (by rfl) ?_
    clear G; intro w G
    refine hK _ _ ⟨(G.sub _), ?_⟩
    clear hK
    try go_frame
    refine mix_plain 1 (by rfl) (by rfl) ?_
    intro ι W hne
    dsimp only [List.take, List.drop]
    repeat (go_big_quiet_step (fail))
    refine wpQuiet_nil ?_
    clear hne W ι
    refine mix_loud rfl (fun K hK => ?_)
    refine wpk_store G rfl rfl rfl rfl (by rfl) ?_
    clear G; intro w G
    refine hK _ _ ⟨(G.sub _), ?_⟩
    clear hK
    try go_frame
    refine mix_plain 1 (by rfl) (by rfl) ?_
    intro ι W hne
    dsimp only [List.take, List.drop]
    repeat (go_big_quiet_step (fail))
    refine wpQuiet_nil ?_
    clear hne W ι
    refine mix_loud rfl (fun K hK => ?_)
    refine wpk_store G rfl rfl rfl rfl (by rfl) ?_
    clear G; intro w G
    refine hK _ _ ⟨(G.sub _), ?_⟩
    clear hK
    try go_frame
    refine mix_nil ?_
    cases p1
    · cases p2
      · cases p6
        · cases p7
          · cases p8
            · skip
              have HB : Hid (r = none) := Lib.hid (by rw [HB0]; rfl)
              clear HB0
              skip
              as_aux_lemma =>
              go_wp2_with (first
                | ((with_reducible refine at_eqS ?_); refine wpu_eqS rfl (by kernel_rfl) rfl rfl (by assumption) ?_; go_frame)
                | ((with_reducible refine at_neS ?_); refine wpu_neS rfl (by kernel_rfl) rfl rfl (by assumption) ?_; go_frame)
                | (go_at_call 21; refine Calls.mono (hasPrefixC pa [47] _) ?_; rintro e w ⟨rfl, rfl⟩; rw [H7.out])
                | ((with_reducible refine at_alloc ?_); refine wpu_new G ?_; clear G; intro w G)
                | ((with_reducible refine at_drew ?_); refine wpu_drew G ?_; clear G; intro w G)
                | go_big_skip
                | ((with_reducible refine at_load ?_); first
                  | (refine wpu_load G rfl (by kernel_rfl) rfl rfl ?_; go_frame)
                  | (refine wpu_loadB G rfl (by kernel_rfl) rfl (by rfl) ?_; go_frame)
                  | (refine wpu_loadS G rfl (by kernel_rfl) rfl (by rfl) ?_; simp only [List.drop_succ_cons, List.drop_zero, List.take_succ_cons, List.take_zero]; go_frame))
                | ((with_reducible refine at_store ?_); first
                  | (refine wpu_store G rfl (by kernel_rfl) rfl rfl (by first | rfl | assumption | simp [*]) rfl ?_; clear G; intro w G; go_frame)
                  | (refine wpu_storeB G rfl (by kernel_rfl) rfl rfl (by rfl) (by rfl) (by first | rfl | assumption | simp [*]) ?_; clear G; intro w G; go_frame)
                  | (refine wpu_storeS G rfl (by kernel_rfl) rfl rfl (by rfl) (by rfl) (by first | rfl | assumption | simp [*]) ?_; clear G; intro w G; go_frame))
                | ((with_reducible refine at_convert ?_); refine wpu_str G rfl (by kernel_rfl) rfl rfl ?_; go_frame)
                | fail)
              try simp only [Exit.inBlock, Exit.then]
              refine bodyPost_ret (results2 rfl (by first | exact resT rfl | exact resB G rfl (by rfl) | exact resO G rfl rfl) (by first | exact resT rfl | exact resB G rfl (by rfl) | exact resO G rfl rfl)) rfl ?_
              rw [HB.out]
              exact ⟨rfl, G.sub R⟩
            · cases p9
              · skip
                have HB : Hid (r = none) := Lib.hid (by rw [HB0]; rfl)
                clear HB0
                skip
                as_aux_lemma =>
                go_wp2_with (first
                  | ((with_reducible refine at_eqS ?_); refine wpu_eqS rfl (by kernel_rfl) rfl rfl (by assumption) ?_; go_frame)
                  | ((with_reducible refine at_neS ?_); refine wpu_neS rfl (by kernel_rfl) rfl rfl (by assumption) ?_; go_frame)
                  | (go_at_call 21; refine Calls.mono (hasPrefixC pa [47] _) ?_; rintro e w ⟨rfl, rfl⟩; rw [H7.out])
                  | ((with_reducible refine at_alloc ?_); refine wpu_new G ?_; clear G; intro w G)
                  | ((with_reducible refine at_drew ?_); refine wpu_drew G ?_; clear G; intro w G)
                  | go_big_skip
                  | ((with_reducible refine at_load ?_); first
                    | (refine wpu_load G rfl (by kernel_rfl) rfl rfl ?_; go_frame)
                    | (refine wpu_loadB G rfl (by kernel_rfl) rfl (by rfl) ?_; go_frame)
                    | (refine wpu_loadS G rfl (by kernel_rfl) rfl (by rfl) ?_; simp only [List.drop_succ_cons, List.drop_zero, List.take_succ_cons, List.take_zero]; go_frame))
                  | ((with_reducible refine at_store ?_); first
                    | (refine wpu_store G rfl (by kernel_rfl) rfl rfl (by first | rfl | assumption | simp [*]) rfl ?_; clear G; intro w G; go_frame)
                    | (refine wpu_storeB G rfl (by kernel_rfl) rfl rfl (by rfl) (by rfl) (by first | rfl | assumption | simp [*]) ?_; clear G; intro w G; go_frame)
                    | (refine wpu_storeS G rfl (by kernel_rfl) rfl rfl (by rfl) (by rfl) (by first | rfl | assumption | simp [*]) ?_; clear G; intro w G; go_frame))
                  | ((with_reducible refine at_convert ?_); refine wpu_str G rfl (by kernel_rfl) rfl rfl ?_; go_frame)
                  | fail)
                try simp only [Exit.inBlock, Exit.then]
                refine bodyPost_ret (results2 rfl (by first | exact resT rfl | exact resB G rfl (by rfl) | exact resO G rfl rfl) (by first | exact resT rfl | exact resB G rfl (by rfl) | exact resO G rfl rfl)) rfl ?_
                rw [HB.out]
                exact ⟨rfl, G.sub R⟩
              · skip
                have HB : Hid (r = some ⟨me, sc, au, pa, 0, s.len⟩) := Lib.hid (by rw [HB0]; rfl)
                clear HB0
                skip
                as_aux_lemma =>
                go_wp2_with (first
                  | ((with_reducible refine at_eqS ?_); refine wpu_eqS rfl (by kernel_rfl) rfl rfl (by assumption) ?_; go_frame)
                  | ((with_reducible refine at_neS ?_); refine wpu_neS rfl (by kernel_rfl) rfl rfl (by assumption) ?_; go_frame)
                  | (go_at_call 21; refine Calls.mono (hasPrefixC pa [47] _) ?_; rintro e w ⟨rfl, rfl⟩; rw [H7.out])
                  | ((with_reducible refine at_alloc ?_); refine wpu_new G ?_; clear G; intro w G)
                  | ((with_reducible refine at_drew ?_); refine wpu_drew G ?_; clear G; intro w G)
                  | go_big_skip
                  | ((with_reducible refine at_load ?_); first
                    | (refine wpu_load G rfl (by kernel_rfl) rfl rfl ?_; go_frame)
                    | (refine wpu_loadB G rfl (by kernel_rfl) rfl (by rfl) ?_; go_frame)
                    | (refine wpu_loadS G rfl (by kernel_rfl) rfl (by rfl) ?_; simp only [List.drop_succ_cons, List.drop_zero, List.take_succ_cons, List.take_zero]; go_frame))
                  | ((with_reducible refine at_store ?_); first
                    | (refine wpu_store G rfl (by kernel_rfl) rfl rfl (by first | rfl | assumption | simp [*]) rfl ?_; clear G; intro w G; go_frame)
                    | (refine wpu_storeB G rfl (by kernel_rfl) rfl rfl (by rfl) (by rfl) (by first | rfl | assumption | simp [*]) ?_; clear G; intro w G; go_frame)
                    | (refine wpu_storeS G rfl (by kernel_rfl) rfl rfl (by rfl) (by rfl) (by first | rfl | assumption | simp [*]) ?_; clear G; intro w G; go_frame))
                  | ((with_reducible refine at_convert ?_); refine wpu_str G rfl (by kernel_rfl) rfl rfl ?_; go_frame)
                  | fail)
                try simp only [Exit.inBlock, Exit.then]
                refine bodyPost_ret (results2 rfl (by first | exact resT rfl | exact resB G rfl (by rfl) | exact resO G rfl rfl) (by first | exact resT rfl | exact resB G rfl (by rfl) | exact resO G rfl rfl)) rfl ?_
                rw [HB.out]
                exact ⟨rfl, G.sub R⟩
          · skip
            have HB : Hid (r = some ⟨me, sc, au, pa, 0, s.len⟩) := Lib.hid (by rw [HB0]; rfl)
            clear HB0
            skip
            as_aux_lemma =>
            go_wp2_with (first
              | ((with_reducible refine at_eqS ?_); refine wpu_eqS rfl (by kernel_rfl) rfl rfl (by assumption) ?_; go_frame)
              | ((with_reducible refine at_neS ?_); refine wpu_neS rfl (by kernel_rfl) rfl rfl (by assumption) ?_; go_frame)
              | (go_at_call 21; refine Calls.mono (hasPrefixC pa [47] _) ?_; rintro e w ⟨rfl, rfl⟩; rw [H7.out])
              | ((with_reducible refine at_alloc ?_); refine wpu_new G ?_; clear G; intro w G)
              | ((with_reducible refine at_drew ?_); refine wpu_drew G ?_; clear G; intro w G)
              | go_big_skip
              | ((with_reducible refine at_load ?_); first
                | (refine wpu_load G rfl (by kernel_rfl) rfl rfl ?_; go_frame)
                | (refine wpu_loadB G rfl (by kernel_rfl) rfl (by rfl) ?_; go_frame)
                | (refine wpu_loadS G rfl (by kernel_rfl) rfl (by rfl) ?_; simp only [List.drop_succ_cons, List.drop_zero, List.take_succ_cons, List.take_zero]; go_frame))
              | ((with_reducible refine at_store ?_); first
                | (refine wpu_store G rfl (by kernel_rfl) rfl rfl (by first | rfl | assumption | simp [*]) rfl ?_; clear G; intro w G; go_frame)
                | (refine wpu_storeB G rfl (by kernel_rfl) rfl rfl (by rfl) (by rfl) (by first | rfl | assumption | simp [*]) ?_; clear G; intro w G; go_frame)
                | (refine wpu_storeS G rfl (by kernel_rfl) rfl rfl (by rfl) (by rfl) (by first | rfl | assumption | simp [*]) ?_; clear G; intro w G; go_frame))
              | ((with_reducible refine at_convert ?_); refine wpu_str G rfl (by kernel_rfl) rfl rfl ?_; go_frame)
              | fail)
            try simp only [Exit.inBlock, Exit.then]
            refine bodyPost_ret (results2 rfl (by first | exact resT rfl | exact resB G rfl (by rfl) | exact resO G rfl rfl) (by first | exact resT rfl | exact resB G rfl (by rfl) | exact resO G rfl rfl)) rfl ?_
            rw [HB.out]
            exact ⟨rfl, G.sub R⟩
        · skip
          have HB : Hid (r = none) := Lib.hid (by rw [HB0]; rfl)
          clear HB0
          skip
          as_aux_lemma =>
          go_wp2_with (first
            | ((with_reducible refine at_eqS ?_); refine wpu_eqS rfl (by kernel_rfl) rfl rfl (by assumption) ?_; go_frame)
            | ((with_reducible refine at_neS ?_); refine wpu_neS rfl (by kernel_rfl) rfl rfl (by assumption) ?_; go_frame)
            | (go_at_call 21; refine Calls.mono (hasPrefixC pa [47] _) ?_; rintro e w ⟨rfl, rfl⟩; rw [H7.out])
            | ((with_reducible refine at_alloc ?_); refine wpu_new G ?_; clear G; intro w G)
            | ((with_reducible refine at_drew ?_); refine wpu_drew G ?_; clear G; intro w G)
            | go_big_skip
            | ((with_reducible refine at_load ?_); first
              | (refine wpu_load G rfl (by kernel_rfl) rfl rfl ?_; go_frame)
              | (refine wpu_loadB G rfl (by kernel_rfl) rfl (by rfl) ?_; go_frame)
              | (refine wpu_loadS G rfl (by kernel_rfl) rfl (by rfl) ?_; simp only [List.drop_succ_cons, List.drop_zero, List.take_succ_cons, List.take_zero]; go_frame))
            | ((with_reducible refine at_store ?_); first
              | (refine wpu_store G rfl (by kernel_rfl) rfl rfl (by first | rfl | assumption | simp [*]) rfl ?_; clear G; intro w G; go_frame)
              | (refine wpu_storeB G rfl (by kernel_rfl) rfl rfl (by rfl) (by rfl) (by first | rfl | assumption | simp [*]) ?_; clear G; intro w G; go_frame)
              | (refine wpu_storeS G rfl (by kernel_rfl) rfl rfl (by rfl) (by rfl) (by first | rfl | assumption | simp [*]) ?_; clear G; intro w G; go_frame))
            | ((with_reducible refine at_convert ?_); refine wpu_str G rfl (by kernel_rfl) rfl rfl ?_; go_frame)
            | fail)
          try simp only [Exit.inBlock, Exit.then]
          refine bodyPost_ret (results2 rfl (by first | exact resT rfl | exact resB G rfl (by rfl) | exact resO G rfl rfl) (by first | exact resT rfl | exact resB G rfl (by rfl) | exact resO G rfl rfl)) rfl ?_
          rw [HB.out]
          exact ⟨rfl, G.sub R⟩
      · cases p3
        · cases p4
          · cases p5
            · skip
              have HB : Hid (r = some ⟨me, sc, au, pa, 0, s.len⟩) := Lib.hid (by rw [HB0]; rfl)
              clear HB0
              skip
              as_aux_lemma =>
              go_wp2_with (first
                | ((with_reducible refine at_eqS ?_); refine wpu_eqS rfl (by kernel_rfl) rfl rfl (by assumption) ?_; go_frame)
                | ((with_reducible refine at_neS ?_); refine wpu_neS rfl (by kernel_rfl) rfl rfl (by assumption) ?_; go_frame)
                | (go_at_call 21; refine Calls.mono (hasPrefixC pa [47] _) ?_; rintro e w ⟨rfl, rfl⟩; rw [H7.out])
                | ((with_reducible refine at_alloc ?_); refine wpu_new G ?_; clear G; intro w G)
                | ((with_reducible refine at_drew ?_); refine wpu_drew G ?_; clear G; intro w G)
                | go_big_skip
                | ((with_reducible refine at_load ?_); first
                  | (refine wpu_load G rfl (by kernel_rfl) rfl rfl ?_; go_frame)
                  | (refine wpu_loadB G rfl (by kernel_rfl) rfl (by rfl) ?_; go_frame)
                  | (refine wpu_loadS G rfl (by kernel_rfl) rfl (by rfl) ?_; simp only [List.drop_succ_cons, List.drop_zero, List.take_succ_cons, List.take_zero]; go_frame))
                | ((with_reducible refine at_store ?_); first
                  | (refine wpu_store G rfl (by kernel_rfl) rfl rfl (by first | rfl | assumption | simp [*]) rfl ?_; clear G; intro w G; go_frame)
                  | (refine wpu_storeB G rfl (by kernel_rfl) rfl rfl (by rfl) (by rfl) (by first | rfl | assumption | simp [*]) ?_; clear G; intro w G; go_frame)
                  | (refine wpu_storeS G rfl (by kernel_rfl) rfl rfl (by rfl) (by rfl) (by first | rfl | assumption | simp [*]) ?_; clear G; intro w G; go_frame))
                | ((with_reducible refine at_convert ?_); refine wpu_str G rfl (by kernel_rfl) rfl rfl ?_; go_frame)
                | fail)
              try simp only [Exit.inBlock, Exit.then]
              refine bodyPost_ret (results2 rfl (by first | exact resT rfl | exact resB G rfl (by rfl) | exact resO G rfl rfl) (by first | exact resT rfl | exact resB G rfl (by rfl) | exact resO G rfl rfl)) rfl ?_
              rw [HB.out]
              exact ⟨rfl, G.sub R⟩
            · skip
              have HB : Hid (r = none) := Lib.hid (by rw [HB0]; rfl)
              clear HB0
              skip
              as_aux_lemma =>
              go_wp2_with (first
                | ((with_reducible refine at_eqS ?_); refine wpu_eqS rfl (by kernel_rfl) rfl rfl (by assumption) ?_; go_frame)
                | ((with_reducible refine at_neS ?_); refine wpu_neS rfl (by kernel_rfl) rfl rfl (by assumption) ?_; go_frame)
                | (go_at_call 21; refine Calls.mono (hasPrefixC pa [47] _) ?_; rintro e w ⟨rfl, rfl⟩; rw [H7.out])
                | ((with_reducible refine at_alloc ?_); refine wpu_new G ?_; clear G; intro w G)
                | ((with_reducible refine at_drew ?_); refine wpu_drew G ?_; clear G; intro w G)
                | go_big_skip
                | ((with_reducible refine at_load ?_); first
                  | (refine wpu_load G rfl (by kernel_rfl) rfl rfl ?_; go_frame)
                  | (refine wpu_loadB G rfl (by kernel_rfl) rfl (by rfl) ?_; go_frame)
                  | (refine wpu_loadS G rfl (by kernel_rfl) rfl (by rfl) ?_; simp only [List.drop_succ_cons, List.drop_zero, List.take_succ_cons, List.take_zero]; go_frame))
                | ((with_reducible refine at_store ?_); first
                  | (refine wpu_store G rfl (by kernel_rfl) rfl rfl (by first | rfl | assumption | simp [*]) rfl ?_; clear G; intro w G; go_frame)
                  | (refine wpu_storeB G rfl (by kernel_rfl) rfl rfl (by rfl) (by rfl) (by first | rfl | assumption | simp [*]) ?_; clear G; intro w G; go_frame)
                  | (refine wpu_storeS G rfl (by kernel_rfl) rfl rfl (by rfl) (by rfl) (by first | rfl | assumption | simp [*]) ?_; clear G; intro w G; go_frame))
                | ((with_reducible refine at_convert ?_); refine wpu_str G rfl (by kernel_rfl) rfl rfl ?_; go_frame)
                | fail)
              try simp only [Exit.inBlock, Exit.then]
              refine bodyPost_ret (results2 rfl (by first | exact resT rfl | exact resB G rfl (by rfl) | exact resO G rfl rfl) (by first | exact resT rfl | exact resB G rfl (by rfl) | exact resO G rfl rfl)) rfl ?_
              rw [HB.out]
              exact ⟨rfl, G.sub R⟩
          · skip
            have HB : Hid (r = none) := Lib.hid (by rw [HB0]; rfl)
            clear HB0
            skip
            as_aux_lemma =>
            go_wp2_with (first
              | ((with_reducible refine at_eqS ?_); refine wpu_eqS rfl (by kernel_rfl) rfl rfl (by assumption) ?_; go_frame)
              | ((with_reducible refine at_neS ?_); refine wpu_neS rfl (by kernel_rfl) rfl rfl (by assumption) ?_; go_frame)
              | (go_at_call 21; refine Calls.mono (hasPrefixC pa [47] _) ?_; rintro e w ⟨rfl, rfl⟩; rw [H7.out])
              | ((with_reducible refine at_alloc ?_); refine wpu_new G ?_; clear G; intro w G)
              | ((with_reducible refine at_drew ?_); refine wpu_drew G ?_; clear G; intro w G)
              | go_big_skip
              | ((with_reducible refine at_load ?_); first
                | (refine wpu_load G rfl (by kernel_rfl) rfl rfl ?_; go_frame)
                | (refine wpu_loadB G rfl (by kernel_rfl) rfl (by rfl) ?_; go_frame)
                | (refine wpu_loadS G rfl (by kernel_rfl) rfl (by rfl) ?_; simp only [List.drop_succ_cons, List.drop_zero, List.take_succ_cons, List.take_zero]; go_frame))
              | ((with_reducible refine at_store ?_); first
                | (refine wpu_store G rfl (by kernel_rfl) rfl rfl (by first | rfl | assumption | simp [*]) rfl ?_; clear G; intro w G; go_frame)
                | (refine wpu_storeB G rfl (by kernel_rfl) rfl rfl (by rfl) (by rfl) (by first | rfl | assumption | simp [*]) ?_; clear G; intro w G; go_frame)
                | (refine wpu_storeS G rfl (by kernel_rfl) rfl rfl (by rfl) (by rfl) (by first | rfl | assumption | simp [*]) ?_; clear G; intro w G; go_frame))
              | ((with_reducible refine at_convert ?_); refine wpu_str G rfl (by kernel_rfl) rfl rfl ?_; go_frame)
              | fail)
            try simp only [Exit.inBlock, Exit.then]
            refine bodyPost_ret (results2 rfl (by first | exact resT rfl | exact resB G rfl (by rfl) | exact resO G rfl rfl) (by first | exact resT rfl | exact resB G rfl (by rfl) | exact resO G rfl rfl)) rfl ?_
            rw [HB.out]
            exact ⟨rfl, G.sub R⟩
        · skip
          have HB : Hid (r = none) := Lib.hid (by rw [HB0]; rfl)
          clear HB0
          skip
          as_aux_lemma =>
          go_wp2_with (first
            | ((with_reducible refine at_eqS ?_); refine wpu_eqS rfl (by kernel_rfl) rfl rfl (by assumption) ?_; go_frame)
            | ((with_reducible refine at_neS ?_); refine wpu_neS rfl (by kernel_rfl) rfl rfl (by assumption) ?_; go_frame)
            | (go_at_call 21; refine Calls.mono (hasPrefixC pa [47] _) ?_; rintro e w ⟨rfl, rfl⟩; rw [H7.out])
            | ((with_reducible refine at_alloc ?_); refine wpu_new G ?_; clear G; intro w G)
            | ((with_reducible refine at_drew ?_); refine wpu_drew G ?_; clear G; intro w G)
            | go_big_skip
            | ((with_reducible refine at_load ?_); first
              | (refine wpu_load G rfl (by kernel_rfl) rfl rfl ?_; go_frame)
              | (refine wpu_loadB G rfl (by kernel_rfl) rfl (by rfl) ?_; go_frame)
              | (refine wpu_loadS G rfl (by kernel_rfl) rfl (by rfl) ?_; simp only [List.drop_succ_cons, List.drop_zero, List.take_succ_cons, List.take_zero]; go_frame))
            | ((with_reducible refine at_store ?_); first
              | (refine wpu_store G rfl (by kernel_rfl) rfl rfl (by first | rfl | assumption | simp [*]) rfl ?_; clear G; intro w G; go_frame)
              | (refine wpu_storeB G rfl (by kernel_rfl) rfl rfl (by rfl) (by rfl) (by first | rfl | assumption | simp [*]) ?_; clear G; intro w G; go_frame)
              | (refine wpu_storeS G rfl (by kernel_rfl) rfl rfl (by rfl) (by rfl) (by first | rfl | assumption | simp [*]) ?_; clear G; intro w G; go_frame))
            | ((with_reducible refine at_convert ?_); refine wpu_str G rfl (by kernel_rfl) rfl rfl ?_; go_frame)
            | fail)
          try simp only [Exit.inBlock, Exit.then]
          refine bodyPost_ret (results2 rfl (by first | exact resT rfl | exact resB G rfl (by rfl) | exact resO G rfl rfl) (by first | exact resT rfl | exact resB G rfl (by rfl) | exact resO G rfl rfl)) rfl ?_
          rw [HB.out]
          exact ⟨rfl, G.sub R⟩
    · skip
      have HB : Hid (r = none) := Lib.hid (by rw [HB0]; rfl)
      clear HB0
      skip
      as_aux_lemma =>
      go_wp2_with (first
        | ((with_reducible refine at_eqS ?_); refine wpu_eqS rfl (by kernel_rfl) rfl rfl (by assumption) ?_; go_frame)
        | ((with_reducible refine at_neS ?_); refine wpu_neS rfl (by kernel_rfl) rfl rfl (by assumption) ?_; go_frame)
        | (go_at_call 21; refine Calls.mono (hasPrefixC pa [47] _) ?_; rintro e w ⟨rfl, rfl⟩; rw [H7.out])
        | ((with_reducible refine at_alloc ?_); refine wpu_new G ?_; clear G; intro w G)
        | ((with_reducible refine at_drew ?_); refine wpu_drew G ?_; clear G; intro w G)
        | go_big_skip
        | ((with_reducible refine at_load ?_); first
          | (refine wpu_load G rfl (by kernel_rfl) rfl rfl ?_; go_frame)
          | (refine wpu_loadB G rfl (by kernel_rfl) rfl (by rfl) ?_; go_frame)
          | (refine wpu_loadS G rfl (by kernel_rfl) rfl (by rfl) ?_; simp only [List.drop_succ_cons, List.drop_zero, List.take_succ_cons, List.take_zero]; go_frame))
        | ((with_reducible refine at_store ?_); first
          | (refine wpu_store G rfl (by kernel_rfl) rfl rfl (by first | rfl | assumption | simp [*]) rfl ?_; clear G; intro w G; go_frame)
          | (refine wpu_storeB G rfl (by kernel_rfl) rfl rfl (by rfl) (by rfl) (by first | rfl | assumption | simp [*]) ?_; clear G; intro w G; go_frame)
          | (refine wpu_storeS G rfl (by kernel_rfl) rfl rfl (by rfl) (by rfl) (by first | rfl | assumption | simp [*]) ?_; clear G; intro w G; go_frame))
        | ((with_reducible refine at_convert ?_); refine wpu_str G rfl (by kernel_rfl) rfl rfl ?_; go_frame)
        | fail)
      try simp only [Exit.inBlock, Exit.then]
      refine bodyPost_ret (results2 rfl (by first | exact resT rfl | exact resB G rfl (by rfl) | exact resO G rfl rfl) (by first | exact resT rfl | exact resB G rfl (by rfl) | exact resO G rfl rfl)) rfl ?_
      rw [HB.out]
      exact ⟨rfl, G.sub R⟩
end Go.Proofs.YtikngjdljdofkaaDoor
