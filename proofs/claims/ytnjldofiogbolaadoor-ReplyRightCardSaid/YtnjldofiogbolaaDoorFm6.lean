

/-
  Package fields: requests, responses, trailers.
-/
import Derived.Test.YtnjldofiogbolaaDoorFm5
namespace Go.Sl
open Go Go.RowKit Go.ChangeShapes Go.BigFrame Go.ChangeMaps Go.MapKept
section
variable {P : Program} {B w : World} {A A' R : Assn} {t k e : TypeId} {b : Nat} {M : List (List UInt8 × List UInt8)} {ops : Array Oper} {rest : List Oper} {o : Oper} {a : Act} {x v : List UInt8} {m key val : Operand} {ι : Type} {W : ι → World} {q : Act → Prop}
theorem atq_lookup {C : World → Prop} {d : Option Tmp} {T ty : TypeId} {pos : String} {after : Array Edge} {g : Option (Nat × Bool)} {x y : Operand} {c : Bool} (h : wpQuiet P ops C q (⟨d, .lookup T x y c, ty, pos, after, g⟩ :: rest) a) : wpQuiet P ops C q (⟨d, .lookup T x y c, ty, pos, after, g⟩ :: rest) a := h
theorem wpq_strLook (h : ∀ i, Own B A (W i)) [T : TyMap P t k e] (ho : o.op = .lookup t m key false) (hw : Region.wanted o (yielded ops a.tmps) = true) (hm : evalO a m = some (.map (some b))) (hk : evalO a key = some (str x))
    [tk : TakeF (strA P k e b) M A A'] (h1 : x.length ≤ maxLen) {r : List UInt8} (hr : (getM M x).getD [] = r) (kk : wpQuiet P ops (fun w' => ∃ i, w' = W i) q rest (a.put o.dst (str r))) : wpQuiet P ops (fun w' => ∃ i, w' = W i) q (o :: rest) a := by
  subst hr
  exact wpq_val hw (fun i => by unfold execOp; rw [ho]; simp [evalO_eq hm, evalO_eq hk, run_strLook ((h i).eq tk.out) h1 (T := T)]) kk
theorem wpq_nilLook [T : TyMap P t k e] (ho : o.op = .lookup t m key false) (hw : Region.wanted o (yielded ops a.tmps) = true) (hm : evalO a m = some (.map none)) (hk : evalO a key = some (str x))
    (h1 : x.length ≤ maxLen) (kk : wpQuiet P ops (fun w' => ∃ i, w' = W i) q rest (a.put o.dst (str []))) : wpQuiet P ops (fun w' => ∃ i, w' = W i) q (o :: rest) a :=
  wpq_val hw (fun i => by unfold execOp; rw [ho]; simp [evalO_eq hm, evalO_eq hk, run_nilLook (t := t) (w := W i) h1 (T := T)]) kk
end
end Go.Sl
namespace Go.Proofs.YtnjldofiogbolaaDoor
open Go.RowKit Go.Sl Go.ChangeShapes

def Msg.cs (m : Msg) : List Value := [str m.method, str m.scheme, str m.authority, str m.path, .int .i64 m.status, .int .i64 m.len]
def Msg.zero : Msg := ⟨[], [], [], [], 0, 0⟩
def msgV (o : Option Msg) : Value := .tuple #[.agg (o.getD Msg.zero).cs.toArray, .bool o.isSome]

def oks (p1 p2 p3 p4 p5 p6 p7 p8 p9 : Bool) : Bool := !p1 && (if p2 then !p3 && !p4 && !p5 else !p6 && (p7 || (p8 && p9)))
theorem requestOk_eq (M : List (Txt × Txt)) : requestOk M = oks (decide (getV M nMethod = [])) (decide (getV M nMethod = [67, 79, 78, 78, 69, 67, 84])) (decide (getV M nAuth = [])) (getM M nScheme).isSome (getM M nPath).isSome
    (decide (getV M nScheme = [])) (([47] : Txt).isPrefixOf (getV M nPath)) (decide (getV M nPath = [42])) (decide (getV M nMethod = [79, 80, 84, 73, 79, 78, 83])) := by
  unfold requestOk oks
  by_cases h1 : getV M nMethod = []
  · rw [if_pos h1, decide_eq_true h1]; rfl
  · rw [if_neg h1, decide_eq_false h1]
    by_cases h2 : getV M nMethod = [67, 79, 78, 78, 69, 67, 84]
    · rw [if_pos h2, decide_eq_true h2]; rfl
    · rw [if_neg h2, decide_eq_false h2]; rfl

theorem exec_buildT {P : Program} {w w' : World} {o : Oper} {a : Act} {T : TypeId} {n : Nat} {parts : Array (Nat × Operand)} {v : Value} (ps : Array (Nat × Value)) (ho : o.op = .buildSlice T n parts) (hp : (parts.map fun (i, x) => (i, a.eval x)) = ps) (hr : (Instr.buildSlice T n ps).run P w = .ok v w') : (execOp a.eval o).run P w = .ok (.value v) w' := by
  unfold execOp
  rw [ho]
  subst hp
  simp [hr]
theorem buildSt (w : World) : (Instr.buildSlice 57 1 #[(0, str nStatus)]).run Tryd.prog w = .ok (.slice (some ⟨w.heap.size, 0, none⟩) 1 1) (w.alloc (.cells (strs [nStatus]).toArray 9)) := by kernel_rfl

def respD (d : Option Nat) (len : Int) : Option Msg := match d with | none => none | some n => if n < 100 then none else some ⟨[], [], [], [], n, len⟩
theorem responseR_of {L : List Fd} {s : Ms} (h : messageR [nStatus] L = some s) : responseR L = respD (digitsR (getV s.map nStatus) 3 3) s.len := by
  unfold responseR respD
  rw [h]
  rfl
set_option maxHeartbeats 16000000 in
set_option maxRecDepth 100000 in
theorem responseC {B w : World} {R : Assn} {L : List Fd} {v : Value} (hv : ∀ f ∈ L, f.1.length ≤ 1000000 ∧ f.2.1.length ≤ 1000000) (hL : L.length ≤ 1000) (h : Own B R w)
    (hl : ∀ w, Own B R w → rd w 3 v L.length (fds L)) :
    Calls Tryd.prog 15 #[v] w fun e w' => e = .returned (msgV (responseR L)) ∧ Own B R w' := by
  obtain ⟨o, ho⟩ : ∃ o, messageR [nStatus] L = o := ⟨_, rfl⟩
  have HO := Lib.hid ho
  obtain ⟨r, hr⟩ : ∃ r, responseR L = r := ⟨_, rfl⟩
  have HR := Lib.hid hr
  rw [hr]
  clear hr ho
  have G := h
  clear h
  go_enter Tryd.func15, Tryd.ntmps15
  go_wp2_with (first
    | ((with_reducible refine at_alloc ?_); refine wpu_new G ?_; clear G; intro w G)
    | ((with_reducible refine at_drew ?_); refine wpu_drew G ?_; clear G; intro w G)
    | ((with_reducible refine at_load ?_); first
      | (refine wpu_load G rfl rfl rfl rfl ?_; go_frame)
      | (refine wpu_loadB G rfl rfl rfl (by rfl) ?_; go_frame)
      | (refine wpu_loadS G rfl rfl rfl (by rfl) ?_; simp only [List.drop_succ_cons, List.drop_zero, List.take_succ_cons, List.take_zero]; go_frame))
    | ((with_reducible refine at_store ?_); first
      | (refine wpu_store G rfl rfl rfl rfl (by first | rfl | assumption | simp [*]) rfl ?_; clear G; intro w G; go_frame)
      | (refine wpu_storeB G rfl rfl rfl rfl (by rfl) (by rfl) (by first | rfl | assumption | simp [*]) ?_; clear G; intro w G; go_frame)
      | (refine wpu_storeS G rfl rfl rfl rfl (by rfl) (by rfl) (by first | rfl | assumption | simp [*]) ?_; clear G; intro w G; go_frame))
    | ((with_reducible refine at_convert ?_); refine wpu_str G rfl rfl rfl rfl ?_; go_frame)
    | ((with_reducible refine at_slice ?_); first
      | (refine wpu_sliceLo rfl rfl rfl rfl (by first | rfl | omega) (by omega) (by omega) ?_; go_frame)
      | (refine wpu_sliceLH rfl rfl rfl rfl rfl (by first | rfl | omega) (by first | rfl | omega) (by omega) (by omega) ?_; go_frame))
    | ((with_reducible refine at_build ?_); refine hold ?_)
    | fail)
  unfold Held
  refine wpu_val rfl (exec_buildT _ rfl (by kernel_rfl) (buildSt _)) ?_
  go_frame
  have G1 := own_new_sl (n := 1) (sz := 1) G (strs [nStatus]) 9 rfl (by decide)
  have hc := messageC (N := [nStatus]) hv hL G1 (fun w h => hl w (h.sub R)) (fun w h => own_rd h)
  rw [HO.out] at hc
  clear G G1
  go_wp2_with fail
  refine Calls.mono hc ?_
  clear hc
  intro e w h
  cases o with
  | none =>
    obtain ⟨rfl, G⟩ := h
    unfold msgC
    have HB : Hid (r = none) := Lib.hid (by rw [← HR.out]; unfold responseR; rw [HO.out])
    have HV : Hid (True) := Lib.hid trivial
    have HD : Hid (numV (digitsR [] 3 3) = .tuple #[.int .i64 0, .bool false]) := Lib.hid (by rfl)
    go_wp2_with (first
      | (go_at_call 21; refine hold ?_)
      | ((with_reducible refine at_lookup ?_); first
        | (refine wpu_strLook G rfl (by kernel_rfl) rfl rfl (by decide) HV.out ?_; go_frame)
        | (refine wpu_nilLook rfl (by kernel_rfl) rfl rfl (by decide) ?_; go_frame))
      | ((with_reducible refine at_alloc ?_); refine wpu_new G ?_; clear G; intro w G)
      | ((with_reducible refine at_drew ?_); refine wpu_drew G ?_; clear G; intro w G)
      | ((with_reducible refine at_load ?_); first
        | (refine wpu_load G rfl rfl rfl rfl ?_; go_frame)
        | (refine wpu_loadB G rfl rfl rfl (by rfl) ?_; go_frame)
        | (refine wpu_loadS G rfl rfl rfl (by rfl) ?_; simp only [List.drop_succ_cons, List.drop_zero, List.take_succ_cons, List.take_zero]; go_frame))
      | ((with_reducible refine at_store ?_); first
        | (refine wpu_store G rfl rfl rfl rfl (by first | rfl | assumption | simp [*]) rfl ?_; clear G; intro w G; go_frame)
        | (refine wpu_storeB G rfl rfl rfl rfl (by rfl) (by rfl) (by first | rfl | assumption | simp [*]) ?_; clear G; intro w G; go_frame)
        | (refine wpu_storeS G rfl rfl rfl rfl (by rfl) (by rfl) (by first | rfl | assumption | simp [*]) ?_; clear G; intro w G; go_frame))
      | ((with_reducible refine at_convert ?_); refine wpu_str G rfl rfl rfl rfl ?_; go_frame)
      | ((with_reducible refine at_slice ?_); first
        | (refine wpu_sliceLo rfl rfl rfl rfl (by first | rfl | omega) (by omega) (by omega) ?_; go_frame)
        | (refine wpu_sliceLH rfl rfl rfl rfl rfl (by first | rfl | omega) (by first | rfl | omega) (by omega) (by omega) ?_; go_frame))
      | fail)
    unfold Held
    refine Calls.mono (digitsC (a := 3) (b := 3) (by decide) (by decide) G) ?_
    clear G; rintro e w ⟨rfl, G⟩
    rw [HD.out]
    go_wp2_with (first
      | ((with_reducible refine at_alloc ?_); refine wpu_new G ?_; clear G; intro w G)
      | ((with_reducible refine at_drew ?_); refine wpu_drew G ?_; clear G; intro w G)
      | ((with_reducible refine at_load ?_); first
        | (refine wpu_load G rfl rfl rfl rfl ?_; go_frame)
        | (refine wpu_loadB G rfl rfl rfl (by rfl) ?_; go_frame)
        | (refine wpu_loadS G rfl rfl rfl (by rfl) ?_; simp only [List.drop_succ_cons, List.drop_zero, List.take_succ_cons, List.take_zero]; go_frame))
      | ((with_reducible refine at_store ?_); first
        | (refine wpu_store G rfl rfl rfl rfl (by first | rfl | assumption | simp [*]) rfl ?_; clear G; intro w G; go_frame)
        | (refine wpu_storeB G rfl rfl rfl rfl (by rfl) (by rfl) (by first | rfl | assumption | simp [*]) ?_; clear G; intro w G; go_frame)
        | (refine wpu_storeS G rfl rfl rfl rfl (by rfl) (by rfl) (by first | rfl | assumption | simp [*]) ?_; clear G; intro w G; go_frame))
      | ((with_reducible refine at_convert ?_); refine wpu_str G rfl rfl rfl rfl ?_; go_frame)
      | ((with_reducible refine at_slice ?_); first
        | (refine wpu_sliceLo rfl rfl rfl rfl (by first | rfl | omega) (by omega) (by omega) ?_; go_frame)
        | (refine wpu_sliceLH rfl rfl rfl rfl rfl (by first | rfl | omega) (by first | rfl | omega) (by omega) (by omega) ?_; go_frame))
      | fail)
    try simp only [Exit.inBlock, Exit.then]
    refine bodyPost_ret (results2 rfl (by first | exact resT rfl | exact resB G rfl (by rfl) | exact resO G rfl rfl) (by first | exact resT rfl | exact resB G rfl (by rfl) | exact resO G rfl rfl)) rfl ?_
    rw [HB.out]
    exact ⟨rfl, G.sub R⟩
  | some s =>
    obtain ⟨b, rfl, G⟩ := h
    unfold msgC
    obtain ⟨x, hx⟩ : ∃ x, (getM s.map nStatus).getD [] = x := ⟨_, rfl⟩
    have HV := Lib.hid hx
    obtain ⟨d, hd⟩ : ∃ d, digitsR x 3 3 = d := ⟨_, rfl⟩
    have HB0 : r = respD d s.len := by
      rw [← HR.out, responseR_of HO.out, ← hd, ← hx]
      rfl
    cases d with
    | none =>
      have HB : Hid (r = none) := Lib.hid HB0
      have HD : Hid (numV (digitsR x 3 3) = .tuple #[.int .i64 0, .bool false]) := Lib.hid (by rw [hd]; rfl)
      clear hd hx HB0
      skip
      go_wp2_with (first
        | (go_at_call 21; refine hold ?_)
        | ((with_reducible refine at_lookup ?_); first
          | (refine wpu_strLook G rfl (by kernel_rfl) rfl rfl (by decide) HV.out ?_; go_frame)
          | (refine wpu_nilLook rfl (by kernel_rfl) rfl rfl (by decide) ?_; go_frame))
        | ((with_reducible refine at_alloc ?_); refine wpu_new G ?_; clear G; intro w G)
        | ((with_reducible refine at_drew ?_); refine wpu_drew G ?_; clear G; intro w G)
        | ((with_reducible refine at_load ?_); first
          | (refine wpu_load G rfl rfl rfl rfl ?_; go_frame)
          | (refine wpu_loadB G rfl rfl rfl (by rfl) ?_; go_frame)
          | (refine wpu_loadS G rfl rfl rfl (by rfl) ?_; simp only [List.drop_succ_cons, List.drop_zero, List.take_succ_cons, List.take_zero]; go_frame))
        | ((with_reducible refine at_store ?_); first
          | (refine wpu_store G rfl rfl rfl rfl (by first | rfl | assumption | simp [*]) rfl ?_; clear G; intro w G; go_frame)
          | (refine wpu_storeB G rfl rfl rfl rfl (by rfl) (by rfl) (by first | rfl | assumption | simp [*]) ?_; clear G; intro w G; go_frame)
          | (refine wpu_storeS G rfl rfl rfl rfl (by rfl) (by rfl) (by first | rfl | assumption | simp [*]) ?_; clear G; intro w G; go_frame))
        | ((with_reducible refine at_convert ?_); refine wpu_str G rfl rfl rfl rfl ?_; go_frame)
        | ((with_reducible refine at_slice ?_); first
          | (refine wpu_sliceLo rfl rfl rfl rfl (by first | rfl | omega) (by omega) (by omega) ?_; go_frame)
          | (refine wpu_sliceLH rfl rfl rfl rfl rfl (by first | rfl | omega) (by first | rfl | omega) (by omega) (by omega) ?_; go_frame))
        | fail)
      unfold Held
      refine Calls.mono (digitsC (a := 3) (b := 3) (by decide) (by decide) G) ?_
      clear G; rintro e w ⟨rfl, G⟩
      rw [HD.out]
      go_wp2_with (first
        | ((with_reducible refine at_alloc ?_); refine wpu_new G ?_; clear G; intro w G)
        | ((with_reducible refine at_drew ?_); refine wpu_drew G ?_; clear G; intro w G)
        | ((with_reducible refine at_load ?_); first
          | (refine wpu_load G rfl rfl rfl rfl ?_; go_frame)
          | (refine wpu_loadB G rfl rfl rfl (by rfl) ?_; go_frame)
          | (refine wpu_loadS G rfl rfl rfl (by rfl) ?_; simp only [List.drop_succ_cons, List.drop_zero, List.take_succ_cons, List.take_zero]; go_frame))
        | ((with_reducible refine at_store ?_); first
          | (refine wpu_store G rfl rfl rfl rfl (by first | rfl | assumption | simp [*]) rfl ?_; clear G; intro w G; go_frame)
          | (refine wpu_storeB G rfl rfl rfl rfl (by rfl) (by rfl) (by first | rfl | assumption | simp [*]) ?_; clear G; intro w G; go_frame)
          | (refine wpu_storeS G rfl rfl rfl rfl (by rfl) (by rfl) (by first | rfl | assumption | simp [*]) ?_; clear G; intro w G; go_frame))
        | ((with_reducible refine at_convert ?_); refine wpu_str G rfl rfl rfl rfl ?_; go_frame)
        | ((with_reducible refine at_slice ?_); first
          | (refine wpu_sliceLo rfl rfl rfl rfl (by first | rfl | omega) (by omega) (by omega) ?_; go_frame)
          | (refine wpu_sliceLH rfl rfl rfl rfl rfl (by first | rfl | omega) (by first | rfl | omega) (by omega) (by omega) ?_; go_frame))
        | fail)
      try simp only [Exit.inBlock, Exit.then]
      refine bodyPost_ret (results2 rfl (by first | exact resT rfl | exact resB G rfl (by rfl) | exact resO G rfl rfl) (by first | exact resT rfl | exact resB G rfl (by rfl) | exact resO G rfl rfl)) rfl ?_
      rw [HB.out]
      exact ⟨rfl, G.sub R⟩
    | some n =>
      have HD : Hid (numV (digitsR x 3 3) = .tuple #[.int .i64 (n : Int), .bool true]) := Lib.hid (by rw [hd]; rfl)
      clear hd hx
      by_cases hn : n < 100
      · have HB : Hid (r = none) := Lib.hid (by rw [HB0]; simp [respD, hn])
        have y1 : decide ((n : Int) < 100) = true := by simp; omega
        have y2 : decide (n < 100) = true := by simp; omega
        clear HB0 hn
        skip
        go_wp2_with (first
          | (go_at_call 21; refine hold ?_)
          | ((with_reducible refine at_lookup ?_); first
            | (refine wpu_strLook G rfl (by kernel_rfl) rfl rfl (by decide) HV.out ?_; go_frame)
            | (refine wpu_nilLook rfl (by kernel_rfl) rfl rfl (by decide) ?_; go_frame))
          | ((with_reducible refine at_alloc ?_); refine wpu_new G ?_; clear G; intro w G)
          | ((with_reducible refine at_drew ?_); refine wpu_drew G ?_; clear G; intro w G)
          | ((with_reducible refine at_load ?_); first
            | (refine wpu_load G rfl rfl rfl rfl ?_; go_frame)
            | (refine wpu_loadB G rfl rfl rfl (by rfl) ?_; go_frame)
            | (refine wpu_loadS G rfl rfl rfl (by rfl) ?_; simp only [List.drop_succ_cons, List.drop_zero, List.take_succ_cons, List.take_zero]; go_frame))
          | ((with_reducible refine at_store ?_); first
            | (refine wpu_store G rfl rfl rfl rfl (by first | rfl | assumption | simp [*]) rfl ?_; clear G; intro w G; go_frame)
            | (refine wpu_storeB G rfl rfl rfl rfl (by rfl) (by rfl) (by first | rfl | assumption | simp [*]) ?_; clear G; intro w G; go_frame)
            | (refine wpu_storeS G rfl rfl rfl rfl (by rfl) (by rfl) (by first | rfl | assumption | simp [*]) ?_; clear G; intro w G; go_frame))
          | ((with_reducible refine at_convert ?_); refine wpu_str G rfl rfl rfl rfl ?_; go_frame)
          | ((with_reducible refine at_slice ?_); first
            | (refine wpu_sliceLo rfl rfl rfl rfl (by first | rfl | omega) (by omega) (by omega) ?_; go_frame)
            | (refine wpu_sliceLH rfl rfl rfl rfl rfl (by first | rfl | omega) (by first | rfl | omega) (by omega) (by omega) ?_; go_frame))
          | fail)
        unfold Held
        refine Calls.mono (digitsC (a := 3) (b := 3) (by decide) (by decide) G) ?_
        clear G; rintro e w ⟨rfl, G⟩
        rw [HD.out]
        go_wp2_with (first
          | ((with_reducible refine at_alloc ?_); refine wpu_new G ?_; clear G; intro w G)
          | ((with_reducible refine at_drew ?_); refine wpu_drew G ?_; clear G; intro w G)
          | ((with_reducible refine at_load ?_); first
            | (refine wpu_load G rfl rfl rfl rfl ?_; go_frame)
            | (refine wpu_loadB G rfl rfl rfl (by rfl) ?_; go_frame)
            | (refine wpu_loadS G rfl rfl rfl (by rfl) ?_; simp only [List.drop_succ_cons, List.drop_zero, List.take_succ_cons, List.take_zero]; go_frame))
          | ((with_reducible refine at_store ?_); first
            | (refine wpu_store G rfl rfl rfl rfl (by first | rfl | assumption | simp [*]) rfl ?_; clear G; intro w G; go_frame)
            | (refine wpu_storeB G rfl rfl rfl rfl (by rfl) (by rfl) (by first | rfl | assumption | simp [*]) ?_; clear G; intro w G; go_frame)
            | (refine wpu_storeS G rfl rfl rfl rfl (by rfl) (by rfl) (by first | rfl | assumption | simp [*]) ?_; clear G; intro w G; go_frame))
          | ((with_reducible refine at_convert ?_); refine wpu_str G rfl rfl rfl rfl ?_; go_frame)
          | ((with_reducible refine at_slice ?_); first
            | (refine wpu_sliceLo rfl rfl rfl rfl (by first | rfl | omega) (by omega) (by omega) ?_; go_frame)
            | (refine wpu_sliceLH rfl rfl rfl rfl rfl (by first | rfl | omega) (by first | rfl | omega) (by omega) (by omega) ?_; go_frame))
          | fail)
        try simp only [Exit.inBlock, Exit.then]
        refine bodyPost_ret (results2 rfl (by first | exact resT rfl | exact resB G rfl (by rfl) | exact resO G rfl rfl) (by first | exact resT rfl | exact resB G rfl (by rfl) | exact resO G rfl rfl)) rfl ?_
        rw [HB.out]
        exact ⟨rfl, G.sub R⟩
      · have HB : Hid (r = some ⟨[], [], [], [], n, s.len⟩) := Lib.hid (by rw [HB0]; simp [respD, hn])
        have y1 : decide ((n : Int) < 100) = false := by simp; omega
        have y2 : decide (n < 100) = false := by simp; omega
        clear HB0 hn
        skip
        go_wp2_with (first
          | (go_at_call 21; refine hold ?_)
          | ((with_reducible refine at_lookup ?_); first
            | (refine wpu_strLook G rfl (by kernel_rfl) rfl rfl (by decide) HV.out ?_; go_frame)
            | (refine wpu_nilLook rfl (by kernel_rfl) rfl rfl (by decide) ?_; go_frame))
          | ((with_reducible refine at_alloc ?_); refine wpu_new G ?_; clear G; intro w G)
          | ((with_reducible refine at_drew ?_); refine wpu_drew G ?_; clear G; intro w G)
          | ((with_reducible refine at_load ?_); first
            | (refine wpu_load G rfl rfl rfl rfl ?_; go_frame)
            | (refine wpu_loadB G rfl rfl rfl (by rfl) ?_; go_frame)
            | (refine wpu_loadS G rfl rfl rfl (by rfl) ?_; simp only [List.drop_succ_cons, List.drop_zero, List.take_succ_cons, List.take_zero]; go_frame))
          | ((with_reducible refine at_store ?_); first
            | (refine wpu_store G rfl rfl rfl rfl (by first | rfl | assumption | simp [*]) rfl ?_; clear G; intro w G; go_frame)
            | (refine wpu_storeB G rfl rfl rfl rfl (by rfl) (by rfl) (by first | rfl | assumption | simp [*]) ?_; clear G; intro w G; go_frame)
            | (refine wpu_storeS G rfl rfl rfl rfl (by rfl) (by rfl) (by first | rfl | assumption | simp [*]) ?_; clear G; intro w G; go_frame))
          | ((with_reducible refine at_convert ?_); refine wpu_str G rfl rfl rfl rfl ?_; go_frame)
          | ((with_reducible refine at_slice ?_); first
            | (refine wpu_sliceLo rfl rfl rfl rfl (by first | rfl | omega) (by omega) (by omega) ?_; go_frame)
            | (refine wpu_sliceLH rfl rfl rfl rfl rfl (by first | rfl | omega) (by first | rfl | omega) (by omega) (by omega) ?_; go_frame))
          | fail)
        unfold Held
        refine Calls.mono (digitsC (a := 3) (b := 3) (by decide) (by decide) G) ?_
        clear G; rintro e w ⟨rfl, G⟩
        rw [HD.out]
        go_wp2_with (first
          | ((with_reducible refine at_alloc ?_); refine wpu_new G ?_; clear G; intro w G)
          | ((with_reducible refine at_drew ?_); refine wpu_drew G ?_; clear G; intro w G)
          | ((with_reducible refine at_load ?_); first
            | (refine wpu_load G rfl rfl rfl rfl ?_; go_frame)
            | (refine wpu_loadB G rfl rfl rfl (by rfl) ?_; go_frame)
            | (refine wpu_loadS G rfl rfl rfl (by rfl) ?_; simp only [List.drop_succ_cons, List.drop_zero, List.take_succ_cons, List.take_zero]; go_frame))
          | ((with_reducible refine at_store ?_); first
            | (refine wpu_store G rfl rfl rfl rfl (by first | rfl | assumption | simp [*]) rfl ?_; clear G; intro w G; go_frame)
            | (refine wpu_storeB G rfl rfl rfl rfl (by rfl) (by rfl) (by first | rfl | assumption | simp [*]) ?_; clear G; intro w G; go_frame)
            | (refine wpu_storeS G rfl rfl rfl rfl (by rfl) (by rfl) (by first | rfl | assumption | simp [*]) ?_; clear G; intro w G; go_frame))
          | ((with_reducible refine at_convert ?_); refine wpu_str G rfl rfl rfl rfl ?_; go_frame)
          | ((with_reducible refine at_slice ?_); first
            | (refine wpu_sliceLo rfl rfl rfl rfl (by first | rfl | omega) (by omega) (by omega) ?_; go_frame)
            | (refine wpu_sliceLH rfl rfl rfl rfl rfl (by first | rfl | omega) (by first | rfl | omega) (by omega) (by omega) ?_; go_frame))
          | fail)
        try simp only [Exit.inBlock, Exit.then]
        refine bodyPost_ret (results2 rfl (by first | exact resT rfl | exact resB G rfl (by rfl) | exact resO G rfl rfl) (by first | exact resT rfl | exact resB G rfl (by rfl) | exact resO G rfl rfl)) rfl ?_
        rw [HB.out]
        exact ⟨rfl, G.sub R⟩

theorem requestR_of {L : List Fd} {s : Ms} (h : messageR reqN L = some s) : requestR L = if requestOk s.map = true then some ⟨getV s.map nMethod, getV s.map nScheme, getV s.map nAuth, getV s.map nPath, 0, s.len⟩ else none := by
  unfold requestR
  rw [h]
end Go.Proofs.YtnjldofiogbolaaDoor
