
/-
  Package match: the document's matchers of all of a list, and gRPC.
-/
import Derived.Test.YtndlfieignhjjaaDoorMtAsk3
namespace Go.Proofs.YtndlfieignhjjaaDoor
open Go.RowKit Go.Sl Go.ChangeShapes

def grpcV (v : Txt) : Bool := decide (v = [97, 112, 112, 108, 105, 99, 97, 116, 105, 111, 110, 47, 103, 114, 112, 99]) || ([97, 112, 112, 108, 105, 99, 97, 116, 105, 111, 110, 47, 103, 114, 112, 99, 43] : Txt).isPrefixOf v || ([97, 112, 112, 108, 105, 99, 97, 116, 105, 111, 110, 47, 103, 114, 112, 99, 59] : Txt).isPrefixOf v
def isG (f : Fd) : Bool := decide (f.1 = [99, 111, 110, 116, 101, 110, 116, 45, 116, 121, 112, 101]) && grpcV f.2.1
def grpcR (L : List Fd) : Bool := L.any isG

theorem grpcV_app (r : Txt) : grpcV ([97, 112, 112, 108, 105, 99, 97, 116, 105, 111, 110, 47, 103, 114, 112, 99] ++ r) = match r with | [] => true | c :: _ => decide (c = 43) || decide (c = 59) := by
  unfold grpcV
  cases r with
  | nil => simp
  | cons c r => 
    have e1 : decide (([97, 112, 112, 108, 105, 99, 97, 116, 105, 111, 110, 47, 103, 114, 112, 99] : Txt) ++ c :: r = [97, 112, 112, 108, 105, 99, 97, 116, 105, 111, 110, 47, 103, 114, 112, 99]) = false := by
      refine decide_eq_false fun e => ?_
      have := congrArg List.length e
      rw [List.length_append] at this
      simp only [List.length_cons] at this
      omega
    have e2 : ∀ d : UInt8, (([97, 112, 112, 108, 105, 99, 97, 116, 105, 111, 110, 47, 103, 114, 112, 99] : Txt) ++ [d]).isPrefixOf ([97, 112, 112, 108, 105, 99, 97, 116, 105, 111, 110, 47, 103, 114, 112, 99] ++ c :: r) = (d == c) := fun d => by
      rw [Bool.eq_iff_iff, List.isPrefixOf_iff_prefix, List.prefix_append_right_inj, List.cons_prefix_cons]
      have := List.nil_prefix (l := r)
      exact ⟨fun e => beq_iff_eq.2 e.1, fun e => ⟨beq_iff_eq.1 e, this⟩⟩
    have a1 : ([97, 112, 112, 108, 105, 99, 97, 116, 105, 111, 110, 47, 103, 114, 112, 99, 43] : Txt).isPrefixOf ([97, 112, 112, 108, 105, 99, 97, 116, 105, 111, 110, 47, 103, 114, 112, 99] ++ c :: r) = (43 == c) := e2 43
    have a2 : ([97, 112, 112, 108, 105, 99, 97, 116, 105, 111, 110, 47, 103, 114, 112, 99, 59] : Txt).isPrefixOf ([97, 112, 112, 108, 105, 99, 97, 116, 105, 111, 110, 47, 103, 114, 112, 99] ++ c :: r) = (59 == c) := e2 59
    rw [e1, a1, a2, Bool.false_or]
    show (43 == c || 59 == c) = (decide (c = 43) || decide (c = 59))
    have e3 : ∀ d : UInt8, (d == c) = decide (c = d) := fun d => by
      rw [Bool.eq_iff_iff]
      exact ⟨fun e => decide_eq_true (beq_iff_eq.1 e).symm, fun e => beq_iff_eq.2 (of_decide_eq_true e).symm⟩
    rw [e3, e3]
theorem grpcV_not {v : Txt} (h : ([97, 112, 112, 108, 105, 99, 97, 116, 105, 111, 110, 47, 103, 114, 112, 99] : Txt).isPrefixOf v = false) : grpcV v = false := by
  have hn : ¬ ([97, 112, 112, 108, 105, 99, 97, 116, 105, 111, 110, 47, 103, 114, 112, 99] : Txt) <+: v := fun e => by rw [List.isPrefixOf_iff_prefix.2 e] at h; cases h
  unfold grpcV
  rw [Bool.or_eq_false_iff, Bool.or_eq_false_iff]
  refine ⟨⟨?_, ?_⟩, ?_⟩
  · refine decide_eq_false fun e => hn ?_
    rw [e]
    exact List.prefix_rfl
  · cases hx : ([97, 112, 112, 108, 105, 99, 97, 116, 105, 111, 110, 47, 103, 114, 112, 99, 43] : Txt).isPrefixOf v
    · rfl
    · exact absurd (List.IsPrefix.trans ⟨[43], rfl⟩ (List.isPrefixOf_iff_prefix.1 hx)) hn
  · cases hx : ([97, 112, 112, 108, 105, 99, 97, 116, 105, 111, 110, 47, 103, 114, 112, 99, 59] : Txt).isPrefixOf v
    · rfl
    · exact absurd (List.IsPrefix.trans ⟨[59], rfl⟩ (List.isPrefixOf_iff_prefix.1 hx)) hn


set_option maxHeartbeats 8000000 in
set_option maxRecDepth 100000 in
theorem grpc1C {B w : World} {R : Assn} {f : Fd} (h : Own B R w) :
    Calls Tryd.prog 46 #[.agg #[str f.1, str f.2.1, .bool f.2.2]] w fun e w' => e = .returned (.bool (isG f)) ∧ Own B R w' := by
  obtain ⟨fn, fv, fb⟩ := f
  simp only
  obtain ⟨q, hq⟩ : ∃ q, decide (fn = [99, 111, 110, 116, 101, 110, 116, 45, 116, 121, 112, 101]) = q := ⟨_, rfl⟩
  have HB0 : Hid (isG (fn, fv, fb) = (q && grpcV fv)) := Lib.hid (by unfold isG; rw [← hq])
  have hcut := cutPrefixC fv [97, 112, 112, 108, 105, 99, 97, 116, 105, 111, 110, 47, 103, 114, 112, 99]
  cases hp : ([97, 112, 112, 108, 105, 99, 97, 116, 105, 111, 110, 47, 103, 114, 112, 99] : Txt).isPrefixOf fv
  · have HB : Hid (isG (fn, fv, fb) = false) := Lib.hid (by rw [HB0.out, grpcV_not hp, Bool.and_false])
    have HCUT : Hid (∀ w, Calls Tryd.prog 28 #[str fv, str [97, 112, 112, 108, 105, 99, 97, 116, 105, 111, 110, 47, 103, 114, 112, 99]] w fun e w' => e = .returned (.tuple #[str fv, .bool false]) ∧ w' = w) := Lib.hid fun w => by
      have := hcut w
      rwa [hp, if_neg (by simp)] at this
    clear hcut hp HB0
    cases q
    · skip
      as_aux_lemma =>
      go_enter Tryd.func46, Tryd.ntmps46
      go_wp2_with (first
        | (go_at_call 28; refine Calls.mono (HCUT.out _) ?_; rintro e w ⟨rfl, rfl⟩)
        | ((with_reducible refine at_strAt ?_); refine wpu_strAt (i := 0) rfl (by kernel_rfl) rfl rfl rfl HC.out ?_; go_frame)
        | ((with_reducible refine at_eqS ?_); refine wpu_eqS rfl (by kernel_rfl) rfl rfl (by first | assumption | rfl) ?_; go_frame)
        | fail)
      go_ret
      exact ⟨by rw [HB.out]; rfl, own_alloc h _⟩
    · skip
      as_aux_lemma =>
      go_enter Tryd.func46, Tryd.ntmps46
      go_wp2_with (first
        | (go_at_call 28; refine Calls.mono (HCUT.out _) ?_; rintro e w ⟨rfl, rfl⟩)
        | ((with_reducible refine at_strAt ?_); refine wpu_strAt (i := 0) rfl (by kernel_rfl) rfl rfl rfl HC.out ?_; go_frame)
        | ((with_reducible refine at_eqS ?_); refine wpu_eqS rfl (by kernel_rfl) rfl rfl (by first | assumption | rfl) ?_; go_frame)
        | fail)
      go_ret
      exact ⟨by rw [HB.out]; rfl, own_alloc h _⟩
  · obtain ⟨r, rfl⟩ : ∃ r, fv = [97, 112, 112, 108, 105, 99, 97, 116, 105, 111, 110, 47, 103, 114, 112, 99] ++ r := by
      obtain ⟨r, hr⟩ := List.isPrefixOf_iff_prefix.1 hp
      exact ⟨r, hr.symm⟩
    have HCUT0 : ∀ w, Calls Tryd.prog 28 #[str ([97, 112, 112, 108, 105, 99, 97, 116, 105, 111, 110, 47, 103, 114, 112, 99] ++ r), str [97, 112, 112, 108, 105, 99, 97, 116, 105, 111, 110, 47, 103, 114, 112, 99]] w fun e w' => e = .returned (.tuple #[str r, .bool true]) ∧ w' = w := fun w => by
      have := hcut w
      rw [hp, if_pos rfl] at this
      simpa using this
    rw [grpcV_app] at HB0
    obtain ⟨v, hv⟩ : ∃ v, ([97, 112, 112, 108, 105, 99, 97, 116, 105, 111, 110, 47, 103, 114, 112, 99] : Txt) ++ r = v := ⟨_, rfl⟩
    rw [hv] at HCUT0 HB0 ⊢
    have HCUT := Lib.hid HCUT0
    clear hcut hp hv HCUT0
    cases r with
    | nil =>
      have y1 : decide (([] : Txt) = []) = true := rfl
      cases q
      · have HB : Hid (isG (fn, v, fb) = false) := Lib.hid (by rw [HB0.out]; rfl)
        clear HB0
        skip
        as_aux_lemma =>
        go_enter Tryd.func46, Tryd.ntmps46
        go_wp2_with (first
          | (go_at_call 28; refine Calls.mono (HCUT.out _) ?_; rintro e w ⟨rfl, rfl⟩)
          | ((with_reducible refine at_strAt ?_); refine wpu_strAt (i := 0) rfl (by kernel_rfl) rfl rfl rfl HC.out ?_; go_frame)
          | ((with_reducible refine at_eqS ?_); refine wpu_eqS rfl (by kernel_rfl) rfl rfl (by first | assumption | rfl) ?_; go_frame)
          | fail)
        go_ret
        exact ⟨by rw [HB.out]; rfl, own_alloc h _⟩
      · have HB : Hid (isG (fn, v, fb) = true) := Lib.hid (by rw [HB0.out]; rfl)
        clear HB0
        skip
        as_aux_lemma =>
        go_enter Tryd.func46, Tryd.ntmps46
        go_wp2_with (first
          | (go_at_call 28; refine Calls.mono (HCUT.out _) ?_; rintro e w ⟨rfl, rfl⟩)
          | ((with_reducible refine at_strAt ?_); refine wpu_strAt (i := 0) rfl (by kernel_rfl) rfl rfl rfl HC.out ?_; go_frame)
          | ((with_reducible refine at_eqS ?_); refine wpu_eqS rfl (by kernel_rfl) rfl rfl (by first | assumption | rfl) ?_; go_frame)
          | fail)
        go_ret
        exact ⟨by rw [HB.out]; rfl, own_alloc h _⟩
    | cons c r =>
      have y1 : decide (c :: r = []) = false := by simp
      have HC : Hid ((c :: r)[0]? = some c) := Lib.hid rfl
      obtain ⟨rr, hrr⟩ : ∃ rr, c :: r = rr := ⟨_, rfl⟩
      cases q
      · have HB : Hid (isG (fn, v, fb) = false) := Lib.hid (by rw [HB0.out]; rfl)
        rw [hrr] at HCUT HC y1
        clear HB0 hrr
        skip
        as_aux_lemma =>
        go_enter Tryd.func46, Tryd.ntmps46
        go_wp2_with (first
          | (go_at_call 28; refine Calls.mono (HCUT.out _) ?_; rintro e w ⟨rfl, rfl⟩)
          | ((with_reducible refine at_strAt ?_); refine wpu_strAt (i := 0) rfl (by kernel_rfl) rfl rfl rfl HC.out ?_; go_frame)
          | ((with_reducible refine at_eqS ?_); refine wpu_eqS rfl (by kernel_rfl) rfl rfl (by first | assumption | rfl) ?_; go_frame)
          | fail)
        go_ret
        exact ⟨by rw [HB.out]; rfl, own_alloc h _⟩
      · by_cases c1 : c = 43
        · subst c1
          have HB : Hid (isG (fn, v, fb) = true) := Lib.hid (by rw [HB0.out]; simp)
          rw [hrr] at HCUT HC y1
          clear HB0 hrr
          skip
          as_aux_lemma =>
          go_enter Tryd.func46, Tryd.ntmps46
          go_wp2_with (first
            | (go_at_call 28; refine Calls.mono (HCUT.out _) ?_; rintro e w ⟨rfl, rfl⟩)
            | ((with_reducible refine at_strAt ?_); refine wpu_strAt (i := 0) rfl (by kernel_rfl) rfl rfl rfl HC.out ?_; go_frame)
            | ((with_reducible refine at_eqS ?_); refine wpu_eqS rfl (by kernel_rfl) rfl rfl (by first | assumption | rfl) ?_; go_frame)
            | fail)
          go_ret
          exact ⟨by rw [HB.out]; rfl, own_alloc h _⟩
        · obtain ⟨k1, k2⟩ := beq_u8 c1
          have k3 : ((c.toNat : Int) == 43) = false := k1
          have k4 : (c.toNat == 43) = false := k2
          by_cases c2 : c = 59
          · subst c2
            have HB : Hid (isG (fn, v, fb) = true) := Lib.hid (by rw [HB0.out]; simp)
            rw [hrr] at HCUT HC y1
            clear HB0 hrr c1 k1 k2
            skip
            as_aux_lemma =>
            go_enter Tryd.func46, Tryd.ntmps46
            go_wp2_with (first
              | (go_at_call 28; refine Calls.mono (HCUT.out _) ?_; rintro e w ⟨rfl, rfl⟩)
              | ((with_reducible refine at_strAt ?_); refine wpu_strAt (i := 0) rfl (by kernel_rfl) rfl rfl rfl HC.out ?_; go_frame)
              | ((with_reducible refine at_eqS ?_); refine wpu_eqS rfl (by kernel_rfl) rfl rfl (by first | assumption | rfl) ?_; go_frame)
              | fail)
            go_ret
            exact ⟨by rw [HB.out]; rfl, own_alloc h _⟩
          · obtain ⟨l1, l2⟩ := beq_u8 c2
            have l3 : ((c.toNat : Int) == 59) = false := l1
            have l4 : (c.toNat == 59) = false := l2
            have HB : Hid (isG (fn, v, fb) = false) := Lib.hid (by rw [HB0.out]; simp [c1, c2])
            rw [hrr] at HCUT HC y1
            clear HB0 hrr c1 c2 k1 k2 l1 l2
            skip
            as_aux_lemma =>
            go_enter Tryd.func46, Tryd.ntmps46
            go_wp2_with (first
              | (go_at_call 28; refine Calls.mono (HCUT.out _) ?_; rintro e w ⟨rfl, rfl⟩)
              | ((with_reducible refine at_strAt ?_); refine wpu_strAt (i := 0) rfl (by kernel_rfl) rfl rfl rfl HC.out ?_; go_frame)
              | ((with_reducible refine at_eqS ?_); refine wpu_eqS rfl (by kernel_rfl) rfl rfl (by first | assumption | rfl) ?_; go_frame)
              | fail)
            go_ret
            exact ⟨by rw [HB.out]; rfl, own_alloc h _⟩

set_option maxHeartbeats 8000000 in
set_option maxRecDepth 100000 in
theorem idxGrpcC {B w : World} {R : Assn} {L : List Fd} {v : Value} (h : Own B R w) (hl : ∀ w, Own B R w → rd w 3 v L.length (fds L)) :
    Calls Tryd.prog 53 #[v, .func (.func 46) #[] #[]] w fun e w' => e = .returned (.int .i64 (firstR isG L)) ∧ Own B R w' := by
  have htr : ∀ m ∈ L, True := fun _ _ => trivial
  obtain ⟨ao, ac, rfl, i1, i2, -⟩ := id (hl w h)
  unfold maxLen at i2
  go_enter Tryd.func53, Tryd.ntmps53
  go_wp2_with fail
  go_loopw [5, 8] (fun _ i wr => ∃ j : Nat, i = .int .i64 j ∧ j ≤ L.length ∧ Hid (∀ f ∈ L.take j, isG f = false) ∧ Own B R wr) (fun _ i _ => L.length - (intOf i).toNat)
  case atStart => exact ⟨0, rfl, Nat.zero_le _, Lib.hid (by simp), h⟩
  case round =>
    clear h
    obtain ⟨j, rfl, hj, HA, G⟩ := hrel
    by_cases hjn : j < L.length
    · obtain ⟨f, hf⟩ : ∃ f, L[j]? = some f := ⟨L[j], List.getElem?_eq_getElem hjn⟩
      obtain ⟨ad, rfl⟩ := rd_some (hl _ G) (by omega)
      have HF := Lib.hid (fds_at hf)
      have hfl := htr f (List.mem_of_getElem? hf)
      obtain ⟨r, hr⟩ : ∃ r, isG f = r := ⟨_, rfl⟩
      have HR := Lib.hid hr
      have HSPLIT : Hid (L = L.take j ++ f :: L.drop (j + 1)) := Lib.hid (by
        have := (List.getElem?_eq_some_iff.1 hf).2
        rw [← this, List.getElem_cons_drop, List.take_append_drop])
      have HTK : Hid (L.take (j + 1) = L.take j ++ [f]) := Lib.hid (by rw [List.take_add_one, hf]; rfl)
      clear hf hr
      go_wp2_with (first
        | ((with_reducible refine at_load ?_); refine wpu_loadE (k := j) (hl _ G) HF.out rfl (by kernel_rfl) rfl rfl ?_; go_frame)
        | fail)
      refine Calls.mono (grpc1C G) ?_
      clear G; rintro e w ⟨rfl, G⟩
      rw [HR.out]
      cases r
      · go_wp2_with fail
        go_roundw
        case rel => exact ⟨j + 1, by go_num, by omega, Lib.hid (by
          rw [HTK.out]
          intro g hg
          rcases List.mem_append.1 hg with hg | hg
          · exact HA.out g hg
          · rw [List.mem_singleton.1 hg]; exact HR.out), G⟩
        case measure => simp [intOf] <;> omega
      · go_wp2_with fail
        go_ret
        refine ⟨?_, G⟩
        have e : firstR isG L = j := by
          rw [HSPLIT.out, firstR_app HA.out]
          have : firstR isG (f :: L.drop (j + 1)) = 0 := by rw [firstR_cons, HR.out]; rfl
          rw [this]
          simp
          omega
        rw [e]
        rfl
    · go_wp2_with fail
      go_ret
      refine ⟨?_, G⟩
      have e : firstR isG L = -1 := by
        have := firstR_app (l2 := []) HA.out
        rw [List.append_nil, List.take_of_length_le (by omega)] at this
        rw [this]
        rfl
      rw [e]
      rfl

set_option maxHeartbeats 8000000 in
set_option maxRecDepth 100000 in
theorem grpcC {B w : World} {R : Assn} {L : List Fd} {v : Value} (h : Own B R w) (hl : ∀ w, Own B R w → rd w 3 v L.length (fds L)) :
    Calls Tryd.prog 26 #[v] w fun e w' => e = .returned (.bool (grpcR L)) ∧ Own B R w' := by
  have HC : Calls Tryd.prog 40 #[v, .func (.func 46) #[] #[]] w fun e w' => e = .returned (.bool (grpcR L)) ∧ Own B R w' := by
    unfold grpcR
    rw [← firstR_any]
    go_enter Tryd.func40, Tryd.ntmps40
    go_wp2_with fail
    refine Calls.mono (idxGrpcC h hl) ?_
    clear h; rintro e w ⟨rfl, h⟩
    go_wp2_with fail
    go_ret
    exact ⟨rfl, h⟩
  go_enter Tryd.func26, Tryd.ntmps26
  go_wp2_with fail
  refine Calls.mono HC ?_
  clear h HC; rintro e w ⟨rfl, h⟩
  go_wp2_with fail
  go_ret
  exact ⟨rfl, h⟩
end Go.Proofs.YtndlfieignhjjaaDoor
