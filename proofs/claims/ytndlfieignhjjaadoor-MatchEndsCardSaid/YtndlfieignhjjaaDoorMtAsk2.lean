
/-
  Package match: matchers of all of a list, and gRPC.
-/
import Derived.Test.YtndlfieignhjjaaDoorMtAsk
namespace Go.Proofs.YtndlfieignhjjaaDoor
open Go.RowKit Go.Sl Go.ChangeShapes

def mrs (l : List Mr) : List Value := l.flatMap Mr.cs
theorem mrs_len (l : List Mr) : (mrs l).length = l.length * 4 := by induction l with | nil => rfl | cons f l ih => simp [mrs, Mr.cs] at ih ⊢; omega
theorem mrs_app (l m : List Mr) : mrs l ++ mrs m = mrs (l ++ m) := by simp [mrs]
theorem mrs_at {l : List Mr} {i : Nat} {f : Mr} (h : l[i]? = some f) : ((mrs l).drop (i * 4)).take 4 = [str f.name, str f.value, .int .i64 f.how, .bool f.no] := by
  induction l generalizing i with
  | nil => simp at h
  | cons g l ih =>
    cases i with
    | zero => simp at h; subst h; simp [mrs, Mr.cs]
    | succ i =>
      rw [List.getElem?_cons_succ] at h
      have e : (mrs (g :: l)).drop ((i + 1) * 4) = (mrs l).drop (i * 4) := by
        show (g.cs ++ mrs l).drop _ = _
        rw [List.drop_append, List.drop_eq_nil_of_le (by show 4 ≤ (i + 1) * 4; omega)]
        simp [Mr.cs, show (i + 1) * 4 - 4 = i * 4 by omega]
      rw [e]
      exact ih h

set_option maxHeartbeats 8000000 in
set_option maxRecDepth 100000 in
theorem lacksC {B w : World} {R : Assn} {m : Mr} {L : List Fd} {v : Value} {c : Nat} (hlen : ∀ f ∈ L, f.2.1.length ≤ 9223372036854775807) (h : Own B (blk c [v] * R) w) (hl : ∀ w, Own B (blk c [v] * R) w → rd w 3 v L.length (fds L)) :
    Calls Tryd.prog 44 #[.agg #[str m.name, str m.value, .int .i64 m.how, .bool m.no], .pointer (some ⟨c, 0, none⟩)] w fun e w' => e = .returned (.bool (!fieldR m L)) ∧ Own B (blk c [v] * R) w' := by
  have hv := hl w h
  obtain ⟨ao, ac, rfl, i1, i2, -⟩ := id hv
  unfold maxLen at i2
  clear hv
  go_enter Tryd.func44, Tryd.ntmps44
  go_wp2_with (first
    | ((with_reducible refine at_load ?_); first
      | (refine wpu_load (own_alloc h _) rfl (by kernel_rfl) rfl rfl ?_; go_frame)
      | (refine wpu_loadB (own_alloc h _) rfl (by kernel_rfl) rfl (by rfl) ?_; go_frame))
    | fail)
  refine Calls.mono (fieldC hlen (own_alloc h _) hl) ?_
  clear h; rintro e w ⟨rfl, h⟩
  go_wp2_with fail
  go_ret
  exact ⟨rfl, h⟩

set_option maxHeartbeats 8000000 in
set_option maxRecDepth 100000 in
theorem idxLacksC {B w : World} {R : Assn} {M : List Mr} {L : List Mr} {F : List Fd} {v u : Value} {c : Nat} (hlen : ∀ f ∈ F, f.2.1.length ≤ 9223372036854775807) (h : Own B (blk c [u] * R) w) (hu : ∀ w, Own B (blk c [u] * R) w → rd w 3 u F.length (fds F)) (hl : ∀ w, Own B (blk c [u] * R) w → rd w 4 v L.length (mrs L)) :
    Calls Tryd.prog 54 #[v, .func (.func 44) #[] #[.pointer (some ⟨c, 0, none⟩)]] w fun e w' => e = .returned (.int .i64 (firstR (fun m => !fieldR m F) L)) ∧ Own B (blk c [u] * R) w' := by
  have htr : ∀ m ∈ L, True := fun _ _ => trivial
  obtain ⟨ao, ac, rfl, i1, i2, -⟩ := id (hl w h)
  unfold maxLen at i2
  go_enter Tryd.func54, Tryd.ntmps54
  go_wp2_with fail
  go_loopw [5, 8] (fun _ i wr => ∃ j : Nat, i = .int .i64 j ∧ j ≤ L.length ∧ Hid (∀ f ∈ L.take j, (fun m => !fieldR m F) f = false) ∧ Own B (blk c [u] * R) wr) (fun _ i _ => L.length - (intOf i).toNat)
  case atStart => exact ⟨0, rfl, Nat.zero_le _, Lib.hid (by simp), h⟩
  case round =>
    clear h
    obtain ⟨j, rfl, hj, HA, G⟩ := hrel
    by_cases hjn : j < L.length
    · obtain ⟨f, hf⟩ : ∃ f, L[j]? = some f := ⟨L[j], List.getElem?_eq_getElem hjn⟩
      obtain ⟨ad, rfl⟩ := rd_some (hl _ G) (by omega)
      have HF := Lib.hid (mrs_at hf)
      have hfl := htr f (List.mem_of_getElem? hf)
      obtain ⟨r, hr⟩ : ∃ r, (fun m => !fieldR m F) f = r := ⟨_, rfl⟩
      have HR := Lib.hid hr
      have HSPLIT : Hid (L = L.take j ++ f :: L.drop (j + 1)) := Lib.hid (by
        have := (List.getElem?_eq_some_iff.1 hf).2
        rw [← this, List.getElem_cons_drop, List.take_append_drop])
      have HTK : Hid (L.take (j + 1) = L.take j ++ [f]) := Lib.hid (by rw [List.take_add_one, hf]; rfl)
      clear hf hr
      go_wp2_with (first
        | ((with_reducible refine at_load ?_); refine wpu_loadE (k := j) (hl _ G) HF.out rfl (by kernel_rfl) rfl rfl ?_; go_frame)
        | fail)
      refine Calls.mono (lacksC hlen G hu) ?_
      clear G; rintro e w ⟨rfl, G⟩
      rw [HR.out]
      cases r
      · go_wp2_with fail
        go_roundw
        case rel => exact ⟨j + 1, by go_num, by omega, Lib.hid (by
          rw [HTK.out]
          intro g hg
          rcases List.mem_append.1 hg with hg | hg
          · exact HA.out g hg
          · rw [List.mem_singleton.1 hg]; exact HR.out), G⟩
        case measure => simp [intOf] <;> omega
      · go_wp2_with fail
        go_ret
        refine ⟨?_, G⟩
        have e : firstR (fun m => !fieldR m F) L = j := by
          rw [HSPLIT.out, firstR_app HA.out]
          have : firstR (fun m => !fieldR m F) (f :: L.drop (j + 1)) = 0 := by rw [firstR_cons, HR.out]; rfl
          rw [this]
          simp
          omega
        rw [e]
        rfl
    · go_wp2_with fail
      go_ret
      refine ⟨?_, G⟩
      have e : firstR (fun m => !fieldR m F) L = -1 := by
        have := firstR_app (l2 := []) HA.out
        rw [List.append_nil, List.take_of_length_le (by omega)] at this
        rw [this]
        rfl
      rw [e]
      rfl

set_option maxHeartbeats 8000000 in
set_option maxRecDepth 100000 in
theorem containsLacksC {B w : World} {R : Assn} {L : List Mr} {F : List Fd} {v u : Value} {c : Nat} (hlen : ∀ f ∈ F, f.2.1.length ≤ 9223372036854775807) (h : Own B (blk c [u] * R) w) (hu : ∀ w, Own B (blk c [u] * R) w → rd w 3 u F.length (fds F)) (hl : ∀ w, Own B (blk c [u] * R) w → rd w 4 v L.length (mrs L)) :
    Calls Tryd.prog 43 #[v, .func (.func 44) #[] #[.pointer (some ⟨c, 0, none⟩)]] w fun e w' => e = .returned (.bool (L.any (fun m => !fieldR m F))) ∧ Own B (blk c [u] * R) w' := by
  rw [← firstR_any]
  go_enter Tryd.func43, Tryd.ntmps43
  go_wp2_with fail
  refine Calls.mono (idxLacksC (M := L) hlen h hu hl) ?_
  clear h; rintro e w ⟨rfl, h⟩
  go_wp2_with fail
  go_ret
  exact ⟨rfl, h⟩

set_option maxHeartbeats 8000000 in
set_option maxRecDepth 100000 in
theorem fieldsC {B w : World} {R : Assn} {L : List Mr} {F : List Fd} {v u : Value} (hlen : ∀ f ∈ F, f.2.1.length ≤ 9223372036854775807) (h : Own B R w) (hu : ∀ w, Own B R w → rd w 3 u F.length (fds F)) (hl : ∀ w, Own B R w → rd w 4 v L.length (mrs L)) :
    Calls Tryd.prog 23 #[v, u] w fun e w' => e = .returned (.bool (L.all fun m => fieldR m F)) ∧ Own B R w' := by
  have hmf : ∀ (fn : Fn) (first cap : Array Value) (w : World), (Instr.makeFunc fn first cap).run Tryd.prog w = .ok (.func fn first cap) w := fun _ _ _ _ => rfl
  have hv := hu w h
  obtain ⟨ao, ac, rfl, i1, i2, -⟩ := id hv
  unfold maxLen at i2
  clear hv
  have G := own_new h [.slice ao F.length ac] 33
  go_enter Tryd.func23, Tryd.ntmps23
  go_wp2_with fail
  refine Calls.mono (containsLacksC hlen G (fun w h => hu w h.right) (fun w h => hl w h.right)) ?_
  clear G; rintro e w ⟨rfl, G⟩
  go_wp2_with fail
  go_ret
  exact ⟨by rw [List.all_eq_not_any_not]; rfl, G.right⟩

set_option maxHeartbeats 4000000 in
set_option maxRecDepth 100000 in
theorem beginsB {s t : Txt} (hs : s.length ≤ 9223372036854775807) (ht : t.length ≤ 9223372036854775807) (w : World) : Calls Tryd.prog 33 #[str s, str t] w fun e w' => e = .returned (.bool (t.isPrefixOf s)) ∧ w' = w := by
  have HE := Lib.hid (Lib.hasPrefix_of_take s t)
  go_enter Tryd.func33, Tryd.ntmps33
  by_cases hl : t.length ≤ s.length
  · go_wp2_with (first
      | ((with_reducible refine at_sliceAny ?_); refine wpu_strH (j := t.length) rfl rfl rfl rfl rfl (by omega) ?_; go_frame)
      | ((with_reducible refine at_eqS ?_); refine wpu_eqS rfl rfl rfl rfl rfl ?_; go_frame)
      | fail)
    go_ret
    refine ⟨?_, rfl⟩
    have := HE.out
    unfold Lib.hasPrefix at this
    rw [← this]
    simp [hl]
    rw [Bool.eq_iff_iff]
    simp
  · go_wp2_with fail
    go_ret
    refine ⟨?_, rfl⟩
    have := HE.out
    unfold Lib.hasPrefix at this
    rw [← this]
    simp [hl]

set_option maxHeartbeats 4000000 in
set_option maxRecDepth 100000 in
theorem endsB {s t : Txt} (hs : s.length ≤ 9223372036854775807) (ht : t.length ≤ 9223372036854775807) (w : World) : Calls Tryd.prog 34 #[str s, str t] w fun e w' => e = .returned (.bool (t.isSuffixOf s)) ∧ w' = w := by
  have HE := Lib.hid (Lib.hasSuffix_of_drop s t)
  go_enter Tryd.func34, Tryd.ntmps34
  by_cases hl : t.length ≤ s.length
  · go_wp2_with (first
      | ((with_reducible refine at_sliceAny ?_); refine wpu_strL (i := s.length - t.length) rfl rfl rfl rfl (by omega) (by omega) ?_; go_frame)
      | ((with_reducible refine at_eqS ?_); refine wpu_eqS rfl rfl rfl rfl rfl ?_; go_frame)
      | fail)
    go_ret
    refine ⟨?_, rfl⟩
    have := HE.out
    unfold Lib.hasSuffix at this
    rw [← this]
    simp [hl]
    rw [Bool.eq_iff_iff]
    simp
  · go_wp2_with fail
    go_ret
    refine ⟨?_, rfl⟩
    have := HE.out
    unfold Lib.hasSuffix at this
    rw [← this]
    simp [hl]
end Go.Proofs.YtndlfieignhjjaaDoor
