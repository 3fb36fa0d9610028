
/-
  Package match: matchers.
-/
import Derived.Test.YtndlfieignhjjaaDoorMt8
namespace Go.Proofs.YtndlfieignhjjaaDoor
open Go.RowKit Go.Sl Go.ChangeShapes

structure Mr where
  name : Txt
  value : Txt
  how : Int
  no : Bool
def Mr.cs (m : Mr) : List Value := [str m.name, str m.value, .int .i64 m.how, .bool m.no]
def Mr.v (m : Mr) : Value := .agg m.cs.toArray
def asksR (m : Mr) (v : Txt) : Bool :=
  if m.how = 0 then true else if m.how = 1 then decide (v = m.value) else if m.how = 2 then m.value.isPrefixOf v else if m.how = 3 then m.value.isSuffixOf v else false

theorem how5 (h : Int) : h = 0 ∨ h = 1 ∨ h = 2 ∨ h = 3 ∨ (h ≠ 0 ∧ h ≠ 1 ∧ h ≠ 2 ∧ h ≠ 3 ∧ (h == 0) = false ∧ (h == 1) = false ∧ (h == 2) = false ∧ (h == 3) = false) := by
  by_cases h0 : h = 0
  · exact .inl h0
  by_cases h1 : h = 1
  · exact .inr (.inl h1)
  by_cases h2 : h = 2
  · exact .inr (.inr (.inl h2))
  by_cases h3 : h = 3
  · exact .inr (.inr (.inr (.inl h3)))
  exact .inr (.inr (.inr (.inr ⟨h0, h1, h2, h3, by simp [h0], by simp [h1], by simp [h2], by simp [h3]⟩)))


set_option maxHeartbeats 8000000 in
set_option maxRecDepth 100000 in
theorem asksC {B w : World} {A : Assn} {n v x : Txt} {how : Int} {no : Bool} (hx : x.length ≤ 9223372036854775807) (h : Own B A w) :
    Calls Tryd.prog 42 #[.agg #[str n, str v, .int .i64 how, .bool no], str x] w fun e w' => e = .returned (.bool (asksR ⟨n, v, how, no⟩ x)) ∧ Own B A w' := by
  rcases how5 how with rfl | rfl | rfl | rfl | ⟨h0, h1, h2, h3, z0, z1, z2, z3⟩
  · skip
    go_enter Tryd.func42, Tryd.ntmps42
    go_wp2_with (first
      | (go_at_call 37; refine Calls.mono (hasPrefixC x v _) ?_; rintro e w ⟨rfl, rfl⟩)
      | (go_at_call 32; refine Calls.mono (hasSuffixC x v _ hx) ?_; rintro e w ⟨rfl, rfl⟩)
      | ((with_reducible refine at_eqS ?_); refine wpu_eqS rfl (by kernel_rfl) rfl rfl rfl ?_; go_frame)
      | fail)
    go_ret
    exact ⟨rfl, own_alloc h _⟩
  · skip
    go_enter Tryd.func42, Tryd.ntmps42
    go_wp2_with (first
      | (go_at_call 37; refine Calls.mono (hasPrefixC x v _) ?_; rintro e w ⟨rfl, rfl⟩)
      | (go_at_call 32; refine Calls.mono (hasSuffixC x v _ hx) ?_; rintro e w ⟨rfl, rfl⟩)
      | ((with_reducible refine at_eqS ?_); refine wpu_eqS rfl (by kernel_rfl) rfl rfl rfl ?_; go_frame)
      | fail)
    go_ret
    exact ⟨rfl, own_alloc h _⟩
  · skip
    go_enter Tryd.func42, Tryd.ntmps42
    go_wp2_with (first
      | (go_at_call 37; refine Calls.mono (hasPrefixC x v _) ?_; rintro e w ⟨rfl, rfl⟩)
      | (go_at_call 32; refine Calls.mono (hasSuffixC x v _ hx) ?_; rintro e w ⟨rfl, rfl⟩)
      | ((with_reducible refine at_eqS ?_); refine wpu_eqS rfl (by kernel_rfl) rfl rfl rfl ?_; go_frame)
      | fail)
    go_ret
    exact ⟨rfl, own_alloc h _⟩
  · skip
    go_enter Tryd.func42, Tryd.ntmps42
    go_wp2_with (first
      | (go_at_call 37; refine Calls.mono (hasPrefixC x v _) ?_; rintro e w ⟨rfl, rfl⟩)
      | (go_at_call 32; refine Calls.mono (hasSuffixC x v _ hx) ?_; rintro e w ⟨rfl, rfl⟩)
      | ((with_reducible refine at_eqS ?_); refine wpu_eqS rfl (by kernel_rfl) rfl rfl rfl ?_; go_frame)
      | fail)
    go_ret
    exact ⟨rfl, own_alloc h _⟩
  · skip
    go_enter Tryd.func42, Tryd.ntmps42
    go_wp2_with (first
      | (go_at_call 37; refine Calls.mono (hasPrefixC x v _) ?_; rintro e w ⟨rfl, rfl⟩)
      | (go_at_call 32; refine Calls.mono (hasSuffixC x v _ hx) ?_; rintro e w ⟨rfl, rfl⟩)
      | ((with_reducible refine at_eqS ?_); refine wpu_eqS rfl (by kernel_rfl) rfl rfl rfl ?_; go_frame)
      | fail)
    go_ret
    exact ⟨by simp [asksR, h0, h1, h2, h3], own_alloc h _⟩

def hasR (m : Mr) (f : Fd) : Bool := decide (f.1 = m.name) && asksR m f.2.1

set_option maxHeartbeats 8000000 in
set_option maxRecDepth 100000 in
theorem hasC {B w : World} {R : Assn} {m : Mr} {f : Fd} {c : Nat} (hx : f.2.1.length ≤ 9223372036854775807) (h : Own B (blk c m.cs * R) w) :
    Calls Tryd.prog 41 #[.agg #[str f.1, str f.2.1, .bool f.2.2], .pointer (some ⟨c, 0, none⟩)] w fun e w' => e = .returned (.bool (hasR m f)) ∧ Own B (blk c m.cs * R) w' := by
  obtain ⟨n, v, how, no⟩ := m
  obtain ⟨fn, fv, fb⟩ := f
  simp only at hx
  simp only [Mr.cs] at h ⊢
  obtain ⟨b, hb⟩ : ∃ b, decide (fn = n) = b := ⟨_, rfl⟩
  have HB : Hid (hasR ⟨n, v, how, no⟩ (fn, fv, fb) = (b && asksR ⟨n, v, how, no⟩ fv)) := Lib.hid (by unfold hasR; rw [← hb])
  go_enter Tryd.func41, Tryd.ntmps41
  cases b
  · go_wp2_with (first
      | ((with_reducible refine at_load ?_); first
        | (refine wpu_load (own_alloc h _) rfl (by kernel_rfl) rfl rfl ?_; go_frame))
      | ((with_reducible refine at_eqS ?_); refine wpu_eqS rfl (by kernel_rfl) rfl rfl hb ?_; go_frame)
      | fail)
    go_ret
    exact ⟨by rw [HB.out]; rfl, own_alloc h _⟩
  · go_wp2_with (first
      | ((with_reducible refine at_load ?_); first
        | (refine wpu_load (own_alloc h _) rfl (by kernel_rfl) rfl rfl ?_; go_frame)
        | (refine wpu_loadB (own_alloc h _) rfl (by kernel_rfl) rfl (by rfl) ?_; go_frame))
      | ((with_reducible refine at_eqS ?_); refine wpu_eqS rfl (by kernel_rfl) rfl rfl hb ?_; go_frame)
      | fail)
    refine Calls.mono (asksC hx (own_alloc h _)) ?_
    clear h; rintro e w ⟨rfl, h⟩
    go_wp2_with fail
    go_ret
    exact ⟨by rw [HB.out]; rfl, h⟩

/-- the first of the fields that is so -/
def firstR {α : Type} (p : α → Bool) : List α → Int
  | [] => -1
  | f :: l => if p f then 0 else if firstR p l = -1 then -1 else firstR p l + 1
theorem firstR_cons {α : Type} (p : α → Bool) (f : α) (l : List α) : firstR p (f :: l) = if p f then 0 else if firstR p l = -1 then -1 else firstR p l + 1 := rfl
theorem firstR_ge {α : Type} (p : α → Bool) (l : List α) : -1 ≤ firstR p l := by
  induction l with
  | nil => show (-1 : Int) ≤ -1; omega
  | cons f l ih => rw [firstR_cons]; split <;> (try split) <;> omega
theorem firstR_any {α : Type} (p : α → Bool) (l : List α) : decide (0 ≤ firstR p l) = l.any p := by
  induction l with
  | nil => rfl
  | cons f l ih =>
    have := firstR_ge p l
    rw [firstR_cons, List.any_cons, ← ih]
    cases hp : p f
    · simp only [Bool.false_eq_true, if_false, Bool.false_or]
      split
      · rename_i h; rw [h]
      · exact decide_eq_decide.2 (by omega)
    · simp
theorem firstR_app {α : Type} {p : α → Bool} {l1 l2 : List α} (h : ∀ f ∈ l1, p f = false) : firstR p (l1 ++ l2) = if firstR p l2 = -1 then -1 else l1.length + firstR p l2 := by
  induction l1 with
  | nil => 
    rw [List.nil_append]
    split
    · assumption
    · simp
  | cons f l1 ih =>
    have hf := h f (List.mem_cons_self ..)
    have := firstR_ge p l2
    rw [List.cons_append, firstR_cons, hf, ih fun g hg => h g (List.mem_cons_of_mem _ hg)]
    simp only [Bool.false_eq_true, if_false, List.length_cons]
    by_cases e : firstR p l2 = -1
    · simp [e]
    · rw [if_neg e, if_neg e, if_neg (by omega)]
      omega


set_option maxHeartbeats 8000000 in
set_option maxRecDepth 100000 in
theorem idxHasC {B w : World} {R : Assn} {m : Mr} {L : List Fd} {v : Value} {c : Nat} (hlen : ∀ f ∈ L, f.2.1.length ≤ 9223372036854775807) (h : Own B (blk c m.cs * R) w) (hl : ∀ w, Own B (blk c m.cs * R) w → rd w 3 v L.length (fds L)) :
    Calls Tryd.prog 53 #[v, .func (.func 41) #[] #[.pointer (some ⟨c, 0, none⟩)]] w fun e w' => e = .returned (.int .i64 (firstR (hasR m) L)) ∧ Own B (blk c m.cs * R) w' := by
  obtain ⟨ao, ac, rfl, i1, i2, -⟩ := id (hl w h)
  unfold maxLen at i2
  go_enter Tryd.func53, Tryd.ntmps53
  go_wp2_with fail
  go_loopw [5, 8] (fun _ i wr => ∃ j : Nat, i = .int .i64 j ∧ j ≤ L.length ∧ Hid (∀ f ∈ L.take j, (hasR m) f = false) ∧ Own B (blk c m.cs * R) wr) (fun _ i _ => L.length - (intOf i).toNat)
  case atStart => exact ⟨0, rfl, Nat.zero_le _, Lib.hid (by simp), h⟩
  case round =>
    clear h
    obtain ⟨j, rfl, hj, HA, G⟩ := hrel
    by_cases hjn : j < L.length
    · obtain ⟨f, hf⟩ : ∃ f, L[j]? = some f := ⟨L[j], List.getElem?_eq_getElem hjn⟩
      obtain ⟨ad, rfl⟩ := rd_some (hl _ G) (by omega)
      have HF := Lib.hid (fds_at hf)
      have hfl := hlen f (List.mem_of_getElem? hf)
      obtain ⟨r, hr⟩ : ∃ r, (hasR m) f = r := ⟨_, rfl⟩
      have HR := Lib.hid hr
      have HSPLIT : Hid (L = L.take j ++ f :: L.drop (j + 1)) := Lib.hid (by
        have := (List.getElem?_eq_some_iff.1 hf).2
        rw [← this, List.getElem_cons_drop, List.take_append_drop])
      have HTK : Hid (L.take (j + 1) = L.take j ++ [f]) := Lib.hid (by rw [List.take_add_one, hf]; rfl)
      clear hf hr
      go_wp2_with (first
        | ((with_reducible refine at_load ?_); refine wpu_loadE (k := j) (hl _ G) HF.out rfl (by kernel_rfl) rfl rfl ?_; go_frame)
        | fail)
      refine Calls.mono (hasC hfl G) ?_
      clear G; rintro e w ⟨rfl, G⟩
      rw [HR.out]
      cases r
      · go_wp2_with fail
        go_roundw
        case rel => exact ⟨j + 1, by go_num, by omega, Lib.hid (by
          rw [HTK.out]
          intro g hg
          rcases List.mem_append.1 hg with hg | hg
          · exact HA.out g hg
          · rw [List.mem_singleton.1 hg]; exact HR.out), G⟩
        case measure => simp [intOf] <;> omega
      · go_wp2_with fail
        go_ret
        refine ⟨?_, G⟩
        have e : firstR (hasR m) L = j := by
          rw [HSPLIT.out, firstR_app HA.out]
          have : firstR (hasR m) (f :: L.drop (j + 1)) = 0 := by rw [firstR_cons, HR.out]; rfl
          rw [this]
          simp
          omega
        rw [e]
        rfl
    · go_wp2_with fail
      go_ret
      refine ⟨?_, G⟩
      have e : firstR (hasR m) L = -1 := by
        have := firstR_app (l2 := []) HA.out
        rw [List.append_nil, List.take_of_length_le (by omega)] at this
        rw [this]
        rfl
      rw [e]
      rfl

set_option maxHeartbeats 8000000 in
set_option maxRecDepth 100000 in
theorem containsHasC {B w : World} {R : Assn} {m : Mr} {L : List Fd} {v : Value} {c : Nat} (hlen : ∀ f ∈ L, f.2.1.length ≤ 9223372036854775807) (h : Own B (blk c m.cs * R) w) (hl : ∀ w, Own B (blk c m.cs * R) w → rd w 3 v L.length (fds L)) :
    Calls Tryd.prog 40 #[v, .func (.func 41) #[] #[.pointer (some ⟨c, 0, none⟩)]] w fun e w' => e = .returned (.bool (L.any (hasR m))) ∧ Own B (blk c m.cs * R) w' := by
  rw [← firstR_any]
  go_enter Tryd.func40, Tryd.ntmps40
  go_wp2_with fail
  refine Calls.mono (idxHasC hlen h hl) ?_
  clear h; rintro e w ⟨rfl, h⟩
  go_wp2_with fail
  go_ret
  exact ⟨rfl, h⟩

def fieldR (m : Mr) (L : List Fd) : Bool := L.any (hasR m) != m.no

set_option maxHeartbeats 8000000 in
set_option maxRecDepth 100000 in
theorem fieldC {B w : World} {R : Assn} {m : Mr} {L : List Fd} {v : Value} (hlen : ∀ f ∈ L, f.2.1.length ≤ 9223372036854775807) (h : Own B R w) (hl : ∀ w, Own B R w → rd w 3 v L.length (fds L)) :
    Calls Tryd.prog 22 #[.agg #[str m.name, str m.value, .int .i64 m.how, .bool m.no], v] w fun e w' => e = .returned (.bool (fieldR m L)) ∧ Own B R w' := by
  have hmf : ∀ (fn : Fn) (first cap : Array Value) (w : World), (Instr.makeFunc fn first cap).run Tryd.prog w = .ok (.func fn first cap) w := fun _ _ _ _ => rfl
  have G := own_new h m.cs 37
  go_enter Tryd.func22, Tryd.ntmps22
  go_wp2_with fail
  refine wp_region_mix [0, 0, 1, 0, 0, 0, 0] (Own B _) (by kernel_rfl) (by kernel_rfl) (own_drew G) ?_
  refine mix_calm 2 ((own_drew G)) (by rfl) (by rfl) ?_
  intro ι W hne hW
  dsimp only [List.take, List.drop]
  repeat (first | ((with_reducible refine atq_load ?_); first | (refine wpq_load hW rfl rfl rfl rfl ?_; go_frame) | (refine wpq_loadB hW rfl rfl rfl (by rfl) ?_; go_frame) | (refine wpq_loadS hW rfl rfl rfl (by rfl) ?_; simp only [List.drop_succ_cons, List.drop_zero, List.take_succ_cons, List.take_zero]; go_frame)) | (fail) | go_big_quiet_step (fail))
  refine wpQuiet_nil ?_
  clear  hW hne W ι
  refine mix_loud rfl (fun K hK => ?_)
  go_wp2_with fail
  refine Calls.mono (containsHasC hlen (own_drew G) (fun w h => hl w h.right)) ?_
  clear G; rintro e w ⟨rfl, G⟩
  refine hK _ _ ⟨G, ?_⟩
  clear hK
  try go_frame
  refine mix_calm 4 (G) (by rfl) (by rfl) ?_
  intro ι W hne hW
  dsimp only [List.take, List.drop]
  repeat (first | ((with_reducible refine atq_load ?_); first | (refine wpq_load hW rfl rfl rfl rfl ?_; go_frame) | (refine wpq_loadB hW rfl rfl rfl (by rfl) ?_; go_frame) | (refine wpq_loadS hW rfl rfl rfl (by rfl) ?_; simp only [List.drop_succ_cons, List.drop_zero, List.take_succ_cons, List.take_zero]; go_frame)) | (fail) | go_big_quiet_step (fail))
  refine wpQuiet_nil ?_
  clear  hW hne W ι
  refine mix_nil ?_
  go_wp2_with fail
  go_ret
  exact ⟨rfl, G.right⟩
end Go.Proofs.YtndlfieignhjjaaDoor
