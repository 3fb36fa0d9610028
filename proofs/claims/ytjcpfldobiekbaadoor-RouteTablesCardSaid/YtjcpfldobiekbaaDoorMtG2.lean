




/-
  Package match: matchers.
  Package match: matchers of all of a list, and gRPC.
  Package match: the document's matchers of all of a list, and gRPC.
  The arguments of the laws of package match: fields and matchers, as lists.
-/
import Derived.Test.YtjcpfldobiekbaaDoorMtG1
import Derived.Test.YtjcpfldobiekbaaDoorLaw
namespace Go.Proofs.YtjcpfldobiekbaaDoor
open Go.RowKit Go.Sl Go.ChangeShapes

structure Mr where
  name : Txt
  value : Txt
  how : Int
  no : Bool
def Mr.cs (m : Mr) : List Value := [str m.name, str m.value, .int .i64 m.how, .bool m.no]
def Mr.v (m : Mr) : Value := .agg m.cs.toArray
def asksR (m : Mr) (v : Txt) : Bool :=
  if m.how = 0 then true else if m.how = 1 then decide (v = m.value) else if m.how = 2 then m.value.isPrefixOf v else if m.how = 3 then m.value.isSuffixOf v else false

theorem how5 (h : Int) : h = 0 ∨ h = 1 ∨ h = 2 ∨ h = 3 ∨ (h ≠ 0 ∧ h ≠ 1 ∧ h ≠ 2 ∧ h ≠ 3 ∧ (h == 0) = false ∧ (h == 1) = false ∧ (h == 2) = false ∧ (h == 3) = false) := by
  by_cases h0 : h = 0
  · exact .inl h0
  by_cases h1 : h = 1
  · exact .inr (.inl h1)
  by_cases h2 : h = 2
  · exact .inr (.inr (.inl h2))
  by_cases h3 : h = 3
  · exact .inr (.inr (.inr (.inl h3)))
  exact .inr (.inr (.inr (.inr ⟨h0, h1, h2, h3, by simp [h0], by simp [h1], by simp [h2], by simp [h3]⟩)))


set_option maxHeartbeats 8000000 in
set_option maxRecDepth 100000 in
theorem asksC {B w : World} {A : Assn} {n v x : Txt} {how : Int} {no : Bool} (hx : x.length ≤ 9223372036854775807) (h : Own B A w) :
    Calls Tryd.prog 76 #[.agg #[str n, str v, .int .i64 how, .bool no], str x] w fun e w' => e = .returned (.bool (asksR ⟨n, v, how, no⟩ x)) ∧ Own B A w' := by
  rcases how5 how with rfl | rfl | rfl | rfl | ⟨h0, h1, h2, h3, z0, z1, z2, z3⟩
  · skip
    go_enter Tryd.func76, Tryd.ntmps76
    go_wp2_with (first
      | (go_at_call 58; refine Calls.mono (hasPrefixC x v _) ?_; rintro e w ⟨rfl, rfl⟩)
      | (go_at_call 59; refine Calls.mono (hasSuffixC x v _ hx) ?_; rintro e w ⟨rfl, rfl⟩)
      | ((with_reducible refine at_eqS ?_); refine wpu_eqS rfl (by kernel_rfl) rfl rfl rfl ?_; go_frame)
      | fail)
    go_ret
    exact ⟨rfl, own_alloc h _⟩
  · skip
    go_enter Tryd.func76, Tryd.ntmps76
    go_wp2_with (first
      | (go_at_call 58; refine Calls.mono (hasPrefixC x v _) ?_; rintro e w ⟨rfl, rfl⟩)
      | (go_at_call 59; refine Calls.mono (hasSuffixC x v _ hx) ?_; rintro e w ⟨rfl, rfl⟩)
      | ((with_reducible refine at_eqS ?_); refine wpu_eqS rfl (by kernel_rfl) rfl rfl rfl ?_; go_frame)
      | fail)
    go_ret
    exact ⟨rfl, own_alloc h _⟩
  · skip
    go_enter Tryd.func76, Tryd.ntmps76
    go_wp2_with (first
      | (go_at_call 58; refine Calls.mono (hasPrefixC x v _) ?_; rintro e w ⟨rfl, rfl⟩)
      | (go_at_call 59; refine Calls.mono (hasSuffixC x v _ hx) ?_; rintro e w ⟨rfl, rfl⟩)
      | ((with_reducible refine at_eqS ?_); refine wpu_eqS rfl (by kernel_rfl) rfl rfl rfl ?_; go_frame)
      | fail)
    go_ret
    exact ⟨rfl, own_alloc h _⟩
  · skip
    go_enter Tryd.func76, Tryd.ntmps76
    go_wp2_with (first
      | (go_at_call 58; refine Calls.mono (hasPrefixC x v _) ?_; rintro e w ⟨rfl, rfl⟩)
      | (go_at_call 59; refine Calls.mono (hasSuffixC x v _ hx) ?_; rintro e w ⟨rfl, rfl⟩)
      | ((with_reducible refine at_eqS ?_); refine wpu_eqS rfl (by kernel_rfl) rfl rfl rfl ?_; go_frame)
      | fail)
    go_ret
    exact ⟨rfl, own_alloc h _⟩
  · skip
    go_enter Tryd.func76, Tryd.ntmps76
    go_wp2_with (first
      | (go_at_call 58; refine Calls.mono (hasPrefixC x v _) ?_; rintro e w ⟨rfl, rfl⟩)
      | (go_at_call 59; refine Calls.mono (hasSuffixC x v _ hx) ?_; rintro e w ⟨rfl, rfl⟩)
      | ((with_reducible refine at_eqS ?_); refine wpu_eqS rfl (by kernel_rfl) rfl rfl rfl ?_; go_frame)
      | fail)
    go_ret
    exact ⟨by simp [asksR, h0, h1, h2, h3], own_alloc h _⟩

def hasR (m : Mr) (f : Fd) : Bool := decide (f.1 = m.name) && asksR m f.2.1

set_option maxHeartbeats 8000000 in
set_option maxRecDepth 100000 in
theorem hasC {B w : World} {R : Assn} {m : Mr} {f : Fd} {c : Nat} (hx : f.2.1.length ≤ 9223372036854775807) (h : Own B (blk c m.cs * R) w) :
    Calls Tryd.prog 75 #[.agg #[str f.1, str f.2.1, .bool f.2.2], .pointer (some ⟨c, 0, none⟩)] w fun e w' => e = .returned (.bool (hasR m f)) ∧ Own B (blk c m.cs * R) w' := by
  obtain ⟨n, v, how, no⟩ := m
  obtain ⟨fn, fv, fb⟩ := f
  simp only at hx
  simp only [Mr.cs] at h ⊢
  obtain ⟨b, hb⟩ : ∃ b, decide (fn = n) = b := ⟨_, rfl⟩
  have HB : Hid (hasR ⟨n, v, how, no⟩ (fn, fv, fb) = (b && asksR ⟨n, v, how, no⟩ fv)) := Lib.hid (by unfold hasR; rw [← hb])
  go_enter Tryd.func75, Tryd.ntmps75
  cases b
  · go_wp2_with (first
      | ((with_reducible refine at_load ?_); first
        | (refine wpu_load (own_alloc h _) rfl (by kernel_rfl) rfl rfl ?_; go_frame))
      | ((with_reducible refine at_eqS ?_); refine wpu_eqS rfl (by kernel_rfl) rfl rfl hb ?_; go_frame)
      | fail)
    go_ret
    exact ⟨by rw [HB.out]; rfl, own_alloc h _⟩
  · go_wp2_with (first
      | ((with_reducible refine at_load ?_); first
        | (refine wpu_load (own_alloc h _) rfl (by kernel_rfl) rfl rfl ?_; go_frame)
        | (refine wpu_loadB (own_alloc h _) rfl (by kernel_rfl) rfl (by rfl) ?_; go_frame))
      | ((with_reducible refine at_eqS ?_); refine wpu_eqS rfl (by kernel_rfl) rfl rfl hb ?_; go_frame)
      | fail)
    refine Calls.mono (asksC hx (own_alloc h _)) ?_
    clear h; rintro e w ⟨rfl, h⟩
    go_wp2_with fail
    go_ret
    exact ⟨by rw [HB.out]; rfl, h⟩

/-- the first of the fields that is so -/
def firstR {α : Type} (p : α → Bool) : List α → Int
  | [] => -1
  | f :: l => if p f then 0 else if firstR p l = -1 then -1 else firstR p l + 1
theorem firstR_cons {α : Type} (p : α → Bool) (f : α) (l : List α) : firstR p (f :: l) = if p f then 0 else if firstR p l = -1 then -1 else firstR p l + 1 := rfl
theorem firstR_ge {α : Type} (p : α → Bool) (l : List α) : -1 ≤ firstR p l := by
  induction l with
  | nil => show (-1 : Int) ≤ -1; omega
  | cons f l ih => rw [firstR_cons]; split <;> (try split) <;> omega
theorem firstR_any {α : Type} (p : α → Bool) (l : List α) : decide (0 ≤ firstR p l) = l.any p := by
  induction l with
  | nil => rfl
  | cons f l ih =>
    have := firstR_ge p l
    rw [firstR_cons, List.any_cons, ← ih]
    cases hp : p f
    · simp only [Bool.false_eq_true, if_false, Bool.false_or]
      split
      · rename_i h; rw [h]
      · exact decide_eq_decide.2 (by omega)
    · simp
theorem firstR_app {α : Type} {p : α → Bool} {l1 l2 : List α} (h : ∀ f ∈ l1, p f = false) : firstR p (l1 ++ l2) = if firstR p l2 = -1 then -1 else l1.length + firstR p l2 := by
  induction l1 with
  | nil => 
    rw [List.nil_append]
    split
    · assumption
    · simp
  | cons f l1 ih =>
    have hf := h f (List.mem_cons_self ..)
    have := firstR_ge p l2
    rw [List.cons_append, firstR_cons, hf, ih fun g hg => h g (List.mem_cons_of_mem _ hg)]
    simp only [Bool.false_eq_true, if_false, List.length_cons]
    by_cases e : firstR p l2 = -1
    · simp [e]
    · rw [if_neg e, if_neg e, if_neg (by omega)]
      omega


set_option maxHeartbeats 8000000 in
set_option maxRecDepth 100000 in
theorem idxHasC {B w : World} {R : Assn} {m : Mr} {L : List Fd} {v : Value} {c : Nat} (hlen : ∀ f ∈ L, f.2.1.length ≤ 9223372036854775807) (h : Own B (blk c m.cs * R) w) (hl : ∀ w, Own B (blk c m.cs * R) w → rd w 3 v L.length (fds L)) :
    Calls Tryd.prog 78 #[v, .func (.func 75) #[] #[.pointer (some ⟨c, 0, none⟩)]] w fun e w' => e = .returned (.int .i64 (firstR (hasR m) L)) ∧ Own B (blk c m.cs * R) w' := by
  obtain ⟨ao, ac, rfl, i1, i2, -⟩ := id (hl w h)
  unfold maxLen at i2
  go_enter Tryd.func78, Tryd.ntmps78
  go_wp2_with fail
  go_loopw [5, 8] (fun _ i wr => ∃ j : Nat, i = .int .i64 j ∧ j ≤ L.length ∧ Hid (∀ f ∈ L.take j, (hasR m) f = false) ∧ Own B (blk c m.cs * R) wr) (fun _ i _ => L.length - (intOf i).toNat)
  case atStart => exact ⟨0, rfl, Nat.zero_le _, Lib.hid (by simp), h⟩
  case round =>
    clear h
    obtain ⟨j, rfl, hj, HA, G⟩ := hrel
    by_cases hjn : j < L.length
    · obtain ⟨f, hf⟩ : ∃ f, L[j]? = some f := ⟨L[j], List.getElem?_eq_getElem hjn⟩
      obtain ⟨ad, rfl⟩ := rd_some (hl _ G) (by omega)
      have HF := Lib.hid (fds_at hf)
      have hfl := hlen f (List.mem_of_getElem? hf)
      obtain ⟨r, hr⟩ : ∃ r, (hasR m) f = r := ⟨_, rfl⟩
      have HR := Lib.hid hr
      have HSPLIT : Hid (L = L.take j ++ f :: L.drop (j + 1)) := Lib.hid (by
        have := (List.getElem?_eq_some_iff.1 hf).2
        rw [← this, List.getElem_cons_drop, List.take_append_drop])
      have HTK : Hid (L.take (j + 1) = L.take j ++ [f]) := Lib.hid (by rw [List.take_add_one, hf]; rfl)
      clear hf hr
      go_wp2_with (first
        | ((with_reducible refine at_load ?_); refine wpu_loadE (k := j) (hl _ G) HF.out rfl (by kernel_rfl) rfl rfl ?_; go_frame)
        | fail)
      refine Calls.mono (hasC hfl G) ?_
      clear G; rintro e w ⟨rfl, G⟩
      rw [HR.out]
      cases r
      · go_wp2_with fail
        go_roundw
        case rel => exact ⟨j + 1, by go_num, by omega, Lib.hid (by
          rw [HTK.out]
          intro g hg
          rcases List.mem_append.1 hg with hg | hg
          · exact HA.out g hg
          · rw [List.mem_singleton.1 hg]; exact HR.out), G⟩
        case measure => simp [intOf] <;> omega
      · go_wp2_with fail
        go_ret
        refine ⟨?_, G⟩
        have e : firstR (hasR m) L = j := by
          rw [HSPLIT.out, firstR_app HA.out]
          have : firstR (hasR m) (f :: L.drop (j + 1)) = 0 := by rw [firstR_cons, HR.out]; rfl
          rw [this]
          simp
          omega
        rw [e]
        rfl
    · go_wp2_with fail
      go_ret
      refine ⟨?_, G⟩
      have e : firstR (hasR m) L = -1 := by
        have := firstR_app (l2 := []) HA.out
        rw [List.append_nil, List.take_of_length_le (by omega)] at this
        rw [this]
        rfl
      rw [e]
      rfl

set_option maxHeartbeats 8000000 in
set_option maxRecDepth 100000 in
theorem containsHasC {B w : World} {R : Assn} {m : Mr} {L : List Fd} {v : Value} {c : Nat} (hlen : ∀ f ∈ L, f.2.1.length ≤ 9223372036854775807) (h : Own B (blk c m.cs * R) w) (hl : ∀ w, Own B (blk c m.cs * R) w → rd w 3 v L.length (fds L)) :
    Calls Tryd.prog 65 #[v, .func (.func 75) #[] #[.pointer (some ⟨c, 0, none⟩)]] w fun e w' => e = .returned (.bool (L.any (hasR m))) ∧ Own B (blk c m.cs * R) w' := by
  rw [← firstR_any]
  go_enter Tryd.func65, Tryd.ntmps65
  go_wp2_with fail
  refine Calls.mono (idxHasC hlen h hl) ?_
  clear h; rintro e w ⟨rfl, h⟩
  go_wp2_with fail
  go_ret
  exact ⟨rfl, h⟩

def fieldR (m : Mr) (L : List Fd) : Bool := L.any (hasR m) != m.no

set_option maxHeartbeats 8000000 in
set_option maxRecDepth 100000 in
theorem fieldC {B w : World} {R : Assn} {m : Mr} {L : List Fd} {v : Value} (hlen : ∀ f ∈ L, f.2.1.length ≤ 9223372036854775807) (h : Own B R w) (hl : ∀ w, Own B R w → rd w 3 v L.length (fds L)) :
    Calls Tryd.prog 63 #[.agg #[str m.name, str m.value, .int .i64 m.how, .bool m.no], v] w fun e w' => e = .returned (.bool (fieldR m L)) ∧ Own B R w' := by
  have hmf : ∀ (fn : Fn) (first cap : Array Value) (w : World), (Instr.makeFunc fn first cap).run Tryd.prog w = .ok (.func fn first cap) w := fun _ _ _ _ => rfl
  have G := own_new h m.cs 45
  go_enter Tryd.func63, Tryd.ntmps63
  go_wp2_with fail
  refine wp_region_mix [0, 0, 1, 0, 0, 0, 0] (Own B _) (by kernel_rfl) (by kernel_rfl) (own_drew G) ?_
  refine mix_calm 2 ((own_drew G)) (by rfl) (by rfl) ?_
  intro ι W hne hW
  dsimp only [List.take, List.drop]
  repeat (first | ((with_reducible refine atq_load ?_); first | (refine wpq_load hW rfl rfl rfl rfl ?_; go_frame) | (refine wpq_loadB hW rfl rfl rfl (by rfl) ?_; go_frame) | (refine wpq_loadS hW rfl rfl rfl (by rfl) ?_; simp only [List.drop_succ_cons, List.drop_zero, List.take_succ_cons, List.take_zero]; go_frame)) | (fail) | go_big_quiet_step (fail))
  refine wpQuiet_nil ?_
  clear  hW hne W ι
  refine mix_loud rfl (fun K hK => ?_)
  go_wp2_with fail
  refine Calls.mono (containsHasC hlen (own_drew G) (fun w h => hl w h.right)) ?_
  clear G; rintro e w ⟨rfl, G⟩
  refine hK _ _ ⟨G, ?_⟩
  clear hK
  try go_frame
  refine mix_calm 4 (G) (by rfl) (by rfl) ?_
  intro ι W hne hW
  dsimp only [List.take, List.drop]
  repeat (first | ((with_reducible refine atq_load ?_); first | (refine wpq_load hW rfl rfl rfl rfl ?_; go_frame) | (refine wpq_loadB hW rfl rfl rfl (by rfl) ?_; go_frame) | (refine wpq_loadS hW rfl rfl rfl (by rfl) ?_; simp only [List.drop_succ_cons, List.drop_zero, List.take_succ_cons, List.take_zero]; go_frame)) | (fail) | go_big_quiet_step (fail))
  refine wpQuiet_nil ?_
  clear  hW hne W ι
  refine mix_nil ?_
  go_wp2_with fail
  go_ret
  exact ⟨rfl, G.right⟩
end Go.Proofs.YtjcpfldobiekbaaDoor

namespace Go.Proofs.YtjcpfldobiekbaaDoor
open Go.RowKit Go.Sl Go.ChangeShapes

def mrs (l : List Mr) : List Value := l.flatMap Mr.cs
theorem mrs_len (l : List Mr) : (mrs l).length = l.length * 4 := by induction l with | nil => rfl | cons f l ih => simp [mrs, Mr.cs] at ih ⊢; omega
theorem mrs_app (l m : List Mr) : mrs l ++ mrs m = mrs (l ++ m) := by simp [mrs]
theorem mrs_at {l : List Mr} {i : Nat} {f : Mr} (h : l[i]? = some f) : ((mrs l).drop (i * 4)).take 4 = [str f.name, str f.value, .int .i64 f.how, .bool f.no] := by
  induction l generalizing i with
  | nil => simp at h
  | cons g l ih =>
    cases i with
    | zero => simp at h; subst h; simp [mrs, Mr.cs]
    | succ i =>
      rw [List.getElem?_cons_succ] at h
      have e : (mrs (g :: l)).drop ((i + 1) * 4) = (mrs l).drop (i * 4) := by
        show (g.cs ++ mrs l).drop _ = _
        rw [List.drop_append, List.drop_eq_nil_of_le (by show 4 ≤ (i + 1) * 4; omega)]
        simp [Mr.cs, show (i + 1) * 4 - 4 = i * 4 by omega]
      rw [e]
      exact ih h

set_option maxHeartbeats 8000000 in
set_option maxRecDepth 100000 in
theorem lacksC {B w : World} {R : Assn} {m : Mr} {L : List Fd} {v : Value} {c : Nat} (hlen : ∀ f ∈ L, f.2.1.length ≤ 9223372036854775807) (h : Own B (blk c [v] * R) w) (hl : ∀ w, Own B (blk c [v] * R) w → rd w 3 v L.length (fds L)) :
    Calls Tryd.prog 62 #[.agg #[str m.name, str m.value, .int .i64 m.how, .bool m.no], .pointer (some ⟨c, 0, none⟩)] w fun e w' => e = .returned (.bool (!fieldR m L)) ∧ Own B (blk c [v] * R) w' := by
  have hv := hl w h
  obtain ⟨ao, ac, rfl, i1, i2, -⟩ := id hv
  unfold maxLen at i2
  clear hv
  go_enter Tryd.func62, Tryd.ntmps62
  go_wp2_with (first
    | ((with_reducible refine at_load ?_); first
      | (refine wpu_load (own_alloc h _) rfl (by kernel_rfl) rfl rfl ?_; go_frame)
      | (refine wpu_loadB (own_alloc h _) rfl (by kernel_rfl) rfl (by rfl) ?_; go_frame))
    | fail)
  refine Calls.mono (fieldC hlen (own_alloc h _) hl) ?_
  clear h; rintro e w ⟨rfl, h⟩
  go_wp2_with fail
  go_ret
  exact ⟨rfl, h⟩

set_option maxHeartbeats 8000000 in
set_option maxRecDepth 100000 in
theorem idxLacksC {B w : World} {R : Assn} {L : List Mr} {F : List Fd} {v u : Value} {c : Nat} (hlen : ∀ f ∈ F, f.2.1.length ≤ 9223372036854775807) (h : Own B (blk c [u] * R) w) (hu : ∀ w, Own B (blk c [u] * R) w → rd w 3 u F.length (fds F)) (hl : ∀ w, Own B (blk c [u] * R) w → rd w 4 v L.length (mrs L)) :
    Calls Tryd.prog 74 #[v, .func (.func 62) #[] #[.pointer (some ⟨c, 0, none⟩)]] w fun e w' => e = .returned (.int .i64 (firstR (fun m => !fieldR m F) L)) ∧ Own B (blk c [u] * R) w' := by
  have htr : ∀ m ∈ L, True := fun _ _ => trivial
  obtain ⟨ao, ac, rfl, i1, i2, -⟩ := id (hl w h)
  unfold maxLen at i2
  go_enter Tryd.func74, Tryd.ntmps74
  go_wp2_with fail
  go_loopw [5, 8] (fun _ i wr => ∃ j : Nat, i = .int .i64 j ∧ j ≤ L.length ∧ Hid (∀ f ∈ L.take j, (fun m => !fieldR m F) f = false) ∧ Own B (blk c [u] * R) wr) (fun _ i _ => L.length - (intOf i).toNat)
  case atStart => exact ⟨0, rfl, Nat.zero_le _, Lib.hid (by simp), h⟩
  case round =>
    clear h
    obtain ⟨j, rfl, hj, HA, G⟩ := hrel
    by_cases hjn : j < L.length
    · obtain ⟨f, hf⟩ : ∃ f, L[j]? = some f := ⟨L[j], List.getElem?_eq_getElem hjn⟩
      obtain ⟨ad, rfl⟩ := rd_some (hl _ G) (by omega)
      have HF := Lib.hid (mrs_at hf)
      have hfl := htr f (List.mem_of_getElem? hf)
      obtain ⟨r, hr⟩ : ∃ r, (fun m => !fieldR m F) f = r := ⟨_, rfl⟩
      have HR := Lib.hid hr
      have HSPLIT : Hid (L = L.take j ++ f :: L.drop (j + 1)) := Lib.hid (by
        have := (List.getElem?_eq_some_iff.1 hf).2
        rw [← this, List.getElem_cons_drop, List.take_append_drop])
      have HTK : Hid (L.take (j + 1) = L.take j ++ [f]) := Lib.hid (by rw [List.take_add_one, hf]; rfl)
      clear hf hr
      go_wp2_with (first
        | ((with_reducible refine at_load ?_); refine wpu_loadE (k := j) (hl _ G) HF.out rfl (by kernel_rfl) rfl rfl ?_; go_frame)
        | fail)
      refine Calls.mono (lacksC hlen G hu) ?_
      clear G; rintro e w ⟨rfl, G⟩
      rw [HR.out]
      cases r
      · go_wp2_with fail
        go_roundw
        case rel => exact ⟨j + 1, by go_num, by omega, Lib.hid (by
          rw [HTK.out]
          intro g hg
          rcases List.mem_append.1 hg with hg | hg
          · exact HA.out g hg
          · rw [List.mem_singleton.1 hg]; exact HR.out), G⟩
        case measure => simp [intOf] <;> omega
      · go_wp2_with fail
        go_ret
        refine ⟨?_, G⟩
        have e : firstR (fun m => !fieldR m F) L = j := by
          rw [HSPLIT.out, firstR_app HA.out]
          have : firstR (fun m => !fieldR m F) (f :: L.drop (j + 1)) = 0 := by rw [firstR_cons, HR.out]; rfl
          rw [this]
          simp
          omega
        rw [e]
        rfl
    · go_wp2_with fail
      go_ret
      refine ⟨?_, G⟩
      have e : firstR (fun m => !fieldR m F) L = -1 := by
        have := firstR_app (l2 := []) HA.out
        rw [List.append_nil, List.take_of_length_le (by omega)] at this
        rw [this]
        rfl
      rw [e]
      rfl

set_option maxHeartbeats 8000000 in
set_option maxRecDepth 100000 in
theorem containsLacksC {B w : World} {R : Assn} {L : List Mr} {F : List Fd} {v u : Value} {c : Nat} (hlen : ∀ f ∈ F, f.2.1.length ≤ 9223372036854775807) (h : Own B (blk c [u] * R) w) (hu : ∀ w, Own B (blk c [u] * R) w → rd w 3 u F.length (fds F)) (hl : ∀ w, Own B (blk c [u] * R) w → rd w 4 v L.length (mrs L)) :
    Calls Tryd.prog 61 #[v, .func (.func 62) #[] #[.pointer (some ⟨c, 0, none⟩)]] w fun e w' => e = .returned (.bool (L.any (fun m => !fieldR m F))) ∧ Own B (blk c [u] * R) w' := by
  rw [← firstR_any]
  go_enter Tryd.func61, Tryd.ntmps61
  go_wp2_with fail
  refine Calls.mono (idxLacksC hlen h hu hl) ?_
  clear h; rintro e w ⟨rfl, h⟩
  go_wp2_with fail
  go_ret
  exact ⟨rfl, h⟩

set_option maxHeartbeats 8000000 in
set_option maxRecDepth 100000 in
theorem fieldsC {B w : World} {R : Assn} {L : List Mr} {F : List Fd} {v u : Value} (hlen : ∀ f ∈ F, f.2.1.length ≤ 9223372036854775807) (h : Own B R w) (hu : ∀ w, Own B R w → rd w 3 u F.length (fds F)) (hl : ∀ w, Own B R w → rd w 4 v L.length (mrs L)) :
    Calls Tryd.prog 40 #[v, u] w fun e w' => e = .returned (.bool (L.all fun m => fieldR m F)) ∧ Own B R w' := by
  have hmf : ∀ (fn : Fn) (first cap : Array Value) (w : World), (Instr.makeFunc fn first cap).run Tryd.prog w = .ok (.func fn first cap) w := fun _ _ _ _ => rfl
  have hv := hu w h
  obtain ⟨ao, ac, rfl, i1, i2, -⟩ := id hv
  unfold maxLen at i2
  clear hv
  have G := own_new h [.slice ao F.length ac] 26
  go_enter Tryd.func40, Tryd.ntmps40
  go_wp2_with fail
  refine Calls.mono (containsLacksC hlen G (fun w h => hu w h.right) (fun w h => hl w h.right)) ?_
  clear G; rintro e w ⟨rfl, G⟩
  go_wp2_with fail
  go_ret
  exact ⟨by rw [List.all_eq_not_any_not]; rfl, G.right⟩

section
variable {P : Program} {C : World → Prop} {q : Act → Prop} {ops : Array Oper} {rest : List Oper} {a : Act} {x y : Operand} {d : Option Tmp} {ty T' : TypeId} {pos : String} {after : Array Edge} {g : Option (Nat × Bool)} {o : Oper} {l m : Txt}
theorem atq_eqS (h : wpQuiet P ops C q (⟨d, .binOp .eql 9 x y T', ty, pos, after, g⟩ :: rest) a) : wpQuiet P ops C q (⟨d, .binOp .eql 9 x y T', ty, pos, after, g⟩ :: rest) a := h
theorem wpq_eqS {ι : Type} {W : ι → World} {q : Act → Prop} (ho : o.op = .binOp .eql 9 x y T') (hw : Region.wanted o (yielded ops a.tmps) = true) (hx : evalO a x = some (str l)) (hy : evalO a y = some (str m)) {b : Bool} (hb : decide (l = m) = b)
    (kk : wpQuiet Tryd.prog ops (fun w' => ∃ i, w' = W i) q rest (a.put o.dst (.bool b))) : wpQuiet Tryd.prog ops (fun w' => ∃ i, w' = W i) q (o :: rest) a := by
  subst hb
  exact wpq_val hw (fun i => exec_strEq ho hx hy) kk
end
end Go.Proofs.YtjcpfldobiekbaaDoor

namespace Go.Proofs.YtjcpfldobiekbaaDoor
open Go.RowKit Go.Sl Go.ChangeShapes

def grpcV (v : Txt) : Bool := decide (v = [97, 112, 112, 108, 105, 99, 97, 116, 105, 111, 110, 47, 103, 114, 112, 99]) || ([97, 112, 112, 108, 105, 99, 97, 116, 105, 111, 110, 47, 103, 114, 112, 99, 43] : Txt).isPrefixOf v || ([97, 112, 112, 108, 105, 99, 97, 116, 105, 111, 110, 47, 103, 114, 112, 99, 59] : Txt).isPrefixOf v
def isG (f : Fd) : Bool := decide (f.1 = [99, 111, 110, 116, 101, 110, 116, 45, 116, 121, 112, 101]) && grpcV f.2.1
def grpcR (L : List Fd) : Bool := L.any isG

theorem grpcV_app (r : Txt) : grpcV ([97, 112, 112, 108, 105, 99, 97, 116, 105, 111, 110, 47, 103, 114, 112, 99] ++ r) = match r with | [] => true | c :: _ => decide (c = 43) || decide (c = 59) := by
  unfold grpcV
  cases r with
  | nil => simp
  | cons c r => 
    have e1 : decide (([97, 112, 112, 108, 105, 99, 97, 116, 105, 111, 110, 47, 103, 114, 112, 99] : Txt) ++ c :: r = [97, 112, 112, 108, 105, 99, 97, 116, 105, 111, 110, 47, 103, 114, 112, 99]) = false := by
      refine decide_eq_false fun e => ?_
      have := congrArg List.length e
      rw [List.length_append] at this
      simp only [List.length_cons] at this
      omega
    have e2 : ∀ d : UInt8, (([97, 112, 112, 108, 105, 99, 97, 116, 105, 111, 110, 47, 103, 114, 112, 99] : Txt) ++ [d]).isPrefixOf ([97, 112, 112, 108, 105, 99, 97, 116, 105, 111, 110, 47, 103, 114, 112, 99] ++ c :: r) = (d == c) := fun d => by
      rw [Bool.eq_iff_iff, List.isPrefixOf_iff_prefix, List.prefix_append_right_inj, List.cons_prefix_cons]
      have := List.nil_prefix (l := r)
      exact ⟨fun e => beq_iff_eq.2 e.1, fun e => ⟨beq_iff_eq.1 e, this⟩⟩
    have a1 : ([97, 112, 112, 108, 105, 99, 97, 116, 105, 111, 110, 47, 103, 114, 112, 99, 43] : Txt).isPrefixOf ([97, 112, 112, 108, 105, 99, 97, 116, 105, 111, 110, 47, 103, 114, 112, 99] ++ c :: r) = (43 == c) := e2 43
    have a2 : ([97, 112, 112, 108, 105, 99, 97, 116, 105, 111, 110, 47, 103, 114, 112, 99, 59] : Txt).isPrefixOf ([97, 112, 112, 108, 105, 99, 97, 116, 105, 111, 110, 47, 103, 114, 112, 99] ++ c :: r) = (59 == c) := e2 59
    rw [e1, a1, a2, Bool.false_or]
    show (43 == c || 59 == c) = (decide (c = 43) || decide (c = 59))
    have e3 : ∀ d : UInt8, (d == c) = decide (c = d) := fun d => by
      rw [Bool.eq_iff_iff]
      exact ⟨fun e => decide_eq_true (beq_iff_eq.1 e).symm, fun e => beq_iff_eq.2 (of_decide_eq_true e).symm⟩
    rw [e3, e3]
theorem grpcV_not {v : Txt} (h : ([97, 112, 112, 108, 105, 99, 97, 116, 105, 111, 110, 47, 103, 114, 112, 99] : Txt).isPrefixOf v = false) : grpcV v = false := by
  have hn : ¬ ([97, 112, 112, 108, 105, 99, 97, 116, 105, 111, 110, 47, 103, 114, 112, 99] : Txt) <+: v := fun e => by rw [List.isPrefixOf_iff_prefix.2 e] at h; cases h
  unfold grpcV
  rw [Bool.or_eq_false_iff, Bool.or_eq_false_iff]
  refine ⟨⟨?_, ?_⟩, ?_⟩
  · refine decide_eq_false fun e => hn ?_
    rw [e]
    exact List.prefix_rfl
  · cases hx : ([97, 112, 112, 108, 105, 99, 97, 116, 105, 111, 110, 47, 103, 114, 112, 99, 43] : Txt).isPrefixOf v
    · rfl
    · exact absurd (List.IsPrefix.trans ⟨[43], rfl⟩ (List.isPrefixOf_iff_prefix.1 hx)) hn
  · cases hx : ([97, 112, 112, 108, 105, 99, 97, 116, 105, 111, 110, 47, 103, 114, 112, 99, 59] : Txt).isPrefixOf v
    · rfl
    · exact absurd (List.IsPrefix.trans ⟨[59], rfl⟩ (List.isPrefixOf_iff_prefix.1 hx)) hn


set_option maxHeartbeats 8000000 in
set_option maxRecDepth 100000 in
theorem grpc1C {B w : World} {R : Assn} {f : Fd} (h : Own B R w) :
    Calls Tryd.prog 66 #[.agg #[str f.1, str f.2.1, .bool f.2.2]] w fun e w' => e = .returned (.bool (isG f)) ∧ Own B R w' := by
  obtain ⟨fn, fv, fb⟩ := f
  simp only
  obtain ⟨q, hq⟩ : ∃ q, decide (fn = [99, 111, 110, 116, 101, 110, 116, 45, 116, 121, 112, 101]) = q := ⟨_, rfl⟩
  have HB0 : Hid (isG (fn, fv, fb) = (q && grpcV fv)) := Lib.hid (by unfold isG; rw [← hq])
  have hcut := cutPrefixC fv [97, 112, 112, 108, 105, 99, 97, 116, 105, 111, 110, 47, 103, 114, 112, 99]
  cases hp : ([97, 112, 112, 108, 105, 99, 97, 116, 105, 111, 110, 47, 103, 114, 112, 99] : Txt).isPrefixOf fv
  · have HB : Hid (isG (fn, fv, fb) = false) := Lib.hid (by rw [HB0.out, grpcV_not hp, Bool.and_false])
    have HCUT : Hid (∀ w, Calls Tryd.prog 57 #[str fv, str [97, 112, 112, 108, 105, 99, 97, 116, 105, 111, 110, 47, 103, 114, 112, 99]] w fun e w' => e = .returned (.tuple #[str fv, .bool false]) ∧ w' = w) := Lib.hid fun w => by
      have := hcut w
      rwa [hp, if_neg (by simp)] at this
    clear hcut hp HB0
    cases q
    · skip
      as_aux_lemma =>
      go_enter Tryd.func66, Tryd.ntmps66
      go_wp2_with (first
        | (go_at_call 57; refine Calls.mono (HCUT.out _) ?_; rintro e w ⟨rfl, rfl⟩)
        | ((with_reducible refine at_strAt ?_); refine wpu_strAt (i := 0) rfl (by kernel_rfl) rfl rfl rfl HC.out ?_; go_frame)
        | ((with_reducible refine at_eqS ?_); refine wpu_eqS rfl (by kernel_rfl) rfl rfl (by first | assumption | rfl) ?_; go_frame)
        | fail)
      go_ret
      exact ⟨by rw [HB.out]; rfl, own_alloc h _⟩
    · skip
      as_aux_lemma =>
      go_enter Tryd.func66, Tryd.ntmps66
      go_wp2_with (first
        | (go_at_call 57; refine Calls.mono (HCUT.out _) ?_; rintro e w ⟨rfl, rfl⟩)
        | ((with_reducible refine at_strAt ?_); refine wpu_strAt (i := 0) rfl (by kernel_rfl) rfl rfl rfl HC.out ?_; go_frame)
        | ((with_reducible refine at_eqS ?_); refine wpu_eqS rfl (by kernel_rfl) rfl rfl (by first | assumption | rfl) ?_; go_frame)
        | fail)
      go_ret
      exact ⟨by rw [HB.out]; rfl, own_alloc h _⟩
  · obtain ⟨r, rfl⟩ : ∃ r, fv = [97, 112, 112, 108, 105, 99, 97, 116, 105, 111, 110, 47, 103, 114, 112, 99] ++ r := by
      obtain ⟨r, hr⟩ := List.isPrefixOf_iff_prefix.1 hp
      exact ⟨r, hr.symm⟩
    have HCUT0 : ∀ w, Calls Tryd.prog 57 #[str ([97, 112, 112, 108, 105, 99, 97, 116, 105, 111, 110, 47, 103, 114, 112, 99] ++ r), str [97, 112, 112, 108, 105, 99, 97, 116, 105, 111, 110, 47, 103, 114, 112, 99]] w fun e w' => e = .returned (.tuple #[str r, .bool true]) ∧ w' = w := fun w => by
      have := hcut w
      rw [hp, if_pos rfl] at this
      simpa using this
    rw [grpcV_app] at HB0
    obtain ⟨v, hv⟩ : ∃ v, ([97, 112, 112, 108, 105, 99, 97, 116, 105, 111, 110, 47, 103, 114, 112, 99] : Txt) ++ r = v := ⟨_, rfl⟩
    rw [hv] at HCUT0 HB0 ⊢
    have HCUT := Lib.hid HCUT0
    clear hcut hp hv HCUT0
    cases r with
    | nil =>
      have y1 : decide (([] : Txt) = []) = true := rfl
      cases q
      · have HB : Hid (isG (fn, v, fb) = false) := Lib.hid (by rw [HB0.out]; rfl)
        clear HB0
        skip
        as_aux_lemma =>
        go_enter Tryd.func66, Tryd.ntmps66
        go_wp2_with (first
          | (go_at_call 57; refine Calls.mono (HCUT.out _) ?_; rintro e w ⟨rfl, rfl⟩)
          | ((with_reducible refine at_strAt ?_); refine wpu_strAt (i := 0) rfl (by kernel_rfl) rfl rfl rfl HC.out ?_; go_frame)
          | ((with_reducible refine at_eqS ?_); refine wpu_eqS rfl (by kernel_rfl) rfl rfl (by first | assumption | rfl) ?_; go_frame)
          | fail)
        go_ret
        exact ⟨by rw [HB.out]; rfl, own_alloc h _⟩
      · have HB : Hid (isG (fn, v, fb) = true) := Lib.hid (by rw [HB0.out]; rfl)
        clear HB0
        skip
        as_aux_lemma =>
        go_enter Tryd.func66, Tryd.ntmps66
        go_wp2_with (first
          | (go_at_call 57; refine Calls.mono (HCUT.out _) ?_; rintro e w ⟨rfl, rfl⟩)
          | ((with_reducible refine at_strAt ?_); refine wpu_strAt (i := 0) rfl (by kernel_rfl) rfl rfl rfl HC.out ?_; go_frame)
          | ((with_reducible refine at_eqS ?_); refine wpu_eqS rfl (by kernel_rfl) rfl rfl (by first | assumption | rfl) ?_; go_frame)
          | fail)
        go_ret
        exact ⟨by rw [HB.out]; rfl, own_alloc h _⟩
    | cons c r =>
      have y1 : decide (c :: r = []) = false := by simp
      have HC : Hid ((c :: r)[0]? = some c) := Lib.hid rfl
      obtain ⟨rr, hrr⟩ : ∃ rr, c :: r = rr := ⟨_, rfl⟩
      cases q
      · have HB : Hid (isG (fn, v, fb) = false) := Lib.hid (by rw [HB0.out]; rfl)
        rw [hrr] at HCUT HC y1
        clear HB0 hrr
        skip
        as_aux_lemma =>
        go_enter Tryd.func66, Tryd.ntmps66
        go_wp2_with (first
          | (go_at_call 57; refine Calls.mono (HCUT.out _) ?_; rintro e w ⟨rfl, rfl⟩)
          | ((with_reducible refine at_strAt ?_); refine wpu_strAt (i := 0) rfl (by kernel_rfl) rfl rfl rfl HC.out ?_; go_frame)
          | ((with_reducible refine at_eqS ?_); refine wpu_eqS rfl (by kernel_rfl) rfl rfl (by first | assumption | rfl) ?_; go_frame)
          | fail)
        go_ret
        exact ⟨by rw [HB.out]; rfl, own_alloc h _⟩
      · by_cases c1 : c = 43
        · subst c1
          have HB : Hid (isG (fn, v, fb) = true) := Lib.hid (by rw [HB0.out]; simp)
          rw [hrr] at HCUT HC y1
          clear HB0 hrr
          skip
          as_aux_lemma =>
          go_enter Tryd.func66, Tryd.ntmps66
          go_wp2_with (first
            | (go_at_call 57; refine Calls.mono (HCUT.out _) ?_; rintro e w ⟨rfl, rfl⟩)
            | ((with_reducible refine at_strAt ?_); refine wpu_strAt (i := 0) rfl (by kernel_rfl) rfl rfl rfl HC.out ?_; go_frame)
            | ((with_reducible refine at_eqS ?_); refine wpu_eqS rfl (by kernel_rfl) rfl rfl (by first | assumption | rfl) ?_; go_frame)
            | fail)
          go_ret
          exact ⟨by rw [HB.out]; rfl, own_alloc h _⟩
        · obtain ⟨k1, k2⟩ := beq_u8 c1
          have k3 : ((c.toNat : Int) == 43) = false := k1
          have k4 : (c.toNat == 43) = false := k2
          by_cases c2 : c = 59
          · subst c2
            have HB : Hid (isG (fn, v, fb) = true) := Lib.hid (by rw [HB0.out]; simp)
            rw [hrr] at HCUT HC y1
            clear HB0 hrr c1 k1 k2
            skip
            as_aux_lemma =>
            go_enter Tryd.func66, Tryd.ntmps66
            go_wp2_with (first
              | (go_at_call 57; refine Calls.mono (HCUT.out _) ?_; rintro e w ⟨rfl, rfl⟩)
              | ((with_reducible refine at_strAt ?_); refine wpu_strAt (i := 0) rfl (by kernel_rfl) rfl rfl rfl HC.out ?_; go_frame)
              | ((with_reducible refine at_eqS ?_); refine wpu_eqS rfl (by kernel_rfl) rfl rfl (by first | assumption | rfl) ?_; go_frame)
              | fail)
            go_ret
            exact ⟨by rw [HB.out]; rfl, own_alloc h _⟩
          · obtain ⟨l1, l2⟩ := beq_u8 c2
            have l3 : ((c.toNat : Int) == 59) = false := l1
            have l4 : (c.toNat == 59) = false := l2
            have HB : Hid (isG (fn, v, fb) = false) := Lib.hid (by rw [HB0.out]; simp [c1, c2])
            rw [hrr] at HCUT HC y1
            clear HB0 hrr c1 c2 k1 k2 l1 l2
            skip
            as_aux_lemma =>
            go_enter Tryd.func66, Tryd.ntmps66
            go_wp2_with (first
              | (go_at_call 57; refine Calls.mono (HCUT.out _) ?_; rintro e w ⟨rfl, rfl⟩)
              | ((with_reducible refine at_strAt ?_); refine wpu_strAt (i := 0) rfl (by kernel_rfl) rfl rfl rfl HC.out ?_; go_frame)
              | ((with_reducible refine at_eqS ?_); refine wpu_eqS rfl (by kernel_rfl) rfl rfl (by first | assumption | rfl) ?_; go_frame)
              | fail)
            go_ret
            exact ⟨by rw [HB.out]; rfl, own_alloc h _⟩

set_option maxHeartbeats 8000000 in
set_option maxRecDepth 100000 in
theorem idxGrpcC {B w : World} {R : Assn} {L : List Fd} {v : Value} (h : Own B R w) (hl : ∀ w, Own B R w → rd w 3 v L.length (fds L)) :
    Calls Tryd.prog 78 #[v, .func (.func 66) #[] #[]] w fun e w' => e = .returned (.int .i64 (firstR isG L)) ∧ Own B R w' := by
  have htr : ∀ m ∈ L, True := fun _ _ => trivial
  obtain ⟨ao, ac, rfl, i1, i2, -⟩ := id (hl w h)
  unfold maxLen at i2
  go_enter Tryd.func78, Tryd.ntmps78
  go_wp2_with fail
  go_loopw [5, 8] (fun _ i wr => ∃ j : Nat, i = .int .i64 j ∧ j ≤ L.length ∧ Hid (∀ f ∈ L.take j, isG f = false) ∧ Own B R wr) (fun _ i _ => L.length - (intOf i).toNat)
  case atStart => exact ⟨0, rfl, Nat.zero_le _, Lib.hid (by simp), h⟩
  case round =>
    clear h
    obtain ⟨j, rfl, hj, HA, G⟩ := hrel
    by_cases hjn : j < L.length
    · obtain ⟨f, hf⟩ : ∃ f, L[j]? = some f := ⟨L[j], List.getElem?_eq_getElem hjn⟩
      obtain ⟨ad, rfl⟩ := rd_some (hl _ G) (by omega)
      have HF := Lib.hid (fds_at hf)
      have hfl := htr f (List.mem_of_getElem? hf)
      obtain ⟨r, hr⟩ : ∃ r, isG f = r := ⟨_, rfl⟩
      have HR := Lib.hid hr
      have HSPLIT : Hid (L = L.take j ++ f :: L.drop (j + 1)) := Lib.hid (by
        have := (List.getElem?_eq_some_iff.1 hf).2
        rw [← this, List.getElem_cons_drop, List.take_append_drop])
      have HTK : Hid (L.take (j + 1) = L.take j ++ [f]) := Lib.hid (by rw [List.take_add_one, hf]; rfl)
      clear hf hr
      go_wp2_with (first
        | ((with_reducible refine at_load ?_); refine wpu_loadE (k := j) (hl _ G) HF.out rfl (by kernel_rfl) rfl rfl ?_; go_frame)
        | fail)
      refine Calls.mono (grpc1C G) ?_
      clear G; rintro e w ⟨rfl, G⟩
      rw [HR.out]
      cases r
      · go_wp2_with fail
        go_roundw
        case rel => exact ⟨j + 1, by go_num, by omega, Lib.hid (by
          rw [HTK.out]
          intro g hg
          rcases List.mem_append.1 hg with hg | hg
          · exact HA.out g hg
          · rw [List.mem_singleton.1 hg]; exact HR.out), G⟩
        case measure => simp [intOf] <;> omega
      · go_wp2_with fail
        go_ret
        refine ⟨?_, G⟩
        have e : firstR isG L = j := by
          rw [HSPLIT.out, firstR_app HA.out]
          have : firstR isG (f :: L.drop (j + 1)) = 0 := by rw [firstR_cons, HR.out]; rfl
          rw [this]
          simp
          omega
        rw [e]
        rfl
    · go_wp2_with fail
      go_ret
      refine ⟨?_, G⟩
      have e : firstR isG L = -1 := by
        have := firstR_app (l2 := []) HA.out
        rw [List.append_nil, List.take_of_length_le (by omega)] at this
        rw [this]
        rfl
      rw [e]
      rfl

set_option maxHeartbeats 8000000 in
set_option maxRecDepth 100000 in
theorem grpcC {B w : World} {R : Assn} {L : List Fd} {v : Value} (h : Own B R w) (hl : ∀ w, Own B R w → rd w 3 v L.length (fds L)) :
    Calls Tryd.prog 42 #[v] w fun e w' => e = .returned (.bool (grpcR L)) ∧ Own B R w' := by
  have HC : Calls Tryd.prog 65 #[v, .func (.func 66) #[] #[]] w fun e w' => e = .returned (.bool (grpcR L)) ∧ Own B R w' := by
    unfold grpcR
    rw [← firstR_any]
    go_enter Tryd.func65, Tryd.ntmps65
    go_wp2_with fail
    refine Calls.mono (idxGrpcC h hl) ?_
    clear h; rintro e w ⟨rfl, h⟩
    go_wp2_with fail
    go_ret
    exact ⟨rfl, h⟩
  go_enter Tryd.func42, Tryd.ntmps42
  go_wp2_with fail
  refine Calls.mono HC ?_
  clear h HC; rintro e w ⟨rfl, h⟩
  go_wp2_with fail
  go_ret
  exact ⟨rfl, h⟩
end Go.Proofs.YtjcpfldobiekbaaDoor

namespace Go.Proofs.YtjcpfldobiekbaaDoor
open Go.RowKit Go.Sl Go.ChangeShapes

theorem cells_list {α : Type} {sz : Nat} {cs : α → List Value} {Pr : α → Prop} : ∀ (n : Nat) (xs : List Value), xs.length = n * sz → (∀ i, i < n → ∃ a, Pr a ∧ (xs.drop (i * sz)).take sz = cs a) → ∃ L : List α, L.length = n ∧ xs = L.flatMap cs ∧ ∀ a ∈ L, Pr a := by
  intro n
  induction n with
  | zero => intro xs h _; exact ⟨[], rfl, List.eq_nil_of_length_eq_zero (by rw [h]; exact Nat.zero_mul _), fun _ h => by cases h⟩
  | succ n ih =>
    intro xs h hel
    have e1 : (n + 1) * sz = n * sz + sz := Nat.succ_mul n sz
    obtain ⟨a, p, ha⟩ := hel 0 (Nat.succ_pos _)
    rw [Nat.zero_mul, List.drop_zero] at ha
    obtain ⟨L, hL, hx, hp⟩ := ih (xs.drop sz) (by rw [List.length_drop, h, e1]; omega) (fun i hi => by
      obtain ⟨b, q, hb⟩ := hel (i + 1) (by omega)
      refine ⟨b, q, ?_⟩
      rw [List.drop_drop, show sz + i * sz = (i + 1) * sz by rw [Nat.succ_mul]; omega]
      exact hb)
    refine ⟨a :: L, by simp [hL], ?_, ?_⟩
    · rw [List.flatMap_cons, ← hx, ← ha, List.take_append_drop]
    · intro b hb
      rcases List.mem_cons.1 hb with rfl | hb
      · exact p
      · exact hp b hb

section
theorem fieldCells {H : Type} {enc : TypeId × Value → H} {W : World} {cs : List Value} {d : DataW H} (h : RdC enc Tryd.prog W 47 cs d) :
    ∃ (x0 : List UInt8) (x1 : List UInt8) (x2 : Bool), cs = [str x0, str x1, .bool x2] ∧ x0.length ≤ maxLen ∧ x1.length ≤ maxLen ∧ True := by
  have hl := (rdc_struct Tryd.underlying47 h).1
  obtain ⟨e0, g0⟩ := rdc_field Tryd.underlying47 h 0 rfl (ft := 9) rfl (o := 0) rfl (c := 1) (by kernel_rfl)
  obtain ⟨x0, q0, b0, _⟩ := rdc_string Tryd.underlying9 g0
  obtain ⟨e1, g1⟩ := rdc_field Tryd.underlying47 h 1 rfl (ft := 9) rfl (o := 1) rfl (c := 1) (by kernel_rfl)
  obtain ⟨x1, q1, b1, _⟩ := rdc_string Tryd.underlying9 g1
  obtain ⟨e2, g2⟩ := rdc_field Tryd.underlying47 h 2 rfl (ft := 4) rfl (o := 2) rfl (c := 1) (by kernel_rfl)
  obtain ⟨x2, q2⟩ := rdc_bool Tryd.underlying4 g2
  refine ⟨x0, x1, x2, ?_, b0, b1, trivial⟩
  have hl' : cs.length = 3 := hl.trans (by kernel_rfl)
  refine list_of_cells hl' [str x0, str x1, .bool x2] rfl ?_
  intro i hi
  match i, hi with
  | 0, _ => exact take_one q0
  | 1, _ => exact take_one q1
  | 2, _ => exact take_one q2
  | i + 3, hi => exact absurd hi (by omega)
theorem matcherCells {H : Type} {enc : TypeId × Value → H} {W : World} {cs : List Value} {d : DataW H} (h : RdC enc Tryd.prog W 45 cs d) :
    ∃ (x0 : List UInt8) (x1 : List UInt8) (x2 : Int) (x3 : Bool), cs = [str x0, str x1, .int .i64 x2, .bool x3] ∧ x0.length ≤ maxLen ∧ x1.length ≤ maxLen ∧ (-9223372036854775808 ≤ x2 ∧ x2 ≤ 9223372036854775807) ∧ True := by
  have hl := (rdc_struct Tryd.underlying45 h).1
  obtain ⟨e0, g0⟩ := rdc_field Tryd.underlying45 h 0 rfl (ft := 9) rfl (o := 0) rfl (c := 1) (by kernel_rfl)
  obtain ⟨x0, q0, b0, _⟩ := rdc_string Tryd.underlying9 g0
  obtain ⟨e1, g1⟩ := rdc_field Tryd.underlying45 h 1 rfl (ft := 9) rfl (o := 1) rfl (c := 1) (by kernel_rfl)
  obtain ⟨x1, q1, b1, _⟩ := rdc_string Tryd.underlying9 g1
  obtain ⟨e2, g2⟩ := rdc_field Tryd.underlying45 h 2 rfl (ft := 3) rfl (o := 2) rfl (c := 1) (by kernel_rfl)
  obtain ⟨x2, q2, b2⟩ := rdc_i64 Tryd.underlying3 g2
  obtain ⟨e3, g3⟩ := rdc_field Tryd.underlying45 h 3 rfl (ft := 4) rfl (o := 3) rfl (c := 1) (by kernel_rfl)
  obtain ⟨x3, q3⟩ := rdc_bool Tryd.underlying4 g3
  refine ⟨x0, x1, x2, x3, ?_, b0, b1, b2, trivial⟩
  have hl' : cs.length = 4 := hl.trans (by kernel_rfl)
  refine list_of_cells hl' [str x0, str x1, .int .i64 x2, .bool x3] rfl ?_
  intro i hi
  match i, hi with
  | 0, _ => exact take_one q0
  | 1, _ => exact take_one q1
  | 2, _ => exact take_one q2
  | 3, _ => exact take_one q3
  | i + 4, hi => exact absurd hi (by omega)
theorem fds_in {H : Type} {enc : TypeId × Value → H} {W : World} {v : Value} {d : DataW H} (h : Arg enc Tryd.prog W 26 v d) :
    ∃ L : List Fd, rd W 3 v L.length (fds L) ∧ ∀ f ∈ L, f.1.length ≤ maxLen ∧ f.2.1.length ≤ maxLen := by
  obtain ⟨n, xs, hr, -, hel⟩ := arg_slice (sz := 3) Tryd.underlying26 (by kernel_rfl) h
  obtain ⟨L, rfl, rfl, hp⟩ := cells_list (α := Fd) (cs := Fd.cs) (Pr := fun f => f.1.length ≤ maxLen ∧ f.2.1.length ≤ maxLen) n xs hr.len (fun i hi => by
    obtain ⟨_, hd⟩ := hel i hi
    obtain ⟨x0, x1, x2, e, b0, b1, _⟩ := fieldCells hd
    exact ⟨(x0, x1, x2), ⟨b0, b1⟩, e⟩)
  exact ⟨L, hr, hp⟩
theorem mrs_in {H : Type} {enc : TypeId × Value → H} {W : World} {v : Value} {d : DataW H} (h : Arg enc Tryd.prog W 40 v d) :
    ∃ L : List Mr, rd W 4 v L.length (mrs L) ∧ ∀ m ∈ L, m.name.length ≤ maxLen ∧ m.value.length ≤ maxLen ∧ -9223372036854775808 ≤ m.how ∧ m.how ≤ 9223372036854775807 := by
  obtain ⟨n, xs, hr, -, hel⟩ := arg_slice (sz := 4) Tryd.underlying40 (by kernel_rfl) h
  obtain ⟨L, rfl, rfl, hp⟩ := cells_list (α := Mr) (cs := Mr.cs) (Pr := fun m => m.name.length ≤ maxLen ∧ m.value.length ≤ maxLen ∧ -9223372036854775808 ≤ m.how ∧ m.how ≤ 9223372036854775807) n xs hr.len (fun i hi => by
    obtain ⟨_, hd⟩ := hel i hi
    obtain ⟨x0, x1, x2, x3, e, b0, b1, b2, _⟩ := matcherCells hd
    exact ⟨⟨x0, x1, x2, x3⟩, ⟨b0, b1, b2⟩, e⟩)
  exact ⟨L, hr, hp⟩
end
theorem fds_take {w : World} {ao : Option Addr} {cap n : Nat} {L : List Fd} (h : rd w 3 (.slice ao n cap) n (fds L)) (hn : n = L.length) {k : Nat} (hk : k ≤ n) : rd w 3 (.slice ao k cap) (L.take k).length (fds (L.take k)) := by
  subst hn
  have e : (L.take k).length = k := by simp; omega
  have := rd_take h hk
  have e2 : (fds L).take (k * 3) = fds (L.take k) := by
    conv => lhs; rw [← List.take_append_drop k L, ← fds_app]
    rw [List.take_append_of_le_length (by rw [fds_len, e]; omega), List.take_of_length_le (by rw [fds_len, e]; omega)]
  rw [e, ← e2]; exact this
theorem mrs_take {w : World} {ao : Option Addr} {cap n : Nat} {L : List Mr} (h : rd w 4 (.slice ao n cap) n (mrs L)) (hn : n = L.length) {k : Nat} (hk : k ≤ n) : rd w 4 (.slice ao k cap) (L.take k).length (mrs (L.take k)) := by
  subst hn
  have e : (L.take k).length = k := by simp; omega
  have := rd_take h hk
  have e2 : (mrs L).take (k * 4) = mrs (L.take k) := by
    conv => lhs; rw [← List.take_append_drop k L, ← mrs_app]
    rw [List.take_append_of_le_length (by rw [mrs_len, e]; omega), List.take_of_length_le (by rw [mrs_len, e]; omega)]
  rw [e, ← e2]; exact this
end Go.Proofs.YtjcpfldobiekbaaDoor
