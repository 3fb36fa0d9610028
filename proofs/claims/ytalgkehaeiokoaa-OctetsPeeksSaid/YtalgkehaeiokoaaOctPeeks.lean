/-
  OctetsPeeks: a look takes nothing, and what is taken is what was looked at.
-/
import Derived.Test.YtalgkehaeiokoaaOctL
import Derived.Test.YtalgkehaeiokoaaLaw
namespace Go.Proofs.Ytalgkehaeiokoaa.octetsPeeks
open Go.RowKit Go.Sl Go.ChangeShapes

theorem peeksW {w : World} {v : Value} {l : List UInt8} {n : Int} (hr : rd w 1 v l.length (bs l)) (hl : l.length ≤ 140737488351232) (n1 : -9223372036854775808 ≤ n) (n2 : n ≤ 9223372036854775807) :
    Calls Try.prog 4 #[v, .int .i64 n] w fun e w' => e = .returned (.bool true) ∧ Below w.heap.size w w' := by
  have h0 := own_begin w
  obtain ⟨bo, bcap, rfl, j1, j2, -⟩ := id hr
  unfold maxLen at j2
  have hr2 := rd_take1 hr (k := min l.length 2000) (by omega)
  obtain ⟨l', hl'⟩ : ∃ l', l' = l.take (min l.length 2000) := ⟨_, rfl⟩
  have e1 : min l.length 2000 = l'.length := by subst hl'; simp
  rw [bs_take, ← hl', e1] at hr2
  have e2 : l'.length ≤ 2000 := by omega
  have H1 := Lib.hid e1
  clear e1 hl'
  go_enter Try.func4, Try.ntmps4
  go_wp2_with (go_at_call 9; refine (shownL h0).mono ?_; rintro e w1 ⟨rfl, h1⟩)
  have e3 : (min (l.length : Int) 2000).toNat = l'.length := by have := H1.out; omega
  rw [e3]
  clear e3
  refine (newQ 4000 h1).mono ?_
  rintro e w2 ⟨q, rfl, h2⟩
  replace h2 : Own w (queueA q [] 4000 * emp) w2 := h2
  go_wp2_with fail
  refine (pushQ h2 (by decide) (by decide) (y := l') (fun w' h => hr2.old h)).mono ?_
  rintro e w3 ⟨rfl, h3⟩
  replace h3 : Own w (queueA q l' 4000 * emp) w3 := by
    rw [List.take_of_length_le (by simp; omega)] at h3
    exact h3
  go_wp2_with fail
  refine (peekQ h3 (by omega) n).mono ?_
  rintro e w4 ⟨v4, rfl, h4⟩
  have el : min n.toNat l'.length = (l'.take n.toNat).length := by simp
  rw [el] at h4
  have s4 := strB (fun w h => h.rd v4 w h) w4 h4
  replace h4 := h4.skip
  go_wp2_with fail
  refine (peekQ h4 (by omega) n).mono ?_
  rintro e w5 ⟨v5, rfl, h5⟩
  rw [el] at h5
  have s5 := strB (fun w h => h.rd v5 w h) w5 h5
  replace h5 := h5.skip
  go_wp2_with fail
  refine (popQ h5 (by omega) n).mono ?_
  rintro e w6 ⟨v6, rfl, h6⟩
  rw [el] at h6
  have s6 := strB (fun w h => h.rd v6 w h) w6 h6
  replace h6 := h6.skip
  go_wp2_with fail
  refine (popQ h6 (by simp; omega) 4000).mono ?_
  rintro e w7 ⟨v7, rfl, h7⟩
  have ed : (l'.drop n.toNat).take (4000 : Int).toNat = l'.drop n.toNat := List.take_of_length_le (by simp; omega)
  rw [ed] at h7
  have s7 := strB (fun w h => h.rd v7 w h) w7 h7
  have s8 := strB (fun w' h => hr2.old h) w7 h7
  have b7 := h7.below
  clear h0 h1 h2 h3 h4 h5 h6 h7 hr2 hr ed
  have hz : l'.take n.toNat ++ l'.drop n.toNat = l' := List.take_append_drop _ _
  have hl : ((l'.take n.toNat).length : Int) = min (max n 0) l'.length := by simp; omega
  clear el
  generalize l'.take n.toNat = z at s4 s5 s6 hz hl ⊢
  generalize l'.drop n.toNat = r at s7 hz ⊢
  by_cases hn : n < 0
  · obtain rfl : z = [] := List.eq_nil_of_length_eq_zero (by omega)
    rw [List.nil_append] at hz
    subst hz
    clear hl
    go_wp2
    go_ret
    exact ⟨rfl, b7⟩
  · have hl' : (z.length : Int) = min n l'.length := by omega
    clear hl
    have hs : z.length + r.length ≤ 2000 := by rw [← List.length_append, hz]; exact e2
    go_wp2
    go_ret
    exact ⟨rfl, b7⟩

theorem contract {H : Type} {enc : TypeId × Value → H} {W : World} {vs : List Value} {ds : List (DataW H)}
    (hA : Args enc Try.prog W [22, 3] vs ds) (hsz : (DataW.weightsEach Try.prog [22, 3] ds).all (· ≤ reachBytes) = true) :
    Calls Try.prog 4 vs.toArray W fun e W' => e = .returned (.bool true) ∧ Below W.heap.size W W' := by
  obtain ⟨v0, _, d0, _, rfl, rfl, h0, hA⟩ := args_cons hA
  obtain ⟨v1, _, d1, _, rfl, rfl, h1, hA⟩ := args_cons hA
  obtain ⟨rfl, rfl⟩ := args_nil hA
  obtain ⟨l, hr, hd⟩ := arg_bytes Try.underlying22 Try.underlying5 (by kernel_rfl) h0
  obtain ⟨n, rfl, n1, n2⟩ := arg_i64 Try.underlying3 h1
  have hn := reach_slice hsz 0 (b := 1) rfl rfl Try.underlying22 (by kernel_rfl) (Or.elim hd (fun h => .inl ⟨by rw [h.1]; rfl, h.2⟩) .inr)
  exact peeksW hr (by omega) n1 n2

theorem spec {H : Type} : ∀ ds : List (DataW H), ds.length = 2 → Rows.octetsPeeksSpec.fn H ds = { results := [.lit (.bool true)], args := ds }
  | [_, _], _ => rfl
  | [], h => by cases h
  | [_], h => by cases h
  | _ :: _ :: _ :: _, h => by simp at h
set_option maxRecDepth 100000 in
theorem lifted (os : Os) (started : os.Started) (H : Type) (enc : TypeId × Value → H) :
    ReturnsInHanded {} Try.checked os 4 .any (Rows.octetsPeeksSpec.pre6 enc Try.prog Try.f4 Rows.octetsPeeksRow.domain false) (Rows.octetsPeeksSpec.post enc Try.prog Try.f4 false true false false) :=
  lifted_of_law (C := Try.checked) (fn := Try.f4) (s := Rows.octetsPeeksSpec) (tb := 4) (by kernel_rfl) started (by kernel_rfl) Try.func4
    (ChangeSpec.witness6 (enc := enc) (C := Try.checked) false ⟨#[], #[.slice none 0 0, .int .i64 0], []⟩ 8 (by kernel_rfl) (by kernel_rfl) (by kernel_rfl) (by kernel_rfl))
    rfl spec (by kernel_rfl) Try.underlying4 (by kernel_rfl) (by kernel_rfl) (fun _ _ _ h1 h2 => contract h1 h2)

theorem proved : Rows.OctetsPeeksSaid :=
  OpenClaim.holds_of_wide 4 Try.f4 rfl rfl rfl rfl rfl rfl rfl ⟨rfl, rfl, rfl, rfl, rfl⟩ rfl rfl rfl rfl rfl (by kernel_rfl) Try.func4 (by kernel_rfl)
    (of_decide_eq_true (by kernel_rfl)) (by unfold Func.isWrapper; first | (rw [if_pos (by decide +kernel)]; kernel_rfl) | (rw [if_neg (by decide +kernel)]; exact ⟨rfl, rfl⟩))
    (fun os started H enc _ => lifted os started H enc)
end Go.Proofs.Ytalgkehaeiokoaa.octetsPeeks
