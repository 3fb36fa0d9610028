/-
  What the laws of package octets share: 'shown'.
-/
import Derived.Test.YtalgkehaeiokoaaOctR
namespace Go.Proofs.Ytalgkehaeiokoaa
open Go.RowKit Go.Sl

section
variable {B w : World} {A R : Assn}

theorem shownL (h : Own B A w) : Calls Try.prog 9 #[] w fun e w' => e = .returned (.bool true) ∧ Own B A w' := by
  have g1 := own_new_sl h [.int .u8 1, .int .u8 2, .int .u8 3] 5 1 3 rfl (by decide)
  have e0 : uintOf [1, 2] = 258 := by decide
  go_enter Try.func9, Try.ntmps9
  go_wp2_with fail
  refine (uintYes (l := [1, 2, 3]) (N := 2) g1 (fun w h => h.rd _ w h) (by decide) (by decide) (by decide)).mono ?_
  rintro e w1 ⟨rfl, h1⟩
  replace h1 := h1.right
  have g2 := own_new_sl h1 [.int .u8 1, .int .u8 2, .int .u8 3] 5 1 3 rfl (by decide)
  go_wp2_with fail
  refine (uintNo (N := 4) g2 (fun w h => h.rd _ w h) (by decide)).mono ?_
  rintro e w2 ⟨rfl, h2⟩
  replace h2 := h2.right
  go_wp2_with fail
  refine (newQ 3 h2).mono ?_
  rintro e w3 ⟨q, rfl, h3⟩
  replace h3 : Own B (queueA q [] 3 * A) w3 := h3
  have g3 := own_new_sl h3 [.int .u8 1, .int .u8 2, .int .u8 3, .int .u8 4] 5 1 4 rfl (by decide)
  go_wp2_with fail
  refine (pushQ (R := sl 1 _ 4 _ * A) (y := [1, 2, 3, 4]) (g3.eq (by ac_rfl)) (by decide) (by decide) (fun w h => h.rd _ w h)).mono ?_
  rintro e w4 ⟨rfl, h4⟩
  replace h4 : Own B (queueA q [1, 2, 3] 3 * A) w4 := h4.skip
  go_wp2_with fail
  refine (popQ h4 (by decide) 2).mono ?_
  rintro e w5 ⟨v5, rfl, h5⟩
  replace h5 : Own B (queueA q [3] 3 * (sl 1 v5 2 (bs [1, 2]) * A)) w5 := h5
  have g5 := own_new_sl h5 [.int .u8 5] 5 1 1 rfl (by decide)
  go_wp2_with fail
  refine (putB (l := [5]) (x := 258) (N := 3) g5 (fun w h => h.rd _ w h) (by decide) (by decide) (by decide) (by decide)).mono ?_
  rintro e w6 ⟨v6, rfl, h6⟩
  have s6 := strB (fun w h => has_rd (R := _) rfl w h) w6 h6
  have s5 : ∀ w, Own B (queueA q [3] 3 * (sl 1 v5 2 (bs [1, 2]) * A)) w → _ := strB (fun w h => h.rd v5 w h)
  have s5 := s5 w6 h6.right.right
  go_wp2_with fail
  refine (roomQ h6.right.right (by decide) (by decide)).mono ?_
  rintro e w7 ⟨rfl, h7⟩
  go_wp2
  go_ret
  exact ⟨rfl, h7.right.right⟩
end
end Go.Proofs.Ytalgkehaeiokoaa
