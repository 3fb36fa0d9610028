

/-
  Package reply: Back, Forth, and what its laws share.
-/
import Derived.Test.YtnjldofiogbolaaDoorRp
import Derived.Test.YtnjldofiogbolaaDoorRows
import Derived.Stop.LaidErr
import Derived.MakeChecks
import Derived.LaidMore
import Derived.Lib.LaidTab
namespace Go.Proofs.YtnjldofiogbolaaDoor
open Go.RowKit Go.Sl Go.ChangeShapes

theorem pow10_laid {W : World} (hL : laidMetH Tryd.prog Rows.replyTellsRow.laid W) : Pow10 W := by
  rw [MakeChecks.laidMetH_plain _ _ _ (by kernel_rfl)] at hL
  have h2 : laidMet Tryd.prog [("internal/strconv.uint64pow10", Lib.tabData .u64 Lib.pow10Tab)] W := laidMet.tail (laidMet.tail hL)
  exact Lib.tabIs_of_head (g := (Tryd.prog.globalNamed "internal/strconv.uint64pow10").get!) (by kernel_rfl) (by kernel_rfl) Tryd.underlying100 Tryd.underlying82 (by kernel_rfl) (by kernel_rfl) h2

theorem codes5 (c : Int) : c = 0 ∨ c = 7 ∨ c = 8 ∨ c = 11 ∨ (c ≠ 0 ∧ c ≠ 7 ∧ c ≠ 8 ∧ c ≠ 11 ∧ (c == 0) = false ∧ (c == 7) = false ∧ (c == 8) = false ∧ (c == 11) = false) := by
  by_cases h0 : c = 0
  · exact .inl h0
  by_cases h7 : c = 7
  · exact .inr (.inl h7)
  by_cases h8 : c = 8
  · exact .inr (.inr (.inl h8))
  by_cases h11 : c = 11
  · exact .inr (.inr (.inr (.inl h11)))
  exact .inr (.inr (.inr (.inr ⟨h0, h7, h8, h11, by simp [h0], by simp [h7], by simp [h8], by simp [h11]⟩)))


theorem backC (c : Int) (b : Bool) (w : World) : Calls Tryd.prog 11 #[.int .u32 c, .bool b] w fun e w' => e = .returned (.tuple #[.int .i64 (backR c b).1, .int .u32 (backR c b).2]) ∧ w' = w := by
  rcases codes5 c with rfl | rfl | rfl | rfl | ⟨h0, h7, h8, h11, b0, b7, b8, b11⟩
  all_goals
    cases b
    all_goals
      go_enter Tryd.func11, Tryd.ntmps11
      go_wp2_with fail
      try simp only [Exit.inBlock, Exit.then]
      refine bodyPost_ret (results2 rfl (by first | exact resT rfl | exact resB G rfl (by rfl) | exact resO G rfl rfl) (by first | exact resT rfl | exact resB G rfl (by rfl) | exact resO G rfl rfl)) rfl ?_
      first | exact ⟨rfl, rfl⟩ | exact ⟨by simp [backR, h0, h7, h8, h11], rfl⟩
theorem backRefC (c : Int) (b : Bool) (w : World) : Calls Tryd.prog 12 #[.int .u32 c, .bool b] w fun e w' => e = .returned (.tuple #[.int .i64 (backR c b).1, .int .u32 (backR c b).2]) ∧ w' = w := by
  rcases codes5 c with rfl | rfl | rfl | rfl | ⟨h0, h7, h8, h11, b0, b7, b8, b11⟩
  all_goals
    cases b
    all_goals
      go_enter Tryd.func12, Tryd.ntmps12
      go_wp2_with fail
      try simp only [Exit.inBlock, Exit.then]
      refine bodyPost_ret (results2 rfl (by first | exact resT rfl | exact resB G rfl (by rfl) | exact resO G rfl rfl) (by first | exact resT rfl | exact resB G rfl (by rfl) | exact resO G rfl rfl)) rfl ?_
      first | exact ⟨rfl, rfl⟩ | exact ⟨by simp [backR, h0, h7, h8, h11], rfl⟩
theorem forthC (c : Int) (w : World) : Calls Tryd.prog 13 #[.int .u32 c] w fun e w' => e = .returned (.int .u32 (forthR c)) ∧ w' = w := by
  rcases codes5 c with rfl | rfl | rfl | rfl | ⟨h0, h7, h8, h11, b0, b7, b8, b11⟩
  all_goals
    go_enter Tryd.func13, Tryd.ntmps13
    go_wp2_with fail
    go_ret
    first | exact ⟨rfl, rfl⟩ | exact ⟨by simp [forthR, h0, h7, h8, h11], rfl⟩
theorem forthRefC (c : Int) (w : World) : Calls Tryd.prog 14 #[.int .u32 c] w fun e w' => e = .returned (.int .u32 (forthR c)) ∧ w' = w := by
  rcases codes5 c with rfl | rfl | rfl | rfl | ⟨h0, h7, h8, h11, b0, b7, b8, b11⟩
  all_goals
    go_enter Tryd.func14, Tryd.ntmps14
    go_wp2_with fail
    go_ret
    first | exact ⟨rfl, rfl⟩ | exact ⟨by simp [forthR, h0, h7, h8, h11], rfl⟩

set_option maxHeartbeats 4000000 in
set_option maxRecDepth 100000 in
theorem shownRp {B w : World} {A : Assn} (hT : Pow10 B) (h : Own B A w) : Calls Tryd.prog 7 #[] w fun e w' => e = .returned (.bool true) ∧ Own B A w' := by
  go_enter Tryd.func7, Tryd.ntmps7
  go_wp2_with fail
  refine Calls.mono (localC hT h) ?_
  clear h; rintro e w ⟨v, rfl, G⟩
  replace G : Own B (sl 3 v 4 (fds (localL 404 true)) * A) w := G
  obtain ⟨ao, cap, rfl, j1, j2⟩ := G.hdr v
  obtain ⟨ad, rfl⟩ := rd_some (G.rd (.slice ao 4 cap) _ G) (by decide)
  unfold maxLen at j2
  have HX : Hid (((fds (localL 404 true)).drop (2 * 3)).take 3 = [str [103, 114, 112, 99, 45, 115, 116, 97, 116, 117, 115], str [49, 50], .bool false]) := Lib.hid rfl
  go_wp2_with (first
    | (go_at_call 11; refine Calls.mono (backC _ _ _) ?_; rintro e w ⟨rfl, rfl⟩; simp only [backR])
    | (go_at_call 13; refine Calls.mono (forthC _ _) ?_; rintro e w ⟨rfl, rfl⟩; simp only [forthR])
    | ((with_reducible refine at_load ?_); first
      | (refine wpu_loadF0 (k := 2) (G.rd (.slice (some ad) 4 cap) _ G) HX.out rfl rfl rfl rfl ?_; go_frame)
      | (refine wpu_loadF (k := 2) (G.rd (.slice (some ad) 4 cap) _ G) HX.out rfl rfl rfl rfl ?_; go_frame))
    | fail)
  go_ret
  exact ⟨rfl, G.right⟩
end Go.Proofs.YtnjldofiogbolaaDoor
