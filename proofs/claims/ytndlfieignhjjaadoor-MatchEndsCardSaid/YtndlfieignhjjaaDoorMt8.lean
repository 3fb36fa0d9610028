
/-
  Package match: what the laws share.
-/
import Derived.Test.YtndlfieignhjjaaDoorMt6
namespace Go.Proofs.YtndlfieignhjjaaDoor
open Go.RowKit Go.Sl Go.ChangeShapes

/-! ### what the laws share -/

def cutT (l : Txt) : Txt := l.take (min l.length 2000)
theorem cutT_len (l : Txt) : (cutT l).length ≤ 2000 := by unfold cutT; simp; omega

set_option maxHeartbeats 8000000 in
set_option maxRecDepth 100000 in
theorem cutC {B w : World} {A : Assn} {l : Txt} (hl : l.length ≤ 9223372036854775807) (h : Own B A w) : Calls Tryd.prog 13 #[str l] w fun e w' => e = .returned (str (cutT l)) ∧ Own B A w' := by
  go_enter Tryd.func13, Tryd.ntmps13
  go_wp2_with (first
    | ((with_reducible refine at_sliceAny ?_); refine wpu_strH (j := min l.length 2000) rfl (by kernel_rfl) rfl rfl (by omega) (by omega) ?_; go_frame)
    | fail)
  go_ret
  exact ⟨rfl, h⟩

theorem sh1 : callV (callR [47, 97, 46, 98, 47, 71, 101, 116]) = .tuple #[str [97, 46, 98], str [71, 101, 116], .bool true] := by kernel_rfl
theorem sh2 : pathR 2 [47, 97] [47, 97, 47, 98, 63, 99] = true := by kernel_rfl
theorem sh3 : pathR 2 [47, 97] [47, 97, 98] = false := by kernel_rfl
theorem sh4 : hostR [42, 46, 120, 46, 111, 114, 103] [65, 46, 120, 46, 111, 114, 103, 58, 56, 48] = 8 := by kernel_rfl
theorem sh5 : hostR [42, 46, 120, 46, 111, 114, 103] [120, 46, 111, 114, 103] = 0 := by kernel_rfl

set_option maxHeartbeats 8000000 in
set_option maxRecDepth 100000 in
theorem shownMt {B w : World} {A : Assn} (h : Own B A w) : Calls Tryd.prog 12 #[] w fun e w' => e = .returned (.bool true) ∧ Own B A w' := by
  have HCALL : Hid (∀ w, Own B A w → Calls Tryd.prog 14 #[str [47, 97, 46, 98, 47, 71, 101, 116]] w fun e w' => e = .returned (.tuple #[str [97, 46, 98], str [71, 101, 116], .bool true]) ∧ Own B A w') := Lib.hid fun w h => by
    have := callC (p := [47, 97, 46, 98, 47, 71, 101, 116]) (by decide) h
    rwa [sh1] at this
  have HP1 : Hid (∀ w, Own B A w → Calls Tryd.prog 16 #[.int .i64 2, str [47, 97], str [47, 97, 47, 98, 63, 99]] w fun e w' => e = .returned (.bool true) ∧ Own B A w') := Lib.hid fun w h => by
    have := pathC (how := 2) (want := [47, 97]) (p := [47, 97, 47, 98, 63, 99]) (by decide) (by decide) h
    rwa [sh2] at this
  have HP2 : Hid (∀ w, Own B A w → Calls Tryd.prog 16 #[.int .i64 2, str [47, 97], str [47, 97, 98]] w fun e w' => e = .returned (.bool false) ∧ Own B A w') := Lib.hid fun w h => by
    have := pathC (how := 2) (want := [47, 97]) (p := [47, 97, 98]) (by decide) (by decide) h
    rwa [sh3] at this
  have HH1 : Hid (∀ w, Own B A w → Calls Tryd.prog 18 #[str [42, 46, 120, 46, 111, 114, 103], str [65, 46, 120, 46, 111, 114, 103, 58, 56, 48]] w fun e w' => e = .returned (.int .i64 8) ∧ Own B A w') := Lib.hid fun w h => by
    have := hostC (pat := [42, 46, 120, 46, 111, 114, 103]) (auth := [65, 46, 120, 46, 111, 114, 103, 58, 56, 48]) (by decide) (by decide) h
    rwa [sh4] at this
  have HH2 : Hid (∀ w, Own B A w → Calls Tryd.prog 18 #[str [42, 46, 120, 46, 111, 114, 103], str [120, 46, 111, 114, 103]] w fun e w' => e = .returned (.int .i64 0) ∧ Own B A w') := Lib.hid fun w h => by
    have := hostC (pat := [42, 46, 120, 46, 111, 114, 103]) (auth := [120, 46, 111, 114, 103]) (by decide) (by decide) h
    rwa [sh5] at this
  go_enter Tryd.func12, Tryd.ntmps12
  go_wp2_with (first
    | (go_at_call 14; refine Calls.mono (HCALL.out _ h) ?_; clear h; rintro e w ⟨rfl, h⟩)
    | (go_at_call 16; first
      | ((with_reducible refine Calls.mono (HP1.out _ h) ?_); clear h; rintro e w ⟨rfl, h⟩)
      | ((with_reducible refine Calls.mono (HP2.out _ h) ?_); clear h; rintro e w ⟨rfl, h⟩))
    | (go_at_call 18; first
      | ((with_reducible refine Calls.mono (HH1.out _ h) ?_); clear h; rintro e w ⟨rfl, h⟩)
      | ((with_reducible refine Calls.mono (HH2.out _ h) ?_); clear h; rintro e w ⟨rfl, h⟩))
    | fail)
  go_ret
  exact ⟨rfl, h⟩
end Go.Proofs.YtndlfieignhjjaaDoor
