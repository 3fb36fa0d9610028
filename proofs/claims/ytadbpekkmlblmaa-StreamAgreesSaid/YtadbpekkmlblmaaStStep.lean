
/-
  What a frame does to a stream: Step.
-/
import Derived.Test.YtadbpekkmlblmaaTy
namespace Go.Proofs.Ytadbpekkmlblmaa
open Go.RowKit Go.Sl

/-- behind a frame that is sent -/
def sentS (s k : Int) (e : Bool) : Int × Int × Nat :=
  if (s = 0 ∧ k = 1) ∨ (s = 1 ∧ (k = 0 ∨ k = 1)) then (if e then 2 else 1, 0, 0)
  else if s = 3 ∧ (k = 0 ∨ k = 1) then (if e then 4 else 3, 0, 0)
  else if 1 ≤ s ∧ s ≤ 3 ∧ k = 3 then (5, 0, 0)
  else if 1 ≤ s ∧ s ≤ 3 ∧ k = 8 then (s, 0, 0)
  else (s, 4, 2)
/-- behind a frame that has come -/
def gotS (s k : Int) (e : Bool) : Int × Int × Nat :=
  if k = 5 ∨ (s = 0 ∧ k ≠ 1) then (s, 3, 1)
  else if s ≤ 2 ∧ (k = 0 ∨ k = 1) then (if e then (if s = 2 then 4 else 3) else max s 1, 0, 0)
  else if s ≤ 3 ∧ ¬ (k = 0 ∨ k = 1) then (if k = 3 then 6 else s, 0, 0)
  else if s = 4 ∧ (k = 0 ∨ k = 1) then (s, 3, 5)
  else if s = 3 ∨ (s = 6 ∧ k ≠ 3) then (5, 2, 5)
  else (s, 1, 0)
def stepS (s : Int) (sends : Bool) (k : Int) (e : Bool) : Int × Int × Nat :=
  if s < 0 ∨ 6 < s then (s, 4, 2)
  else if k < 0 ∨ 8 < k ∨ k = 4 ∨ k = 6 ∨ k = 7 ∨ k = 2 then (s, 0, 0)
  else if sends then sentS s k e else gotS s k e

def StR (r : Int × Int × Nat) : Value := .tuple #[.int .i64 r.1, .int .i64 r.2.1, .int .u32 r.2.2]

section
variable {B w : World} {A : Assn}

set_option maxHeartbeats 8000000 in
theorem sentW {s k : Int} {e : Bool} (h : Own B A w) (hs : s = 0 ∨ s = 1 ∨ s = 2 ∨ s = 3 ∨ s = 4 ∨ s = 5 ∨ s = 6) (hk : k = 0 ∨ k = 1 ∨ k = 3 ∨ k = 5 ∨ k = 8) :
    Calls Try.prog 31 #[.int .i64 s, .int .i64 k, .bool e] w fun r w' => r = .returned (StR (sentS s k e)) ∧ Own B A w' := by
  rcases hs with rfl | rfl | rfl | rfl | rfl | rfl | rfl
  all_goals
    rcases hk with rfl | rfl | rfl | rfl | rfl
    all_goals
      cases e
      all_goals
        go_enter Try.func31, Try.ntmps31
        go_wp2
        go_ret3
        exact ⟨rfl, h⟩

set_option maxHeartbeats 8000000 in
theorem gotW {s k : Int} {e : Bool} (h : Own B A w) (hs : s = 0 ∨ s = 1 ∨ s = 2 ∨ s = 3 ∨ s = 4 ∨ s = 5 ∨ s = 6) (hk : k = 0 ∨ k = 1 ∨ k = 3 ∨ k = 5 ∨ k = 8) :
    Calls Try.prog 32 #[.int .i64 s, .int .i64 k, .bool e] w fun r w' => r = .returned (StR (gotS s k e)) ∧ Own B A w' := by
  have G := h
  rcases hs with rfl | rfl | rfl | rfl | rfl | rfl | rfl
  all_goals
    rcases hk with rfl | rfl | rfl | rfl | rfl
    all_goals
      cases e
      all_goals
        go_enter Try.func32, Try.ntmps32
        go_wp2_with (first
          | ((with_reducible refine at_alloc ?_); refine wpu_new G ?_; clear G; intro w G)
          | ((with_reducible refine at_drew ?_); refine wpu_drew G ?_; clear G; intro w G)
          | ((with_reducible refine at_load ?_); first
            | (refine wpu_load G rfl rfl rfl rfl ?_; go_frame)
            | (refine wpu_loadB G rfl rfl rfl (by rfl) ?_; go_frame)
            | (refine wpu_loadS G rfl rfl rfl (by rfl) ?_; simp only [List.drop_succ_cons, List.drop_zero, List.take_succ_cons, List.take_zero]; go_frame))
          | ((with_reducible refine at_store ?_); first
            | (refine wpu_store G rfl rfl rfl rfl (by first | rfl | assumption | simp [*]) rfl ?_; clear G; intro w G; go_frame)
            | (refine wpu_storeB G rfl rfl rfl rfl (by rfl) (by rfl) (by first | rfl | assumption | simp [*]) ?_; clear G; intro w G; go_frame)
            | (refine wpu_storeS G rfl rfl rfl rfl (by rfl) (by rfl) (by first | rfl | assumption | simp [*]) ?_; clear G; intro w G; go_frame))
          | ((with_reducible refine at_convert ?_); refine wpu_str G rfl rfl rfl rfl ?_; go_frame)
          | ((with_reducible refine at_slice ?_); first
            | (refine wpu_sliceLo rfl rfl rfl rfl (by first | rfl | omega) (by omega) (by omega) ?_; go_frame)
            | (refine wpu_sliceLH rfl rfl rfl rfl rfl (by first | rfl | omega) (by first | rfl | omega) (by omega) (by omega) ?_; go_frame))
          | fail)
        go_ret3
        exact ⟨rfl, G.give⟩

theorem stepW {s k : Int} {e sends : Bool} (h : Own B A w) (s1 : -9223372036854775808 ≤ s) (s2 : s ≤ 9223372036854775807) (k1 : -9223372036854775808 ≤ k) (k2 : k ≤ 9223372036854775807) :
    Calls Try.prog 10 #[.int .i64 s, .bool sends, .int .i64 k, .bool e] w fun r w' => r = .returned (StR (stepS s sends k e)) ∧ Own B A w' := by
  obtain ⟨r, hr⟩ : ∃ r, stepS s sends k e = r := ⟨_, rfl⟩
  rw [hr]
  have HR := Lib.hid hr
  clear hr
  by_cases a1 : s < 0
  · go_enter Try.func10, Try.ntmps10
    go_wp2_with fail
    go_ret3
    exact ⟨by rw [← HR.out, stepS, if_pos (by omega)]; rfl, h⟩
  · by_cases a2 : 6 < s
    · go_enter Try.func10, Try.ntmps10
      go_wp2_with fail
      go_ret3
      exact ⟨by rw [← HR.out, stepS, if_pos (by omega)]; rfl, h⟩
    · by_cases a3 : k = 0 ∨ k = 1 ∨ k = 3 ∨ k = 5 ∨ k = 8
      · have hs : s = 0 ∨ s = 1 ∨ s = 2 ∨ s = 3 ∨ s = 4 ∨ s = 5 ∨ s = 6 := by omega
        have a3' := Lib.hid a3
        have hs' := Lib.hid hs
        have q1 : ∀ x y : Int × Int × Nat, stepS s sends k e = (if sends then sentS s k e else gotS s k e) := fun _ _ => by rw [stepS, if_neg (by omega), if_neg (by omega)]
        have Q := Lib.hid (q1 default default)
        clear q1
        have kz : 0 ≤ k ∧ k ≤ 8 := by omega
        obtain ⟨kz1, kz2⟩ := kz
        have n4 : (k == 4) = false := by simp; omega
        have n6 : (k == 6) = false := by simp; omega
        have n7 : (k == 7) = false := by simp; omega
        have n2 : (k == 2) = false := by simp; omega
        have m4 : decide (k = 4) = false := by simp; omega
        have m6 : decide (k = 6) = false := by simp; omega
        have m7 : decide (k = 7) = false := by simp; omega
        have m2 : decide (k = 2) = false := by simp; omega
        clear a3 hs
        cases sends
        all_goals
          go_enter Try.func10, Try.ntmps10
          go_wp2_with fail
        · refine Calls.mono (gotW h hs'.out a3'.out) ?_
          rintro r w ⟨rfl, h⟩
          simp only [StR]
          go_wp2_with fail
          go_ret3
          exact ⟨by rw [← HR.out, Q.out]; rfl, h⟩
        · refine Calls.mono (sentW h hs'.out a3'.out) ?_
          rintro r w ⟨rfl, h⟩
          simp only [StR]
          go_wp2_with fail
          go_ret3
          exact ⟨by rw [← HR.out, Q.out]; rfl, h⟩
      · have hx : stepS s sends k e = (s, 0, 0) := by rw [stepS, if_neg (by omega), if_pos (by omega)]
        have HX := Lib.hid hx
        clear hx
        have : k < 0 ∨ 8 < k ∨ k = 4 ∨ k = 6 ∨ k = 7 ∨ k = 2 := by omega
        clear a3
        rcases this with b | b | rfl | rfl | rfl | rfl
        all_goals
          go_enter Try.func10, Try.ntmps10
          go_wp2_with fail
          go_ret3
          exact ⟨by rw [← HR.out, HX.out]; rfl, h⟩
end
end Go.Proofs.Ytadbpekkmlblmaa
