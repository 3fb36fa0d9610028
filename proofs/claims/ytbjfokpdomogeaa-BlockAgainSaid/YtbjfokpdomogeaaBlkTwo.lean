
/-
  Package block: a block in two parts is told.
-/
import Derived.Test.YtbjfokpdomogeaaBlkL
namespace Go.Proofs.Ytbjfokpdomogeaa
open Go.RowKit Go.Sl


section
variable {B w : World} {A R : Assn}

set_option maxHeartbeats 1000000 in
theorem twoAt {x : Nat} {v : Value} {l : List UInt8} {s cut : Int} {q N : Nat} (hq : q ≤ 32) (h : Own B (asmA x ⟨300, none, q, none⟩ * R) w) (hr : rd B 1 v l.length (bs l)) (hl : l.length ≤ 300) (c1 : -9223372036854775808 ≤ cut) (c2 : cut ≤ 9223372036854775807)
    (hN : N ≤ l.length) (hc : if 0 < cut then cut % ((l.length : Int) + 1) = N else N = 0) :
    Calls Try.prog 13 #[.pointer (some ⟨x, 0, none⟩), v, .int .i64 s, .int .i64 cut] w fun e w' => e = .returned (.bool true) ∧ Own B (asmA x ⟨300, none, 1, none⟩ * R) w' := by
  have HR := Lib.hid hr
  obtain ⟨ao, cap, rfl, h1, h2, -⟩ := hr
  unfold maxLen at h2
  have G := h
  by_cases hp : 0 < cut
  · rw [if_pos hp] at hc
    have hr1 := rd_bs_take HR.out hN
    have hr2 := rd_bs_drop HR.out hN
    have HR1 := Lib.hid hr1
    have HR2 := Lib.hid hr2
    clear hr1 hr2
    go_enter Try.func13, Try.ntmps13
    go_wp2_with (first
      | (refine wpu_new G ?_; clear G; intro w G)
      | (refine wpu_drew G ?_; clear G; intro w G)
      | (refine wpu_load G rfl rfl rfl rfl ?_)
      | (refine wpu_loadB G rfl rfl rfl (by rfl) ?_)
      | (refine wpu_loadS G rfl rfl rfl (by rfl) ?_; simp only [List.drop_succ_cons, List.drop_zero, List.take_succ_cons, List.take_zero])
      | (refine wpu_store G rfl rfl rfl rfl (by first | rfl | assumption | simp [*]) rfl ?_; clear G; intro w G)
      | (refine wpu_storeB G rfl rfl rfl rfl (by rfl) (by rfl) (by first | rfl | assumption | simp [*]) ?_; clear G; intro w G)
      | (refine wpu_storeS G rfl rfl rfl rfl (by rfl) (by rfl) (by first | rfl | assumption | simp [*]) ?_; clear G; intro w G)
      | (refine wpu_str G rfl rfl rfl rfl ?_)
      | (refine wpu_sliceLo rfl rfl rfl rfl (by first | rfl | omega) (by omega) (by omega) ?_)
      | (refine wpu_sliceLH rfl rfl rfl rfl rfl (by first | rfl | omega) (by first | rfl | omega) (by omega) (by omega) ?_)
      | fail)
    refine Calls.mono (Can.more (s' := ⟨300, some (mkFr 1 s false (.slice ao N cap), l.take N), 0, none⟩) (f := mkFr 1 s false (.slice ao N cap)) (l := l.take N) (nl := 0) (lc := []) ⟨G.pullF (asmA x), fun w h => HR1.out.old h, fun w _ => rd_nil w 2, by simp, by simp <;> omega, by decide, Nat.zero_le _, hq, by intro _ _ e; cases e⟩ ?_) ?_
    · simp [Asm.step, Asm.wrong, mkFr] <;> omega
    clear G; rintro e w ⟨rfl, G⟩
    go_wp2_with (first
      | (refine wpu_new G ?_; clear G; intro w G)
      | (refine wpu_drew G ?_; clear G; intro w G)
      | (refine wpu_load G rfl rfl rfl rfl ?_)
      | (refine wpu_loadB G rfl rfl rfl (by rfl) ?_)
      | (refine wpu_loadS G rfl rfl rfl (by rfl) ?_; simp only [List.drop_succ_cons, List.drop_zero, List.take_succ_cons, List.take_zero])
      | (refine wpu_store G rfl rfl rfl rfl (by first | rfl | assumption | simp [*]) rfl ?_; clear G; intro w G)
      | (refine wpu_storeB G rfl rfl rfl rfl (by rfl) (by rfl) (by first | rfl | assumption | simp [*]) ?_; clear G; intro w G)
      | (refine wpu_storeS G rfl rfl rfl rfl (by rfl) (by rfl) (by first | rfl | assumption | simp [*]) ?_; clear G; intro w G)
      | (refine wpu_str G rfl rfl rfl rfl ?_)
      | (refine wpu_sliceLo rfl rfl rfl rfl (by first | rfl | omega) (by omega) (by omega) ?_)
      | (refine wpu_sliceLH rfl rfl rfl rfl rfl (by first | rfl | omega) (by first | rfl | omega) (by omega) (by omega) ?_)
      | fail)
    refine Calls.mono (Can.whole (s' := ⟨300, none, 1, none⟩) (f := mkFr 9 s true (.slice (cutA ao cap N 1) (l.length - N) (cap - N))) (g := mkFr 1 s false (.slice ao N cap)) (k := l) (l := l.drop N) (nl := 0) (lc := []) ⟨G.pullF (asmA x), fun w h => HR2.out.old h, fun w _ => rd_nil w 2, by simp, by simp <;> omega, by decide, by simp [Asm.len] <;> omega, Nat.zero_le _, by intro _ _ e; cases e; rfl⟩ ?_) ?_
    · simp [Asm.step, Asm.wrong, mkFr] <;> omega
    clear G; rintro e w ⟨v, rfl, G⟩
    obtain ⟨po, cap, rfl, i1, i2⟩ := G.hdr v
    go_wp2_with (first
      | (refine wpu_new G ?_; clear G; intro w G)
      | (refine wpu_drew G ?_; clear G; intro w G)
      | (refine wpu_load G rfl rfl rfl rfl ?_)
      | (refine wpu_loadB G rfl rfl rfl (by rfl) ?_)
      | (refine wpu_loadS G rfl rfl rfl (by rfl) ?_; simp only [List.drop_succ_cons, List.drop_zero, List.take_succ_cons, List.take_zero])
      | (refine wpu_store G rfl rfl rfl rfl (by first | rfl | assumption | simp [*]) rfl ?_; clear G; intro w G)
      | (refine wpu_storeB G rfl rfl rfl rfl (by rfl) (by rfl) (by first | rfl | assumption | simp [*]) ?_; clear G; intro w G)
      | (refine wpu_storeS G rfl rfl rfl rfl (by rfl) (by rfl) (by first | rfl | assumption | simp [*]) ?_; clear G; intro w G)
      | (refine wpu_str G rfl rfl rfl rfl ?_)
      | (refine wpu_sliceLo rfl rfl rfl rfl (by first | rfl | omega) (by omega) (by omega) ?_)
      | (refine wpu_sliceLH rfl rfl rfl rfl rfl (by first | rfl | omega) (by first | rfl | omega) (by omega) (by omega) ?_)
      | (refine wpu_strR (HR.out.old G) rfl rfl rfl ?_))
    go_ret
    exact ⟨rfl, G.sub _⟩
  · rw [if_neg hp] at hc
    subst hc
    have hr1 := rd_bs_take HR.out hN
    have hr2 := rd_bs_drop HR.out hN
    have HR1 := Lib.hid hr1
    have HR2 := Lib.hid hr2
    clear hr1 hr2
    go_enter Try.func13, Try.ntmps13
    go_wp2_with (first
      | (refine wpu_new G ?_; clear G; intro w G)
      | (refine wpu_drew G ?_; clear G; intro w G)
      | (refine wpu_load G rfl rfl rfl rfl ?_)
      | (refine wpu_loadB G rfl rfl rfl (by rfl) ?_)
      | (refine wpu_loadS G rfl rfl rfl (by rfl) ?_; simp only [List.drop_succ_cons, List.drop_zero, List.take_succ_cons, List.take_zero])
      | (refine wpu_store G rfl rfl rfl rfl (by first | rfl | assumption | simp [*]) rfl ?_; clear G; intro w G)
      | (refine wpu_storeB G rfl rfl rfl rfl (by rfl) (by rfl) (by first | rfl | assumption | simp [*]) ?_; clear G; intro w G)
      | (refine wpu_storeS G rfl rfl rfl rfl (by rfl) (by rfl) (by first | rfl | assumption | simp [*]) ?_; clear G; intro w G)
      | (refine wpu_str G rfl rfl rfl rfl ?_)
      | (refine wpu_sliceLo rfl rfl rfl rfl (by first | rfl | omega) (by omega) (by omega) ?_)
      | (refine wpu_sliceLH rfl rfl rfl rfl rfl (by first | rfl | omega) (by first | rfl | omega) (by omega) (by omega) ?_)
      | fail)
    refine Calls.mono (Can.more (s' := ⟨300, some (mkFr 1 s false (.slice ao 0 cap), l.take 0), 0, none⟩) (f := mkFr 1 s false (.slice ao 0 cap)) (l := l.take 0) (nl := 0) (lc := []) ⟨G.pullF (asmA x), fun w h => HR1.out.old h, fun w _ => rd_nil w 2, by simp, by simp <;> omega, by decide, Nat.zero_le _, hq, by intro _ _ e; cases e⟩ ?_) ?_
    · simp [Asm.step, Asm.wrong, mkFr] <;> omega
    clear G; rintro e w ⟨rfl, G⟩
    go_wp2_with (first
      | (refine wpu_new G ?_; clear G; intro w G)
      | (refine wpu_drew G ?_; clear G; intro w G)
      | (refine wpu_load G rfl rfl rfl rfl ?_)
      | (refine wpu_loadB G rfl rfl rfl (by rfl) ?_)
      | (refine wpu_loadS G rfl rfl rfl (by rfl) ?_; simp only [List.drop_succ_cons, List.drop_zero, List.take_succ_cons, List.take_zero])
      | (refine wpu_store G rfl rfl rfl rfl (by first | rfl | assumption | simp [*]) rfl ?_; clear G; intro w G)
      | (refine wpu_storeB G rfl rfl rfl rfl (by rfl) (by rfl) (by first | rfl | assumption | simp [*]) ?_; clear G; intro w G)
      | (refine wpu_storeS G rfl rfl rfl rfl (by rfl) (by rfl) (by first | rfl | assumption | simp [*]) ?_; clear G; intro w G)
      | (refine wpu_str G rfl rfl rfl rfl ?_)
      | (refine wpu_sliceLo rfl rfl rfl rfl (by first | rfl | omega) (by omega) (by omega) ?_)
      | (refine wpu_sliceLH rfl rfl rfl rfl rfl (by first | rfl | omega) (by first | rfl | omega) (by omega) (by omega) ?_)
      | fail)
    refine Calls.mono (Can.whole (s' := ⟨300, none, 1, none⟩) (f := mkFr 9 s true (.slice (cutA ao cap 0 1) (l.length - 0) (cap - 0))) (g := mkFr 1 s false (.slice ao 0 cap)) (k := l) (l := l.drop 0) (nl := 0) (lc := []) ⟨G.pullF (asmA x), fun w h => HR2.out.old h, fun w _ => rd_nil w 2, by simp, by simp <;> omega, by decide, by simp [Asm.len] <;> omega, Nat.zero_le _, by intro _ _ e; cases e; rfl⟩ ?_) ?_
    · simp [Asm.step, Asm.wrong, mkFr] <;> omega
    clear G; rintro e w ⟨v, rfl, G⟩
    obtain ⟨po, cap, rfl, i1, i2⟩ := G.hdr v
    go_wp2_with (first
      | (refine wpu_new G ?_; clear G; intro w G)
      | (refine wpu_drew G ?_; clear G; intro w G)
      | (refine wpu_load G rfl rfl rfl rfl ?_)
      | (refine wpu_loadB G rfl rfl rfl (by rfl) ?_)
      | (refine wpu_loadS G rfl rfl rfl (by rfl) ?_; simp only [List.drop_succ_cons, List.drop_zero, List.take_succ_cons, List.take_zero])
      | (refine wpu_store G rfl rfl rfl rfl (by first | rfl | assumption | simp [*]) rfl ?_; clear G; intro w G)
      | (refine wpu_storeB G rfl rfl rfl rfl (by rfl) (by rfl) (by first | rfl | assumption | simp [*]) ?_; clear G; intro w G)
      | (refine wpu_storeS G rfl rfl rfl rfl (by rfl) (by rfl) (by first | rfl | assumption | simp [*]) ?_; clear G; intro w G)
      | (refine wpu_str G rfl rfl rfl rfl ?_)
      | (refine wpu_sliceLo rfl rfl rfl rfl (by first | rfl | omega) (by omega) (by omega) ?_)
      | (refine wpu_sliceLH rfl rfl rfl rfl rfl (by first | rfl | omega) (by first | rfl | omega) (by omega) (by omega) ?_)
      | (refine wpu_strR (HR.out.old G) rfl rfl rfl ?_))
    go_ret
    exact ⟨rfl, G.sub _⟩
end
end Go.Proofs.Ytbjfokpdomogeaa
