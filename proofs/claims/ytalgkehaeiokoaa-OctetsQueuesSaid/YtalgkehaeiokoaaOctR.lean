/-
  The document's queue of octets: what each of its methods does.
-/
import Derived.Test.YtalgkehaeiokoaaOctQ
namespace Go.Proofs.Ytalgkehaeiokoaa
open Go.RowKit Go.Sl

/-- the document's queue in block q -/
abbrev refA (q : Nat) (b : List UInt8) (mx : Nat) : Assn := blk q [str b, .int .i64 mx]

section
variable {B w : World} {A R : Assn} {q : Nat} {b : List UInt8} {mx : Nat}

theorem newR (n : Int) (h : Own B A w) : Calls Try.prog 17 #[.int .i64 n] w fun e w' => ∃ q, e = .returned (.pointer (some ⟨q, 0, none⟩)) ∧ Own B (refA q [] (min (max n 0) 1000000).toNat * A) w' := by
  go_enter Try.func17, Try.ntmps17
  go_wp2
  go_ret
  refine ⟨_, rfl, ?_⟩
  have g := own_new h [.string ⟨#[]⟩, .int .i64 (max 0 (min n 1000000))] 46
  have e : ((min (max n 0) 1000000).toNat : Int) = max 0 (min n 1000000) := by omega
  show Own B (blk _ [_, .int .i64 _] * A) _
  rw [e]
  exact g

theorem pushR (h : Own B (refA q b mx * R) w) (hm : b.length ≤ mx) (hx : mx ≤ 1000000) {y : List UInt8} (hy : y.length ≤ 1000000000) :
    Calls Try.prog 18 #[.pointer (some ⟨q, 0, none⟩), str y] w fun e w' => e = .returned (.int .i64 (min y.length (mx - b.length) : Nat)) ∧ Own B (refA q (b ++ y.take (mx - b.length)) mx * R) w' := by
  have c0 := h.cell q 0 rfl
  have c1 := h.cell q 1 rfl
  go_enter Try.func18, Try.ntmps18
  go_wp2
  refine wp_region_calm (C := Own _ _) (by kernel_rfl) (by kernel_rfl) (own_drew h) ?_
  intro ι W hne hW hs
  repeat (go_big_quiet_step (fail))
  refine wpQuiet_nil ?_
  intro i
  have h' := hW i
  generalize W i = wh' at h' ⊢
  clear  hs hW hne
  go_wp2
  have d0 := h'.cell q 0 rfl
  refine wp_region_mix (List.replicate 11 0 ++ [2]) (fun w => w.cell? ⟨q, 0, none⟩ = some (.string ⟨b.toArray⟩)) (by kernel_rfl) (by kernel_rfl) (d0 _ (own_drew h')) ?_
  refine mix_calm 11 (d0 _ (own_drew h')) (by rfl) (by rfl) ?_
  intro ι W hne hW
  dsimp only [List.take, List.drop]
  repeat (go_big_quiet_step (fail))
  refine wpQuiet_nil ?_
  clear  hW hne W ι
  refine mix_last rfl (fun K hK => ?_)
  refine wp_store (own_drew h') rfl (by kernel_rfl) q 0 (.string ⟨(b ++ y.take (min (y.length : Int) ((mx : Int) - b.length)).toNat).toArray⟩) rfl rfl rfl (by rfl) fun w3 h3 => hK _ _ (mix_nil ?_)
  clear hK
  go_frame
  go_wp2
  go_ret
  have em : (min (y.length : Int) ((mx : Int) - b.length)).toNat = min y.length (mx - b.length) := by omega
  rw [em, take_min] at h3
  exact ⟨ret_int (by omega), h3⟩

theorem peekR (h : Own B (refA q b mx * R) w) (hm : b.length ≤ 1000000) (n : Int) :
    Calls Try.prog 20 #[.pointer (some ⟨q, 0, none⟩), .int .i64 n] w fun e w' => e = .returned (str (b.take n.toNat)) ∧ Own B (refA q b mx * R) w' := by
  have c0 := h.cell q 0 rfl
  go_enter Try.func20, Try.ntmps20
  go_wp2
  refine wp_region_calm (C := Own _ _) (by kernel_rfl) (by kernel_rfl) (own_drew h) ?_
  intro ι W hne hW hs
  repeat (go_big_quiet_step (fail))
  refine wpQuiet_nil ?_
  intro i
  have h' := hW i
  generalize W i = wh' at h' ⊢
  clear  hs hW hne
  go_wp2
  go_ret
  have em : (max 0 (min n (b.length : Int))).toNat = min b.length n.toNat := by omega
  refine ⟨?_, h'⟩
  show Ending.returned (.string ⟨(b.take (max 0 (min n (b.length : Int))).toNat).toArray⟩) = _
  rw [em, take_min]

theorem popR (h : Own B (refA q b mx * R) w) (hm : b.length ≤ 1000000) (n : Int) :
    Calls Try.prog 19 #[.pointer (some ⟨q, 0, none⟩), .int .i64 n] w fun e w' => e = .returned (str (b.take n.toNat)) ∧ Own B (refA q (b.drop n.toNat) mx * R) w' := by
  have c0 := h.cell q 0 rfl
  have f0 := h.free q 0 rfl
  go_enter Try.func19, Try.ntmps19
  go_wp2_with (go_at_call 20; refine (peekR h hm n).mono ?_; rintro e w1 ⟨rfl, h1⟩; have f1 := f0 _ h1; have c1 := c0 _ h1)
  go_ret
  refine ⟨rfl, Own.eq (h1.set q 0 _) ?_⟩
  show blk q [str _, .int .i64 mx] * R = _
  rw [drop_min]
end
end Go.Proofs.Ytalgkehaeiokoaa
