
/-
  BlockMany: a block has at most thirty-two parts more.
-/
import Derived.Test.YtbjfokpdomogeaaBlkL
import Derived.Test.YtbjfokpdomogeaaLaw
namespace Go.Proofs.Ytbjfokpdomogeaa.blockMany
open Go.RowKit Go.Sl Go.ChangeShapes

abbrev g5 : Fr := mkFr 1 5 false (.slice none 0 0)

/-- what the assembler is ahead of part k, of n -/
def St (n k : Nat) (s : Asm) : Prop := (34 ≤ k → s = ⟨10, none, 32, some 11⟩) ∧ (k ≤ 33 → k ≤ n → s = ⟨10, some (g5, []), k - 1, none⟩)

section
variable {B w : World} {R : Assn} {a : Nat} {s : Asm} {n k : Nat}

theorem can (eh : Bool) (G : Own B (asmA a s * R) w) (h : St n k s) (hk : k ≤ n) : Can B w R a s (mkFr 9 5 eh (.slice none 0 0)) [] 0 [] := by
  have key : s = ⟨10, none, 32, .some 11⟩ ∨ (k ≤ 33 ∧ s = ⟨10, .some (g5, []), k - 1, none⟩) := by
    rcases Nat.lt_or_ge k 34 with e | e
    · exact .inr ⟨by omega, h.2 (by omega) hk⟩
    · exact .inl (h.1 e)
  refine ⟨G, fun w h => rd_nil w 1, fun w _ => rd_nil w 2, by simp, by decide, by decide, ?_, ?_, ?_⟩
  · rcases key with rfl | ⟨_, rfl⟩ <;> exact Nat.zero_le _
  · rcases key with rfl | ⟨_, rfl⟩
    · decide
    · show k - 1 ≤ 32; omega
  · rcases key with rfl | ⟨_, rfl⟩
    · intro _ _ e; cases e
    · intro _ _ e; cases e; rfl

theorem stF (eh : Bool) (h : St n k s) (hk : k ≤ n) (h33 : 33 ≤ k) : s.step (mkFr 9 5 eh (.slice none 0 0)) [] = (⟨10, none, 32, .some 11⟩, .fault 11) := by
  rcases Nat.lt_or_ge k 34 with e | e
  · obtain rfl : k = 33 := by omega
    obtain rfl := h.2 (by omega) hk
    rfl
  · obtain rfl := h.1 e
    rfl
theorem stM (h : St n k s) (hk : k ≤ n) (h33 : k ≤ 32) (h1 : 1 ≤ k) : s.step (mkFr 9 5 false (.slice none 0 0)) [] = (⟨10, .some (g5, []), k, none⟩, .more) := by
  obtain rfl := h.2 (by omega) hk
  have e : ¬ (k - 1 = 32) := by omega
  have e2 : k - 1 + 1 = k := by omega
  simp [Asm.step, Asm.wrong, mkFr, e, e2]
theorem stW (h : St n k s) (hk : k ≤ n) (h33 : k ≤ 32) (h1 : 1 ≤ k) : s.step (mkFr 9 5 true (.slice none 0 0)) [] = (⟨10, none, k, none⟩, .whole g5 []) := by
  obtain rfl := h.2 (by omega) hk
  have e : ¬ (k - 1 = 32) := by omega
  have e2 : k - 1 + 1 = k := by omega
  simp [Asm.step, Asm.wrong, mkFr, e, e2]
end


set_option maxHeartbeats 4000000 in
set_option maxRecDepth 100000 in
theorem manyW {w0 : World} {n : Int} {last : Bool} : Calls Try.prog 5 #[.int .i64 n, .bool last] w0 fun e w' => e = .returned (.bool true) ∧ Below w0.heap.size w0 w' := by
  have G := own_begin w0
  obtain ⟨m, hm, hm2⟩ := and_i64 n 63 (by decide)
  have HM := Lib.hid hm
  clear hm
  go_enter Try.func5, Try.ntmps5
  go_wp2_with fail
  refine Calls.mono (shownBlk G) ?_
  clear G; rintro e w ⟨rfl, G⟩
  go_wp2_with fail
  refine Calls.mono (newBlk 10 G) ?_
  clear G; rintro e w ⟨a, rfl, G⟩
  replace G : Own _ (asmA a ⟨10, none, 0, none⟩ * emp) w := G
  have hm : bits .and .i64 n 63 = (m : Int) := HM.out
  go_wp2_with fail
  refine Calls.mono (Can.more (s' := ⟨10, some (g5, []), 0, none⟩) (f := g5) (l := []) (nl := 0) (lc := []) ⟨G, fun w _ => rd_nil w 1, fun w _ => rd_nil w 2, by simp, by decide, by decide, by decide, by decide, by intro _ _ e; cases e⟩ (by rfl)) ?_
  clear G; rintro e w ⟨rfl, G⟩
  go_wp2_with (first
    | ((with_reducible refine at_alloc ?_); refine wpu_new G ?_; clear G; intro w G)
    | ((with_reducible refine at_drew ?_); refine wpu_drew G ?_; clear G; intro w G)
    | ((with_reducible refine at_load ?_); first
      | (refine wpu_load G rfl rfl rfl rfl ?_)
      | (refine wpu_loadB G rfl rfl rfl (by rfl) ?_)
      | (refine wpu_loadS G rfl rfl rfl (by rfl) ?_; simp only [List.drop_succ_cons, List.drop_zero, List.take_succ_cons, List.take_zero]))
    | ((with_reducible refine at_store ?_); first
      | (refine wpu_store G rfl rfl rfl rfl (by first | rfl | assumption | simp [*]) rfl ?_; clear G; intro w G)
      | (refine wpu_storeB G rfl rfl rfl rfl (by rfl) (by rfl) (by first | rfl | assumption | simp [*]) ?_; clear G; intro w G)
      | (refine wpu_storeS G rfl rfl rfl rfl (by rfl) (by rfl) (by first | rfl | assumption | simp [*]) ?_; clear G; intro w G))
    | ((with_reducible refine at_convert ?_); refine wpu_str G rfl rfl rfl rfl ?_)
    | ((with_reducible refine at_slice ?_); first
      | (refine wpu_sliceLo rfl rfl rfl rfl (by first | rfl | omega) (by omega) (by omega) ?_)
      | (refine wpu_sliceLH rfl rfl rfl rfl rfl (by first | rfl | omega) (by first | rfl | omega) (by omega) (by omega) ?_))
    | fail)
  replace G := G.sub (asmA a ⟨10, some (g5, []), 0, none⟩)
  obtain ⟨s, hs⟩ : ∃ s, s = (⟨10, some (g5, []), 0, none⟩ : Asm) := ⟨_, rfl⟩
  rw [← hs] at G
  have h1 : St m 1 s := ⟨fun h => by omega, fun _ _ => hs⟩
  clear hs hm
  go_loopw [10] (fun i wr => ∃ (k : Nat) (s : Asm), 1 ≤ k ∧ i = .int .i64 k ∧ k ≤ m + 1 ∧ St m k s ∧ Own w0 (asmA a s) wr) (fun i _ => m + 1 - (intOf i).toNat)
  case atStart => exact ⟨1, s, by omega, rfl, by omega, h1, G⟩
  case round =>
    clear h1 G
    obtain ⟨k, s, k1, rfl, k2, hS, G⟩ := hrel
    rw [← star_emp (asmA a s)] at G
    by_cases hk : k ≤ m
    · have HS := Lib.hid hS
      clear hS
      by_cases h33 : 33 ≤ k
      · cases last with
        | false =>
          go_wp2_with (first
            | ((with_reducible refine at_alloc ?_); refine wpu_new G ?_; clear G; intro w G)
            | ((with_reducible refine at_drew ?_); refine wpu_drew G ?_; clear G; intro w G)
            | ((with_reducible refine at_load ?_); first
              | (refine wpu_load G rfl rfl rfl rfl ?_)
              | (refine wpu_loadB G rfl rfl rfl (by rfl) ?_)
              | (refine wpu_loadS G rfl rfl rfl (by rfl) ?_; simp only [List.drop_succ_cons, List.drop_zero, List.take_succ_cons, List.take_zero]))
            | ((with_reducible refine at_store ?_); first
              | (refine wpu_store G rfl rfl rfl rfl (by first | rfl | assumption | simp [*]) rfl ?_; clear G; intro w G)
              | (refine wpu_storeB G rfl rfl rfl rfl (by rfl) (by rfl) (by first | rfl | assumption | simp [*]) ?_; clear G; intro w G)
              | (refine wpu_storeS G rfl rfl rfl rfl (by rfl) (by rfl) (by first | rfl | assumption | simp [*]) ?_; clear G; intro w G))
            | ((with_reducible refine at_convert ?_); refine wpu_str G rfl rfl rfl rfl ?_)
            | ((with_reducible refine at_slice ?_); first
              | (refine wpu_sliceLo rfl rfl rfl rfl (by first | rfl | omega) (by omega) (by omega) ?_)
              | (refine wpu_sliceLH rfl rfl rfl rfl rfl (by first | rfl | omega) (by first | rfl | omega) (by omega) (by omega) ?_))
            | fail)
          refine Calls.mono ((can false G HS.out hk).fault (stF _ HS.out hk h33)) ?_
          clear G; rintro e w ⟨rfl, G⟩
          skip
          go_wp2_with (first
            | ((with_reducible refine at_alloc ?_); refine wpu_new G ?_; clear G; intro w G)
            | ((with_reducible refine at_drew ?_); refine wpu_drew G ?_; clear G; intro w G)
            | ((with_reducible refine at_load ?_); first
              | (refine wpu_load G rfl rfl rfl rfl ?_)
              | (refine wpu_loadB G rfl rfl rfl (by rfl) ?_)
              | (refine wpu_loadS G rfl rfl rfl (by rfl) ?_; simp only [List.drop_succ_cons, List.drop_zero, List.take_succ_cons, List.take_zero]))
            | ((with_reducible refine at_store ?_); first
              | (refine wpu_store G rfl rfl rfl rfl (by first | rfl | assumption | simp [*]) rfl ?_; clear G; intro w G)
              | (refine wpu_storeB G rfl rfl rfl rfl (by rfl) (by rfl) (by first | rfl | assumption | simp [*]) ?_; clear G; intro w G)
              | (refine wpu_storeS G rfl rfl rfl rfl (by rfl) (by rfl) (by first | rfl | assumption | simp [*]) ?_; clear G; intro w G))
            | ((with_reducible refine at_convert ?_); refine wpu_str G rfl rfl rfl rfl ?_)
            | ((with_reducible refine at_slice ?_); first
              | (refine wpu_sliceLo rfl rfl rfl rfl (by first | rfl | omega) (by omega) (by omega) ?_)
              | (refine wpu_sliceLH rfl rfl rfl rfl rfl (by first | rfl | omega) (by first | rfl | omega) (by omega) (by omega) ?_))
            | fail)
          go_roundw
          case rel => exact ⟨k + 1, ⟨10, none, 32, .some 11⟩, by omega, by go_num, by omega, ⟨fun _ => rfl, fun _ _ => by omega⟩, G.sub _⟩
          case measure => simp [intOf] <;> omega
        | true =>
          by_cases hkm : k = m
          · subst hkm
            go_wp2_with (first
              | ((with_reducible refine at_alloc ?_); refine wpu_new G ?_; clear G; intro w G)
              | ((with_reducible refine at_drew ?_); refine wpu_drew G ?_; clear G; intro w G)
              | ((with_reducible refine at_load ?_); first
                | (refine wpu_load G rfl rfl rfl rfl ?_)
                | (refine wpu_loadB G rfl rfl rfl (by rfl) ?_)
                | (refine wpu_loadS G rfl rfl rfl (by rfl) ?_; simp only [List.drop_succ_cons, List.drop_zero, List.take_succ_cons, List.take_zero]))
              | ((with_reducible refine at_store ?_); first
                | (refine wpu_store G rfl rfl rfl rfl (by first | rfl | assumption | simp [*]) rfl ?_; clear G; intro w G)
                | (refine wpu_storeB G rfl rfl rfl rfl (by rfl) (by rfl) (by first | rfl | assumption | simp [*]) ?_; clear G; intro w G)
                | (refine wpu_storeS G rfl rfl rfl rfl (by rfl) (by rfl) (by first | rfl | assumption | simp [*]) ?_; clear G; intro w G))
              | ((with_reducible refine at_convert ?_); refine wpu_str G rfl rfl rfl rfl ?_)
              | ((with_reducible refine at_slice ?_); first
                | (refine wpu_sliceLo rfl rfl rfl rfl (by first | rfl | omega) (by omega) (by omega) ?_)
                | (refine wpu_sliceLH rfl rfl rfl rfl rfl (by first | rfl | omega) (by first | rfl | omega) (by omega) (by omega) ?_))
              | fail)
            refine Calls.mono ((can _ G HS.out hk).fault (stF _ HS.out hk h33)) ?_
            clear G; rintro e w ⟨rfl, G⟩
            skip
            go_wp2_with (first
              | ((with_reducible refine at_alloc ?_); refine wpu_new G ?_; clear G; intro w G)
              | ((with_reducible refine at_drew ?_); refine wpu_drew G ?_; clear G; intro w G)
              | ((with_reducible refine at_load ?_); first
                | (refine wpu_load G rfl rfl rfl rfl ?_)
                | (refine wpu_loadB G rfl rfl rfl (by rfl) ?_)
                | (refine wpu_loadS G rfl rfl rfl (by rfl) ?_; simp only [List.drop_succ_cons, List.drop_zero, List.take_succ_cons, List.take_zero]))
              | ((with_reducible refine at_store ?_); first
                | (refine wpu_store G rfl rfl rfl rfl (by first | rfl | assumption | simp [*]) rfl ?_; clear G; intro w G)
                | (refine wpu_storeB G rfl rfl rfl rfl (by rfl) (by rfl) (by first | rfl | assumption | simp [*]) ?_; clear G; intro w G)
                | (refine wpu_storeS G rfl rfl rfl rfl (by rfl) (by rfl) (by first | rfl | assumption | simp [*]) ?_; clear G; intro w G))
              | ((with_reducible refine at_convert ?_); refine wpu_str G rfl rfl rfl rfl ?_)
              | ((with_reducible refine at_slice ?_); first
                | (refine wpu_sliceLo rfl rfl rfl rfl (by first | rfl | omega) (by omega) (by omega) ?_)
                | (refine wpu_sliceLH rfl rfl rfl rfl rfl (by first | rfl | omega) (by first | rfl | omega) (by omega) (by omega) ?_))
              | fail)
            go_roundw
            case rel => exact ⟨k + 1, ⟨10, none, 32, .some 11⟩, by omega, by go_num, by omega, ⟨fun _ => rfl, fun _ _ => by omega⟩, G.sub _⟩
            case measure => simp [intOf] <;> omega
          · have hkm' : ((k : Int) == (m : Int)) = false := by simp <;> omega
            have hkm2 : decide ((k : Int) = (m : Int)) = false := by simp <;> omega
            go_wp2_with (first
              | ((with_reducible refine at_alloc ?_); refine wpu_new G ?_; clear G; intro w G)
              | ((with_reducible refine at_drew ?_); refine wpu_drew G ?_; clear G; intro w G)
              | ((with_reducible refine at_load ?_); first
                | (refine wpu_load G rfl rfl rfl rfl ?_)
                | (refine wpu_loadB G rfl rfl rfl (by rfl) ?_)
                | (refine wpu_loadS G rfl rfl rfl (by rfl) ?_; simp only [List.drop_succ_cons, List.drop_zero, List.take_succ_cons, List.take_zero]))
              | ((with_reducible refine at_store ?_); first
                | (refine wpu_store G rfl rfl rfl rfl (by first | rfl | assumption | simp [*]) rfl ?_; clear G; intro w G)
                | (refine wpu_storeB G rfl rfl rfl rfl (by rfl) (by rfl) (by first | rfl | assumption | simp [*]) ?_; clear G; intro w G)
                | (refine wpu_storeS G rfl rfl rfl rfl (by rfl) (by rfl) (by first | rfl | assumption | simp [*]) ?_; clear G; intro w G))
              | ((with_reducible refine at_convert ?_); refine wpu_str G rfl rfl rfl rfl ?_)
              | ((with_reducible refine at_slice ?_); first
                | (refine wpu_sliceLo rfl rfl rfl rfl (by first | rfl | omega) (by omega) (by omega) ?_)
                | (refine wpu_sliceLH rfl rfl rfl rfl rfl (by first | rfl | omega) (by first | rfl | omega) (by omega) (by omega) ?_))
              | fail)
            refine Calls.mono ((can _ G HS.out hk).fault (stF _ HS.out hk h33)) ?_
            clear G; rintro e w ⟨rfl, G⟩
            skip
            go_wp2_with (first
              | ((with_reducible refine at_alloc ?_); refine wpu_new G ?_; clear G; intro w G)
              | ((with_reducible refine at_drew ?_); refine wpu_drew G ?_; clear G; intro w G)
              | ((with_reducible refine at_load ?_); first
                | (refine wpu_load G rfl rfl rfl rfl ?_)
                | (refine wpu_loadB G rfl rfl rfl (by rfl) ?_)
                | (refine wpu_loadS G rfl rfl rfl (by rfl) ?_; simp only [List.drop_succ_cons, List.drop_zero, List.take_succ_cons, List.take_zero]))
              | ((with_reducible refine at_store ?_); first
                | (refine wpu_store G rfl rfl rfl rfl (by first | rfl | assumption | simp [*]) rfl ?_; clear G; intro w G)
                | (refine wpu_storeB G rfl rfl rfl rfl (by rfl) (by rfl) (by first | rfl | assumption | simp [*]) ?_; clear G; intro w G)
                | (refine wpu_storeS G rfl rfl rfl rfl (by rfl) (by rfl) (by first | rfl | assumption | simp [*]) ?_; clear G; intro w G))
              | ((with_reducible refine at_convert ?_); refine wpu_str G rfl rfl rfl rfl ?_)
              | ((with_reducible refine at_slice ?_); first
                | (refine wpu_sliceLo rfl rfl rfl rfl (by first | rfl | omega) (by omega) (by omega) ?_)
                | (refine wpu_sliceLH rfl rfl rfl rfl rfl (by first | rfl | omega) (by first | rfl | omega) (by omega) (by omega) ?_))
              | fail)
            go_roundw
            case rel => exact ⟨k + 1, ⟨10, none, 32, .some 11⟩, by omega, by go_num, by omega, ⟨fun _ => rfl, fun _ _ => by omega⟩, G.sub _⟩
            case measure => simp [intOf] <;> omega
      · replace h33 : k ≤ 32 := by omega
        have h35 : decide ((32 : Int) < (k : Int)) = false := by simp <;> omega
        cases last with
        | false =>
          go_wp2_with (first
            | ((with_reducible refine at_alloc ?_); refine wpu_new G ?_; clear G; intro w G)
            | ((with_reducible refine at_drew ?_); refine wpu_drew G ?_; clear G; intro w G)
            | ((with_reducible refine at_load ?_); first
              | (refine wpu_load G rfl rfl rfl rfl ?_)
              | (refine wpu_loadB G rfl rfl rfl (by rfl) ?_)
              | (refine wpu_loadS G rfl rfl rfl (by rfl) ?_; simp only [List.drop_succ_cons, List.drop_zero, List.take_succ_cons, List.take_zero]))
            | ((with_reducible refine at_store ?_); first
              | (refine wpu_store G rfl rfl rfl rfl (by first | rfl | assumption | simp [*]) rfl ?_; clear G; intro w G)
              | (refine wpu_storeB G rfl rfl rfl rfl (by rfl) (by rfl) (by first | rfl | assumption | simp [*]) ?_; clear G; intro w G)
              | (refine wpu_storeS G rfl rfl rfl rfl (by rfl) (by rfl) (by first | rfl | assumption | simp [*]) ?_; clear G; intro w G))
            | ((with_reducible refine at_convert ?_); refine wpu_str G rfl rfl rfl rfl ?_)
            | ((with_reducible refine at_slice ?_); first
              | (refine wpu_sliceLo rfl rfl rfl rfl (by first | rfl | omega) (by omega) (by omega) ?_)
              | (refine wpu_sliceLH rfl rfl rfl rfl rfl (by first | rfl | omega) (by first | rfl | omega) (by omega) (by omega) ?_))
            | fail)
          refine Calls.mono ((can _ G HS.out hk).more (stM HS.out hk (by omega) k1)) ?_
          clear G; rintro e w ⟨rfl, G⟩
          skip
          go_wp2_with (first
            | ((with_reducible refine at_alloc ?_); refine wpu_new G ?_; clear G; intro w G)
            | ((with_reducible refine at_drew ?_); refine wpu_drew G ?_; clear G; intro w G)
            | ((with_reducible refine at_load ?_); first
              | (refine wpu_load G rfl rfl rfl rfl ?_)
              | (refine wpu_loadB G rfl rfl rfl (by rfl) ?_)
              | (refine wpu_loadS G rfl rfl rfl (by rfl) ?_; simp only [List.drop_succ_cons, List.drop_zero, List.take_succ_cons, List.take_zero]))
            | ((with_reducible refine at_store ?_); first
              | (refine wpu_store G rfl rfl rfl rfl (by first | rfl | assumption | simp [*]) rfl ?_; clear G; intro w G)
              | (refine wpu_storeB G rfl rfl rfl rfl (by rfl) (by rfl) (by first | rfl | assumption | simp [*]) ?_; clear G; intro w G)
              | (refine wpu_storeS G rfl rfl rfl rfl (by rfl) (by rfl) (by first | rfl | assumption | simp [*]) ?_; clear G; intro w G))
            | ((with_reducible refine at_convert ?_); refine wpu_str G rfl rfl rfl rfl ?_)
            | ((with_reducible refine at_slice ?_); first
              | (refine wpu_sliceLo rfl rfl rfl rfl (by first | rfl | omega) (by omega) (by omega) ?_)
              | (refine wpu_sliceLH rfl rfl rfl rfl rfl (by first | rfl | omega) (by first | rfl | omega) (by omega) (by omega) ?_))
            | fail)
          go_roundw
          case rel => exact ⟨k + 1, ⟨10, .some (g5, []), k, none⟩, by omega, by go_num, by omega, ⟨fun _ => by omega, fun _ _ => rfl⟩, G.sub _⟩
          case measure => simp [intOf] <;> omega
        | true =>
          by_cases hkm : k = m
          · subst hkm
            go_wp2_with (first
              | ((with_reducible refine at_alloc ?_); refine wpu_new G ?_; clear G; intro w G)
              | ((with_reducible refine at_drew ?_); refine wpu_drew G ?_; clear G; intro w G)
              | ((with_reducible refine at_load ?_); first
                | (refine wpu_load G rfl rfl rfl rfl ?_)
                | (refine wpu_loadB G rfl rfl rfl (by rfl) ?_)
                | (refine wpu_loadS G rfl rfl rfl (by rfl) ?_; simp only [List.drop_succ_cons, List.drop_zero, List.take_succ_cons, List.take_zero]))
              | ((with_reducible refine at_store ?_); first
                | (refine wpu_store G rfl rfl rfl rfl (by first | rfl | assumption | simp [*]) rfl ?_; clear G; intro w G)
                | (refine wpu_storeB G rfl rfl rfl rfl (by rfl) (by rfl) (by first | rfl | assumption | simp [*]) ?_; clear G; intro w G)
                | (refine wpu_storeS G rfl rfl rfl rfl (by rfl) (by rfl) (by first | rfl | assumption | simp [*]) ?_; clear G; intro w G))
              | ((with_reducible refine at_convert ?_); refine wpu_str G rfl rfl rfl rfl ?_)
              | ((with_reducible refine at_slice ?_); first
                | (refine wpu_sliceLo rfl rfl rfl rfl (by first | rfl | omega) (by omega) (by omega) ?_)
                | (refine wpu_sliceLH rfl rfl rfl rfl rfl (by first | rfl | omega) (by first | rfl | omega) (by omega) (by omega) ?_))
              | fail)
            refine Calls.mono ((can _ G HS.out hk).whole (stW HS.out hk (by omega) k1)) ?_
            clear G; rintro e w ⟨v, rfl, G⟩
            obtain ⟨po, cap, rfl, i1, i2⟩ := G.hdr v
            go_wp2_with (first
              | ((with_reducible refine at_alloc ?_); refine wpu_new G ?_; clear G; intro w G)
              | ((with_reducible refine at_drew ?_); refine wpu_drew G ?_; clear G; intro w G)
              | ((with_reducible refine at_load ?_); first
                | (refine wpu_load G rfl rfl rfl rfl ?_)
                | (refine wpu_loadB G rfl rfl rfl (by rfl) ?_)
                | (refine wpu_loadS G rfl rfl rfl (by rfl) ?_; simp only [List.drop_succ_cons, List.drop_zero, List.take_succ_cons, List.take_zero]))
              | ((with_reducible refine at_store ?_); first
                | (refine wpu_store G rfl rfl rfl rfl (by first | rfl | assumption | simp [*]) rfl ?_; clear G; intro w G)
                | (refine wpu_storeB G rfl rfl rfl rfl (by rfl) (by rfl) (by first | rfl | assumption | simp [*]) ?_; clear G; intro w G)
                | (refine wpu_storeS G rfl rfl rfl rfl (by rfl) (by rfl) (by first | rfl | assumption | simp [*]) ?_; clear G; intro w G))
              | ((with_reducible refine at_convert ?_); refine wpu_str G rfl rfl rfl rfl ?_)
              | ((with_reducible refine at_slice ?_); first
                | (refine wpu_sliceLo rfl rfl rfl rfl (by first | rfl | omega) (by omega) (by omega) ?_)
                | (refine wpu_sliceLH rfl rfl rfl rfl rfl (by first | rfl | omega) (by first | rfl | omega) (by omega) (by omega) ?_))
              | fail)
            go_roundw
            case rel => exact ⟨k + 1, ⟨10, none, k, none⟩, by omega, by go_num, by omega, ⟨fun _ => by omega, fun _ _ => by omega⟩, G.sub _⟩
            case measure => simp [intOf] <;> omega
          · have hkm' : ((k : Int) == (m : Int)) = false := by simp <;> omega
            have hkm2 : decide ((k : Int) = (m : Int)) = false := by simp <;> omega
            go_wp2_with (first
              | ((with_reducible refine at_alloc ?_); refine wpu_new G ?_; clear G; intro w G)
              | ((with_reducible refine at_drew ?_); refine wpu_drew G ?_; clear G; intro w G)
              | ((with_reducible refine at_load ?_); first
                | (refine wpu_load G rfl rfl rfl rfl ?_)
                | (refine wpu_loadB G rfl rfl rfl (by rfl) ?_)
                | (refine wpu_loadS G rfl rfl rfl (by rfl) ?_; simp only [List.drop_succ_cons, List.drop_zero, List.take_succ_cons, List.take_zero]))
              | ((with_reducible refine at_store ?_); first
                | (refine wpu_store G rfl rfl rfl rfl (by first | rfl | assumption | simp [*]) rfl ?_; clear G; intro w G)
                | (refine wpu_storeB G rfl rfl rfl rfl (by rfl) (by rfl) (by first | rfl | assumption | simp [*]) ?_; clear G; intro w G)
                | (refine wpu_storeS G rfl rfl rfl rfl (by rfl) (by rfl) (by first | rfl | assumption | simp [*]) ?_; clear G; intro w G))
              | ((with_reducible refine at_convert ?_); refine wpu_str G rfl rfl rfl rfl ?_)
              | ((with_reducible refine at_slice ?_); first
                | (refine wpu_sliceLo rfl rfl rfl rfl (by first | rfl | omega) (by omega) (by omega) ?_)
                | (refine wpu_sliceLH rfl rfl rfl rfl rfl (by first | rfl | omega) (by first | rfl | omega) (by omega) (by omega) ?_))
              | fail)
            refine Calls.mono ((can _ G HS.out hk).more (stM HS.out hk (by omega) k1)) ?_
            clear G; rintro e w ⟨rfl, G⟩
            skip
            go_wp2_with (first
              | ((with_reducible refine at_alloc ?_); refine wpu_new G ?_; clear G; intro w G)
              | ((with_reducible refine at_drew ?_); refine wpu_drew G ?_; clear G; intro w G)
              | ((with_reducible refine at_load ?_); first
                | (refine wpu_load G rfl rfl rfl rfl ?_)
                | (refine wpu_loadB G rfl rfl rfl (by rfl) ?_)
                | (refine wpu_loadS G rfl rfl rfl (by rfl) ?_; simp only [List.drop_succ_cons, List.drop_zero, List.take_succ_cons, List.take_zero]))
              | ((with_reducible refine at_store ?_); first
                | (refine wpu_store G rfl rfl rfl rfl (by first | rfl | assumption | simp [*]) rfl ?_; clear G; intro w G)
                | (refine wpu_storeB G rfl rfl rfl rfl (by rfl) (by rfl) (by first | rfl | assumption | simp [*]) ?_; clear G; intro w G)
                | (refine wpu_storeS G rfl rfl rfl rfl (by rfl) (by rfl) (by first | rfl | assumption | simp [*]) ?_; clear G; intro w G))
              | ((with_reducible refine at_convert ?_); refine wpu_str G rfl rfl rfl rfl ?_)
              | ((with_reducible refine at_slice ?_); first
                | (refine wpu_sliceLo rfl rfl rfl rfl (by first | rfl | omega) (by omega) (by omega) ?_)
                | (refine wpu_sliceLH rfl rfl rfl rfl rfl (by first | rfl | omega) (by first | rfl | omega) (by omega) (by omega) ?_))
              | fail)
            go_roundw
            case rel => exact ⟨k + 1, ⟨10, .some (g5, []), k, none⟩, by omega, by go_num, by omega, ⟨fun _ => by omega, fun _ _ => rfl⟩, G.sub _⟩
            case measure => simp [intOf] <;> omega
    · go_wp2
      go_ret
      exact ⟨rfl, G.below⟩

theorem contract {H : Type} {enc : TypeId × Value → H} {W : World} {vs : List Value} {ds : List (DataW H)}
    (hA : Args enc Try.prog W [3, 4] vs ds) (hsz : (DataW.weightsEach Try.prog [3, 4] ds).all (· ≤ reachBytes) = true) :
    Calls Try.prog 5 vs.toArray W fun e W' => e = .returned (.bool true) ∧ Below W.heap.size W W' := by
  obtain ⟨v0, _, d0, _, rfl, rfl, h0, hA⟩ := args_cons hA
  obtain ⟨v1, _, d1, _, rfl, rfl, h1, hA⟩ := args_cons hA
  obtain ⟨rfl, rfl⟩ := args_nil hA
  obtain ⟨n, rfl, _, _⟩ := arg_i64 Try.underlying3 h0
  obtain ⟨b, rfl⟩ := arg_bool Try.underlying4 h1
  exact manyW


theorem spec {H : Type} : ∀ ds : List (DataW H), ds.length = 2 → Rows.blockManySpec.fn H ds = { results := [.lit (.bool true)], args := ds }
  | [_, _], _ => rfl
  | [], h => by cases h
  | [_], h => by cases h
  | _ :: _ :: _ :: _, h => by simp at h
set_option maxRecDepth 100000 in
theorem lifted (os : Os) (started : os.Started) (H : Type) (enc : TypeId × Value → H) :
    ReturnsInHanded {} Try.checked os 5 .any (Rows.blockManySpec.pre6 enc Try.prog Try.f5 Rows.blockManyRow.domain false) (Rows.blockManySpec.post enc Try.prog Try.f5 false true false false) :=
  lifted_of_law (C := Try.checked) (fn := Try.f5) (s := Rows.blockManySpec) (tb := 4) (by kernel_rfl) started (by kernel_rfl) Try.func5
    (ChangeSpec.witness6 (enc := enc) (C := Try.checked) false ⟨#[], #[.int .i64 0, .bool false], []⟩ 8 (by kernel_rfl) (by kernel_rfl) (by kernel_rfl) (by kernel_rfl))
    rfl spec (by kernel_rfl) Try.underlying4 (by kernel_rfl) (by kernel_rfl) (fun _ _ _ h1 h2 => contract h1 h2)

theorem proved : Rows.BlockManySaid :=
  OpenClaim.holds_of_wide 5 Try.f5 rfl rfl rfl rfl rfl rfl rfl ⟨rfl, rfl, rfl, rfl, rfl⟩ rfl rfl rfl rfl rfl (by kernel_rfl) Try.func5 (by kernel_rfl)
    (of_decide_eq_true (by kernel_rfl)) (by unfold Func.isWrapper; first | (rw [if_pos (by decide +kernel)]; kernel_rfl) | (rw [if_neg (by decide +kernel)]; exact ⟨rfl, rfl⟩))
    (fun os started H enc _ => lifted os started H enc)
end Go.Proofs.Ytbjfokpdomogeaa.blockMany
