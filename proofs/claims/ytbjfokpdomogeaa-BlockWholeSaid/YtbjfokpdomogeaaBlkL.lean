
/-
  What the laws of package block share: 'shown'.
-/
import Derived.Test.YtbjfokpdomogeaaBlkOut
import Derived.Test.YtbjfokpdomogeaaTy
namespace Go.Proofs.Ytbjfokpdomogeaa
open Go.RowKit Go.Sl

section
variable {B w : World} {A R : Assn}

/-- a literal frame -/
@[go_sem] def mkFr (kind stream : Int) (eh : Bool) (pay : Value) : Fr := ⟨kind, stream, false, eh, false, false, pay, 0, 0, 0, false, 0, 0, .slice none 0 0, 0, 0⟩

theorem own_freeze {b : Nat} {cs : List Value} (h : Own B (blk b cs * R) w) : Own B (blk b cs * R) (w.freeze ⟨b, cs.length, none⟩ 1) := by
  obtain ⟨T, fr, hf, hg, hb⟩ := own_blk_at h
  obtain ⟨lo, hi⟩ := fr
  refine own_turn (o' := .cells cs.toArray T (if lo == hi then (cs.length, cs.length + 1) else (min lo cs.length, max hi (cs.length + 1)))) blk_one (fun h e => ⟨T, _, ?_, e⟩) h (Lib.below_freeze h.1 hb 1) ?_ (fun c hc => ?_)
  · by_cases e : lo = hi
    · simp [e]
    · simp [e] at hf ⊢; omega
  · have e : ¬ (1 = 0) := by decide
    simp only [World.freeze, if_neg e]
    rw [Array.getElem?_modify, if_pos rfl, hg]
    rfl
  · simp [World.freeze, Array.getElem?_modify, Ne.symm hc]

/-- '[]byte' of a literal: the same octets, which a string may share from there on -/
theorem run_mark {b off n cap : Nat} {cs : List Value} (h : Own B (blk b cs * R) w) : (convert 22 22 (.slice (some ⟨b, off, none⟩) n cap)).run Try.prog w = .ok (.slice (some ⟨b, off, none⟩) n cap) (w.freeze ⟨b, cs.length, none⟩ 1) := by
  obtain ⟨T, fr, hf, hg, hb⟩ := own_blk_at h
  have hs : w.shape? b = some (T, cs.length) := by simp [World.shape?, hg]
  simp [convert, run_underlying Try.underlying22, run_underlying Try.underlying5, markStringish, hs]

theorem wpl_mark {o : Oper} {a : Act} {Q : Exit → Act → World → Prop} {ops : Array Oper} {rest : List Oper} (hg : o.guard = none) {b off n cap : Nat} {cs : List Value} (h : Own B (blk b cs * R) w) {x : Operand}
    (ho : o.op = .convert 22 22 x) (hx : a.eval x = .slice (some ⟨b, off, none⟩) n cap) (k : ∀ w', Own B (blk b cs * R) w' → wpList Try.prog ops Q rest (a.put o.dst (.slice (some ⟨b, off, none⟩) n cap)) w') : wpList Try.prog ops Q (o :: rest) a w :=
  wpList_plain hg fun _ hK => by
    have hrun : (execOp a.eval o).run Try.prog w = .ok (.value (.slice (some ⟨b, off, none⟩) n cap)) (w.freeze ⟨b, cs.length, none⟩ 1) := by
      unfold execOp
      rw [ho]
      simp [hx, run_mark h]
    unfold Oper.wp
    rw [hrun]
    exact hK _ _ (k _ (own_freeze h))

set_option maxHeartbeats 1000000 in
theorem shownBlk (h : Own B A w) : Calls Try.prog 8 #[] w fun e w' => e = .returned (.bool true) ∧ Own B A w' := by
  go_enter Try.func8, Try.ntmps8
  go_wp2_with fail
  refine (newBlk 10 h).mono ?_
  rintro e w ⟨a, rfl, G⟩
  replace G : Own B (asmA a ⟨10, none, 0, none⟩ * A) w := G
  go_wp2_with (first
    | ((with_reducible refine at_alloc ?_); refine wpu_new G ?_; clear G; intro w G)
    | ((with_reducible refine at_drew ?_); refine wpu_drew G ?_; clear G; intro w G)
    | ((with_reducible refine at_load ?_); first
      | (refine wpu_load G rfl rfl rfl rfl ?_; go_frame)
      | (refine wpu_loadB G rfl rfl rfl (by rfl) ?_; go_frame)
      | (refine wpu_loadS G rfl rfl rfl (by rfl) ?_; simp only [List.drop_succ_cons, List.drop_zero, List.take_succ_cons, List.take_zero]; go_frame))
    | ((with_reducible refine at_store ?_); first
      | (refine wpu_store G rfl rfl rfl rfl (by first | rfl | assumption | simp [*]) rfl ?_; clear G; intro w G; go_frame)
      | (refine wpu_storeB G rfl rfl rfl rfl (by rfl) (by rfl) (by first | rfl | assumption | simp [*]) ?_; clear G; intro w G; go_frame)
      | (refine wpu_storeS G rfl rfl rfl rfl (by rfl) (by rfl) (by first | rfl | assumption | simp [*]) ?_; clear G; intro w G; go_frame))
    | ((with_reducible refine at_convert ?_); refine wpu_str G rfl rfl rfl rfl ?_; go_frame)
    | ((with_reducible refine at_slice ?_); first
      | (refine wpu_sliceLo rfl rfl rfl rfl (by first | rfl | omega) (by omega) (by omega) ?_; go_frame)
      | (refine wpu_sliceLH rfl rfl rfl rfl rfl (by first | rfl | omega) (by first | rfl | omega) (by omega) (by omega) ?_; go_frame))
    | ((with_reducible refine at_convert ?_); refine wpl_mark rfl G rfl rfl ?_; clear G; intro w G))
  refine Calls.mono (Can.more (s' := ⟨10, some (_, [97]), 0, none⟩) (f := mkFr 1 1 false _) (l := [97]) (nl := 0) (lc := []) ⟨G.pullF (asmA a), fun w h => h.rdB _ 0 1 1 (by decide) (by decide) (by rfl) (by rfl) w h, fun w _ => rd_nil w 2, by simp, Nat.le_of_ble_eq_true (by rfl), by decide, Nat.le_of_ble_eq_true (by rfl), Nat.le_of_ble_eq_true (by rfl), by intro _ _ e; cases e <;> rfl⟩ (by rfl)) ?_
  clear G; rintro e w ⟨rfl, G⟩
  go_wp2_with (first
    | ((with_reducible refine at_alloc ?_); refine wpu_new G ?_; clear G; intro w G)
    | ((with_reducible refine at_drew ?_); refine wpu_drew G ?_; clear G; intro w G)
    | ((with_reducible refine at_load ?_); first
      | (refine wpu_load G rfl rfl rfl rfl ?_; go_frame)
      | (refine wpu_loadB G rfl rfl rfl (by rfl) ?_; go_frame)
      | (refine wpu_loadS G rfl rfl rfl (by rfl) ?_; simp only [List.drop_succ_cons, List.drop_zero, List.take_succ_cons, List.take_zero]; go_frame))
    | ((with_reducible refine at_store ?_); first
      | (refine wpu_store G rfl rfl rfl rfl (by first | rfl | assumption | simp [*]) rfl ?_; clear G; intro w G; go_frame)
      | (refine wpu_storeB G rfl rfl rfl rfl (by rfl) (by rfl) (by first | rfl | assumption | simp [*]) ?_; clear G; intro w G; go_frame)
      | (refine wpu_storeS G rfl rfl rfl rfl (by rfl) (by rfl) (by first | rfl | assumption | simp [*]) ?_; clear G; intro w G; go_frame))
    | ((with_reducible refine at_convert ?_); refine wpu_str G rfl rfl rfl rfl ?_; go_frame)
    | ((with_reducible refine at_slice ?_); first
      | (refine wpu_sliceLo rfl rfl rfl rfl (by first | rfl | omega) (by omega) (by omega) ?_; go_frame)
      | (refine wpu_sliceLH rfl rfl rfl rfl rfl (by first | rfl | omega) (by first | rfl | omega) (by omega) (by omega) ?_; go_frame))
    | ((with_reducible refine at_convert ?_); refine wpl_mark rfl G rfl rfl ?_; clear G; intro w G))
  refine Calls.mono (Can.whole (k := [97, 98]) (s' := ⟨10, none, 1, none⟩) (f := mkFr 9 1 true _) (l := [98]) (nl := 0) (lc := []) ⟨G.pullF (asmA a), fun w h => h.rdB _ 0 1 1 (by decide) (by decide) (by rfl) (by rfl) w h, fun w _ => rd_nil w 2, by simp, Nat.le_of_ble_eq_true (by rfl), by decide, Nat.le_of_ble_eq_true (by rfl), Nat.le_of_ble_eq_true (by rfl), by intro _ _ e; cases e <;> rfl⟩ (by rfl)) ?_
  clear G; rintro e w ⟨v, rfl, G⟩
  simp only [List.length_cons, List.length_nil, Nat.reduceAdd, Nat.zero_add] at G
  obtain ⟨po, cap, rfl, i1, i2⟩ := G.hdr v
  go_wp2_with (first
    | ((with_reducible refine at_alloc ?_); refine wpu_new G ?_; clear G; intro w G)
    | ((with_reducible refine at_drew ?_); refine wpu_drew G ?_; clear G; intro w G)
    | ((with_reducible refine at_load ?_); first
      | (refine wpu_load G rfl rfl rfl rfl ?_; go_frame)
      | (refine wpu_loadB G rfl rfl rfl (by rfl) ?_; go_frame)
      | (refine wpu_loadS G rfl rfl rfl (by rfl) ?_; simp only [List.drop_succ_cons, List.drop_zero, List.take_succ_cons, List.take_zero]; go_frame))
    | ((with_reducible refine at_store ?_); first
      | (refine wpu_store G rfl rfl rfl rfl (by first | rfl | assumption | simp [*]) rfl ?_; clear G; intro w G; go_frame)
      | (refine wpu_storeB G rfl rfl rfl rfl (by rfl) (by rfl) (by first | rfl | assumption | simp [*]) ?_; clear G; intro w G; go_frame)
      | (refine wpu_storeS G rfl rfl rfl rfl (by rfl) (by rfl) (by first | rfl | assumption | simp [*]) ?_; clear G; intro w G; go_frame))
    | ((with_reducible refine at_convert ?_); refine wpu_str G rfl rfl rfl rfl ?_; go_frame)
    | ((with_reducible refine at_slice ?_); first
      | (refine wpu_sliceLo rfl rfl rfl rfl (by first | rfl | omega) (by omega) (by omega) ?_; go_frame)
      | (refine wpu_sliceLH rfl rfl rfl rfl rfl (by first | rfl | omega) (by first | rfl | omega) (by omega) (by omega) ?_; go_frame))
    | ((with_reducible refine at_convert ?_); refine wpl_mark rfl G rfl rfl ?_; clear G; intro w G))
  refine Calls.mono (Can.more (s' := ⟨10, some (_, []), 0, none⟩) (f := mkFr 1 3 false (.slice none 0 0)) (l := []) (nl := 0) (lc := []) ⟨G.pullF (asmA a), fun w _ => rd_nil w 1, fun w _ => rd_nil w 2, by simp, Nat.le_of_ble_eq_true (by rfl), by decide, Nat.le_of_ble_eq_true (by rfl), Nat.le_of_ble_eq_true (by rfl), by intro _ _ e; cases e <;> rfl⟩ (by rfl)) ?_
  clear G; rintro e w ⟨rfl, G⟩
  go_wp2_with (first
    | ((with_reducible refine at_alloc ?_); refine wpu_new G ?_; clear G; intro w G)
    | ((with_reducible refine at_drew ?_); refine wpu_drew G ?_; clear G; intro w G)
    | ((with_reducible refine at_load ?_); first
      | (refine wpu_load G rfl rfl rfl rfl ?_; go_frame)
      | (refine wpu_loadB G rfl rfl rfl (by rfl) ?_; go_frame)
      | (refine wpu_loadS G rfl rfl rfl (by rfl) ?_; simp only [List.drop_succ_cons, List.drop_zero, List.take_succ_cons, List.take_zero]; go_frame))
    | ((with_reducible refine at_store ?_); first
      | (refine wpu_store G rfl rfl rfl rfl (by first | rfl | assumption | simp [*]) rfl ?_; clear G; intro w G; go_frame)
      | (refine wpu_storeB G rfl rfl rfl rfl (by rfl) (by rfl) (by first | rfl | assumption | simp [*]) ?_; clear G; intro w G; go_frame)
      | (refine wpu_storeS G rfl rfl rfl rfl (by rfl) (by rfl) (by first | rfl | assumption | simp [*]) ?_; clear G; intro w G; go_frame))
    | ((with_reducible refine at_convert ?_); refine wpu_str G rfl rfl rfl rfl ?_; go_frame)
    | ((with_reducible refine at_slice ?_); first
      | (refine wpu_sliceLo rfl rfl rfl rfl (by first | rfl | omega) (by omega) (by omega) ?_; go_frame)
      | (refine wpu_sliceLH rfl rfl rfl rfl rfl (by first | rfl | omega) (by first | rfl | omega) (by omega) (by omega) ?_; go_frame))
    | ((with_reducible refine at_convert ?_); refine wpl_mark rfl G rfl rfl ?_; clear G; intro w G))
  refine Calls.mono (Can.fault (c := 1) (s' := ⟨10, none, 0, some 1⟩) (f := mkFr 0 1 false (.slice none 0 0)) (l := []) (nl := 0) (lc := []) ⟨G.pullF (asmA a), fun w _ => rd_nil w 1, fun w _ => rd_nil w 2, by simp, Nat.le_of_ble_eq_true (by rfl), by decide, Nat.le_of_ble_eq_true (by rfl), Nat.le_of_ble_eq_true (by rfl), by intro _ _ e; cases e <;> rfl⟩ (by rfl)) ?_
  clear G; rintro e w ⟨rfl, G⟩
  go_wp2_with (first
    | ((with_reducible refine at_alloc ?_); refine wpu_new G ?_; clear G; intro w G)
    | ((with_reducible refine at_drew ?_); refine wpu_drew G ?_; clear G; intro w G)
    | ((with_reducible refine at_load ?_); first
      | (refine wpu_load G rfl rfl rfl rfl ?_; go_frame)
      | (refine wpu_loadB G rfl rfl rfl (by rfl) ?_; go_frame)
      | (refine wpu_loadS G rfl rfl rfl (by rfl) ?_; simp only [List.drop_succ_cons, List.drop_zero, List.take_succ_cons, List.take_zero]; go_frame))
    | ((with_reducible refine at_store ?_); first
      | (refine wpu_store G rfl rfl rfl rfl (by first | rfl | assumption | simp [*]) rfl ?_; clear G; intro w G; go_frame)
      | (refine wpu_storeB G rfl rfl rfl rfl (by rfl) (by rfl) (by first | rfl | assumption | simp [*]) ?_; clear G; intro w G; go_frame)
      | (refine wpu_storeS G rfl rfl rfl rfl (by rfl) (by rfl) (by first | rfl | assumption | simp [*]) ?_; clear G; intro w G; go_frame))
    | ((with_reducible refine at_convert ?_); refine wpu_str G rfl rfl rfl rfl ?_; go_frame)
    | ((with_reducible refine at_slice ?_); first
      | (refine wpu_sliceLo rfl rfl rfl rfl (by first | rfl | omega) (by omega) (by omega) ?_; go_frame)
      | (refine wpu_sliceLH rfl rfl rfl rfl rfl (by first | rfl | omega) (by first | rfl | omega) (by omega) (by omega) ?_; go_frame))
    | ((with_reducible refine at_convert ?_); refine wpl_mark rfl G rfl rfl ?_; clear G; intro w G))
  go_ret
  exact ⟨rfl, G.sub A⟩
end
end Go.Proofs.Ytbjfokpdomogeaa
