
/-
  The assembler of header blocks: Step with no open block.
-/
import Derived.Test.YtbjfokpdomogeaaBlkSome
namespace Go.Proofs.Ytbjfokpdomogeaa
open Go.RowKit Go.Sl



section
variable {B w : World} {A R : Assn} {a : Nat} {s : Asm}

theorem own_keepA {X0 X1 X2 X3 Y1 Y2 Y3 : Assn} (h : Own B (X0 * (X1 * (X2 * (X3 * (Y1 * (Y2 * (Y3 * R))))))) w) : Own B (X3 * (X2 * R)) w :=
  (h.eq (A' := (X0 * X1 * (Y1 * (Y2 * Y3))) * (X3 * (X2 * R))) (by ac_rfl)).right
theorem own_keepB {X1 X2 X3 Y1 Y2 Y3 : Assn} (h : Own B (X1 * (X2 * (X3 * (Y1 * (Y2 * (Y3 * R)))))) w) : Own B (X3 * (X1 * X2) * R) w :=
  (h.eq (A' := (X3 * (X1 * X2)) * ((Y1 * (Y2 * Y3)) * R)) (by ac_rfl)).skip
theorem own_keepC {X1 X2 X3 Y1 Y2 Y3 : Assn} (h : Own B (X1 * (X2 * (X3 * (Y1 * (Y2 * (Y3 * R)))))) w) : Own B (X3 * (X2 * (X1 * R))) w :=
  (h.eq (A' := (Y1 * (Y2 * Y3)) * (X3 * (X2 * (X1 * R)))) (by ac_rfl)).right

set_option maxHeartbeats 4000000 in
/-- Step at the beginning of a block -/
theorem stepHead {f : Fr} {l : List UInt8} {nl m q : Nat} {lc : List Value} (h : Own B (asmA a ⟨m, none, q, none⟩ * R) w) (hp : ∀ w, Own B R w → rd w 1 f.pay l.length (bs l))
    (hl : l.length ≤ 70368744177664) (hfl : f.lst.oneCell' = true) (hw : Asm.wrong ⟨m, none, q, none⟩ f l.length = 0) (hk : f.kind = 1) :
    Calls Try.prog 10 #[.pointer (some ⟨a, 0, none⟩), .agg f.cs.toArray] w (stepPost B a f l nl lc R (Asm.step ⟨m, none, q, none⟩ f l)) := by
  have g1 := own_new (own_new (own_new h f.cs 32) zeroCs 32) [.bool false, .int .u32 0, .int .i64 0] 34
  rw [show ∀ w o, (World.alloc w o).heap.size = w.heap.size + 1 from fun w o => by simp, show ∀ w o, (World.alloc w o).heap.size = w.heap.size + 1 from fun w o => by simp] at g1
  generalize hn : w.heap.size = n at *
  replace g1 := g1.eq (A' := asmA a ⟨m, none, q, none⟩ * (blk n f.cs * (blk (n + 1) zeroCs * (blk (n + 1 + 1) [.bool false, .int .u32 0, .int .i64 0] * R)))) (by ac_rfl)
  have x3 := asm_brk (v := .bool false) g1 rfl
  have hd : isHdr f.pay l.length := by
    obtain ⟨po, cap, e, q1, q2, -⟩ := hp _ g1.right.right.right.right
    exact ⟨po, cap, e, q1, q2⟩
  obtain ⟨r, hr⟩ : ∃ r, r = Asm.step ⟨m, none, q, none⟩ f l := ⟨_, rfl⟩
  rw [← hr]
  have Hr := Lib.hid hr
  clear hr
  have Hk := Lib.hid hk
  clear hk
  by_cases he : f.eh = true
  · go_enter Try.func10, Try.ntmps10
    go_wp2_with (first
      | (refine wpl_loadS n 0 f.cs rfl g1 rfl (by kernel_rfl) Try.underlying32 rfl rfl ?_)
      | (go_at_call 16; refine (wrongC g1 hd (by omega) (by show 0 ≤ _; omega) hw).mono ?_; rintro e w2 ⟨rfl, g3⟩;
          rw [asm_none] at g3; have z6 := g3.cell n 6 (v := f.pay) rfl _ g3)
      | (go_at_call 17; refine (cloneB g3 (fun w h => hp _ h.right.right.right.right) (by omega)).mono ?_; rintro e w4 ⟨v1, rfl, g4⟩; have hv1 := (g4.rd v1 _ g4).one)
      | (refine wpl_store rfl g4 rfl (by kernel_rfl) n 6 v1 rfl rfl (g4.rd v1 _ g4).one rfl ?_; intro w5 g5; have y1 := g5.cell a 1 (v := .pointer none) rfl _ g5; have z0 := g5.cell n 0 (v := .int .i64 f.kind) rfl _ g5; rw [Hk.out] at z0)
      | (refine wpl_loadS n 0 (f.payed v1).cs rfl g5 rfl (by kernel_rfl) Try.underlying32 rfl rfl ?_; have g6 := own_new g5 zeroCs 32)
      | (refine wpl_storeS w5.heap.size 0 (f.payed v1).cs rfl g6 rfl (by kernel_rfl) rfl rfl rfl (cs_one (f := f.payed v1) hv1 hfl) ?_; intro w7 g7)
      | (refine wpl_store rfl g7 rfl (by kernel_rfl) a 1 (.pointer (some ⟨w5.heap.size, 0, none⟩)) rfl rfl rfl rfl ?_; intro w8 g8)
      | (refine wpl_store rfl g8 rfl (by kernel_rfl) a 2 (.int .i64 0) rfl rfl rfl rfl ?_; intro w9 g9; have k3 := g9.cell n 3 (v := .bool f.eh) rfl _ g9; have k1 := g9.cell a 1 (v := .pointer (some ⟨w5.heap.size, 0, none⟩)) rfl _ g9)
      | (refine wpl_loadS w5.heap.size 0 (f.payed v1).cs rfl g9 rfl (by kernel_rfl) Try.underlying32 rfl rfl ?_; have g11 := own_new g9 zeroCs 32)
      | (refine wpl_storeS w9.heap.size 0 (f.payed v1).cs rfl g11 rfl (by kernel_rfl) rfl rfl rfl (cs_one (f := f.payed v1) hv1 hfl) ?_; intro w12 g12)
      | (refine wpl_store rfl g12 rfl (by kernel_rfl) w9.heap.size 3 (.bool true) rfl rfl rfl rfl ?_; intro w13 g13)
      | (refine wpl_store rfl g13 rfl (by kernel_rfl) a 1 (.pointer none) rfl rfl rfl rfl ?_; intro w14 g14)
      | (refine wpl_loadS w9.heap.size 0 ({ f with pay := v1, eh := true } : Fr).cs rfl g14 rfl (by kernel_rfl) Try.underlying32 rfl rfl ?_)
      | (refine wpl_storeS (n + 1) 0 ({ f with pay := v1, eh := true } : Fr).cs rfl g14 rfl (by kernel_rfl) rfl rfl rfl (cs_one (f := { f with pay := v1, eh := true }) hv1 hfl) ?_; intro w15 g15)
      | (refine wpl_storeS (n + 1 + 1) 0 [.bool false, .int .u32 0, .int .i64 0] rfl g15 rfl (by kernel_rfl) rfl rfl rfl rfl ?_; intro w16 g16))
    try simp only [Exit.inBlock, Exit.then]
    refine bodyPost_ret (results_ctc rfl rfl rfl (run_loadVar_blk (n + 1) 0 ({ f with pay := v1, eh := true } : Fr).cs g16 (by kernel_rfl) Try.underlying32 rfl) (run_loadVar_blk (n + 1 + 1) 0 [.bool false, .int .u32 0, .int .i64 0] g16 (by kernel_rfl) Try.underlying34 rfl)) rfl ?_
    rw [Hr.out]
    unfold Asm.step
    simp only [hw, if_true]
    rw [if_pos Hk.out, if_pos he]
    refine ⟨v1, rfl, ?_⟩
    rw [asm_none]
    exact own_keepA g16
  · have he' : f.eh = false := by simpa using he
    go_enter Try.func10, Try.ntmps10
    go_wp2_with (first
      | (refine wpl_loadS n 0 f.cs rfl g1 rfl (by kernel_rfl) Try.underlying32 rfl rfl ?_)
      | (go_at_call 16; refine (wrongC g1 hd (by omega) (by show 0 ≤ _; omega) hw).mono ?_; rintro e w2 ⟨rfl, g3⟩;
          rw [asm_none] at g3; have z6 := g3.cell n 6 (v := f.pay) rfl _ g3)
      | (go_at_call 17; refine (cloneB g3 (fun w h => hp _ h.right.right.right.right) (by omega)).mono ?_; rintro e w4 ⟨v1, rfl, g4⟩; have hv1 := (g4.rd v1 _ g4).one)
      | (refine wpl_store rfl g4 rfl (by kernel_rfl) n 6 v1 rfl rfl (g4.rd v1 _ g4).one rfl ?_; intro w5 g5; have y1 := g5.cell a 1 (v := .pointer none) rfl _ g5; have z0 := g5.cell n 0 (v := .int .i64 f.kind) rfl _ g5; rw [Hk.out] at z0)
      | (refine wpl_loadS n 0 (f.payed v1).cs rfl g5 rfl (by kernel_rfl) Try.underlying32 rfl rfl ?_; have g6 := own_new g5 zeroCs 32)
      | (refine wpl_storeS w5.heap.size 0 (f.payed v1).cs rfl g6 rfl (by kernel_rfl) rfl rfl rfl (cs_one (f := f.payed v1) hv1 hfl) ?_; intro w7 g7)
      | (refine wpl_store rfl g7 rfl (by kernel_rfl) a 1 (.pointer (some ⟨w5.heap.size, 0, none⟩)) rfl rfl rfl rfl ?_; intro w8 g8)
      | (refine wpl_store rfl g8 rfl (by kernel_rfl) a 2 (.int .i64 0) rfl rfl rfl rfl ?_; intro w9 g9; have k3 := g9.cell n 3 (v := .bool f.eh) rfl _ g9; have k1 := g9.cell a 1 (v := .pointer (some ⟨w5.heap.size, 0, none⟩)) rfl _ g9)
      | (refine wpl_storeS (n + 1) 0 zeroCs rfl g9 rfl (by kernel_rfl) rfl rfl rfl rfl ?_; intro w11 g11)
      | (refine wpl_storeS (n + 1 + 1) 0 [.bool false, .int .u32 0, .int .i64 0] rfl g11 rfl (by kernel_rfl) rfl rfl rfl rfl ?_; intro w12 g12))
    try simp only [Exit.inBlock, Exit.then]
    refine bodyPost_ret (results_ctc rfl rfl rfl (run_loadVar_blk (n + 1) 0 zeroCs g12 (by kernel_rfl) Try.underlying32 rfl) (run_loadVar_blk (n + 1 + 1) 0 [.bool false, .int .u32 0, .int .i64 0] g12 (by kernel_rfl) Try.underlying34 rfl)) rfl ?_
    rw [Hr.out]
    unfold Asm.step
    simp only [hw, if_true]
    rw [if_pos Hk.out, if_neg he]
    refine ⟨rfl, ?_⟩
    rw [asm_some]
    exact own_ex_mk w5.heap.size (own_ex_mk v1 (own_keepB g12))

set_option maxHeartbeats 4000000 in
/-- Step with a frame of another kind -/
theorem stepPass {f : Fr} {l : List UInt8} {nl m q : Nat} {lc : List Value} (h : Own B (asmA a ⟨m, none, q, none⟩ * R) w) (hp : ∀ w, Own B R w → rd w 1 f.pay l.length (bs l)) (hq : ∀ w, Own B R w → rd w 2 f.lst nl lc) (hlc : ∀ y ∈ lc, y.oneCell' = true)
    (hl : l.length ≤ 70368744177664) (hnl : nl * 16 ≤ 140737488355328) (hw : Asm.wrong ⟨m, none, q, none⟩ f l.length = 0) (hk : f.kind ≠ 1) :
    Calls Try.prog 10 #[.pointer (some ⟨a, 0, none⟩), .agg f.cs.toArray] w (stepPost B a f l nl lc R (Asm.step ⟨m, none, q, none⟩ f l)) := by
  have g1 := own_new (own_new (own_new h f.cs 32) zeroCs 32) [.bool false, .int .u32 0, .int .i64 0] 34
  rw [show ∀ w o, (World.alloc w o).heap.size = w.heap.size + 1 from fun w o => by simp, show ∀ w o, (World.alloc w o).heap.size = w.heap.size + 1 from fun w o => by simp] at g1
  generalize hn : w.heap.size = n at *
  replace g1 := g1.eq (A' := asmA a ⟨m, none, q, none⟩ * (blk n f.cs * (blk (n + 1) zeroCs * (blk (n + 1 + 1) [.bool false, .int .u32 0, .int .i64 0] * R)))) (by ac_rfl)
  have x3 := asm_brk (v := .bool false) g1 rfl
  have hd : isHdr f.pay l.length := by
    obtain ⟨po, cap, e, q1, q2, -⟩ := hp _ g1.right.right.right.right
    exact ⟨po, cap, e, q1, q2⟩
  obtain ⟨r, hr⟩ : ∃ r, r = Asm.step ⟨m, none, q, none⟩ f l := ⟨_, rfl⟩
  rw [← hr]
  have Hr := Lib.hid hr
  clear hr
  go_enter Try.func10, Try.ntmps10
  go_wp2_with (first
    | (refine wpl_loadS n 0 f.cs rfl g1 rfl (by kernel_rfl) Try.underlying32 rfl rfl ?_)
    | (go_at_call 16; refine (wrongC g1 hd (by omega) (by show 0 ≤ _; omega) hw).mono ?_; rintro e w2 ⟨rfl, g3⟩;
        rw [asm_none] at g3; have z6 := g3.cell n 6 (v := f.pay) rfl _ g3)
    | (go_at_call 17; refine (cloneB g3 (fun w h => hp _ h.right.right.right.right) (by omega)).mono ?_; rintro e w4 ⟨v1, rfl, g4⟩; have hv1 := (g4.rd v1 _ g4).one)
    | (refine wpl_store rfl g4 rfl (by kernel_rfl) n 6 v1 rfl rfl (g4.rd v1 _ g4).one rfl ?_; intro w5 g5; have y1 := g5.cell a 1 (v := .pointer none) rfl _ g5; have z0 := g5.cell n 0 (v := .int .i64 f.kind) rfl _ g5; have z13 := g5.cell n 13 (v := f.lst) rfl _ g5)
    | (go_at_call 18; refine (cloneS g5 (fun w h => hq _ h.right.right.right.right.right) hlc hnl).mono ?_; rintro e w6 ⟨vl, rfl, g6⟩; have hvl := (g6.rd vl _ g6).one)
    | (refine wpl_store rfl g6 rfl (by kernel_rfl) n 13 vl rfl rfl (g6.rd vl _ g6).one rfl ?_; intro w7 g7)
    | (refine wpl_loadS n 0 ({ f with pay := v1, lst := vl } : Fr).cs rfl g7 rfl (by kernel_rfl) Try.underlying32 rfl rfl ?_)
    | (refine wpl_storeS (n + 1) 0 ({ f with pay := v1, lst := vl } : Fr).cs rfl g7 rfl (by kernel_rfl) rfl rfl rfl (cs_one (f := { f with pay := v1, lst := vl }) hv1 hvl) ?_; intro w15 g15)
    | (refine wpl_storeS (n + 1 + 1) 0 [.bool false, .int .u32 0, .int .i64 0] rfl g15 rfl (by kernel_rfl) rfl rfl rfl rfl ?_; intro w16 g16))
  try simp only [Exit.inBlock, Exit.then]
  refine bodyPost_ret (results_ctc rfl rfl rfl (run_loadVar_blk (n + 1) 0 ({ f with pay := v1, lst := vl } : Fr).cs g16 (by kernel_rfl) Try.underlying32 rfl) (run_loadVar_blk (n + 1 + 1) 0 [.bool false, .int .u32 0, .int .i64 0] g16 (by kernel_rfl) Try.underlying34 rfl)) rfl ?_
  rw [Hr.out]
  unfold Asm.step
  simp only [hw, hk, if_true, if_false]
  refine ⟨v1, vl, rfl, ?_⟩
  rw [asm_none]
  exact own_keepC g16
end
end Go.Proofs.Ytbjfokpdomogeaa
