
/-
  The assembler of header blocks: Step, whatever comes.
-/
import Derived.Test.YtbjfokpdomogeaaBlkNone
namespace Go.Proofs.Ytbjfokpdomogeaa
open Go.RowKit Go.Sl


section
variable {B w : World} {A R : Assn} {a : Nat} {s : Asm}

theorem stepBlk {f : Fr} {l : List UInt8} {nl : Nat} {lc : List Value} (h : Own B (asmA a s * R) w) (hp : ∀ w, Own B R w → rd w 1 f.pay l.length (bs l)) (hq : ∀ w, Own B R w → rd w 2 f.lst nl lc) (hlc : ∀ y ∈ lc, y.oneCell' = true)
    (hl : l.length ≤ 70368744177664) (hnl : nl * 16 ≤ 140737488355328) (hs : s.len ≤ 70368744177664) (hparts : s.parts ≤ 32) (hg : ∀ g k, s.first = some (g, k) → g.lst.oneCell' = true) :
    Calls Try.prog 10 #[.pointer (some ⟨a, 0, none⟩), .agg f.cs.toArray] w (stepPost B a f l nl lc R (s.step f l)) := by
  cases hc : s.broken with
  | some c =>
    refine (stepBroken hc h).mono ?_
    rintro e w' ⟨rfl, h'⟩
    unfold Asm.step
    rw [hc]
    exact ⟨rfl, h'⟩
  | none =>
    have g1 := own_new (own_new (own_new h f.cs 32) zeroCs 32) [.bool false, .int .u32 0, .int .i64 0] 34
    rw [show ∀ w o, (World.alloc w o).heap.size = w.heap.size + 1 from fun w o => by simp, show ∀ w o, (World.alloc w o).heap.size = w.heap.size + 1 from fun w o => by simp] at g1
    generalize hn : w.heap.size = n at *
    replace g1 := g1.eq (A' := asmA a s * (blk n f.cs * (blk (n + 1) zeroCs * (blk (n + 1 + 1) [.bool false, .int .u32 0, .int .i64 0] * R)))) (by ac_rfl)
    have x3 := asm_brk (v := .bool false) g1 (by rw [hc]; rfl)
    have hd : isHdr f.pay l.length := by
      obtain ⟨po, cap, e, q1, q2, -⟩ := hp _ g1.right.right.right.right
      exact ⟨po, cap, e, q1, q2⟩
    by_cases hw : s.wrong f l.length = 0
    · obtain ⟨m, fi, q, br⟩ := s
      obtain rfl : br = none := hc
      cases fi with
      | none =>
        by_cases hk : f.kind = 1
        · exact stepHead h hp hl (hq _ h.right).one hw hk
        · exact stepPass h hp hq hlc hl hnl hw hk
      | some gl => exact stepSome h hp hl hs hparts (hg _ _ rfl) hw
    · unfold Asm.step
      rw [hc]
      simp only [hw, if_false]
      obtain ⟨c, hwc⟩ : ∃ c, s.wrong f l.length = c := ⟨_, rfl⟩
      rw [hwc] at hw ⊢
      go_enter Try.func10, Try.ntmps10
      go_wp2_with (first
        | (refine wpl_loadS n 0 f.cs rfl g1 rfl (by kernel_rfl) Try.underlying32 rfl rfl ?_)
        | (go_at_call 16; refine (wrongC g1 hd (by omega) (by omega) hwc).mono ?_; rintro e w2 ⟨rfl, g2⟩; obtain ⟨p, X, hX, g3⟩ := asm_open g2; rw [hc] at g3)
        | (refine wpl_storeS a 3 [.bool true, .int .u32 c, .int .i64 0] rfl g3 rfl (by kernel_rfl) rfl rfl rfl rfl ?_; intro w4 g4; have y1 := g4.cell a 1 (v := p) rfl _ g4; have f1 := g4.free a 1 rfl _ g4))
      have g5 := g4.set a 1 (.pointer none)
      generalize World.setCell w4 _ _ = w5 at g5 ⊢
      have k3 : ∀ w', Own B _ w' → _ := g5.cell a 3 (v := .bool true) rfl
      have k4 : ∀ w', Own B _ w' → _ := g5.cell a 4 (v := .int .u32 c) rfl
      have k5 : ∀ w', Own B _ w' → _ := g5.cell a 5 (v := .int .i64 0) rfl
      refine wp_region_mix (List.replicate 5 0 ++ [1, 3, 2]) (fun w' => w'.cell? ⟨a, 3, none⟩ = some (.bool true) ∧ w'.cell? ⟨a, 4, none⟩ = some (.int .u32 c) ∧ w'.cell? ⟨a, 5, none⟩ = some (.int .i64 0)) (by kernel_rfl) (by kernel_rfl)
        ⟨k3 _ (own_drew g5), k4 _ (own_drew g5), k5 _ (own_drew g5)⟩ ?_
      refine mix_calm 5 (⟨k3 _ (own_drew g5),k4 _ (own_drew g5),k5 _ (own_drew g5)⟩) (by rfl) (by rfl) ?_
      intro ι W hne hW
      dsimp only [List.take, List.drop]
      repeat (first | ((with_reducible refine atq_load ?_); first | (refine wpq_load hW rfl rfl rfl rfl ?_; go_frame) | (refine wpq_loadB hW rfl rfl rfl (by rfl) ?_; go_frame) | (refine wpq_loadS hW rfl rfl rfl (by rfl) ?_; simp only [List.drop_succ_cons, List.drop_zero, List.take_succ_cons, List.take_zero]; go_frame)) | (fail) | go_big_quiet_step (fail))
      refine wpQuiet_nil ?_
      clear  hW hne W ι
      refine mix_loud rfl (fun K hK => ?_)
      refine wp_storeS (n + 1) 0 zeroCs (own_drew g5) rfl (by kernel_rfl) rfl rfl rfl rfl fun u2 q2 => hK _ _ ⟨⟨q2.cell a 3 rfl _ q2, q2.cell a 4 rfl _ q2, q2.cell a 5 rfl _ q2⟩, ?_⟩
      clear hK
      try go_frame
      refine mix_plain 1 (by rfl) (by rfl) ?_
      intro ι W hne
      dsimp only [List.take, List.drop]
      repeat (go_big_quiet_step (fail))
      refine wpQuiet_nil ?_
      clear hne W ι
      refine mix_last rfl (fun K hK => ?_)
      refine wp_storeS (n + 1 + 1) 0 [.bool true, .int .u32 c, .int .i64 0] q2 rfl (by kernel_rfl) rfl rfl rfl rfl fun u3 q3 => hK _ _ (mix_nil ?_)
      clear hK
      try go_frame
      go_wp2
      try simp only [Exit.inBlock, Exit.then]
      refine bodyPost_ret (results_ctc rfl rfl rfl (run_loadVar_blk (n + 1) 0 zeroCs q3 (by kernel_rfl) Try.underlying32 rfl) (run_loadVar_blk (n + 1 + 1) 0 [.bool true, .int .u32 c, .int .i64 0] q3 (by kernel_rfl) Try.underlying34 rfl)) rfl ⟨rfl, ?_⟩
      rw [asm_none]
      exact (q3.eq (A' := blk a _ * (X * (blk n f.cs * (blk (n + 1) _ * (blk (n + 1 + 1) _ * R))))) rfl).skip.skip.skip.skip
end
end Go.Proofs.Ytbjfokpdomogeaa
