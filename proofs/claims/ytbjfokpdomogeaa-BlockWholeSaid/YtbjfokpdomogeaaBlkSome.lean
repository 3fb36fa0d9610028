
/-
  The assembler of header blocks: Step in an open block.
-/
import Derived.Test.YtbjfokpdomogeaaBlkStep
namespace Go.Proofs.Ytbjfokpdomogeaa
open Go.RowKit Go.Sl

section
variable {B w : World} {A R : Assn} {a : Nat} {s : Asm}

theorem cs_one {f : Fr} (h1 : f.pay.oneCell' = true) (h2 : f.lst.oneCell' = true) : f.cs.all (·.oneCell') = true := by
  simp only [Fr.cs, List.all_cons, List.all_nil, h1, h2, Bool.and_true, Bool.true_and]
  rfl

theorem own_keep2 {X0 X1 X2 X3 Y1 Y2 Y3 Y4 : Assn} (h : Own B (X0 * (X1 * (X2 * (X3 * (Y1 * (Y2 * (Y3 * (Y4 * R)))))))) w) : Own B (X1 * (X3 * R)) w :=
  (h.eq (A' := (X0 * X2 * (Y1 * (Y2 * (Y3 * Y4)))) * (X1 * (X3 * R))) (by ac_rfl)).right

theorem own_keep3 {X1 X2 X3 Y1 Y2 Y3 Y4 : Assn} (h : Own B (X1 * (X2 * (X3 * (Y1 * (Y2 * (Y3 * (Y4 * R))))))) w) : Own B (X1 * (X2 * X3) * R) w :=
  (h.eq (A' := (X1 * (X2 * X3)) * ((Y1 * (Y2 * (Y3 * Y4))) * R)) (by ac_rfl)).skip

/-- Step in an open block -/
theorem stepSome {f g : Fr} {l lg : List UInt8} {nl m q : Nat} {lc : List Value} (h : Own B (asmA a ⟨m, some (g, lg), q, none⟩ * R) w) (hp : ∀ w, Own B R w → rd w 1 f.pay l.length (bs l))
    (hl : l.length ≤ 70368744177664) (hs : lg.length ≤ 70368744177664) (hparts : q ≤ 32) (hgl : g.lst.oneCell' = true) (hw : Asm.wrong ⟨m, some (g, lg), q, none⟩ f l.length = 0) :
    Calls Try.prog 10 #[.pointer (some ⟨a, 0, none⟩), .agg f.cs.toArray] w (stepPost B a f l nl lc R (Asm.step ⟨m, some (g, lg), q, none⟩ f l)) := by
  have g1 := own_new (own_new (own_new h f.cs 32) zeroCs 32) [.bool false, .int .u32 0, .int .i64 0] 34
  rw [show ∀ w o, (World.alloc w o).heap.size = w.heap.size + 1 from fun w o => by simp, show ∀ w o, (World.alloc w o).heap.size = w.heap.size + 1 from fun w o => by simp] at g1
  generalize hn : w.heap.size = n at *
  replace g1 := g1.eq (A' := asmA a ⟨m, some (g, lg), q, none⟩ * (blk n f.cs * (blk (n + 1) zeroCs * (blk (n + 1 + 1) [.bool false, .int .u32 0, .int .i64 0] * R)))) (by ac_rfl)
  have x3 := asm_brk (v := .bool false) g1 rfl
  have hd : isHdr f.pay l.length := by
    obtain ⟨po, cap, e, q1, q2, -⟩ := hp _ g1.right.right.right.right
    exact ⟨po, cap, e, q1, q2⟩
  obtain ⟨r, hr⟩ : ∃ r, r = Asm.step ⟨m, some (g, lg), q, none⟩ f l := ⟨_, rfl⟩
  rw [← hr]
  have Hr := Lib.hid hr
  clear hr
  go_enter Try.func10, Try.ntmps10
  go_wp2_with (first
    | (refine wpl_loadS n 0 f.cs rfl g1 rfl (by kernel_rfl) Try.underlying32 rfl rfl ?_)
    | (go_at_call 16; refine (wrongC g1 hd (by omega) (by show lg.length ≤ _; omega) hw).mono ?_; rintro e w2 ⟨rfl, g2⟩;
        rw [asm_some] at g2; obtain ⟨b, g3⟩ := own_ex g2; obtain ⟨v, g3⟩ := own_ex g3; have z6 := g3.cell n 6 (v := f.pay) rfl _ g3)
    | (go_at_call 17; refine (cloneB g3 (fun w h => hp _ h.right.right.right.right) (by omega)).mono ?_; rintro e w4 ⟨v1, rfl, g4⟩)
    | (refine wpl_store rfl g4 rfl (by kernel_rfl) n 6 v1 rfl rfl (g4.rd v1 _ g4).one rfl ?_; intro w5 g5; have y1 := g5.cell a 1 (v := .pointer (some ⟨b, 0, none⟩)) rfl _ g5; have y2 := g5.cell a 2 (v := .int .i64 q) rfl _ g5)
    | (refine wpl_store rfl g5 rfl (by kernel_rfl) a 2 (.int .i64 ((q : Int) + 1)) rfl rfl rfl rfl ?_; intro w6 g6))
  try go_frame
  obtain ⟨po, cap, rfl, i1, i2⟩ := g6.hdr v
  obtain ⟨po1, cap1, rfl, i3, i4⟩ := g6.hdr v1
  have k1 := g6.cell a 1 (v := .pointer (some ⟨b, 0, none⟩)) rfl
  have k2 := g6.cell b 6 (v := .slice po lg.length cap) rfl
  have k3 := g6.cell n 6 (v := .slice po1 l.length cap1) rfl
  refine wp_region_mix (List.replicate 13 0 ++ [1, 3, 3, 2]) (fun w' => w'.cell? ⟨a, 1, none⟩ = some (.pointer (some ⟨b, 0, none⟩)) ∧ w'.cell? ⟨b, 6, none⟩ = some (.slice po lg.length cap) ∧ w'.cell? ⟨n, 6, none⟩ = some (.slice po1 l.length cap1)) (by kernel_rfl) (by kernel_rfl)
    ⟨k1 _ (own_drew g6), k2 _ (own_drew g6), k3 _ (own_drew g6)⟩ ?_
  refine mix_calm 13 (⟨k1 _ (own_drew g6),k2 _ (own_drew g6),k3 _ (own_drew g6)⟩) (by rfl) (by rfl) ?_
  intro ι W hne hW
  dsimp only [List.take, List.drop]
  repeat (first | ((with_reducible refine atq_load ?_); first | (refine wpq_load hW rfl rfl rfl rfl ?_; go_frame) | (refine wpq_loadB hW rfl rfl rfl (by rfl) ?_; go_frame) | (refine wpq_loadS hW rfl rfl rfl (by rfl) ?_; simp only [List.drop_succ_cons, List.drop_zero, List.take_succ_cons, List.take_zero]; go_frame)) | (fail) | go_big_quiet_step (fail))
  refine wpQuiet_nil ?_
  clear  hW hne W ι
  refine mix_loud rfl (fun K hK => ?_)
  have g7 := (own_drew g6).eq (A' := sl 1 (.slice po lg.length cap) lg.length (bs lg) * (blk a [.int .i64 m, .pointer (some ⟨b, 0, none⟩), .int .i64 ((q : Int) + 1), .bool false, .int .u32 0, .int .i64 0] * (blk b (g.payed (.slice po lg.length cap)).cs * (sl 1 (.slice po1 l.length cap1) l.length (bs l) * (blk n (f.payed (.slice po1 l.length cap1)).cs * (blk (n + 1) zeroCs * (blk (n + 1 + 1) [.bool false, .int .u32 0, .int .i64 0] * R))))))) (by
    show sl 1 _ _ _ * (blk a [.int .i64 m, .pointer (some ⟨b, 0, none⟩), .int .i64 ((q : Int) + 1), .bool false, .int .u32 0, .int .i64 0] * (_ * _) * (blk n (f.payed (.slice po1 l.length cap1)).cs * _)) = _
    ac_rfl)
  refine wp_append (v := .slice po lg.length cap) (A := _) rfl g7 isBytes rfl rfl rfl (g7.rd (.slice po1 l.length cap1) _ g7) (bs_one _) (by unfold maxLen; omega) (by omega) fun v' w8 g8 => ?_
  refine hK _ _ ⟨⟨g8.cell a 1 rfl _ g8, g8.cell b 6 rfl _ g8, g8.cell n 6 rfl _ g8⟩, ?_⟩
  clear hK k1 k2 k3
  try go_frame
  refine mix_plain 2 (by rfl) (by rfl) ?_
  intro ι W hne
  dsimp only [List.take, List.drop]
  repeat (go_big_quiet_step (fail))
  refine wpQuiet_nil ?_
  clear hne W ι
  refine mix_last rfl (fun K hK => ?_)
  refine wp_store g8 rfl (by kernel_rfl) b 6 v' rfl rfl (g8.rd v' _ g8).one rfl fun w9 g9 => hK _ _ (mix_nil ?_)
  clear hK
  try go_frame
  have g10 := g9.eq (A' := blk a [.int .i64 m, .pointer (some ⟨b, 0, none⟩), .int .i64 ((q : Int) + 1), .bool false, .int .u32 0, .int .i64 0] * (blk b (g.payed v').cs * (sl 1 v' (lg ++ l).length (bs (lg ++ l)) * (sl 1 (.slice po1 l.length cap1) l.length (bs l) * (blk n (f.payed (.slice po1 l.length cap1)).cs * (blk (n + 1) zeroCs * (blk (n + 1 + 1) [.bool false, .int .u32 0, .int .i64 0] * R))))))) (by
    rw [← bs_append, ← List.length_append]
    show sl 1 _ _ _ * (_ * (blk b (g.payed v').cs * _)) = _
    ac_rfl)
  clear g9 g8 g7 g6 g5 g4 g3 g2 g1
  have k3 := g10.cell n 3 (v := .bool f.eh) rfl _ g10
  have k1 := g10.cell a 1 (v := .pointer (some ⟨b, 0, none⟩)) rfl _ g10
  have hv1 := (g10.rd v' _ g10).one
  by_cases he : f.eh = true
  · rw [he] at k3
    go_wp2_with (first
      | (refine wpl_loadS b 0 (g.payed v').cs rfl g10 rfl (by kernel_rfl) Try.underlying32 rfl rfl ?_; have g11 := own_new g10 zeroCs 32)
      | (refine wpl_storeS w9.heap.size 0 (g.payed v').cs rfl g11 rfl (by kernel_rfl) rfl rfl rfl (cs_one (f := g.payed v') hv1 hgl) ?_; intro w12 g12)
      | (refine wpl_store rfl g12 rfl (by kernel_rfl) w9.heap.size 3 (.bool true) rfl rfl rfl rfl ?_; intro w13 g13)
      | (refine wpl_store rfl g13 rfl (by kernel_rfl) a 1 (.pointer none) rfl rfl rfl rfl ?_; intro w14 g14)
      | (refine wpl_loadS w9.heap.size 0 ({ g with pay := v', eh := true } : Fr).cs rfl g14 rfl (by kernel_rfl) Try.underlying32 rfl rfl ?_)
      | (refine wpl_storeS (n + 1) 0 ({ g with pay := v', eh := true } : Fr).cs rfl g14 rfl (by kernel_rfl) rfl rfl rfl (cs_one (f := { g with pay := v', eh := true }) hv1 hgl) ?_; intro w15 g15)
      | (refine wpl_storeS (n + 1 + 1) 0 [.bool false, .int .u32 0, .int .i64 0] rfl g15 rfl (by kernel_rfl) rfl rfl rfl rfl ?_; intro w16 g16))
    try simp only [Exit.inBlock, Exit.then]
    refine bodyPost_ret (results_ctc rfl rfl rfl (run_loadVar_blk (n + 1) 0 ({ g with pay := v', eh := true } : Fr).cs g16 (by kernel_rfl) Try.underlying32 rfl) (run_loadVar_blk (n + 1 + 1) 0 [.bool false, .int .u32 0, .int .i64 0] g16 (by kernel_rfl) Try.underlying34 rfl)) rfl ?_
    rw [Hr.out]
    unfold Asm.step
    simp only [hw, he, if_true]
    refine ⟨v', rfl, ?_⟩
    rw [asm_none]
    exact own_keep2 g16
  · have he' : f.eh = false := by simpa using he
    rw [he'] at k3
    go_wp2_with (first
      | (refine wpl_storeS (n + 1) 0 zeroCs rfl g10 rfl (by kernel_rfl) rfl rfl rfl rfl ?_; intro w11 g11)
      | (refine wpl_storeS (n + 1 + 1) 0 [.bool false, .int .u32 0, .int .i64 0] rfl g11 rfl (by kernel_rfl) rfl rfl rfl rfl ?_; intro w12 g12))
    try simp only [Exit.inBlock, Exit.then]
    refine bodyPost_ret (results_ctc rfl rfl rfl (run_loadVar_blk (n + 1) 0 zeroCs g12 (by kernel_rfl) Try.underlying32 rfl) (run_loadVar_blk (n + 1 + 1) 0 [.bool false, .int .u32 0, .int .i64 0] g12 (by kernel_rfl) Try.underlying34 rfl)) rfl ?_
    rw [Hr.out]
    unfold Asm.step
    simp only [hw, he', if_true, Bool.false_eq_true, if_false]
    refine ⟨rfl, ?_⟩
    rw [asm_some]
    exact own_ex_mk b (own_ex_mk v' (own_keep3 g12))

end
end Go.Proofs.Ytbjfokpdomogeaa
