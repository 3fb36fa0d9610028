
/-
  A scheduler: control frames.
-/
import Derived.Test.YtbekaeahedkeoaaSchNext
import Derived.Test.YtbekaeahedkeoaaBytes
namespace Go.Proofs.Ytbekaeahedkeoaa
open Go.RowKit Go.Sl

section
variable {B w : World} {A R : Assn} {a : Nat} {s : Sc}

theorem own_freeze {b : Nat} {cs : List Value} (h : Own B (blk b cs * R) w) : Own B (blk b cs * R) (w.freeze ⟨b, cs.length, none⟩ 1) := by
  obtain ⟨T, fr, hf, hg, hb⟩ := own_blk_at h
  obtain ⟨lo, hi⟩ := fr
  refine own_turn (o' := .cells cs.toArray T (if lo == hi then (cs.length, cs.length + 1) else (min lo cs.length, max hi (cs.length + 1)))) blk_one (fun h e => ⟨T, _, ?_, e⟩) h (Lib.below_freeze h.1 hb 1) ?_ (fun c hc => ?_)
  · by_cases e : lo = hi
    · simp [e]
    · simp [e] at hf ⊢; omega
  · have e : ¬ (1 = 0) := by decide
    simp only [World.freeze, if_neg e]
    rw [Array.getElem?_modify, if_pos rfl, hg]
    rfl
  · simp [World.freeze, Array.getElem?_modify, Ne.symm hc]

/-- '[]byte' of a literal: the same octets, which a string may share from there on -/
theorem run_mark {b off n cap : Nat} {cs : List Value} (h : Own B (blk b cs * R) w) : (convert 30 30 (.slice (some ⟨b, off, none⟩) n cap)).run Try.prog w = .ok (.slice (some ⟨b, off, none⟩) n cap) (w.freeze ⟨b, cs.length, none⟩ 1) := by
  obtain ⟨T, fr, hf, hg, hb⟩ := own_blk_at h
  have hs : w.shape? b = some (T, cs.length) := by simp [World.shape?, hg]
  simp [convert, run_underlying Try.underlying30, run_underlying Try.underlying5, markStringish, hs]

theorem wpl_mark {o : Oper} {a : Act} {Q : Exit → Act → World → Prop} {ops : Array Oper} {rest : List Oper} (hg : o.guard = none) {b off n cap : Nat} {cs : List Value} (h : Own B (blk b cs * R) w) {x : Operand}
    (ho : o.op = .convert 30 30 x) (hx : a.eval x = .slice (some ⟨b, off, none⟩) n cap) (k : ∀ w', Own B (blk b cs * R) w' → wpList Try.prog ops Q rest (a.put o.dst (.slice (some ⟨b, off, none⟩) n cap)) w') : wpList Try.prog ops Q (o :: rest) a w :=
  wpList_plain hg fun _ hK => by
    have hrun : (execOp a.eval o).run Try.prog w = .ok (.value (.slice (some ⟨b, off, none⟩) n cap)) (w.freeze ⟨b, cs.length, none⟩ 1) := by
      unfold execOp
      rw [ho]
      simp [hx, run_mark h]
    unfold Oper.wp
    rw [hrun]
    exact hK _ _ (k _ (own_freeze h))


theorem ctl_one (C : List (Value × List UInt8)) {X : Assn} (G : Own B (ctA C * X) w) : ∀ y ∈ C.map Prod.fst, y.oneCell' = true := by
  induction C generalizing X with
  | nil => intro y hy; cases hy
  | cons p C ih =>
    intro y hy
    rw [ctA_cons] at G
    rcases List.mem_cons.1 hy with rfl | hy
    · exact (own_rd (G.eq (star_assoc _ _ _))).one
    · exact ih (X := sl 1 p.1 p.2.length (bs p.2) * X) (G.eq (by ac_rfl)) y hy

set_option maxHeartbeats 4000000 in
set_option maxRecDepth 100000 in
theorem controlC {v : Value} {l : List UInt8} (h : Own B (schA a s * R) w) (hr : ∀ w, Own B (schA a s * R) w → rd w 1 v l.length (bs l)) (h0 : 0 < l.length) (h1 : l.length ≤ 1000000) (hl : s.ctl.length ≤ 1000000) :
    Calls Try.prog 10 #[.pointer (some ⟨a, 0, none⟩), v] w fun e w' => e = .returned (.tuple #[]) ∧ Own B (schA a { s with ctl := s.ctl ++ [l] } * R) w' := by
  obtain ⟨vc, vq, L, C, hL, hC, G⟩ := sch_open h
  obtain ⟨bo, bc, rfl, k1, k2, -⟩ := id (hr w h)
  unfold maxLen at k2
  obtain ⟨co, cc, rfl, i3, i4⟩ := G.hdr vc
  have o2 := (G.rd vq _ G).one
  unfold maxLen at i4
  have hr2 : ∀ w, Own B (blk a (scCs (.slice co C.length cc) vq s) * (sl 1 (.slice co C.length cc) C.length (C.map Prod.fst) * (sl 1 vq L.length (ptrs L) * (ctA C * (flA L * R))))) w → rd w 1 (.slice bo l.length bc) l.length (bs l) := fun w g => hr w (sch_close s g rfl hL hC)
  have e1 : C.length ≤ 1000000 := by rw [← hC] at hl; simpa using hl
  clear hl
  simp only [scCs] at G hr2
  go_enter Try.func10, Try.ntmps10
  go_wp2_with fail
  have GC := own_drew (G.only1 a)
  refine wp_region_mix (List.replicate 6 0 ++ [1, 1, 1, 3, 3, 2]) (Own B (blk a _)) (by kernel_rfl) (by kernel_rfl) GC ?_
  refine mix_calm 6 (GC) (by rfl) (by rfl) ?_
  intro ι W hne hW
  dsimp only [List.take, List.drop]
  repeat (first | ((with_reducible refine atq_load ?_); first | (refine wpq_load hW rfl rfl rfl rfl ?_; go_frame) | (refine wpq_loadB hW rfl rfl rfl (by rfl) ?_; go_frame) | (refine wpq_loadS hW rfl rfl rfl (by rfl) ?_; simp only [List.drop_succ_cons, List.drop_zero, List.take_succ_cons, List.take_zero]; go_frame)) | (fail) | go_big_quiet_step (fail))
  refine wpQuiet_nil ?_
  clear  hW hne W ι
  refine mix_loud rfl (fun K hK => ?_)
  go_wp2_with fail
  refine Calls.mono (cloneB (own_drew G) hr2 (by omega)) ?_
  rintro e w2 ⟨v', rfl, G2⟩
  refine hK _ _ ⟨G2.right.only1 a, ?_⟩
  clear hK
  try go_frame
  obtain ⟨vo, vb, rfl, j1, j2⟩ := G2.hdr v'
  have GN : Own B (blk w2.heap.size [.slice vo l.length vb] * _) _ := own_new G2 [.slice vo l.length vb] 30
  refine mix_loud rfl (fun K hK => ?_)
  go_wp2_with fail
  refine ⟨GN.only1 a, ?_⟩
  clear GC G
  try go_frame
  refine mix_loud rfl (fun K hK => ?_)
  refine wpk_append1 GN rfl rfl rfl (by rfl) (by rfl) (by unfold maxLen; omega) (by omega) fun v2 w G => ?_
  obtain ⟨xo, xc, rfl, i5, i6⟩ := G.hdr v2
  refine hK _ _ ⟨G.only1 a, ?_⟩
  clear hK GN
  try go_frame
  refine mix_plain 2 (by rfl) (by rfl) ?_
  intro ι W hne
  dsimp only [List.take, List.drop]
  repeat (go_big_quiet_step (fail))
  refine wpQuiet_nil ?_
  clear hne W ι
  refine mix_last rfl (fun K hK => ?_)
  refine wpk_store G rfl rfl rfl rfl rfl fun w G => hK _ _ (mix_nil ?_)
  clear hK
  try go_frame
  go_wp2_with fail
  go_end0
  refine ⟨rfl, sch_close (vc := .slice xo (C.length + 1) xc) (vq := vq) (L := L) (C := C ++ [(.slice vo l.length vb, l)]) { s with ctl := s.ctl ++ [l] } (G.eq ?_) rfl hL (by simp [hC])⟩
  rw [ctA_app, List.map_append, List.length_append]
  show sl 1 _ (C.length + 1) (C.map Prod.fst ++ [.slice vo l.length vb]) * _ = blk a _ * (sl 1 _ (C.length + 1) (C.map Prod.fst ++ [.slice vo l.length vb]) * (sl 1 vq _ _ * (ctA C * (sl 1 (.slice vo l.length vb) l.length (bs l) * emp) * (flA L * R))))
  rw [star_emp]
  ac_rfl

theorem controlN {v : Value} {c : Nat} {ao : Option Addr} (h : Own B (schA a s * R) w) :
    Calls Try.prog 10 #[.pointer (some ⟨a, 0, none⟩), .slice ao 0 c] w fun e w' => e = .returned (.tuple #[]) ∧ Own B (schA a s * R) w' := by
  go_enter Try.func10, Try.ntmps10
  go_wp2_with fail
  go_end0
  exact ⟨rfl, h⟩

set_option maxHeartbeats 4000000 in
set_option maxRecDepth 100000 in
theorem nextN {c : Int} {l : List UInt8} {ls : List (List UInt8)} (h : Own B (schA a s * R) w) (hct : s.ctl = l :: ls) (hc : c < l.length) :
    Calls Try.prog 12 #[.pointer (some ⟨a, 0, none⟩), .int .i64 c] w fun e w' => e = .returned (pieceV none) ∧ Own B (schA a s * R) w' := by
  obtain ⟨vc, vq, L, C, hL, hC, G⟩ := sch_open h
  cases C with
  | nil => rw [hct] at hC; cases hC
  | cons p C =>
  obtain ⟨v, l'⟩ := p
  obtain rfl : l' = l := by rw [hct] at hC; exact (List.cons.inj hC).1
  obtain ⟨co, cc, rfl, i3, i4⟩ := G.hdr vc
  have o2 := (G.rd vq _ G).one
  rw [show ctA ((v, l') :: C) = sl 1 v l'.length (bs l') * ctA C from rfl] at G
  obtain ⟨bo, bc, rfl, k1, k2⟩ := G.hdr v
  unfold maxLen at i4 k2
  simp only [scCs, List.length_cons, List.map_cons] at G i3
  obtain ⟨ad, rfl⟩ := rd_some (G.rd (.slice co (C.length + 1) cc) _ G) (by omega)
  go_enter Try.func12, Try.ntmps12
  go_wp2_with (first
    | ((with_reducible refine at_alloc ?_); refine wpu_new G ?_; clear G; intro w G)
    | ((with_reducible refine at_drew ?_); refine wpu_drew G ?_; clear G; intro w G)
    | ((with_reducible refine at_load ?_); first
      | (refine wpu_load G rfl rfl rfl rfl ?_; go_frame)
      | (refine wpu_loadB G rfl rfl rfl (by rfl) ?_; go_frame)
      | (refine wpu_loadS G rfl rfl rfl (by rfl) ?_; simp only [List.drop_succ_cons, List.drop_zero, List.take_succ_cons, List.take_zero]; go_frame))
    | ((with_reducible refine at_store ?_); first
      | (refine wpu_store G rfl rfl rfl rfl (by first | rfl | assumption | simp [*]) rfl ?_; clear G; intro w G; go_frame)
      | (refine wpu_storeB G rfl rfl rfl rfl (by rfl) (by rfl) (by first | rfl | assumption | simp [*]) ?_; clear G; intro w G; go_frame)
      | (refine wpu_storeS G rfl rfl rfl rfl (by rfl) (by rfl) (by first | rfl | assumption | simp [*]) ?_; clear G; intro w G; go_frame))
    | ((with_reducible refine at_convert ?_); refine wpu_str G rfl rfl rfl rfl ?_; go_frame)
    | ((with_reducible refine at_slice ?_); first
      | (refine wpu_sliceLo rfl rfl rfl rfl (by first | rfl | omega) (by omega) (by omega) ?_; go_frame)
      | (refine wpu_sliceLH rfl rfl rfl rfl rfl (by first | rfl | omega) (by first | rfl | omega) (by omega) (by omega) ?_; go_frame))
    | fail)
  refine wpu_newC G ?_
  generalize w.heap.size = rb
  clear G; intro w G
  go_step3
  go_wp2_with (first
    | ((with_reducible refine at_alloc ?_); refine wpu_new G ?_; clear G; intro w G)
    | ((with_reducible refine at_drew ?_); refine wpu_drew G ?_; clear G; intro w G)
    | ((with_reducible refine at_load ?_); first
      | (refine wpu_load G rfl rfl rfl rfl ?_; go_frame)
      | (refine wpu_loadB G rfl rfl rfl (by rfl) ?_; go_frame)
      | (refine wpu_loadS G rfl rfl rfl (by rfl) ?_; simp only [List.drop_succ_cons, List.drop_zero, List.take_succ_cons, List.take_zero]; go_frame))
    | ((with_reducible refine at_store ?_); first
      | (refine wpu_store G rfl rfl rfl rfl (by first | rfl | assumption | simp [*]) rfl ?_; clear G; intro w G; go_frame)
      | (refine wpu_storeB G rfl rfl rfl rfl (by rfl) (by rfl) (by first | rfl | assumption | simp [*]) ?_; clear G; intro w G; go_frame)
      | (refine wpu_storeS G rfl rfl rfl rfl (by rfl) (by rfl) (by first | rfl | assumption | simp [*]) ?_; clear G; intro w G; go_frame))
    | ((with_reducible refine at_convert ?_); refine wpu_str G rfl rfl rfl rfl ?_; go_frame)
    | ((with_reducible refine at_slice ?_); first
      | (refine wpu_sliceLo rfl rfl rfl rfl (by first | rfl | omega) (by omega) (by omega) ?_; go_frame)
      | (refine wpu_sliceLH rfl rfl rfl rfl rfl (by first | rfl | omega) (by first | rfl | omega) (by omega) (by omega) ?_; go_frame))
    | ((with_reducible refine at_load ?_); refine wpu_loadC (k := 0) (G.rd (.slice (some ad) (C.length + 1) cc) _ G) rfl rfl rfl rfl ?_; go_frame)
    | fail)
  rw [Exit.noGoto_ret]
  try simp only [Exit.inBlock, Exit.then]
  refine bodyPost_ret (results2 rfl (by first | exact resT rfl | exact resB G rfl (by rfl) | exact resO G rfl rfl) (by first | exact resT rfl | exact resB G rfl (by rfl) | exact resO G rfl rfl)) rfl ?_
  exact ⟨rfl, sch_close (vc := .slice (some ad) (C.length + 1) cc) (vq := vq) (L := L) (C := (.slice bo l'.length bc, l') :: C) s G.right rfl hL hC⟩

theorem ctl_end {vc vq : Value} {L : List (Nat × Fl)} {C : List (Value × List UInt8)} {cs : List Value} {X Y Z : Assn} (s' : Sc)
    (G : Own B (sl 1 vc C.length (C.map Prod.fst) * (Y * (blk a cs * (Z * (sl 1 vq L.length (ptrs L) * (X * ctA C * (flA L * R))))))) w) (hc : cs = scCs vc vq s') (hL : L.map Prod.snd = s'.q) (hC : C.map Prod.snd = s'.ctl) : Own B (schA a s' * (X * R)) w :=
  sch_close (vc := vc) (vq := vq) (L := L) (C := C) s' (G.eq (A' := blk a cs * (sl 1 vc C.length (C.map Prod.fst) * (sl 1 vq L.length (ptrs L) * (ctA C * (flA L * (X * R))))) * (Y * Z)) (by ac_rfl)).drop hc hL hC

set_option maxHeartbeats 4000000 in
set_option maxRecDepth 100000 in
theorem nextC {c : Int} {l : List UInt8} {ls : List (List UInt8)} (h : Own B (schA a s * R) w) (hct : s.ctl = l :: ls) (hc : l.length ≤ c) (hl : s.ctl.length ≤ 1000000) :
    Calls Try.prog 12 #[.pointer (some ⟨a, 0, none⟩), .int .i64 c] w fun e w' => ∃ v, e = .returned (.tuple #[.agg #[v, .int .i64 0, .int .i64 0, .bool false], .bool true]) ∧ Own B (schA a { s with ctl := ls } * (sl 1 v l.length (bs l) * R)) w' := by
  obtain ⟨vc, vq, L, C, hL, hC, G⟩ := sch_open h
  cases C with
  | nil => rw [hct] at hC; cases hC
  | cons p C =>
  obtain ⟨v, l'⟩ := p
  obtain ⟨rfl, hC'⟩ : l' = l ∧ C.map Prod.snd = ls := by rw [hct] at hC; exact ⟨(List.cons.inj hC).1, (List.cons.inj hC).2⟩
  have e1 : C.length + 1 ≤ 1000000 := by rw [← hC] at hl; simpa using hl
  clear hl
  obtain ⟨co, cc, rfl, i3, i4⟩ := G.hdr vc
  have o2 := (G.rd vq _ G).one
  rw [show ctA ((v, l') :: C) = sl 1 v l'.length (bs l') * ctA C from rfl] at G
  obtain ⟨bo, bc, rfl, k1, k2⟩ := G.hdr v
  have h1 : ∀ y ∈ ((.slice bo l'.length bc :: C.map Prod.fst) : List Value), y.oneCell' = true := by
    intro y hy
    rcases List.mem_cons.1 hy with rfl | hy
    · rfl
    · exact ctl_one C (X := blk a (scCs (.slice co ((.slice bo l'.length bc, l') :: C).length cc) vq s) * (sl 1 (.slice co ((.slice bo l'.length bc, l') :: C).length cc) ((.slice bo l'.length bc, l') :: C).length (((.slice bo l'.length bc, l') :: C).map Prod.fst) * (sl 1 vq L.length (ptrs L) * (sl 1 (.slice bo l'.length bc) l'.length (bs l') * (flA L * R))))) (G.eq (by ac_rfl)) y hy
  unfold maxLen at i4 k2
  simp only [scCs, List.length_cons, List.map_cons] at G i3
  obtain ⟨ad, rfl⟩ := rd_some (G.rd (.slice co (C.length + 1) cc) _ G) (by omega)
  clear h
  go_enter Try.func12, Try.ntmps12
  go_wp2_with (first
    | ((with_reducible refine at_alloc ?_); refine wpu_new G ?_; clear G; intro w G)
    | ((with_reducible refine at_drew ?_); refine wpu_drew G ?_; clear G; intro w G)
    | ((with_reducible refine at_load ?_); first
      | (refine wpu_load G rfl rfl rfl rfl ?_; go_frame)
      | (refine wpu_loadB G rfl rfl rfl (by rfl) ?_; go_frame)
      | (refine wpu_loadS G rfl rfl rfl (by rfl) ?_; simp only [List.drop_succ_cons, List.drop_zero, List.take_succ_cons, List.take_zero]; go_frame))
    | ((with_reducible refine at_store ?_); first
      | (refine wpu_store G rfl rfl rfl rfl (by first | rfl | assumption | simp [*]) rfl ?_; clear G; intro w G; go_frame)
      | (refine wpu_storeB G rfl rfl rfl rfl (by rfl) (by rfl) (by first | rfl | assumption | simp [*]) ?_; clear G; intro w G; go_frame)
      | (refine wpu_storeS G rfl rfl rfl rfl (by rfl) (by rfl) (by first | rfl | assumption | simp [*]) ?_; clear G; intro w G; go_frame))
    | ((with_reducible refine at_convert ?_); refine wpu_str G rfl rfl rfl rfl ?_; go_frame)
    | ((with_reducible refine at_slice ?_); first
      | (refine wpu_sliceLo rfl rfl rfl rfl (by first | rfl | omega) (by omega) (by omega) ?_; go_frame)
      | (refine wpu_sliceLH rfl rfl rfl rfl rfl (by first | rfl | omega) (by first | rfl | omega) (by omega) (by omega) ?_; go_frame))
    | fail)
  refine wpu_newC G ?_
  generalize w.heap.size = rb
  clear G; intro w G
  go_step3
  go_wp2_with (first
    | ((with_reducible refine at_alloc ?_); refine wpu_new G ?_; clear G; intro w G)
    | ((with_reducible refine at_drew ?_); refine wpu_drew G ?_; clear G; intro w G)
    | ((with_reducible refine at_load ?_); first
      | (refine wpu_load G rfl rfl rfl rfl ?_; go_frame)
      | (refine wpu_loadB G rfl rfl rfl (by rfl) ?_; go_frame)
      | (refine wpu_loadS G rfl rfl rfl (by rfl) ?_; simp only [List.drop_succ_cons, List.drop_zero, List.take_succ_cons, List.take_zero]; go_frame))
    | ((with_reducible refine at_store ?_); first
      | (refine wpu_store G rfl rfl rfl rfl (by first | rfl | assumption | simp [*]) rfl ?_; clear G; intro w G; go_frame)
      | (refine wpu_storeB G rfl rfl rfl rfl (by rfl) (by rfl) (by first | rfl | assumption | simp [*]) ?_; clear G; intro w G; go_frame)
      | (refine wpu_storeS G rfl rfl rfl rfl (by rfl) (by rfl) (by first | rfl | assumption | simp [*]) ?_; clear G; intro w G; go_frame))
    | ((with_reducible refine at_convert ?_); refine wpu_str G rfl rfl rfl rfl ?_; go_frame)
    | ((with_reducible refine at_slice ?_); first
      | (refine wpu_sliceLo rfl rfl rfl rfl (by first | rfl | omega) (by omega) (by omega) ?_; go_frame)
      | (refine wpu_sliceLH rfl rfl rfl rfl rfl (by first | rfl | omega) (by first | rfl | omega) (by omega) (by omega) ?_; go_frame))
    | ((with_reducible refine at_load ?_); refine wpu_loadC (k := 0) (G.rd (.slice (some ad) (C.length + 1) cc) _ G) rfl rfl rfl rfl ?_; go_frame)
    | fail)
  refine Calls.mono (withoutB (i := 0) G (G.rd (.slice (some ad) (C.length + 1) cc)) h1 (by omega) (by omega)) ?_
  clear G; rintro e w ⟨v, rfl, G⟩
  obtain ⟨xo, xc, rfl, j1, j2⟩ := G.hdr v
  replace G := G.eq (A' := sl 1 (.slice xo C.length xc) C.length (C.map Prod.fst) * _) rfl
  go_wp2_with (first
    | ((with_reducible refine at_alloc ?_); refine wpu_new G ?_; clear G; intro w G)
    | ((with_reducible refine at_drew ?_); refine wpu_drew G ?_; clear G; intro w G)
    | ((with_reducible refine at_load ?_); first
      | (refine wpu_load G rfl rfl rfl rfl ?_; go_frame)
      | (refine wpu_loadB G rfl rfl rfl (by rfl) ?_; go_frame)
      | (refine wpu_loadS G rfl rfl rfl (by rfl) ?_; simp only [List.drop_succ_cons, List.drop_zero, List.take_succ_cons, List.take_zero]; go_frame))
    | ((with_reducible refine at_store ?_); first
      | (refine wpu_store G rfl rfl rfl rfl (by first | rfl | assumption | simp [*]) rfl ?_; clear G; intro w G; go_frame)
      | (refine wpu_storeB G rfl rfl rfl rfl (by rfl) (by rfl) (by first | rfl | assumption | simp [*]) ?_; clear G; intro w G; go_frame)
      | (refine wpu_storeS G rfl rfl rfl rfl (by rfl) (by rfl) (by first | rfl | assumption | simp [*]) ?_; clear G; intro w G; go_frame))
    | ((with_reducible refine at_convert ?_); refine wpu_str G rfl rfl rfl rfl ?_; go_frame)
    | ((with_reducible refine at_slice ?_); first
      | (refine wpu_sliceLo rfl rfl rfl rfl (by first | rfl | omega) (by omega) (by omega) ?_; go_frame)
      | (refine wpu_sliceLH rfl rfl rfl rfl rfl (by first | rfl | omega) (by first | rfl | omega) (by omega) (by omega) ?_; go_frame))
    | fail)
  rw [Exit.noGoto_ret]
  try simp only [Exit.inBlock, Exit.then]
  refine bodyPost_ret (results2 rfl (by first | exact resT rfl | exact resB G rfl (by rfl) | exact resO G rfl rfl) (by first | exact resT rfl | exact resB G rfl (by rfl) | exact resO G rfl rfl)) rfl ?_
  exact ⟨_, rfl, ctl_end { s with ctl := ls } G rfl hL hC'⟩
end
end Go.Proofs.Ytbekaeahedkeoaa
