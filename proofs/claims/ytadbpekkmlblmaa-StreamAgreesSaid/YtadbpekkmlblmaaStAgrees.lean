
/-
  StreamAgrees: who keeps the rules is never at fault.
-/
import Derived.Test.YtadbpekkmlblmaaStLine
import Derived.Test.YtadbpekkmlblmaaLaw
namespace Go.Proofs.Ytadbpekkmlblmaa.streamAgrees
open Go.RowKit Go.Sl Go.ChangeShapes

section
theorem actCells {H : Type} {enc : TypeId × Value → H} {W : World} {cs : List Value} {d : DataW H} (h : RdC enc Try.prog W 36 cs d) :
    ∃ (x0 : Bool) (x1 : Bool) (x2 : Bool) (x3 : Int), cs = [.bool x0, .bool x1, .bool x2, .int .i64 x3] ∧ True ∧ True ∧ True ∧ (-9223372036854775808 ≤ x3 ∧ x3 ≤ 9223372036854775807) := by
  have hl := (rdc_struct Try.underlying36 h).1
  obtain ⟨e0, g0⟩ := rdc_field Try.underlying36 h 0 rfl (ft := 4) rfl (o := 0) rfl (c := 1) (by kernel_rfl)
  obtain ⟨x0, q0⟩ := rdc_bool Try.underlying4 g0
  obtain ⟨e1, g1⟩ := rdc_field Try.underlying36 h 1 rfl (ft := 4) rfl (o := 1) rfl (c := 1) (by kernel_rfl)
  obtain ⟨x1, q1⟩ := rdc_bool Try.underlying4 g1
  obtain ⟨e2, g2⟩ := rdc_field Try.underlying36 h 2 rfl (ft := 4) rfl (o := 2) rfl (c := 1) (by kernel_rfl)
  obtain ⟨x2, q2⟩ := rdc_bool Try.underlying4 g2
  obtain ⟨e3, g3⟩ := rdc_field Try.underlying36 h 3 rfl (ft := 3) rfl (o := 3) rfl (c := 1) (by kernel_rfl)
  obtain ⟨x3, q3, b3⟩ := rdc_i64 Try.underlying3 g3
  refine ⟨x0, x1, x2, x3, ?_, trivial, trivial, trivial, b3⟩
  have hl' : cs.length = 4 := hl.trans (by kernel_rfl)
  refine list_of_cells hl' [.bool x0, .bool x1, .bool x2, .int .i64 x3] rfl ?_
  intro i hi
  match i, hi with
  | 0, _ => exact take_one q0
  | 1, _ => exact take_one q1
  | 2, _ => exact take_one q2
  | 3, _ => exact take_one q3
  | i + 4, hi => exact absurd hi (by omega)
theorem acts_in {H : Type} {enc : TypeId × Value → H} {W : World} {v : Value} {d : DataW H} (h : Arg enc Try.prog W 28 v d) :
    ∃ n xs, rd W 4 v n xs ∧ ∀ i, i < n → ∃ (f c e : Bool) (k : Int), (xs.drop (i * 4)).take 4 = [.bool f, .bool c, .bool e, .int .i64 k] ∧ (-9223372036854775808 ≤ k ∧ k ≤ 9223372036854775807) := by
  obtain ⟨n, xs, hr, -, hel⟩ := arg_slice (sz := 4) Try.underlying28 (by kernel_rfl) h
  refine ⟨n, xs, hr, fun i hi => ?_⟩
  obtain ⟨_, hd⟩ := hel i hi
  obtain ⟨x0, x1, x2, x3, e, _, _, _, b⟩ := actCells hd
  exact ⟨x0, x1, x2, x3, e, b⟩
end

abbrev Q := List (Int × Bool)
/-- all kinds on their way are numbers -/
def Fits (q : Q) : Prop := ∀ f ∈ q, -9223372036854775808 ≤ f.1 ∧ f.1 ≤ 9223372036854775807

/-- what is so at any time: a reset has been sent, or not -/
structure Inv (s0 s1 : Int) (q0 q1 : Q) (rs : Bool) : Prop where
  two : ∃ pa ra pb rb, Two s0 s1 q0 q1 pa ra pb rb ∧ (rs = true ↔ pa = 3 ∨ pb = 3)
  f0 : Fits q0
  f1 : Fits q1

theorem Inv.start : Inv 0 0 [] [] false := ⟨⟨0, 0, 0, 0, Two.start, by simp⟩, fun _ h => (by cases h), fun _ h => (by cases h)⟩

theorem Inv.flip {s0 s1 : Int} {q0 q1 : Q} {rs : Bool} (h : Inv s0 s1 q0 q1 rs) : Inv s1 s0 q1 q0 rs := by
  obtain ⟨⟨pa, ra, pb, rb, h1, h2⟩, h3, h4⟩ := h
  exact ⟨⟨pb, rb, pa, ra, h1.flip, by rw [h2]; exact Or.comm⟩, h4, h3⟩

theorem Inv.range {s0 s1 : Int} {q0 q1 : Q} {rs : Bool} (h : Inv s0 s1 q0 q1 rs) : 0 ≤ s0 ∧ s0 ≤ 6 := by
  obtain ⟨⟨pa, ra, pb, rb, h1, h2⟩, h3, h4⟩ := h
  exact h1.a.bounds

theorem Inv.get {s0 s1 : Int} {q0 q1 : Q} {k : Int} {e rs : Bool} (h : Inv s0 s1 ((k, e) :: q0) q1 rs) :
    ∃ n d c, stepS s0 false k e = (n, d, c) ∧ (d = 0 ∨ d = 1) ∧ Inv n s1 q0 q1 rs ∧ (-9223372036854775808 ≤ k ∧ k ≤ 9223372036854775807) := by
  obtain ⟨⟨pa, ra, pb, rb, h1, h2⟩, h3, h4⟩ := h
  obtain ⟨r, h5, h6⟩ := h1.get
  exact ⟨_, _, _, rfl, h6, ⟨⟨pa, r, pb, rb, h5, h2⟩, fun f hf => h3 f (List.mem_cons_of_mem _ hf), h4⟩, h3 _ (List.mem_cons_self ..)⟩

theorem Inv.send {s0 s1 : Int} {q0 q1 : Q} {k : Int} {e rs : Bool} (h : Inv s0 s1 q0 q1 rs) (k1 : -9223372036854775808 ≤ k) (k2 : k ≤ 9223372036854775807) :
    (∃ n c, stepS s0 true k e = (n, 0, c) ∧ Inv n s1 q0 (q1 ++ [(k, e)]) (rs || k == 3)) ∨ stepS s0 true k e = (s0, 4, 2) := by
  obtain ⟨⟨pa, ra, pb, rb, h1, h2⟩, h3, h4⟩ := h
  by_cases h0 : (stepS s0 true k e).2.1 = 0
  · obtain ⟨p, h5, h6⟩ := h1.send k e h0
    refine .inl ⟨(stepS s0 true k e).1, (stepS s0 true k e).2.2, ?_, ⟨⟨p, ra, pb, rb, h5, ?_⟩, h3, ?_⟩⟩
    · rw [← h0]
    · rw [h6]
      by_cases hk : k = 3
      · simp [hk]
      · have : (k == 3) = false := by simp [hk]
        simp only [this, Bool.or_false, h2, hk, or_false]
    · intro f hf
      rcases List.mem_append.1 hf with hf | hf
      · exact h4 f hf
      · rw [List.mem_singleton.1 hf]; exact ⟨k1, k2⟩
  · exact .inr (h1.a.refused k e h0)

theorem Inv.ends {s0 s1 : Int} {rs : Bool} (h : Inv s0 s1 [] [] rs) :
    if rs then 4 ≤ s0 ∧ 4 ≤ s1 ∧ s0 ≤ 6 ∧ s1 ≤ 6 else (s0 = 0 ∧ s1 = 0) ∨ (s0 = 1 ∧ s1 = 1) ∨ (s0 = 2 ∧ s1 = 3) ∨ (s0 = 3 ∧ s1 = 2) ∨ (s0 = 4 ∧ s1 = 4) := by
  have r1 := h.range
  have r2 := h.flip.range
  obtain ⟨⟨pa, ra, pb, rb, h1, h2⟩, h3, h4⟩ := h
  have := h1.ends
  cases rs
  · rw [if_neg (by simpa using h2)] at this
    simpa using this
  · rw [if_pos (by simpa using h2)] at this
    simp
    omega



theorem build_mirror (w : World) : (Instr.buildSlice 40 5 #[(0, .int .i64 0), (1, .int .i64 1), (2, .int .i64 3), (3, .int .i64 2), (4, .int .i64 4)]).run Try.prog w = .ok (.slice (some ⟨w.heap.size, 0, none⟩) 5 5) (w.alloc (.cells [.int .i64 0, .int .i64 1, .int .i64 3, .int .i64 2, .int .i64 4].toArray 3)) := by kernel_rfl



theorem at0 {f a : Nat} {x y : Int} {w : World} {Q : Ending → World → Prop} (e : x = y) (h : Calls Try.prog f #[.pointer (some ⟨a, 0, none⟩), .int .i64 y] w Q) : Calls Try.prog f #[.pointer (some ⟨a, 0, none⟩), .int .i64 x] w Q := e ▸ h
theorem and_one {j : Nat} (h : j < 400) : bits BinOp.and IntKind.i64 (j : Int) 1 = ((j % 2 : Nat) : Int) := by
  revert j
  decide +kernel




set_option maxHeartbeats 40000000 in
set_option maxRecDepth 100000 in
theorem agreesW {w0 : World} {v : Value} {n : Nat} {xs : List Value} (hr : rd w0 4 v n xs) (hel : ∀ i, i < n → ∃ (f c e : Bool) (k : Int), (xs.drop (i * 4)).take 4 = [.bool f, .bool c, .bool e, .int .i64 k] ∧ (-9223372036854775808 ≤ k ∧ k ≤ 9223372036854775807)) :
    Calls Try.prog 4 #[v] w0 fun e w' => e = .returned (.bool true) ∧ Below w0.heap.size w0 w' := by
  have G := own_begin w0
  obtain ⟨ao, cap, rfl, j1, j2, -⟩ := id hr
  unfold maxLen at j2
  have HR := Lib.hid hr
  clear hr
  go_enter Try.func4, Try.ntmps4
  go_wp2_with fail
  refine Calls.mono (shownSt G) ?_
  clear G; rintro e w ⟨rfl, G⟩
  go_wp2_with (first
    | ((with_reducible refine at_alloc ?_); refine wpu_new G ?_; clear G; intro w G)
    | ((with_reducible refine at_drew ?_); refine wpu_drew G ?_; clear G; intro w G)
    | ((with_reducible refine at_load ?_); first
      | (refine wpu_load G rfl rfl rfl rfl ?_; go_frame)
      | (refine wpu_loadB G rfl rfl rfl (by rfl) ?_; go_frame)
      | (refine wpu_loadS G rfl rfl rfl (by rfl) ?_; simp only [List.drop_succ_cons, List.drop_zero, List.take_succ_cons, List.take_zero]; go_frame))
    | ((with_reducible refine at_store ?_); first
      | (refine wpu_store G rfl rfl rfl rfl (by first | rfl | assumption | simp [*]) rfl ?_; clear G; intro w G; go_frame)
      | (refine wpu_storeB G rfl rfl rfl rfl (by rfl) (by rfl) (by first | rfl | assumption | simp [*]) ?_; clear G; intro w G; go_frame)
      | (refine wpu_storeS G rfl rfl rfl rfl (by rfl) (by rfl) (by first | rfl | assumption | simp [*]) ?_; clear G; intro w G; go_frame))
    | ((with_reducible refine at_convert ?_); refine wpu_str G rfl rfl rfl rfl ?_; go_frame)
    | ((with_reducible refine at_slice ?_); first
      | (refine wpu_sliceLo rfl rfl rfl rfl (by first | rfl | omega) (by omega) (by omega) ?_; go_frame)
      | (refine wpu_sliceLH rfl rfl rfl rfl rfl (by first | rfl | omega) (by first | rfl | omega) (by omega) (by omega) ?_; go_frame))
    | fail)
  obtain ⟨a, ha⟩ : ∃ a, w.heap.size = a := ⟨_, rfl⟩
  have G1 := own_new G (lineCs 0 0 (.slice none 0 0) (.slice none 0 0)) 34
  rw [ha] at G1 ⊢
  have G2 : Own w0 (lineA a 0 0 [] [] * emp) _ := line_close (v0 := .slice none 0 0) (v1 := .slice none 0 0) ((own_nil (own_nil G1 2) 2).eq (by ac_rfl)) rfl
  go_loopw [5, 6] (fun rv i wr => ∃ (k : Nat) (s0 s1 : Int) (q0 q1 : Q) (rs : Bool), k ≤ n ∧ k ≤ 200 ∧ i = .int .i64 k ∧ rv = .bool rs ∧ Inv s0 s1 q0 q1 rs ∧ q0.length + q1.length ≤ k ∧ Own w0 (lineA a s0 s1 q0 q1 * emp) wr) (fun _ i _ => n - (intOf i).toNat)
  case atStart => exact ⟨0, 0, 0, [], [], false, Nat.zero_le _, by decide, rfl, rfl, Inv.start, Nat.le_refl _, G2⟩
  case round =>
    clear G G1 G2 ha
    obtain ⟨k, s0, s1, q0, q1, rs, hk, hk2, rfl, rfl, hI, hlen, G⟩ := hrel
    by_cases hlt : k < n ∧ k < 200
    · obtain ⟨hlt, hlt2⟩ := hlt
      obtain ⟨fi, co, en, kd, hx, b1, b2⟩ := hel k hlt
      obtain ⟨ad, rfl⟩ := rd_some HR.out (by omega)
      have HX := Lib.hid hx
      clear hx
      have hr0 := hI.range
      have hr1 := hI.flip.range
      obtain ⟨r1, r2⟩ := hr0
      obtain ⟨r3, r4⟩ := hr1
      cases fi
      · cases co
        · rcases hI.flip.send (k := kd) (e := en) b1 b2 with ⟨s', c, e, hI'⟩ | e
          · as_aux_lemma =>
            have HE := Lib.hid e
            have hI'' := hI'.flip
            clear e hI hI'
            obtain ⟨v0, v1, G⟩ := line_open G
            have o0 := (G.rd v0 _ G).one
            have o1 := (G.rd v1 _ G).one
            simp only [lineCs] at G
            go_wp2_with (first
              | ((with_reducible refine at_alloc ?_); refine wpu_new G ?_; clear G; intro w G)
              | ((with_reducible refine at_drew ?_); refine wpu_drew G ?_; clear G; intro w G)
              | ((with_reducible refine at_load ?_); first
                | (refine wpu_load G rfl rfl rfl rfl ?_; go_frame)
                | (refine wpu_loadB G rfl rfl rfl (by rfl) ?_; go_frame)
                | (refine wpu_loadS G rfl rfl rfl (by rfl) ?_; simp only [List.drop_succ_cons, List.drop_zero, List.take_succ_cons, List.take_zero]; go_frame))
              | ((with_reducible refine at_store ?_); first
                | (refine wpu_store G rfl rfl rfl rfl (by first | rfl | assumption | simp [*]) rfl ?_; clear G; intro w G; go_frame)
                | (refine wpu_storeB G rfl rfl rfl rfl (by rfl) (by rfl) (by first | rfl | assumption | simp [*]) ?_; clear G; intro w G; go_frame)
                | (refine wpu_storeS G rfl rfl rfl rfl (by rfl) (by rfl) (by first | rfl | assumption | simp [*]) ?_; clear G; intro w G; go_frame))
              | ((with_reducible refine at_convert ?_); refine wpu_str G rfl rfl rfl rfl ?_; go_frame)
              | ((with_reducible refine at_slice ?_); first
                | (refine wpu_sliceLo rfl rfl rfl rfl (by first | rfl | omega) (by omega) (by omega) ?_; go_frame)
                | (refine wpu_sliceLH rfl rfl rfl rfl rfl (by first | rfl | omega) (by first | rfl | omega) (by omega) (by omega) ?_; go_frame))
              | ((with_reducible refine at_load ?_); refine wpu_loadF (HR.out.old G) HX.out rfl rfl rfl rfl ?_; go_frame)
              | ((with_reducible refine at_load ?_); refine wpu_loadF0 (HR.out.old G) HX.out rfl rfl rfl rfl ?_; go_frame)
              | fail)
            refine wp_region_mix (List.replicate 16 0 ++ [1, 3, 3, 3, 3, 3, 3, 3]) (Own w0 _) (by kernel_rfl) (by kernel_rfl) (own_drew G) ?_
            refine mix_calm 16 ((own_drew G)) (by rfl) (by rfl) ?_
            intro ι W hne hW
            dsimp only [List.take, List.drop]
            repeat (first | ((with_reducible refine atq_load ?_); first | (refine wpq_load hW rfl rfl rfl rfl ?_; go_frame) | (refine wpq_loadB hW rfl rfl rfl (by rfl) ?_; go_frame) | (refine wpq_loadS hW rfl rfl rfl (by rfl) ?_; simp only [List.drop_succ_cons, List.drop_zero, List.take_succ_cons, List.take_zero]; go_frame)) | ((with_reducible refine atq_load ?_); refine wpq_loadF (fun i => HR.out.old (hW i)) HX.out rfl rfl rfl rfl ?_; go_frame) | go_big_quiet_step (fail))
            refine wpQuiet_nil ?_
            clear  hW hne W ι
            refine mix_loud rfl (fun K hK => ?_)
            go_wp2_with fail
            refine Calls.mono (stepE (own_drew G) (by omega) (by omega) b1 b2 HE.out) ?_
            rintro e' w2 ⟨rfl, G2⟩
            refine hK _ _ ⟨G2, ?_⟩
            clear hK
            clear G
            have G := G2
            clear G2
            try go_frame
            refine mix_plain 7 (by rfl) (by rfl) ?_
            intro ι W hne
            dsimp only [List.take, List.drop]
            repeat (go_big_quiet_step (fail))
            refine wpQuiet_nil ?_
            clear hne W ι
            refine mix_nil ?_
            go_wp2_with (first
              | ((with_reducible refine at_alloc ?_); refine wpu_new G ?_; clear G; intro w G)
              | ((with_reducible refine at_drew ?_); refine wpu_drew G ?_; clear G; intro w G)
              | ((with_reducible refine at_load ?_); first
                | (refine wpu_load G rfl rfl rfl rfl ?_; go_frame)
                | (refine wpu_loadB G rfl rfl rfl (by rfl) ?_; go_frame)
                | (refine wpu_loadS G rfl rfl rfl (by rfl) ?_; simp only [List.drop_succ_cons, List.drop_zero, List.take_succ_cons, List.take_zero]; go_frame))
              | ((with_reducible refine at_store ?_); first
                | (refine wpu_store G rfl rfl rfl rfl (by first | rfl | assumption | simp [*]) rfl ?_; clear G; intro w G; go_frame)
                | (refine wpu_storeB G rfl rfl rfl rfl (by rfl) (by rfl) (by first | rfl | assumption | simp [*]) ?_; clear G; intro w G; go_frame)
                | (refine wpu_storeS G rfl rfl rfl rfl (by rfl) (by rfl) (by first | rfl | assumption | simp [*]) ?_; clear G; intro w G; go_frame))
              | ((with_reducible refine at_convert ?_); refine wpu_str G rfl rfl rfl rfl ?_; go_frame)
              | ((with_reducible refine at_slice ?_); first
                | (refine wpu_sliceLo rfl rfl rfl rfl (by first | rfl | omega) (by omega) (by omega) ?_; go_frame)
                | (refine wpu_sliceLH rfl rfl rfl rfl rfl (by first | rfl | omega) (by first | rfl | omega) (by omega) (by omega) ?_; go_frame))
              | ((with_reducible refine at_load ?_); refine wpu_loadF (HR.out.old G) HX.out rfl rfl rfl rfl ?_; go_frame)
              | ((with_reducible refine at_load ?_); refine wpu_loadF0 (HR.out.old G) HX.out rfl rfl rfl rfl ?_; go_frame)
              | fail)
            all_goals
              have hI := hI''
              clear hI''
            · have hrs : rs = true := by assumption
              subst hrs
              have GC := own_drew (G.only1 a)
              refine wp_region_mix (List.replicate 21 0 ++ [1, 1, 3, 3, 3, 2]) (Own w0 (blk a _)) (by kernel_rfl) (by kernel_rfl) GC ?_
              refine mix_calm 21 (GC) (by rfl) (by rfl) ?_
              intro ι W hne hW
              dsimp only [List.take, List.drop]
              repeat (first | ((with_reducible refine atq_load ?_); first | (refine wpq_load hW rfl rfl rfl rfl ?_; go_frame) | (refine wpq_loadB hW rfl rfl rfl (by rfl) ?_; go_frame) | (refine wpq_loadS hW rfl rfl rfl (by rfl) ?_; simp only [List.drop_succ_cons, List.drop_zero, List.take_succ_cons, List.take_zero]; go_frame)) | (first | ((with_reducible refine atq_load ?_); refine wpq_loadF (fun i => HR.out.old (hW i)) HX.out rfl rfl rfl rfl ?_; go_frame)) | go_big_quiet_step (fail))
              refine wpQuiet_nil ?_
              clear  hW hne W ι
              have GN : Own w0 (blk w.heap.size [.int .i64 kd, .bool en] * _) _ := own_new (own_drew G) [.int .i64 kd, .bool en] 39
              refine mix_loud rfl (fun K hK => ?_)
              go_wp2_with fail
              refine ⟨GN.only1 a, ?_⟩
              clear GC
              try go_frame
              refine mix_loud rfl (fun K hK => ?_)
              refine wpk_append1 GN rfl rfl rfl (by rfl) (by rfl) (by unfold maxLen; omega) (by omega) fun v' w G => ?_
              obtain ⟨xo, xc, rfl, i3, i4⟩ := G.hdr v'
              refine hK _ _ ⟨G.only1 a, ?_⟩
              clear hK GN
              try go_frame
              refine mix_plain 3 (by rfl) (by rfl) ?_
              intro ι W hne
              dsimp only [List.take, List.drop]
              repeat (go_big_quiet_step (fail))
              refine wpQuiet_nil ?_
              clear hne W ι
              refine mix_last rfl (fun K hK => ?_)
              refine wpk_store G rfl rfl rfl rfl rfl fun w G => hK _ _ (mix_nil ?_)
              clear hK
              try go_frame
              go_wp2_with (first
                | ((with_reducible refine at_alloc ?_); refine wpu_new G ?_; clear G; intro w G)
                | ((with_reducible refine at_drew ?_); refine wpu_drew G ?_; clear G; intro w G)
                | ((with_reducible refine at_load ?_); first
                  | (refine wpu_load G rfl rfl rfl rfl ?_; go_frame)
                  | (refine wpu_loadB G rfl rfl rfl (by rfl) ?_; go_frame)
                  | (refine wpu_loadS G rfl rfl rfl (by rfl) ?_; simp only [List.drop_succ_cons, List.drop_zero, List.take_succ_cons, List.take_zero]; go_frame))
                | ((with_reducible refine at_store ?_); first
                  | (refine wpu_store G rfl rfl rfl rfl (by first | rfl | assumption | simp [*]) rfl ?_; clear G; intro w G; go_frame)
                  | (refine wpu_storeB G rfl rfl rfl rfl (by rfl) (by rfl) (by first | rfl | assumption | simp [*]) ?_; clear G; intro w G; go_frame)
                  | (refine wpu_storeS G rfl rfl rfl rfl (by rfl) (by rfl) (by first | rfl | assumption | simp [*]) ?_; clear G; intro w G; go_frame))
                | ((with_reducible refine at_convert ?_); refine wpu_str G rfl rfl rfl rfl ?_; go_frame)
                | ((with_reducible refine at_slice ?_); first
                  | (refine wpu_sliceLo rfl rfl rfl rfl (by first | rfl | omega) (by omega) (by omega) ?_; go_frame)
                  | (refine wpu_sliceLH rfl rfl rfl rfl rfl (by first | rfl | omega) (by first | rfl | omega) (by omega) (by omega) ?_; go_frame))
                | ((with_reducible refine at_load ?_); refine wpu_loadF (HR.out.old G) HX.out rfl rfl rfl rfl ?_; go_frame)
                | ((with_reducible refine at_load ?_); refine wpu_loadF0 (HR.out.old G) HX.out rfl rfl rfl rfl ?_; go_frame)
                | fail)
              obtain ⟨q', hq'⟩ : ∃ q', q' = q0 ++ [(kd, en)] := ⟨_, rfl⟩
              have e3 : q'.length = (q0).length + 1 := by rw [hq']; simp
              have e4 : frs q0 ++ [.int .i64 kd, .bool en] = frs q' := by rw [hq']; exact frs_app q0 [(kd, en)]
              rw [← hq'] at hI
              have G1 := G.eq (show _ = sl 2 (.slice xo ((q0).length + 1) xc) q'.length (frs q') * _ by rw [e3, ← e4])
              clear hq' e4 G
              have G := G1
              clear G1
              go_roundw
              case rel => exact ⟨k + 1, _, _, _, _, _, by omega, by omega, by go_num, rfl, hI, by omega, line_close (G.bss a (.slice xo (q0.length + 1) xc) v1) rfl⟩
              case measure => simp [intOf] <;> omega
            · have hrs : rs = false := by simpa using ‹¬ rs = true›
              subst hrs
              have GC := own_drew (G.only1 a)
              refine wp_region_mix (List.replicate 21 0 ++ [1, 1, 3, 3, 3, 2]) (Own w0 (blk a _)) (by kernel_rfl) (by kernel_rfl) GC ?_
              refine mix_calm 21 (GC) (by rfl) (by rfl) ?_
              intro ι W hne hW
              dsimp only [List.take, List.drop]
              repeat (first | ((with_reducible refine atq_load ?_); first | (refine wpq_load hW rfl rfl rfl rfl ?_; go_frame) | (refine wpq_loadB hW rfl rfl rfl (by rfl) ?_; go_frame) | (refine wpq_loadS hW rfl rfl rfl (by rfl) ?_; simp only [List.drop_succ_cons, List.drop_zero, List.take_succ_cons, List.take_zero]; go_frame)) | (first | ((with_reducible refine atq_load ?_); refine wpq_loadF (fun i => HR.out.old (hW i)) HX.out rfl rfl rfl rfl ?_; go_frame)) | go_big_quiet_step (fail))
              refine wpQuiet_nil ?_
              clear  hW hne W ι
              have GN : Own w0 (blk w.heap.size [.int .i64 kd, .bool en] * _) _ := own_new (own_drew G) [.int .i64 kd, .bool en] 39
              refine mix_loud rfl (fun K hK => ?_)
              go_wp2_with fail
              refine ⟨GN.only1 a, ?_⟩
              clear GC
              try go_frame
              refine mix_loud rfl (fun K hK => ?_)
              refine wpk_append1 GN rfl rfl rfl (by rfl) (by rfl) (by unfold maxLen; omega) (by omega) fun v' w G => ?_
              obtain ⟨xo, xc, rfl, i3, i4⟩ := G.hdr v'
              refine hK _ _ ⟨G.only1 a, ?_⟩
              clear hK GN
              try go_frame
              refine mix_plain 3 (by rfl) (by rfl) ?_
              intro ι W hne
              dsimp only [List.take, List.drop]
              repeat (go_big_quiet_step (fail))
              refine wpQuiet_nil ?_
              clear hne W ι
              refine mix_last rfl (fun K hK => ?_)
              refine wpk_store G rfl rfl rfl rfl rfl fun w G => hK _ _ (mix_nil ?_)
              clear hK
              try go_frame
              go_wp2_with (first
                | ((with_reducible refine at_alloc ?_); refine wpu_new G ?_; clear G; intro w G)
                | ((with_reducible refine at_drew ?_); refine wpu_drew G ?_; clear G; intro w G)
                | ((with_reducible refine at_load ?_); first
                  | (refine wpu_load G rfl rfl rfl rfl ?_; go_frame)
                  | (refine wpu_loadB G rfl rfl rfl (by rfl) ?_; go_frame)
                  | (refine wpu_loadS G rfl rfl rfl (by rfl) ?_; simp only [List.drop_succ_cons, List.drop_zero, List.take_succ_cons, List.take_zero]; go_frame))
                | ((with_reducible refine at_store ?_); first
                  | (refine wpu_store G rfl rfl rfl rfl (by first | rfl | assumption | simp [*]) rfl ?_; clear G; intro w G; go_frame)
                  | (refine wpu_storeB G rfl rfl rfl rfl (by rfl) (by rfl) (by first | rfl | assumption | simp [*]) ?_; clear G; intro w G; go_frame)
                  | (refine wpu_storeS G rfl rfl rfl rfl (by rfl) (by rfl) (by first | rfl | assumption | simp [*]) ?_; clear G; intro w G; go_frame))
                | ((with_reducible refine at_convert ?_); refine wpu_str G rfl rfl rfl rfl ?_; go_frame)
                | ((with_reducible refine at_slice ?_); first
                  | (refine wpu_sliceLo rfl rfl rfl rfl (by first | rfl | omega) (by omega) (by omega) ?_; go_frame)
                  | (refine wpu_sliceLH rfl rfl rfl rfl rfl (by first | rfl | omega) (by first | rfl | omega) (by omega) (by omega) ?_; go_frame))
                | ((with_reducible refine at_load ?_); refine wpu_loadF (HR.out.old G) HX.out rfl rfl rfl rfl ?_; go_frame)
                | ((with_reducible refine at_load ?_); refine wpu_loadF0 (HR.out.old G) HX.out rfl rfl rfl rfl ?_; go_frame)
                | fail)
              obtain ⟨q', hq'⟩ : ∃ q', q' = q0 ++ [(kd, en)] := ⟨_, rfl⟩
              have e3 : q'.length = (q0).length + 1 := by rw [hq']; simp
              have e4 : frs q0 ++ [.int .i64 kd, .bool en] = frs q' := by rw [hq']; exact frs_app q0 [(kd, en)]
              rw [← hq'] at hI
              have G1 := G.eq (show _ = sl 2 (.slice xo ((q0).length + 1) xc) q'.length (frs q') * _ by rw [e3, ← e4])
              clear hq' e4 G
              have G := G1
              clear G1
              go_roundw
              case rel => exact ⟨k + 1, _, _, _, _, _, by omega, by omega, by go_num, rfl, hI, by omega, line_close (G.bss a (.slice xo (q0.length + 1) xc) v1) rfl⟩
              case measure => simp [intOf] <;> omega
          · as_aux_lemma =>
            have HE := Lib.hid e
            clear e
            obtain ⟨v0, v1, G⟩ := line_open G
            have o0 := (G.rd v0 _ G).one
            have o1 := (G.rd v1 _ G).one
            simp only [lineCs] at G
            go_wp2_with (first
              | ((with_reducible refine at_alloc ?_); refine wpu_new G ?_; clear G; intro w G)
              | ((with_reducible refine at_drew ?_); refine wpu_drew G ?_; clear G; intro w G)
              | ((with_reducible refine at_load ?_); first
                | (refine wpu_load G rfl rfl rfl rfl ?_; go_frame)
                | (refine wpu_loadB G rfl rfl rfl (by rfl) ?_; go_frame)
                | (refine wpu_loadS G rfl rfl rfl (by rfl) ?_; simp only [List.drop_succ_cons, List.drop_zero, List.take_succ_cons, List.take_zero]; go_frame))
              | ((with_reducible refine at_store ?_); first
                | (refine wpu_store G rfl rfl rfl rfl (by first | rfl | assumption | simp [*]) rfl ?_; clear G; intro w G; go_frame)
                | (refine wpu_storeB G rfl rfl rfl rfl (by rfl) (by rfl) (by first | rfl | assumption | simp [*]) ?_; clear G; intro w G; go_frame)
                | (refine wpu_storeS G rfl rfl rfl rfl (by rfl) (by rfl) (by first | rfl | assumption | simp [*]) ?_; clear G; intro w G; go_frame))
              | ((with_reducible refine at_convert ?_); refine wpu_str G rfl rfl rfl rfl ?_; go_frame)
              | ((with_reducible refine at_slice ?_); first
                | (refine wpu_sliceLo rfl rfl rfl rfl (by first | rfl | omega) (by omega) (by omega) ?_; go_frame)
                | (refine wpu_sliceLH rfl rfl rfl rfl rfl (by first | rfl | omega) (by first | rfl | omega) (by omega) (by omega) ?_; go_frame))
              | ((with_reducible refine at_load ?_); refine wpu_loadF (HR.out.old G) HX.out rfl rfl rfl rfl ?_; go_frame)
              | ((with_reducible refine at_load ?_); refine wpu_loadF0 (HR.out.old G) HX.out rfl rfl rfl rfl ?_; go_frame)
              | fail)
            refine wp_region_mix (List.replicate 16 0 ++ [1, 3, 3, 3, 3, 3, 3, 3]) (Own w0 _) (by kernel_rfl) (by kernel_rfl) (own_drew G) ?_
            refine mix_calm 16 ((own_drew G)) (by rfl) (by rfl) ?_
            intro ι W hne hW
            dsimp only [List.take, List.drop]
            repeat (first | ((with_reducible refine atq_load ?_); first | (refine wpq_load hW rfl rfl rfl rfl ?_; go_frame) | (refine wpq_loadB hW rfl rfl rfl (by rfl) ?_; go_frame) | (refine wpq_loadS hW rfl rfl rfl (by rfl) ?_; simp only [List.drop_succ_cons, List.drop_zero, List.take_succ_cons, List.take_zero]; go_frame)) | ((with_reducible refine atq_load ?_); refine wpq_loadF (fun i => HR.out.old (hW i)) HX.out rfl rfl rfl rfl ?_; go_frame) | go_big_quiet_step (fail))
            refine wpQuiet_nil ?_
            clear  hW hne W ι
            refine mix_loud rfl (fun K hK => ?_)
            go_wp2_with fail
            refine Calls.mono (stepE (own_drew G) (by omega) (by omega) b1 b2 HE.out) ?_
            rintro e' w2 ⟨rfl, G2⟩
            refine hK _ _ ⟨G2, ?_⟩
            clear hK
            clear G
            have G := G2
            clear G2
            try go_frame
            refine mix_plain 7 (by rfl) (by rfl) ?_
            intro ι W hne
            dsimp only [List.take, List.drop]
            repeat (go_big_quiet_step (fail))
            refine wpQuiet_nil ?_
            clear hne W ι
            refine mix_nil ?_
            go_wp2_with (first
              | ((with_reducible refine at_alloc ?_); refine wpu_new G ?_; clear G; intro w G)
              | ((with_reducible refine at_drew ?_); refine wpu_drew G ?_; clear G; intro w G)
              | ((with_reducible refine at_load ?_); first
                | (refine wpu_load G rfl rfl rfl rfl ?_; go_frame)
                | (refine wpu_loadB G rfl rfl rfl (by rfl) ?_; go_frame)
                | (refine wpu_loadS G rfl rfl rfl (by rfl) ?_; simp only [List.drop_succ_cons, List.drop_zero, List.take_succ_cons, List.take_zero]; go_frame))
              | ((with_reducible refine at_store ?_); first
                | (refine wpu_store G rfl rfl rfl rfl (by first | rfl | assumption | simp [*]) rfl ?_; clear G; intro w G; go_frame)
                | (refine wpu_storeB G rfl rfl rfl rfl (by rfl) (by rfl) (by first | rfl | assumption | simp [*]) ?_; clear G; intro w G; go_frame)
                | (refine wpu_storeS G rfl rfl rfl rfl (by rfl) (by rfl) (by first | rfl | assumption | simp [*]) ?_; clear G; intro w G; go_frame))
              | ((with_reducible refine at_convert ?_); refine wpu_str G rfl rfl rfl rfl ?_; go_frame)
              | ((with_reducible refine at_slice ?_); first
                | (refine wpu_sliceLo rfl rfl rfl rfl (by first | rfl | omega) (by omega) (by omega) ?_; go_frame)
                | (refine wpu_sliceLH rfl rfl rfl rfl rfl (by first | rfl | omega) (by first | rfl | omega) (by omega) (by omega) ?_; go_frame))
              | ((with_reducible refine at_load ?_); refine wpu_loadF (HR.out.old G) HX.out rfl rfl rfl rfl ?_; go_frame)
              | ((with_reducible refine at_load ?_); refine wpu_loadF0 (HR.out.old G) HX.out rfl rfl rfl rfl ?_; go_frame)
              | fail)
            go_roundw
            case rel => exact ⟨k + 1, _, _, _, _, _, by omega, by omega, by go_num, rfl, hI, by first | omega | (simp <;> omega), line_close (G.bss a v0 v1) rfl⟩
            case measure => simp [intOf] <;> omega
        · cases q1 with
          | nil =>
            as_aux_lemma =>
            go_wp2_with (first
              | ((with_reducible refine at_alloc ?_); refine wpu_new G ?_; clear G; intro w G)
              | ((with_reducible refine at_drew ?_); refine wpu_drew G ?_; clear G; intro w G)
              | ((with_reducible refine at_load ?_); first
                | (refine wpu_load G rfl rfl rfl rfl ?_; go_frame)
                | (refine wpu_loadB G rfl rfl rfl (by rfl) ?_; go_frame)
                | (refine wpu_loadS G rfl rfl rfl (by rfl) ?_; simp only [List.drop_succ_cons, List.drop_zero, List.take_succ_cons, List.take_zero]; go_frame))
              | ((with_reducible refine at_store ?_); first
                | (refine wpu_store G rfl rfl rfl rfl (by first | rfl | assumption | simp [*]) rfl ?_; clear G; intro w G; go_frame)
                | (refine wpu_storeB G rfl rfl rfl rfl (by rfl) (by rfl) (by first | rfl | assumption | simp [*]) ?_; clear G; intro w G; go_frame)
                | (refine wpu_storeS G rfl rfl rfl rfl (by rfl) (by rfl) (by first | rfl | assumption | simp [*]) ?_; clear G; intro w G; go_frame))
              | ((with_reducible refine at_convert ?_); refine wpu_str G rfl rfl rfl rfl ?_; go_frame)
              | ((with_reducible refine at_slice ?_); first
                | (refine wpu_sliceLo rfl rfl rfl rfl (by first | rfl | omega) (by omega) (by omega) ?_; go_frame)
                | (refine wpu_sliceLH rfl rfl rfl rfl rfl (by first | rfl | omega) (by first | rfl | omega) (by omega) (by omega) ?_; go_frame))
              | ((with_reducible refine at_load ?_); refine wpu_loadF (HR.out.old G) HX.out rfl rfl rfl rfl ?_; go_frame)
              | ((with_reducible refine at_load ?_); refine wpu_loadF0 (HR.out.old G) HX.out rfl rfl rfl rfl ?_; go_frame)
              | fail)
            refine Calls.mono (get1E G) ?_
            clear G; rintro e w ⟨rfl, G⟩
            go_wp2_with (first
              | ((with_reducible refine at_alloc ?_); refine wpu_new G ?_; clear G; intro w G)
              | ((with_reducible refine at_drew ?_); refine wpu_drew G ?_; clear G; intro w G)
              | ((with_reducible refine at_load ?_); first
                | (refine wpu_load G rfl rfl rfl rfl ?_; go_frame)
                | (refine wpu_loadB G rfl rfl rfl (by rfl) ?_; go_frame)
                | (refine wpu_loadS G rfl rfl rfl (by rfl) ?_; simp only [List.drop_succ_cons, List.drop_zero, List.take_succ_cons, List.take_zero]; go_frame))
              | ((with_reducible refine at_store ?_); first
                | (refine wpu_store G rfl rfl rfl rfl (by first | rfl | assumption | simp [*]) rfl ?_; clear G; intro w G; go_frame)
                | (refine wpu_storeB G rfl rfl rfl rfl (by rfl) (by rfl) (by first | rfl | assumption | simp [*]) ?_; clear G; intro w G; go_frame)
                | (refine wpu_storeS G rfl rfl rfl rfl (by rfl) (by rfl) (by first | rfl | assumption | simp [*]) ?_; clear G; intro w G; go_frame))
              | ((with_reducible refine at_convert ?_); refine wpu_str G rfl rfl rfl rfl ?_; go_frame)
              | ((with_reducible refine at_slice ?_); first
                | (refine wpu_sliceLo rfl rfl rfl rfl (by first | rfl | omega) (by omega) (by omega) ?_; go_frame)
                | (refine wpu_sliceLH rfl rfl rfl rfl rfl (by first | rfl | omega) (by first | rfl | omega) (by omega) (by omega) ?_; go_frame))
              | ((with_reducible refine at_load ?_); refine wpu_loadF (HR.out.old G) HX.out rfl rfl rfl rfl ?_; go_frame)
              | ((with_reducible refine at_load ?_); refine wpu_loadF0 (HR.out.old G) HX.out rfl rfl rfl rfl ?_; go_frame)
              | fail)
            go_roundw
            case rel => exact ⟨k + 1, _, _, _, _, _, by omega, by omega, by go_num, rfl, hI, by first | omega | (simp <;> omega), G⟩
            case measure => simp [intOf] <;> omega
          | cons f q =>
            as_aux_lemma =>
            obtain ⟨k', e'⟩ := f
            obtain ⟨s', d, c, he, hd, hI', k1, k2⟩ := hI.flip.get
            have hI := hI'.flip
            have HE := Lib.hid he
            clear he
            simp only [List.length_cons] at hlen
            go_wp2_with (first
              | ((with_reducible refine at_alloc ?_); refine wpu_new G ?_; clear G; intro w G)
              | ((with_reducible refine at_drew ?_); refine wpu_drew G ?_; clear G; intro w G)
              | ((with_reducible refine at_load ?_); first
                | (refine wpu_load G rfl rfl rfl rfl ?_; go_frame)
                | (refine wpu_loadB G rfl rfl rfl (by rfl) ?_; go_frame)
                | (refine wpu_loadS G rfl rfl rfl (by rfl) ?_; simp only [List.drop_succ_cons, List.drop_zero, List.take_succ_cons, List.take_zero]; go_frame))
              | ((with_reducible refine at_store ?_); first
                | (refine wpu_store G rfl rfl rfl rfl (by first | rfl | assumption | simp [*]) rfl ?_; clear G; intro w G; go_frame)
                | (refine wpu_storeB G rfl rfl rfl rfl (by rfl) (by rfl) (by first | rfl | assumption | simp [*]) ?_; clear G; intro w G; go_frame)
                | (refine wpu_storeS G rfl rfl rfl rfl (by rfl) (by rfl) (by first | rfl | assumption | simp [*]) ?_; clear G; intro w G; go_frame))
              | ((with_reducible refine at_convert ?_); refine wpu_str G rfl rfl rfl rfl ?_; go_frame)
              | ((with_reducible refine at_slice ?_); first
                | (refine wpu_sliceLo rfl rfl rfl rfl (by first | rfl | omega) (by omega) (by omega) ?_; go_frame)
                | (refine wpu_sliceLH rfl rfl rfl rfl rfl (by first | rfl | omega) (by first | rfl | omega) (by omega) (by omega) ?_; go_frame))
              | ((with_reducible refine at_load ?_); refine wpu_loadF (HR.out.old G) HX.out rfl rfl rfl rfl ?_; go_frame)
              | ((with_reducible refine at_load ?_); refine wpu_loadF0 (HR.out.old G) HX.out rfl rfl rfl rfl ?_; go_frame)
              | fail)
            refine Calls.mono (get1 G r3 r4 k1 k2 HE.out hd) ?_
            clear G; rintro e w ⟨rfl, G⟩
            go_wp2_with (first
              | ((with_reducible refine at_alloc ?_); refine wpu_new G ?_; clear G; intro w G)
              | ((with_reducible refine at_drew ?_); refine wpu_drew G ?_; clear G; intro w G)
              | ((with_reducible refine at_load ?_); first
                | (refine wpu_load G rfl rfl rfl rfl ?_; go_frame)
                | (refine wpu_loadB G rfl rfl rfl (by rfl) ?_; go_frame)
                | (refine wpu_loadS G rfl rfl rfl (by rfl) ?_; simp only [List.drop_succ_cons, List.drop_zero, List.take_succ_cons, List.take_zero]; go_frame))
              | ((with_reducible refine at_store ?_); first
                | (refine wpu_store G rfl rfl rfl rfl (by first | rfl | assumption | simp [*]) rfl ?_; clear G; intro w G; go_frame)
                | (refine wpu_storeB G rfl rfl rfl rfl (by rfl) (by rfl) (by first | rfl | assumption | simp [*]) ?_; clear G; intro w G; go_frame)
                | (refine wpu_storeS G rfl rfl rfl rfl (by rfl) (by rfl) (by first | rfl | assumption | simp [*]) ?_; clear G; intro w G; go_frame))
              | ((with_reducible refine at_convert ?_); refine wpu_str G rfl rfl rfl rfl ?_; go_frame)
              | ((with_reducible refine at_slice ?_); first
                | (refine wpu_sliceLo rfl rfl rfl rfl (by first | rfl | omega) (by omega) (by omega) ?_; go_frame)
                | (refine wpu_sliceLH rfl rfl rfl rfl rfl (by first | rfl | omega) (by first | rfl | omega) (by omega) (by omega) ?_; go_frame))
              | ((with_reducible refine at_load ?_); refine wpu_loadF (HR.out.old G) HX.out rfl rfl rfl rfl ?_; go_frame)
              | ((with_reducible refine at_load ?_); refine wpu_loadF0 (HR.out.old G) HX.out rfl rfl rfl rfl ?_; go_frame)
              | fail)
            go_roundw
            case rel => exact ⟨k + 1, _, _, _, _, _, by omega, by omega, by go_num, rfl, hI, by first | omega | (simp <;> omega), G⟩
            case measure => simp [intOf] <;> omega
      · cases co
        · rcases hI.send (k := kd) (e := en) b1 b2 with ⟨s', c, e, hI'⟩ | e
          · as_aux_lemma =>
            have HE := Lib.hid e
            clear e hI
            obtain ⟨v0, v1, G⟩ := line_open G
            have o0 := (G.rd v0 _ G).one
            have o1 := (G.rd v1 _ G).one
            simp only [lineCs] at G
            go_wp2_with (first
              | ((with_reducible refine at_alloc ?_); refine wpu_new G ?_; clear G; intro w G)
              | ((with_reducible refine at_drew ?_); refine wpu_drew G ?_; clear G; intro w G)
              | ((with_reducible refine at_load ?_); first
                | (refine wpu_load G rfl rfl rfl rfl ?_; go_frame)
                | (refine wpu_loadB G rfl rfl rfl (by rfl) ?_; go_frame)
                | (refine wpu_loadS G rfl rfl rfl (by rfl) ?_; simp only [List.drop_succ_cons, List.drop_zero, List.take_succ_cons, List.take_zero]; go_frame))
              | ((with_reducible refine at_store ?_); first
                | (refine wpu_store G rfl rfl rfl rfl (by first | rfl | assumption | simp [*]) rfl ?_; clear G; intro w G; go_frame)
                | (refine wpu_storeB G rfl rfl rfl rfl (by rfl) (by rfl) (by first | rfl | assumption | simp [*]) ?_; clear G; intro w G; go_frame)
                | (refine wpu_storeS G rfl rfl rfl rfl (by rfl) (by rfl) (by first | rfl | assumption | simp [*]) ?_; clear G; intro w G; go_frame))
              | ((with_reducible refine at_convert ?_); refine wpu_str G rfl rfl rfl rfl ?_; go_frame)
              | ((with_reducible refine at_slice ?_); first
                | (refine wpu_sliceLo rfl rfl rfl rfl (by first | rfl | omega) (by omega) (by omega) ?_; go_frame)
                | (refine wpu_sliceLH rfl rfl rfl rfl rfl (by first | rfl | omega) (by first | rfl | omega) (by omega) (by omega) ?_; go_frame))
              | ((with_reducible refine at_load ?_); refine wpu_loadF (HR.out.old G) HX.out rfl rfl rfl rfl ?_; go_frame)
              | ((with_reducible refine at_load ?_); refine wpu_loadF0 (HR.out.old G) HX.out rfl rfl rfl rfl ?_; go_frame)
              | fail)
            refine wp_region_mix (List.replicate 16 0 ++ [1, 3, 3, 3, 3, 3, 3, 3]) (Own w0 _) (by kernel_rfl) (by kernel_rfl) (own_drew G) ?_
            refine mix_calm 16 ((own_drew G)) (by rfl) (by rfl) ?_
            intro ι W hne hW
            dsimp only [List.take, List.drop]
            repeat (first | ((with_reducible refine atq_load ?_); first | (refine wpq_load hW rfl rfl rfl rfl ?_; go_frame) | (refine wpq_loadB hW rfl rfl rfl (by rfl) ?_; go_frame) | (refine wpq_loadS hW rfl rfl rfl (by rfl) ?_; simp only [List.drop_succ_cons, List.drop_zero, List.take_succ_cons, List.take_zero]; go_frame)) | ((with_reducible refine atq_load ?_); refine wpq_loadF (fun i => HR.out.old (hW i)) HX.out rfl rfl rfl rfl ?_; go_frame) | go_big_quiet_step (fail))
            refine wpQuiet_nil ?_
            clear  hW hne W ι
            refine mix_loud rfl (fun K hK => ?_)
            go_wp2_with fail
            refine Calls.mono (stepE (own_drew G) (by omega) (by omega) b1 b2 HE.out) ?_
            rintro e' w2 ⟨rfl, G2⟩
            refine hK _ _ ⟨G2, ?_⟩
            clear hK
            clear G
            have G := G2
            clear G2
            try go_frame
            refine mix_plain 7 (by rfl) (by rfl) ?_
            intro ι W hne
            dsimp only [List.take, List.drop]
            repeat (go_big_quiet_step (fail))
            refine wpQuiet_nil ?_
            clear hne W ι
            refine mix_nil ?_
            go_wp2_with (first
              | ((with_reducible refine at_alloc ?_); refine wpu_new G ?_; clear G; intro w G)
              | ((with_reducible refine at_drew ?_); refine wpu_drew G ?_; clear G; intro w G)
              | ((with_reducible refine at_load ?_); first
                | (refine wpu_load G rfl rfl rfl rfl ?_; go_frame)
                | (refine wpu_loadB G rfl rfl rfl (by rfl) ?_; go_frame)
                | (refine wpu_loadS G rfl rfl rfl (by rfl) ?_; simp only [List.drop_succ_cons, List.drop_zero, List.take_succ_cons, List.take_zero]; go_frame))
              | ((with_reducible refine at_store ?_); first
                | (refine wpu_store G rfl rfl rfl rfl (by first | rfl | assumption | simp [*]) rfl ?_; clear G; intro w G; go_frame)
                | (refine wpu_storeB G rfl rfl rfl rfl (by rfl) (by rfl) (by first | rfl | assumption | simp [*]) ?_; clear G; intro w G; go_frame)
                | (refine wpu_storeS G rfl rfl rfl rfl (by rfl) (by rfl) (by first | rfl | assumption | simp [*]) ?_; clear G; intro w G; go_frame))
              | ((with_reducible refine at_convert ?_); refine wpu_str G rfl rfl rfl rfl ?_; go_frame)
              | ((with_reducible refine at_slice ?_); first
                | (refine wpu_sliceLo rfl rfl rfl rfl (by first | rfl | omega) (by omega) (by omega) ?_; go_frame)
                | (refine wpu_sliceLH rfl rfl rfl rfl rfl (by first | rfl | omega) (by first | rfl | omega) (by omega) (by omega) ?_; go_frame))
              | ((with_reducible refine at_load ?_); refine wpu_loadF (HR.out.old G) HX.out rfl rfl rfl rfl ?_; go_frame)
              | ((with_reducible refine at_load ?_); refine wpu_loadF0 (HR.out.old G) HX.out rfl rfl rfl rfl ?_; go_frame)
              | fail)
            all_goals
              have hI := hI'
              clear hI'
            · have hrs : rs = true := by assumption
              subst hrs
              have GC := own_drew (G.only1 a)
              refine wp_region_mix (List.replicate 21 0 ++ [1, 1, 3, 3, 3, 2]) (Own w0 (blk a _)) (by kernel_rfl) (by kernel_rfl) GC ?_
              refine mix_calm 21 (GC) (by rfl) (by rfl) ?_
              intro ι W hne hW
              dsimp only [List.take, List.drop]
              repeat (first | ((with_reducible refine atq_load ?_); first | (refine wpq_load hW rfl rfl rfl rfl ?_; go_frame) | (refine wpq_loadB hW rfl rfl rfl (by rfl) ?_; go_frame) | (refine wpq_loadS hW rfl rfl rfl (by rfl) ?_; simp only [List.drop_succ_cons, List.drop_zero, List.take_succ_cons, List.take_zero]; go_frame)) | (first | ((with_reducible refine atq_load ?_); refine wpq_loadF (fun i => HR.out.old (hW i)) HX.out rfl rfl rfl rfl ?_; go_frame)) | go_big_quiet_step (fail))
              refine wpQuiet_nil ?_
              clear  hW hne W ι
              have GN : Own w0 (blk w.heap.size [.int .i64 kd, .bool en] * _) _ := own_new (own_drew G) [.int .i64 kd, .bool en] 39
              refine mix_loud rfl (fun K hK => ?_)
              go_wp2_with fail
              refine ⟨GN.only1 a, ?_⟩
              clear GC
              try go_frame
              refine mix_loud rfl (fun K hK => ?_)
              refine wpk_append1 GN rfl rfl rfl (by rfl) (by rfl) (by unfold maxLen; omega) (by omega) fun v' w G => ?_
              obtain ⟨xo, xc, rfl, i3, i4⟩ := G.hdr v'
              refine hK _ _ ⟨G.only1 a, ?_⟩
              clear hK GN
              try go_frame
              refine mix_plain 3 (by rfl) (by rfl) ?_
              intro ι W hne
              dsimp only [List.take, List.drop]
              repeat (go_big_quiet_step (fail))
              refine wpQuiet_nil ?_
              clear hne W ι
              refine mix_last rfl (fun K hK => ?_)
              refine wpk_store G rfl rfl rfl rfl rfl fun w G => hK _ _ (mix_nil ?_)
              clear hK
              try go_frame
              go_wp2_with (first
                | ((with_reducible refine at_alloc ?_); refine wpu_new G ?_; clear G; intro w G)
                | ((with_reducible refine at_drew ?_); refine wpu_drew G ?_; clear G; intro w G)
                | ((with_reducible refine at_load ?_); first
                  | (refine wpu_load G rfl rfl rfl rfl ?_; go_frame)
                  | (refine wpu_loadB G rfl rfl rfl (by rfl) ?_; go_frame)
                  | (refine wpu_loadS G rfl rfl rfl (by rfl) ?_; simp only [List.drop_succ_cons, List.drop_zero, List.take_succ_cons, List.take_zero]; go_frame))
                | ((with_reducible refine at_store ?_); first
                  | (refine wpu_store G rfl rfl rfl rfl (by first | rfl | assumption | simp [*]) rfl ?_; clear G; intro w G; go_frame)
                  | (refine wpu_storeB G rfl rfl rfl rfl (by rfl) (by rfl) (by first | rfl | assumption | simp [*]) ?_; clear G; intro w G; go_frame)
                  | (refine wpu_storeS G rfl rfl rfl rfl (by rfl) (by rfl) (by first | rfl | assumption | simp [*]) ?_; clear G; intro w G; go_frame))
                | ((with_reducible refine at_convert ?_); refine wpu_str G rfl rfl rfl rfl ?_; go_frame)
                | ((with_reducible refine at_slice ?_); first
                  | (refine wpu_sliceLo rfl rfl rfl rfl (by first | rfl | omega) (by omega) (by omega) ?_; go_frame)
                  | (refine wpu_sliceLH rfl rfl rfl rfl rfl (by first | rfl | omega) (by first | rfl | omega) (by omega) (by omega) ?_; go_frame))
                | ((with_reducible refine at_load ?_); refine wpu_loadF (HR.out.old G) HX.out rfl rfl rfl rfl ?_; go_frame)
                | ((with_reducible refine at_load ?_); refine wpu_loadF0 (HR.out.old G) HX.out rfl rfl rfl rfl ?_; go_frame)
                | fail)
              obtain ⟨q', hq'⟩ : ∃ q', q' = q1 ++ [(kd, en)] := ⟨_, rfl⟩
              have e3 : q'.length = (q1).length + 1 := by rw [hq']; simp
              have e4 : frs q1 ++ [.int .i64 kd, .bool en] = frs q' := by rw [hq']; exact frs_app q1 [(kd, en)]
              rw [← hq'] at hI
              have G1 := G.eq (show _ = sl 2 (.slice xo ((q1).length + 1) xc) q'.length (frs q') * _ by rw [e3, ← e4])
              clear hq' e4 G
              have G := G1
              clear G1
              go_roundw
              case rel => exact ⟨k + 1, _, _, _, _, _, by omega, by omega, by go_num, rfl, hI, by omega, line_close (G.bss a v0 (.slice xo (q1.length + 1) xc)) rfl⟩
              case measure => simp [intOf] <;> omega
            · have hrs : rs = false := by simpa using ‹¬ rs = true›
              subst hrs
              have GC := own_drew (G.only1 a)
              refine wp_region_mix (List.replicate 21 0 ++ [1, 1, 3, 3, 3, 2]) (Own w0 (blk a _)) (by kernel_rfl) (by kernel_rfl) GC ?_
              refine mix_calm 21 (GC) (by rfl) (by rfl) ?_
              intro ι W hne hW
              dsimp only [List.take, List.drop]
              repeat (first | ((with_reducible refine atq_load ?_); first | (refine wpq_load hW rfl rfl rfl rfl ?_; go_frame) | (refine wpq_loadB hW rfl rfl rfl (by rfl) ?_; go_frame) | (refine wpq_loadS hW rfl rfl rfl (by rfl) ?_; simp only [List.drop_succ_cons, List.drop_zero, List.take_succ_cons, List.take_zero]; go_frame)) | (first | ((with_reducible refine atq_load ?_); refine wpq_loadF (fun i => HR.out.old (hW i)) HX.out rfl rfl rfl rfl ?_; go_frame)) | go_big_quiet_step (fail))
              refine wpQuiet_nil ?_
              clear  hW hne W ι
              have GN : Own w0 (blk w.heap.size [.int .i64 kd, .bool en] * _) _ := own_new (own_drew G) [.int .i64 kd, .bool en] 39
              refine mix_loud rfl (fun K hK => ?_)
              go_wp2_with fail
              refine ⟨GN.only1 a, ?_⟩
              clear GC
              try go_frame
              refine mix_loud rfl (fun K hK => ?_)
              refine wpk_append1 GN rfl rfl rfl (by rfl) (by rfl) (by unfold maxLen; omega) (by omega) fun v' w G => ?_
              obtain ⟨xo, xc, rfl, i3, i4⟩ := G.hdr v'
              refine hK _ _ ⟨G.only1 a, ?_⟩
              clear hK GN
              try go_frame
              refine mix_plain 3 (by rfl) (by rfl) ?_
              intro ι W hne
              dsimp only [List.take, List.drop]
              repeat (go_big_quiet_step (fail))
              refine wpQuiet_nil ?_
              clear hne W ι
              refine mix_last rfl (fun K hK => ?_)
              refine wpk_store G rfl rfl rfl rfl rfl fun w G => hK _ _ (mix_nil ?_)
              clear hK
              try go_frame
              go_wp2_with (first
                | ((with_reducible refine at_alloc ?_); refine wpu_new G ?_; clear G; intro w G)
                | ((with_reducible refine at_drew ?_); refine wpu_drew G ?_; clear G; intro w G)
                | ((with_reducible refine at_load ?_); first
                  | (refine wpu_load G rfl rfl rfl rfl ?_; go_frame)
                  | (refine wpu_loadB G rfl rfl rfl (by rfl) ?_; go_frame)
                  | (refine wpu_loadS G rfl rfl rfl (by rfl) ?_; simp only [List.drop_succ_cons, List.drop_zero, List.take_succ_cons, List.take_zero]; go_frame))
                | ((with_reducible refine at_store ?_); first
                  | (refine wpu_store G rfl rfl rfl rfl (by first | rfl | assumption | simp [*]) rfl ?_; clear G; intro w G; go_frame)
                  | (refine wpu_storeB G rfl rfl rfl rfl (by rfl) (by rfl) (by first | rfl | assumption | simp [*]) ?_; clear G; intro w G; go_frame)
                  | (refine wpu_storeS G rfl rfl rfl rfl (by rfl) (by rfl) (by first | rfl | assumption | simp [*]) ?_; clear G; intro w G; go_frame))
                | ((with_reducible refine at_convert ?_); refine wpu_str G rfl rfl rfl rfl ?_; go_frame)
                | ((with_reducible refine at_slice ?_); first
                  | (refine wpu_sliceLo rfl rfl rfl rfl (by first | rfl | omega) (by omega) (by omega) ?_; go_frame)
                  | (refine wpu_sliceLH rfl rfl rfl rfl rfl (by first | rfl | omega) (by first | rfl | omega) (by omega) (by omega) ?_; go_frame))
                | ((with_reducible refine at_load ?_); refine wpu_loadF (HR.out.old G) HX.out rfl rfl rfl rfl ?_; go_frame)
                | ((with_reducible refine at_load ?_); refine wpu_loadF0 (HR.out.old G) HX.out rfl rfl rfl rfl ?_; go_frame)
                | fail)
              obtain ⟨q', hq'⟩ : ∃ q', q' = q1 ++ [(kd, en)] := ⟨_, rfl⟩
              have e3 : q'.length = (q1).length + 1 := by rw [hq']; simp
              have e4 : frs q1 ++ [.int .i64 kd, .bool en] = frs q' := by rw [hq']; exact frs_app q1 [(kd, en)]
              rw [← hq'] at hI
              have G1 := G.eq (show _ = sl 2 (.slice xo ((q1).length + 1) xc) q'.length (frs q') * _ by rw [e3, ← e4])
              clear hq' e4 G
              have G := G1
              clear G1
              go_roundw
              case rel => exact ⟨k + 1, _, _, _, _, _, by omega, by omega, by go_num, rfl, hI, by omega, line_close (G.bss a v0 (.slice xo (q1.length + 1) xc)) rfl⟩
              case measure => simp [intOf] <;> omega
          · as_aux_lemma =>
            have HE := Lib.hid e
            clear e
            obtain ⟨v0, v1, G⟩ := line_open G
            have o0 := (G.rd v0 _ G).one
            have o1 := (G.rd v1 _ G).one
            simp only [lineCs] at G
            go_wp2_with (first
              | ((with_reducible refine at_alloc ?_); refine wpu_new G ?_; clear G; intro w G)
              | ((with_reducible refine at_drew ?_); refine wpu_drew G ?_; clear G; intro w G)
              | ((with_reducible refine at_load ?_); first
                | (refine wpu_load G rfl rfl rfl rfl ?_; go_frame)
                | (refine wpu_loadB G rfl rfl rfl (by rfl) ?_; go_frame)
                | (refine wpu_loadS G rfl rfl rfl (by rfl) ?_; simp only [List.drop_succ_cons, List.drop_zero, List.take_succ_cons, List.take_zero]; go_frame))
              | ((with_reducible refine at_store ?_); first
                | (refine wpu_store G rfl rfl rfl rfl (by first | rfl | assumption | simp [*]) rfl ?_; clear G; intro w G; go_frame)
                | (refine wpu_storeB G rfl rfl rfl rfl (by rfl) (by rfl) (by first | rfl | assumption | simp [*]) ?_; clear G; intro w G; go_frame)
                | (refine wpu_storeS G rfl rfl rfl rfl (by rfl) (by rfl) (by first | rfl | assumption | simp [*]) ?_; clear G; intro w G; go_frame))
              | ((with_reducible refine at_convert ?_); refine wpu_str G rfl rfl rfl rfl ?_; go_frame)
              | ((with_reducible refine at_slice ?_); first
                | (refine wpu_sliceLo rfl rfl rfl rfl (by first | rfl | omega) (by omega) (by omega) ?_; go_frame)
                | (refine wpu_sliceLH rfl rfl rfl rfl rfl (by first | rfl | omega) (by first | rfl | omega) (by omega) (by omega) ?_; go_frame))
              | ((with_reducible refine at_load ?_); refine wpu_loadF (HR.out.old G) HX.out rfl rfl rfl rfl ?_; go_frame)
              | ((with_reducible refine at_load ?_); refine wpu_loadF0 (HR.out.old G) HX.out rfl rfl rfl rfl ?_; go_frame)
              | fail)
            refine wp_region_mix (List.replicate 16 0 ++ [1, 3, 3, 3, 3, 3, 3, 3]) (Own w0 _) (by kernel_rfl) (by kernel_rfl) (own_drew G) ?_
            refine mix_calm 16 ((own_drew G)) (by rfl) (by rfl) ?_
            intro ι W hne hW
            dsimp only [List.take, List.drop]
            repeat (first | ((with_reducible refine atq_load ?_); first | (refine wpq_load hW rfl rfl rfl rfl ?_; go_frame) | (refine wpq_loadB hW rfl rfl rfl (by rfl) ?_; go_frame) | (refine wpq_loadS hW rfl rfl rfl (by rfl) ?_; simp only [List.drop_succ_cons, List.drop_zero, List.take_succ_cons, List.take_zero]; go_frame)) | ((with_reducible refine atq_load ?_); refine wpq_loadF (fun i => HR.out.old (hW i)) HX.out rfl rfl rfl rfl ?_; go_frame) | go_big_quiet_step (fail))
            refine wpQuiet_nil ?_
            clear  hW hne W ι
            refine mix_loud rfl (fun K hK => ?_)
            go_wp2_with fail
            refine Calls.mono (stepE (own_drew G) (by omega) (by omega) b1 b2 HE.out) ?_
            rintro e' w2 ⟨rfl, G2⟩
            refine hK _ _ ⟨G2, ?_⟩
            clear hK
            clear G
            have G := G2
            clear G2
            try go_frame
            refine mix_plain 7 (by rfl) (by rfl) ?_
            intro ι W hne
            dsimp only [List.take, List.drop]
            repeat (go_big_quiet_step (fail))
            refine wpQuiet_nil ?_
            clear hne W ι
            refine mix_nil ?_
            go_wp2_with (first
              | ((with_reducible refine at_alloc ?_); refine wpu_new G ?_; clear G; intro w G)
              | ((with_reducible refine at_drew ?_); refine wpu_drew G ?_; clear G; intro w G)
              | ((with_reducible refine at_load ?_); first
                | (refine wpu_load G rfl rfl rfl rfl ?_; go_frame)
                | (refine wpu_loadB G rfl rfl rfl (by rfl) ?_; go_frame)
                | (refine wpu_loadS G rfl rfl rfl (by rfl) ?_; simp only [List.drop_succ_cons, List.drop_zero, List.take_succ_cons, List.take_zero]; go_frame))
              | ((with_reducible refine at_store ?_); first
                | (refine wpu_store G rfl rfl rfl rfl (by first | rfl | assumption | simp [*]) rfl ?_; clear G; intro w G; go_frame)
                | (refine wpu_storeB G rfl rfl rfl rfl (by rfl) (by rfl) (by first | rfl | assumption | simp [*]) ?_; clear G; intro w G; go_frame)
                | (refine wpu_storeS G rfl rfl rfl rfl (by rfl) (by rfl) (by first | rfl | assumption | simp [*]) ?_; clear G; intro w G; go_frame))
              | ((with_reducible refine at_convert ?_); refine wpu_str G rfl rfl rfl rfl ?_; go_frame)
              | ((with_reducible refine at_slice ?_); first
                | (refine wpu_sliceLo rfl rfl rfl rfl (by first | rfl | omega) (by omega) (by omega) ?_; go_frame)
                | (refine wpu_sliceLH rfl rfl rfl rfl rfl (by first | rfl | omega) (by first | rfl | omega) (by omega) (by omega) ?_; go_frame))
              | ((with_reducible refine at_load ?_); refine wpu_loadF (HR.out.old G) HX.out rfl rfl rfl rfl ?_; go_frame)
              | ((with_reducible refine at_load ?_); refine wpu_loadF0 (HR.out.old G) HX.out rfl rfl rfl rfl ?_; go_frame)
              | fail)
            go_roundw
            case rel => exact ⟨k + 1, _, _, _, _, _, by omega, by omega, by go_num, rfl, hI, by first | omega | (simp <;> omega), line_close (G.bss a v0 v1) rfl⟩
            case measure => simp [intOf] <;> omega
        · cases q0 with
          | nil =>
            as_aux_lemma =>
            go_wp2_with (first
              | ((with_reducible refine at_alloc ?_); refine wpu_new G ?_; clear G; intro w G)
              | ((with_reducible refine at_drew ?_); refine wpu_drew G ?_; clear G; intro w G)
              | ((with_reducible refine at_load ?_); first
                | (refine wpu_load G rfl rfl rfl rfl ?_; go_frame)
                | (refine wpu_loadB G rfl rfl rfl (by rfl) ?_; go_frame)
                | (refine wpu_loadS G rfl rfl rfl (by rfl) ?_; simp only [List.drop_succ_cons, List.drop_zero, List.take_succ_cons, List.take_zero]; go_frame))
              | ((with_reducible refine at_store ?_); first
                | (refine wpu_store G rfl rfl rfl rfl (by first | rfl | assumption | simp [*]) rfl ?_; clear G; intro w G; go_frame)
                | (refine wpu_storeB G rfl rfl rfl rfl (by rfl) (by rfl) (by first | rfl | assumption | simp [*]) ?_; clear G; intro w G; go_frame)
                | (refine wpu_storeS G rfl rfl rfl rfl (by rfl) (by rfl) (by first | rfl | assumption | simp [*]) ?_; clear G; intro w G; go_frame))
              | ((with_reducible refine at_convert ?_); refine wpu_str G rfl rfl rfl rfl ?_; go_frame)
              | ((with_reducible refine at_slice ?_); first
                | (refine wpu_sliceLo rfl rfl rfl rfl (by first | rfl | omega) (by omega) (by omega) ?_; go_frame)
                | (refine wpu_sliceLH rfl rfl rfl rfl rfl (by first | rfl | omega) (by first | rfl | omega) (by omega) (by omega) ?_; go_frame))
              | ((with_reducible refine at_load ?_); refine wpu_loadF (HR.out.old G) HX.out rfl rfl rfl rfl ?_; go_frame)
              | ((with_reducible refine at_load ?_); refine wpu_loadF0 (HR.out.old G) HX.out rfl rfl rfl rfl ?_; go_frame)
              | fail)
            refine Calls.mono (get0E G) ?_
            clear G; rintro e w ⟨rfl, G⟩
            go_wp2_with (first
              | ((with_reducible refine at_alloc ?_); refine wpu_new G ?_; clear G; intro w G)
              | ((with_reducible refine at_drew ?_); refine wpu_drew G ?_; clear G; intro w G)
              | ((with_reducible refine at_load ?_); first
                | (refine wpu_load G rfl rfl rfl rfl ?_; go_frame)
                | (refine wpu_loadB G rfl rfl rfl (by rfl) ?_; go_frame)
                | (refine wpu_loadS G rfl rfl rfl (by rfl) ?_; simp only [List.drop_succ_cons, List.drop_zero, List.take_succ_cons, List.take_zero]; go_frame))
              | ((with_reducible refine at_store ?_); first
                | (refine wpu_store G rfl rfl rfl rfl (by first | rfl | assumption | simp [*]) rfl ?_; clear G; intro w G; go_frame)
                | (refine wpu_storeB G rfl rfl rfl rfl (by rfl) (by rfl) (by first | rfl | assumption | simp [*]) ?_; clear G; intro w G; go_frame)
                | (refine wpu_storeS G rfl rfl rfl rfl (by rfl) (by rfl) (by first | rfl | assumption | simp [*]) ?_; clear G; intro w G; go_frame))
              | ((with_reducible refine at_convert ?_); refine wpu_str G rfl rfl rfl rfl ?_; go_frame)
              | ((with_reducible refine at_slice ?_); first
                | (refine wpu_sliceLo rfl rfl rfl rfl (by first | rfl | omega) (by omega) (by omega) ?_; go_frame)
                | (refine wpu_sliceLH rfl rfl rfl rfl rfl (by first | rfl | omega) (by first | rfl | omega) (by omega) (by omega) ?_; go_frame))
              | ((with_reducible refine at_load ?_); refine wpu_loadF (HR.out.old G) HX.out rfl rfl rfl rfl ?_; go_frame)
              | ((with_reducible refine at_load ?_); refine wpu_loadF0 (HR.out.old G) HX.out rfl rfl rfl rfl ?_; go_frame)
              | fail)
            go_roundw
            case rel => exact ⟨k + 1, _, _, _, _, _, by omega, by omega, by go_num, rfl, hI, by first | omega | (simp <;> omega), G⟩
            case measure => simp [intOf] <;> omega
          | cons f q =>
            as_aux_lemma =>
            obtain ⟨k', e'⟩ := f
            obtain ⟨s', d, c, he, hd, hI', k1, k2⟩ := hI.get
            have hI := hI'
            have HE := Lib.hid he
            clear he
            simp only [List.length_cons] at hlen
            go_wp2_with (first
              | ((with_reducible refine at_alloc ?_); refine wpu_new G ?_; clear G; intro w G)
              | ((with_reducible refine at_drew ?_); refine wpu_drew G ?_; clear G; intro w G)
              | ((with_reducible refine at_load ?_); first
                | (refine wpu_load G rfl rfl rfl rfl ?_; go_frame)
                | (refine wpu_loadB G rfl rfl rfl (by rfl) ?_; go_frame)
                | (refine wpu_loadS G rfl rfl rfl (by rfl) ?_; simp only [List.drop_succ_cons, List.drop_zero, List.take_succ_cons, List.take_zero]; go_frame))
              | ((with_reducible refine at_store ?_); first
                | (refine wpu_store G rfl rfl rfl rfl (by first | rfl | assumption | simp [*]) rfl ?_; clear G; intro w G; go_frame)
                | (refine wpu_storeB G rfl rfl rfl rfl (by rfl) (by rfl) (by first | rfl | assumption | simp [*]) ?_; clear G; intro w G; go_frame)
                | (refine wpu_storeS G rfl rfl rfl rfl (by rfl) (by rfl) (by first | rfl | assumption | simp [*]) ?_; clear G; intro w G; go_frame))
              | ((with_reducible refine at_convert ?_); refine wpu_str G rfl rfl rfl rfl ?_; go_frame)
              | ((with_reducible refine at_slice ?_); first
                | (refine wpu_sliceLo rfl rfl rfl rfl (by first | rfl | omega) (by omega) (by omega) ?_; go_frame)
                | (refine wpu_sliceLH rfl rfl rfl rfl rfl (by first | rfl | omega) (by first | rfl | omega) (by omega) (by omega) ?_; go_frame))
              | ((with_reducible refine at_load ?_); refine wpu_loadF (HR.out.old G) HX.out rfl rfl rfl rfl ?_; go_frame)
              | ((with_reducible refine at_load ?_); refine wpu_loadF0 (HR.out.old G) HX.out rfl rfl rfl rfl ?_; go_frame)
              | fail)
            refine Calls.mono (get0 G r1 r2 k1 k2 HE.out hd) ?_
            clear G; rintro e w ⟨rfl, G⟩
            go_wp2_with (first
              | ((with_reducible refine at_alloc ?_); refine wpu_new G ?_; clear G; intro w G)
              | ((with_reducible refine at_drew ?_); refine wpu_drew G ?_; clear G; intro w G)
              | ((with_reducible refine at_load ?_); first
                | (refine wpu_load G rfl rfl rfl rfl ?_; go_frame)
                | (refine wpu_loadB G rfl rfl rfl (by rfl) ?_; go_frame)
                | (refine wpu_loadS G rfl rfl rfl (by rfl) ?_; simp only [List.drop_succ_cons, List.drop_zero, List.take_succ_cons, List.take_zero]; go_frame))
              | ((with_reducible refine at_store ?_); first
                | (refine wpu_store G rfl rfl rfl rfl (by first | rfl | assumption | simp [*]) rfl ?_; clear G; intro w G; go_frame)
                | (refine wpu_storeB G rfl rfl rfl rfl (by rfl) (by rfl) (by first | rfl | assumption | simp [*]) ?_; clear G; intro w G; go_frame)
                | (refine wpu_storeS G rfl rfl rfl rfl (by rfl) (by rfl) (by first | rfl | assumption | simp [*]) ?_; clear G; intro w G; go_frame))
              | ((with_reducible refine at_convert ?_); refine wpu_str G rfl rfl rfl rfl ?_; go_frame)
              | ((with_reducible refine at_slice ?_); first
                | (refine wpu_sliceLo rfl rfl rfl rfl (by first | rfl | omega) (by omega) (by omega) ?_; go_frame)
                | (refine wpu_sliceLH rfl rfl rfl rfl rfl (by first | rfl | omega) (by first | rfl | omega) (by omega) (by omega) ?_; go_frame))
              | ((with_reducible refine at_load ?_); refine wpu_loadF (HR.out.old G) HX.out rfl rfl rfl rfl ?_; go_frame)
              | ((with_reducible refine at_load ?_); refine wpu_loadF0 (HR.out.old G) HX.out rfl rfl rfl rfl ?_; go_frame)
              | fail)
            go_roundw
            case rel => exact ⟨k + 1, _, _, _, _, _, by omega, by omega, by go_num, rfl, hI, by first | omega | (simp <;> omega), G⟩
            case measure => simp [intOf] <;> omega
    · go_wp2_with (first
        | ((with_reducible refine at_alloc ?_); refine wpu_new G ?_; clear G; intro w G)
        | ((with_reducible refine at_drew ?_); refine wpu_drew G ?_; clear G; intro w G)
        | ((with_reducible refine at_load ?_); first
          | (refine wpu_load G rfl rfl rfl rfl ?_; go_frame)
          | (refine wpu_loadB G rfl rfl rfl (by rfl) ?_; go_frame)
          | (refine wpu_loadS G rfl rfl rfl (by rfl) ?_; simp only [List.drop_succ_cons, List.drop_zero, List.take_succ_cons, List.take_zero]; go_frame))
        | ((with_reducible refine at_store ?_); first
          | (refine wpu_store G rfl rfl rfl rfl (by first | rfl | assumption | simp [*]) rfl ?_; clear G; intro w G; go_frame)
          | (refine wpu_storeB G rfl rfl rfl rfl (by rfl) (by rfl) (by first | rfl | assumption | simp [*]) ?_; clear G; intro w G; go_frame)
          | (refine wpu_storeS G rfl rfl rfl rfl (by rfl) (by rfl) (by first | rfl | assumption | simp [*]) ?_; clear G; intro w G; go_frame))
        | ((with_reducible refine at_convert ?_); refine wpu_str G rfl rfl rfl rfl ?_; go_frame)
        | ((with_reducible refine at_slice ?_); first
          | (refine wpu_sliceLo rfl rfl rfl rfl (by first | rfl | omega) (by omega) (by omega) ?_; go_frame)
          | (refine wpu_sliceLH rfl rfl rfl rfl rfl (by first | rfl | omega) (by first | rfl | omega) (by omega) (by omega) ?_; go_frame))
        | fail)
      all_goals
        as_aux_lemma =>
        clear hlt
        go_loopw [11] (fun i wr => ∃ (j : Nat) (s0 s1 : Int) (q0 q1 : Q), i = .int .i64 j ∧ j ≤ 400 ∧ Inv s0 s1 q0 q1 rs ∧ q0.length ≤ 200 - (j + 1) / 2 ∧ q1.length ≤ 200 - j / 2 ∧ Own w0 (lineA a s0 s1 q0 q1 * emp) wr) (fun i _ => 400 - (intOf i).toNat)
        case atStart => exact ⟨0, s0, s1, q0, q1, rfl, by decide, hI, by omega, by omega, G⟩
        case round =>
          clear G hI hlen
          obtain ⟨j, s0, s1, q0, q1, rfl, hj, hI, l0, l1, G⟩ := hrel
          have hr0 := hI.range
          have hr1 := hI.flip.range
          obtain ⟨r1, r2⟩ := hr0
          obtain ⟨r3, r4⟩ := hr1
          by_cases hj2 : j < 400
          · have ha1 := and_one hj2
            by_cases hp : j % 2 = 0
            · rw [hp] at ha1
              have HA := Lib.hid ha1
              have hp' : (j + 1) % 2 = 1 := by omega
              clear ha1
              cases q0 with
              | nil =>
                as_aux_lemma =>
                go_wp2_with fail
                refine Calls.mono (at0 HA.out (get0E G)) ?_
                clear G; rintro e w ⟨rfl, G⟩
                go_wp2_with fail
                go_roundw
                case rel => exact ⟨j + 1, _, _, _, _, by go_num, by omega, hI, by (try simp only [List.length_nil]); omega, by (try simp only [List.length_nil]); omega, G⟩
                case measure => simp [intOf] <;> omega
              | cons f q =>
                as_aux_lemma =>
                obtain ⟨k', e'⟩ := f
                obtain ⟨s', d, c, he, hd, hI', k1, k2⟩ := hI.get
                have hI := hI'
                have HE := Lib.hid he
                clear he
                simp only [List.length_cons] at l0
                go_wp2_with fail
                refine Calls.mono (at0 HA.out (get0 G r1 r2 k1 k2 HE.out hd)) ?_
                clear G; rintro e w ⟨rfl, G⟩
                go_wp2_with fail
                go_roundw
                case rel => exact ⟨j + 1, _, _, _, _, by go_num, by omega, hI, by (try simp only [List.length_nil]); omega, by (try simp only [List.length_nil]); omega, G⟩
                case measure => simp [intOf] <;> omega
            · have hp1 : j % 2 = 1 := by omega
              rw [hp1] at ha1
              have HA := Lib.hid ha1
              clear ha1 hp
              cases q1 with
              | nil =>
                as_aux_lemma =>
                go_wp2_with fail
                refine Calls.mono (at0 HA.out (get1E G)) ?_
                clear G; rintro e w ⟨rfl, G⟩
                go_wp2_with fail
                go_roundw
                case rel => exact ⟨j + 1, _, _, _, _, by go_num, by omega, hI, by (try simp only [List.length_nil]); omega, by (try simp only [List.length_nil]); omega, G⟩
                case measure => simp [intOf] <;> omega
              | cons f q =>
                as_aux_lemma =>
                obtain ⟨k', e'⟩ := f
                obtain ⟨s', d, c, he, hd, hI', k1, k2⟩ := hI.flip.get
                have hI := hI'.flip
                have HE := Lib.hid he
                clear he
                simp only [List.length_cons] at l1
                go_wp2_with fail
                refine Calls.mono (at0 HA.out (get1 G r3 r4 k1 k2 HE.out hd)) ?_
                clear G; rintro e w ⟨rfl, G⟩
                go_wp2_with fail
                go_roundw
                case rel => exact ⟨j + 1, _, _, _, _, by go_num, by omega, hI, by (try simp only [List.length_nil]); omega, by (try simp only [List.length_nil]); omega, G⟩
                case measure => simp [intOf] <;> omega
          · have e0 : q0 = [] := List.eq_nil_of_length_eq_zero (by omega)
            have e1 : q1 = [] := List.eq_nil_of_length_eq_zero (by omega)
            subst e0 e1
            have hen := hI.ends
            obtain ⟨v0, v1, G⟩ := line_open G
            simp only [lineCs] at G
            cases rs
            · as_aux_lemma =>
              have hen : (s0 = 0 ∧ s1 = 0) ∨ (s0 = 1 ∧ s1 = 1) ∨ (s0 = 2 ∧ s1 = 3) ∨ (s0 = 3 ∧ s1 = 2) ∨ (s0 = 4 ∧ s1 = 4) := by simpa using hen
              clear hI
              rcases hen with ⟨rfl, rfl⟩ | ⟨rfl, rfl⟩ | ⟨rfl, rfl⟩ | ⟨rfl, rfl⟩ | ⟨rfl, rfl⟩
              all_goals
                go_wp2_with (first
                  | ((with_reducible refine at_build ?_); refine wpu_val rfl (exec_build [(0, .int .i64 0), (1, .int .i64 1), (2, .int .i64 3), (3, .int .i64 2), (4, .int .i64 4)] rfl (build_mirror _)) ?_; refine wpu_new G ?_; clear G; intro w G; go_frame)
                  | ((with_reducible refine at_alloc ?_); refine wpu_new G ?_; clear G; intro w G)
                  | ((with_reducible refine at_drew ?_); refine wpu_drew G ?_; clear G; intro w G)
                  | ((with_reducible refine at_load ?_); first
                    | (refine wpu_load G rfl rfl rfl rfl ?_; go_frame)
                    | (refine wpu_loadB G rfl rfl rfl (by rfl) ?_; go_frame)
                    | (refine wpu_loadS G rfl rfl rfl (by rfl) ?_; simp only [List.drop_succ_cons, List.drop_zero, List.take_succ_cons, List.take_zero]; go_frame))
                  | ((with_reducible refine at_store ?_); first
                    | (refine wpu_store G rfl rfl rfl rfl (by first | rfl | assumption | simp [*]) rfl ?_; clear G; intro w G; go_frame)
                    | (refine wpu_storeB G rfl rfl rfl rfl (by rfl) (by rfl) (by first | rfl | assumption | simp [*]) ?_; clear G; intro w G; go_frame)
                    | (refine wpu_storeS G rfl rfl rfl rfl (by rfl) (by rfl) (by first | rfl | assumption | simp [*]) ?_; clear G; intro w G; go_frame))
                  | ((with_reducible refine at_convert ?_); refine wpu_str G rfl rfl rfl rfl ?_; go_frame)
                  | ((with_reducible refine at_slice ?_); first
                    | (refine wpu_sliceLo rfl rfl rfl rfl (by first | rfl | omega) (by omega) (by omega) ?_; go_frame)
                    | (refine wpu_sliceLH rfl rfl rfl rfl rfl (by first | rfl | omega) (by first | rfl | omega) (by omega) (by omega) ?_; go_frame))
                  | fail)
                go_ret
                exact ⟨rfl, G.below⟩
            · as_aux_lemma =>
              have hen : 4 ≤ s0 ∧ 4 ≤ s1 ∧ s0 ≤ 6 ∧ s1 ≤ 6 := by simpa using hen
              obtain ⟨z1, z2, z3, z4⟩ := hen
              clear hI
              go_wp2_with (first
                | ((with_reducible refine at_build ?_); refine wpu_val rfl (exec_build [(0, .int .i64 0), (1, .int .i64 1), (2, .int .i64 3), (3, .int .i64 2), (4, .int .i64 4)] rfl (build_mirror _)) ?_; refine wpu_new G ?_; clear G; intro w G; go_frame)
                | ((with_reducible refine at_alloc ?_); refine wpu_new G ?_; clear G; intro w G)
                | ((with_reducible refine at_drew ?_); refine wpu_drew G ?_; clear G; intro w G)
                | ((with_reducible refine at_load ?_); first
                  | (refine wpu_load G rfl rfl rfl rfl ?_; go_frame)
                  | (refine wpu_loadB G rfl rfl rfl (by rfl) ?_; go_frame)
                  | (refine wpu_loadS G rfl rfl rfl (by rfl) ?_; simp only [List.drop_succ_cons, List.drop_zero, List.take_succ_cons, List.take_zero]; go_frame))
                | ((with_reducible refine at_store ?_); first
                  | (refine wpu_store G rfl rfl rfl rfl (by first | rfl | assumption | simp [*]) rfl ?_; clear G; intro w G; go_frame)
                  | (refine wpu_storeB G rfl rfl rfl rfl (by rfl) (by rfl) (by first | rfl | assumption | simp [*]) ?_; clear G; intro w G; go_frame)
                  | (refine wpu_storeS G rfl rfl rfl rfl (by rfl) (by rfl) (by first | rfl | assumption | simp [*]) ?_; clear G; intro w G; go_frame))
                | ((with_reducible refine at_convert ?_); refine wpu_str G rfl rfl rfl rfl ?_; go_frame)
                | ((with_reducible refine at_slice ?_); first
                  | (refine wpu_sliceLo rfl rfl rfl rfl (by first | rfl | omega) (by omega) (by omega) ?_; go_frame)
                  | (refine wpu_sliceLH rfl rfl rfl rfl rfl (by first | rfl | omega) (by first | rfl | omega) (by omega) (by omega) ?_; go_frame))
                | fail)
              go_ret
              exact ⟨rfl, G.below⟩

theorem contract {H : Type} {enc : TypeId × Value → H} {W : World} {vs : List Value} {ds : List (DataW H)}
    (hA : Args enc Try.prog W [28] vs ds) (hsz : (DataW.weightsEach Try.prog [28] ds).all (· ≤ reachBytes) = true) :
    Calls Try.prog 4 vs.toArray W fun e W' => e = .returned (.bool true) ∧ Below W.heap.size W W' := by
  obtain ⟨v0, _, d0, _, rfl, rfl, h0, hA⟩ := args_cons hA
  obtain ⟨rfl, rfl⟩ := args_nil hA
  obtain ⟨n, xs, hr, hel⟩ := acts_in h0
  exact agreesW hr hel


theorem spec {H : Type} : ∀ ds : List (DataW H), ds.length = 1 → Rows.streamAgreesSpec.fn H ds = { results := [.lit (.bool true)], args := ds }
  | [_], _ => rfl
  | [], h => by cases h
  | _ :: _ :: _, h => by simp at h
set_option maxRecDepth 100000 in
theorem lifted (os : Os) (started : os.Started) (H : Type) (enc : TypeId × Value → H) :
    ReturnsInHanded {} Try.checked os 4 .any (Rows.streamAgreesSpec.pre6 enc Try.prog Try.f4 Rows.streamAgreesRow.domain false) (Rows.streamAgreesSpec.post enc Try.prog Try.f4 false true false false) :=
  lifted_of_law (C := Try.checked) (fn := Try.f4) (s := Rows.streamAgreesSpec) (tb := 4) (by kernel_rfl) started (by kernel_rfl) Try.func4
    (ChangeSpec.witness6 (enc := enc) (C := Try.checked) false ⟨#[], #[.slice none 0 0], []⟩ 8 (by kernel_rfl) (by kernel_rfl) (by kernel_rfl) (by kernel_rfl))
    rfl spec (by kernel_rfl) Try.underlying4 (by kernel_rfl) (by kernel_rfl) (fun _ _ _ h1 h2 => contract h1 h2)

theorem proved : Rows.StreamAgreesSaid :=
  OpenClaim.holds_of_wide 4 Try.f4 rfl rfl rfl rfl rfl rfl rfl ⟨rfl, rfl, rfl, rfl, rfl⟩ rfl rfl rfl rfl rfl (by kernel_rfl) Try.func4 (by kernel_rfl)
    (of_decide_eq_true (by kernel_rfl)) (by unfold Func.isWrapper; first | (rw [if_pos (by decide +kernel)]; kernel_rfl) | (rw [if_neg (by decide +kernel)]; exact ⟨rfl, rfl⟩))
    (fun os started H enc _ => lifted os started H enc)
end Go.Proofs.Ytadbpekkmlblmaa.streamAgrees
