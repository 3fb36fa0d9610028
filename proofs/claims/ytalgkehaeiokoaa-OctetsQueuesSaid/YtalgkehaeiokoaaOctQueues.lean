/-
  OctetsQueues, proved: for every input the law answers true.
-/
import Derived.Test.YtalgkehaeiokoaaOctL
import Derived.Test.YtalgkehaeiokoaaLists
namespace Go.Proofs.Ytalgkehaeiokoaa.octetsQueues
open Go.RowKit Go.Sl Go.ChangeShapes

set_option maxRecDepth 20000 in
theorem queuesW {w : World} {most : Int} {lv : Value} {n : Nat} {xs : List Value} (m1 : -9223372036854775808 ≤ most) (m2 : most ≤ 9223372036854775807)
    (hl : rd w 3 lv n xs) (hls : ∀ i, i < n → ∃ (kd nn : Int) (v : Value) (l : List UInt8), (xs.drop (i * 3)).take 3 = [.int .i64 kd, .int .i64 nn, v] ∧ rd w 1 v l.length (bs l)) :
    Calls Try.prog 6 #[.int .i64 most, lv] w fun e w' => e = .returned (.bool true) ∧ Below w.heap.size w w' := by
  have h0 := own_begin w
  obtain ⟨lo, lcap, rfl, l1, l2, l3, -, l5⟩ := id hl
  unfold maxLen at l2
  go_enter Try.func6, Try.ntmps6
  go_wp2_with (go_at_call 9; refine (shownL h0).mono ?_; rintro e w1 ⟨rfl, h1⟩)
  refine (newQ most h1).mono ?_
  rintro e w2 ⟨q, rfl, h2⟩
  go_wp2_with fail
  refine (newR most h2).mono ?_
  rintro e w3 ⟨p, rfl, h3⟩
  obtain ⟨M, hM, hM2⟩ : ∃ M : Nat, (min (max most 0) 1000000).toNat = M ∧ M ≤ 1000000 := ⟨_, rfl, by omega⟩
  rw [hM] at h3
  clear hM
  go_wp2_with fail
  go_loopw [8] (fun i wr => ∃ (k : Nat) (b : List UInt8), k ≤ 200 ∧ i = .int .i64 k ∧ b.length ≤ M ∧ Own w (queueA q b M * (refA p b M * emp)) wr) (fun i _ => 200 - (intOf i).toNat)
  case atStart => exact ⟨0, [], by omega, rfl, by simp, h3.eq (by ac_rfl)⟩
  case round =>
    obtain ⟨k, b, hk, rfl, hb, g⟩ := hrel
    by_cases hlt : k < n ∧ k < 200
    · obtain ⟨hk1, hk2⟩ := hlt
      obtain ⟨ad, rfl⟩ := rd_some hl (by omega)
      obtain ⟨kd, nn, v, l, hx, hv⟩ := hls k hk1
      obtain ⟨bo, bcap, rfl, j1, j2, -⟩ := id hv
      unfold maxLen at j2
      obtain ⟨y, -, y1, y2, y3, hr2⟩ := rd_first hv 2000 (K := 2000) rfl
      have c0 := rd_elem0 (hl.old g) hx rfl
      have c1 := rd_elem (hl.old g) hx 0 rfl
      have c2 := rd_elem (hl.old g) hx 1 rfl
      have g0 := own_new g [.int .i64 kd, .int .i64 nn, .slice bo l.length bcap] 41
      have g1 := own_new_sl g0 [] 5 1 0 rfl (by decide)
      rw [show ∀ o, (wr.alloc o).heap.size = wr.heap.size + 1 from fun o => by simp] at g1
      go_wp2_with (first
        | (at_builtin; go_loud (refine wpl_append rfl (A := _) rfl g1 isBytes rfl rfl rfl (hr2.old g1) (fun y' hy => bs_one _ y' hy) (by unfold maxLen; omega) (by omega) ?_); intro v1 w4 g4;
            (replace g4 : Own w (queueA q b M * (refA p b M * (sl 1 v1 y.length (bs y) * blk wr.heap.size [.int .i64 kd, .int .i64 nn, .slice bo l.length bcap]))) w4 :=
              g4.eq (by rw [Nat.zero_add, List.nil_append, star_emp]; ac_rfl));
            have s4 := strB (fun w h => h.rd v1 w h) w4 g4; have d0 := g4.cell wr.heap.size 0 rfl w4 g4; have d1 := g4.cell wr.heap.size 1 rfl w4 g4)
        | (go_at_call 13; refine (pushQ g4 hb hM2 (y := y) (fun w h => h.rd v1 w h)).mono ?_; rintro e w5 ⟨rfl, g5⟩)
        | (go_at_call 18; refine (pushR (b := b) (y := y) (R := queueA q (b ++ y.take (M - b.length)) M * (sl 1 v1 y.length (bs y) * blk wr.heap.size [.int .i64 kd, .int .i64 nn, .slice bo l.length bcap])) (g5.eq (by ac_rfl)) hb hM2 (by omega)).mono ?_; rintro e w6 ⟨rfl, g6⟩)
        | (go_at_call 15; refine (popQ g4 (by omega) nn).mono ?_; rintro e w5 ⟨vo, rfl, g5⟩; have d2 := g5.cell wr.heap.size 1 rfl w5 g5)
        | (go_at_call 19; refine (popR (b := b) (R := queueA q (b.drop nn.toNat) M * (sl 1 vo (min nn.toNat b.length) (bs (b.take nn.toNat)) * (sl 1 v1 y.length (bs y) * blk wr.heap.size [.int .i64 kd, .int .i64 nn, .slice bo l.length bcap]))) (g5.eq (by ac_rfl)) (by omega) nn).mono ?_; rintro e w6 ⟨rfl, g6⟩)
        | (go_at_call 14; refine (peekQ g4 (by omega) nn).mono ?_; rintro e w5 ⟨vo, rfl, g5⟩; have d2 := g5.cell wr.heap.size 1 rfl w5 g5)
        | (go_at_call 20; refine (peekR (b := b) (R := queueA q b M * (sl 1 vo (min nn.toNat b.length) (bs (b.take nn.toNat)) * (sl 1 v1 y.length (bs y) * blk wr.heap.size [.int .i64 kd, .int .i64 nn, .slice bo l.length bcap]))) (g5.eq (by ac_rfl)) (by omega) nn).mono ?_; rintro e w6 ⟨rfl, g6⟩))
      · obtain ⟨b', R, hR, g7, hb'⟩ : ∃ (b' : List UInt8) (R : Assn), R = blk wr.heap.size [.int .i64 kd, .int .i64 nn, .slice bo l.length bcap] ∧ Own w (queueA q b' M * (refA p b' M * (sl 1 v1 y.length (bs y) * R))) w6 ∧ b'.length ≤ M :=
          ⟨_, _, rfl, g6.eq (by ac_rfl), by simp; omega⟩
        have s5 := strB (B := w) (A := queueA q b' M * (refA p b' M * (sl 1 v1 y.length (bs y) * R))) (v := .slice none 0 0) (n := 0) (l := []) (fun w h => rd_nil w 1)
        clear d0 d1 g6 g5 g4 g1 g0 c0 c1 c2
        have f0 := g7.cell p 0 rfl
        have f1 := g7.cell p 1 rfl
        refine wp_region_mix (List.replicate 6 0 ++ (1 :: (List.replicate 9 0 ++ (1 :: List.replicate 12 0)))) (Own w _) (by kernel_rfl) (by kernel_rfl) (own_drew g7) ?_
        refine mix_calm 6 ((own_drew g7)) (by rfl) (by rfl) ?_
        intro ι W hne hW
        dsimp only [List.take, List.drop]
        have s5 := fun i => s5 _ (hW i)
        repeat (go_big_quiet_step (fail))
        refine wpQuiet_nil ?_
        clear s5 hW hne W ι
        refine mix_loud_g (by rfl) (fun K hK => ?_)
        go_wp2_with fail
        refine (lenQ (own_drew g7)).mono ?_
        rintro e w7 ⟨rfl, g8⟩
        refine hK _ _ ⟨g8, ?_⟩
        clear hK
        try go_frame
        refine mix_calm 9 (g8) (by rfl) (by rfl) ?_
        intro ι W hne hW
        dsimp only [List.take, List.drop]
        have f0 := fun i => f0 _ (hW i)
        repeat (go_big_quiet_step (fail))
        refine wpQuiet_nil ?_
        clear f0 hW hne W ι
        refine mix_loud_g (by rfl) (fun K hK => ?_)
        go_wp2_with fail
        refine (roomQ g8 hb' hM2).mono ?_
        rintro e w8 ⟨rfl, g9⟩
        refine hK _ _ ⟨g9, ?_⟩
        clear hK
        try go_frame
        have e5 : ((M - b'.length : Nat) : Int) = (M : Int) - b'.length := by omega
        refine mix_calm 12 (g9) (by rfl) (by rfl) ?_
        intro ι W hne hW
        dsimp only [List.take, List.drop]
        have f0 := fun i => f0 _ (hW i)
        have f1 := fun i => f1 _ (hW i)
        repeat (go_big_quiet_step (fail))
        refine wpQuiet_nil ?_
        clear f0 f1 hW hne W ι
        refine mix_nil ?_
        clear f0 f1 s5
        go_wp2_with fail
        go_loopw [14] (fun i wr => i = .int .i64 0 ∧ Own w (queueA q b' M * (refA p b' M * (sl 1 v1 y.length (bs y) * R))) wr) (fun _ _ => 0)
        case atStart => exact ⟨rfl, g9⟩
        case round =>
          obtain ⟨rfl, g10⟩ := hrel
          go_wp2_with fail
          obtain ⟨R', hR'⟩ : ∃ R', R' = R * (queueA q b' M * refA p b' M) := ⟨_, rfl⟩
          obtain ⟨ys, h10⟩ : ∃ ys : List Value, Own w (sl 1 v1 y.length ys * R') _ := ⟨bs y, g10.eq (by rw [hR']; ac_rfl)⟩
          clear g7 g8 g9 g10
          obtain ⟨yo, ycap, rfl, i1, i2⟩ := h10.hdr v1
          unfold maxLen at i2
          go_loopw [15] (fun i wr => ∃ (j : Nat) (ys : List Value), j ≤ y.length ∧ i = .int .i64 j ∧ Own w (sl 1 (.slice yo y.length ycap) y.length ys * R') wr) (fun i _ => y.length - (intOf i).toNat)
          case atStart => exact ⟨0, ys, by omega, rfl, h10⟩
          case round =>
            obtain ⟨j, ys', hj, rfl, h11⟩ := hrel
            by_cases hlt : j < y.length
            · have r1 := own_rd h11
              obtain ⟨yd, rfl⟩ := rd_some r1 (by omega)
              have c5 := rd_cell r1 (List.getElem?_eq_getElem (show j < ys'.length by rw [r1.len]; omega))
              have c6 := sl_free h11 hlt
              go_wp2
              go_roundw
              case rel => exact ⟨j + 1, _, by omega, by go_num, sl_set h11 hlt _⟩
              case measure => simp [intOf]; omega
            · go_wp2
              go_roundw
              case rel =>
                refine ⟨k + 1, b', by omega, by go_num, hb', ?_⟩
                rw [hR'] at h11
                exact h11.right.right.eq (by rw [star_emp])
              case measure => simp [intOf]; omega
      all_goals
        obtain ⟨b', lo, hlo, R, hR, g7, hb'⟩ : ∃ (b' lo : List UInt8), lo = b.take nn.toNat ∧ ∃ R, R = blk wr.heap.size [.int .i64 kd, .int .i64 nn, .slice bo l.length bcap] ∧ Own w (queueA q b' M * (refA p b' M * (sl 1 vo lo.length (bs lo) * (sl 1 v1 y.length (bs y) * R)))) w6 ∧ b'.length ≤ M :=
          ⟨_, _, rfl, _, rfl, g6.eq (by rw [List.length_take]; ac_rfl), by first | omega | (simp; omega)⟩
        rw [← hlo]
        clear hlo hR d0 d1 d2 g6 g5 g4 g1 g0 c0 c1 c2
        have s5 := strB (B := w) (A := queueA q b' M * (refA p b' M * (sl 1 vo lo.length (bs lo) * (sl 1 v1 y.length (bs y) * R)))) (fun w h => h.rd vo w h)
        obtain ⟨oo, ocap, rfl, o1, o2⟩ := g7.hdr vo
        unfold maxLen at o2
        have f0 := g7.cell p 0 rfl
        have f1 := g7.cell p 1 rfl
        refine wp_region_mix (List.replicate 6 0 ++ (1 :: (List.replicate 9 0 ++ (1 :: List.replicate 12 0)))) (Own w _) (by kernel_rfl) (by kernel_rfl) (own_drew g7) ?_
        refine mix_calm 6 ((own_drew g7)) (by rfl) (by rfl) ?_
        intro ι W hne hW
        dsimp only [List.take, List.drop]
        have s5 := fun i => s5 _ (hW i)
        repeat (go_big_quiet_step (fail))
        refine wpQuiet_nil ?_
        clear s5 hW hne W ι
        refine mix_loud_g (by rfl) (fun K hK => ?_)
        go_wp2_with fail
        refine (lenQ (own_drew g7)).mono ?_
        rintro e w7 ⟨rfl, g8⟩
        refine hK _ _ ⟨g8, ?_⟩
        clear hK
        try go_frame
        refine mix_calm 9 (g8) (by rfl) (by rfl) ?_
        intro ι W hne hW
        dsimp only [List.take, List.drop]
        have f0 := fun i => f0 _ (hW i)
        repeat (go_big_quiet_step (fail))
        refine wpQuiet_nil ?_
        clear f0 hW hne W ι
        refine mix_loud_g (by rfl) (fun K hK => ?_)
        go_wp2_with fail
        refine (roomQ g8 hb' hM2).mono ?_
        rintro e w8 ⟨rfl, g9⟩
        refine hK _ _ ⟨g9, ?_⟩
        clear hK
        try go_frame
        have e5 : ((M - b'.length : Nat) : Int) = (M : Int) - b'.length := by omega
        refine mix_calm 12 (g9) (by rfl) (by rfl) ?_
        intro ι W hne hW
        dsimp only [List.take, List.drop]
        have f0 := fun i => f0 _ (hW i)
        have f1 := fun i => f1 _ (hW i)
        repeat (go_big_quiet_step (fail))
        refine wpQuiet_nil ?_
        clear f0 f1 hW hne W ι
        refine mix_nil ?_
        clear f0 f1 s5
        go_wp2_with fail
        obtain ⟨R2, hR2⟩ : ∃ R2, R2 = sl 1 v1 y.length (bs y) * (R * (queueA q b' M * refA p b' M)) := ⟨_, rfl⟩
        obtain ⟨zs, h9⟩ : ∃ zs : List Value, Own w (sl 1 (.slice oo lo.length ocap) lo.length zs * R2) w8 := ⟨bs lo, g9.eq (by rw [hR2]; ac_rfl)⟩
        clear g7 g8 g9
        go_loopw [14] (fun i wr => ∃ (j : Nat) (ys : List Value), j ≤ lo.length ∧ i = .int .i64 j ∧ Own w (sl 1 (.slice oo lo.length ocap) lo.length ys * R2) wr) (fun i _ => lo.length - (intOf i).toNat)
        case atStart => exact ⟨0, zs, by omega, rfl, h9⟩
        case round =>
          obtain ⟨j, ys', hj, rfl, h11⟩ := hrel
          by_cases hlt : j < lo.length
          · have r1 := own_rd h11
            obtain ⟨yd, rfl⟩ := rd_some r1 (by omega)
            have c5 := rd_cell r1 (List.getElem?_eq_getElem (show j < ys'.length by rw [r1.len]; omega))
            have c6 := sl_free h11 hlt
            go_wp2
            go_roundw
            case rel => exact ⟨j + 1, _, by omega, by go_num, sl_set h11 hlt _⟩
            case measure => simp [intOf]; omega
          · go_wp2_with fail
            have g10 := h11.right
            rw [hR2] at g10
            obtain ⟨R', hR'⟩ : ∃ R', R' = R * (queueA q b' M * refA p b' M) := ⟨_, rfl⟩
            obtain ⟨ys, h10⟩ : ∃ ys : List Value, Own w (sl 1 v1 y.length ys * R') _ := ⟨bs y, g10.eq (by rw [hR'])⟩
            clear g10 h11 hlt
            obtain ⟨yo, ycap, rfl, i1, i2⟩ := h10.hdr v1
            unfold maxLen at i2
            go_loopw [15] (fun i wr => ∃ (j : Nat) (ys : List Value), j ≤ y.length ∧ i = .int .i64 j ∧ Own w (sl 1 (.slice yo y.length ycap) y.length ys * R') wr) (fun i _ => y.length - (intOf i).toNat)
            case atStart => exact ⟨0, ys, by omega, rfl, h10⟩
            case round =>
              obtain ⟨j, ys', hj, rfl, h11⟩ := hrel
              by_cases hlt : j < y.length
              · have r1 := own_rd h11
                obtain ⟨yd, rfl⟩ := rd_some r1 (by omega)
                have c5 := rd_cell r1 (List.getElem?_eq_getElem (show j < ys'.length by rw [r1.len]; omega))
                have c6 := sl_free h11 hlt
                go_wp2
                go_roundw
                case rel => exact ⟨j + 1, _, by omega, by go_num, sl_set h11 hlt _⟩
                case measure => simp [intOf]; omega
              · go_wp2
                go_roundw
                case rel =>
                  refine ⟨k + 1, b', by omega, by go_num, hb', ?_⟩
                  rw [hR'] at h11
                  exact h11.right.right.eq (by rw [star_emp])
                case measure => simp [intOf]; omega
    · go_wp2
      all_goals
        go_ret
        exact ⟨rfl, g.below⟩

theorem contract {H : Type} {enc : TypeId × Value → H} {W : World} {vs : List Value} {ds : List (DataW H)}
    (hA : Args enc Try.prog W [3, 37] vs ds) (_hsz : (DataW.weightsEach Try.prog [3, 37] ds).all (· ≤ reachBytes) = true) :
    Calls Try.prog 6 vs.toArray W fun e W' => e = .returned (.bool true) ∧ Below W.heap.size W W' := by
  obtain ⟨v0, _, d0, _, rfl, rfl, h0, hA⟩ := args_cons hA
  obtain ⟨v1, _, d1, _, rfl, rfl, h1, hA⟩ := args_cons hA
  obtain ⟨rfl, rfl⟩ := args_nil hA
  obtain ⟨m, rfl, m1, m2⟩ := arg_i64 Try.underlying3 h0
  obtain ⟨n, xs, hl, _, hls⟩ := arg_slice (sz := 3) Try.underlying37 (by kernel_rfl) h1
  refine queuesW m1 m2 hl (fun i hi => ?_)
  obtain ⟨di, h⟩ := hls i hi
  obtain ⟨e0, k0⟩ := rdc_field Try.underlying41 h 0 rfl rfl rfl (c := 1) (by kernel_rfl)
  obtain ⟨e1, k1⟩ := rdc_field Try.underlying41 h 1 rfl rfl rfl (c := 1) (by kernel_rfl)
  obtain ⟨e2, k2⟩ := rdc_field Try.underlying41 h 2 rfl rfl rfl (c := 1) (by kernel_rfl)
  obtain ⟨kd, q0, _⟩ := rdc_i64 Try.underlying3 k0
  obtain ⟨nn, q1, _⟩ := rdc_i64 Try.underlying3 k1
  obtain ⟨v, l, q2, hr, _⟩ := rdc_bytes Try.underlying22 Try.underlying5 (by kernel_rfl) k2
  refine ⟨kd, nn, v, l, ?_, hr⟩
  have hlen : ((xs.drop (i * 3)).take 3).length = 3 := (rdc_struct Try.underlying41 h).1.trans (by kernel_rfl)
  generalize (xs.drop (i * 3)).take 3 = cs at *
  match cs, hlen with
  | [a, b, c], _ =>
    simp at q0 q1 q2
    simp [q0, q1, q2]

theorem spec {H : Type} : ∀ ds : List (DataW H), ds.length = 2 → Rows.octetsQueuesSpec.fn H ds = { results := [.lit (.bool true)], args := ds }
  | [_, _], _ => rfl
  | [], h => by cases h
  | [_], h => by cases h
  | _ :: _ :: _ :: _, h => by simp at h
set_option maxRecDepth 100000 in
theorem lifted (os : Os) (started : os.Started) (H : Type) (enc : TypeId × Value → H) :
    ReturnsInHanded {} Try.checked os 6 .any (Rows.octetsQueuesSpec.pre6 enc Try.prog Try.f6 Rows.octetsQueuesRow.domain false) (Rows.octetsQueuesSpec.post enc Try.prog Try.f6 false true false false) :=
  lifted_of_law (C := Try.checked) (fn := Try.f6) (s := Rows.octetsQueuesSpec) (tb := 4) (by kernel_rfl) started (by kernel_rfl) Try.func6
    (ChangeSpec.witness6 (enc := enc) (C := Try.checked) false ⟨#[], #[.int .i64 0, .slice none 0 0], []⟩ 8 (by kernel_rfl) (by kernel_rfl) (by kernel_rfl) (by kernel_rfl))
    rfl spec (by kernel_rfl) Try.underlying4 (by kernel_rfl) (by kernel_rfl) (fun _ _ _ h1 h2 => contract h1 h2)

theorem proved : Rows.OctetsQueuesSaid :=
  OpenClaim.holds_of_wide 6 Try.f6 rfl rfl rfl rfl rfl rfl rfl ⟨rfl, rfl, rfl, rfl, rfl⟩ rfl rfl rfl rfl rfl (by kernel_rfl) Try.func6 (by kernel_rfl)
    (of_decide_eq_true (by kernel_rfl)) (by unfold Func.isWrapper; first | (rw [if_pos (by decide +kernel)]; kernel_rfl) | (rw [if_neg (by decide +kernel)]; exact ⟨rfl, rfl⟩))
    (fun os started H enc _ => lifted os started H enc)
end Go.Proofs.Ytalgkehaeiokoaa.octetsQueues
