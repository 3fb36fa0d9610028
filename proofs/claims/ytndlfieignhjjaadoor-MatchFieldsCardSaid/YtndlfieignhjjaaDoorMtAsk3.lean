
/-
  Package match: the document's matchers, and gRPC.
-/
import Derived.Test.YtndlfieignhjjaaDoorMtAsk2
namespace Go.Proofs.YtndlfieignhjjaaDoor
open Go.RowKit Go.Sl Go.ChangeShapes

section
variable {P : Program} {C : World → Prop} {q : Act → Prop} {ops : Array Oper} {rest : List Oper} {a : Act} {x y : Operand} {d : Option Tmp} {ty T' : TypeId} {pos : String} {after : Array Edge} {g : Option (Nat × Bool)} {o : Oper} {l m : Txt}
theorem atq_eqS (h : wpQuiet P ops C q (⟨d, .binOp .eql 9 x y T', ty, pos, after, g⟩ :: rest) a) : wpQuiet P ops C q (⟨d, .binOp .eql 9 x y T', ty, pos, after, g⟩ :: rest) a := h
theorem wpq_eqS {ι : Type} {W : ι → World} {q : Act → Prop} (ho : o.op = .binOp .eql 9 x y T') (hw : Region.wanted o (yielded ops a.tmps) = true) (hx : evalO a x = some (str l)) (hy : evalO a y = some (str m)) {b : Bool} (hb : decide (l = m) = b)
    (kk : wpQuiet Tryd.prog ops (fun w' => ∃ i, w' = W i) q rest (a.put o.dst (.bool b))) : wpQuiet Tryd.prog ops (fun w' => ∃ i, w' = W i) q (o :: rest) a := by
  subst hb
  exact wpq_val hw (fun i => exec_strEq ho hx hy) kk
end


set_option maxHeartbeats 8000000 in
set_option maxRecDepth 100000 in
theorem asksRefC {B w : World} {A : Assn} {n v x : Txt} {how : Int} {no : Bool} (hx : x.length ≤ 9223372036854775807) (hv : v.length ≤ 9223372036854775807) (h : Own B A w) :
    Calls Tryd.prog 45 #[.agg #[str n, str v, .int .i64 how, .bool no], str x] w fun e w' => e = .returned (.bool (asksR ⟨n, v, how, no⟩ x)) ∧ Own B A w' := by
  rcases how5 how with rfl | rfl | rfl | rfl | ⟨h0, h1, h2, h3, z0, z1, z2, z3⟩
  · skip
    go_enter Tryd.func45, Tryd.ntmps45
    go_wp2_with (first
      | ((with_reducible refine at_load ?_); (refine wpu_load (own_alloc h _) rfl (by kernel_rfl) rfl rfl ?_; go_frame))
      | (go_at_call 33; refine Calls.mono (beginsB hx hv _) ?_; rintro e w ⟨rfl, rfl⟩)
      | (go_at_call 34; refine Calls.mono (endsB hx hv _) ?_; rintro e w ⟨rfl, rfl⟩)
      | ((with_reducible refine at_eqS ?_); refine wpu_eqS rfl (by kernel_rfl) rfl rfl rfl ?_; go_frame)
      | fail)
    go_ret
    exact ⟨rfl, own_alloc h _⟩
  · skip
    go_enter Tryd.func45, Tryd.ntmps45
    go_wp2_with (first
      | ((with_reducible refine at_load ?_); (refine wpu_load (own_alloc h _) rfl (by kernel_rfl) rfl rfl ?_; go_frame))
      | (go_at_call 33; refine Calls.mono (beginsB hx hv _) ?_; rintro e w ⟨rfl, rfl⟩)
      | (go_at_call 34; refine Calls.mono (endsB hx hv _) ?_; rintro e w ⟨rfl, rfl⟩)
      | ((with_reducible refine at_eqS ?_); refine wpu_eqS rfl (by kernel_rfl) rfl rfl rfl ?_; go_frame)
      | fail)
    go_ret
    exact ⟨rfl, own_alloc h _⟩
  · skip
    go_enter Tryd.func45, Tryd.ntmps45
    go_wp2_with (first
      | ((with_reducible refine at_load ?_); (refine wpu_load (own_alloc h _) rfl (by kernel_rfl) rfl rfl ?_; go_frame))
      | (go_at_call 33; refine Calls.mono (beginsB hx hv _) ?_; rintro e w ⟨rfl, rfl⟩)
      | (go_at_call 34; refine Calls.mono (endsB hx hv _) ?_; rintro e w ⟨rfl, rfl⟩)
      | ((with_reducible refine at_eqS ?_); refine wpu_eqS rfl (by kernel_rfl) rfl rfl rfl ?_; go_frame)
      | fail)
    go_ret
    exact ⟨rfl, own_alloc h _⟩
  · skip
    go_enter Tryd.func45, Tryd.ntmps45
    go_wp2_with (first
      | ((with_reducible refine at_load ?_); (refine wpu_load (own_alloc h _) rfl (by kernel_rfl) rfl rfl ?_; go_frame))
      | (go_at_call 33; refine Calls.mono (beginsB hx hv _) ?_; rintro e w ⟨rfl, rfl⟩)
      | (go_at_call 34; refine Calls.mono (endsB hx hv _) ?_; rintro e w ⟨rfl, rfl⟩)
      | ((with_reducible refine at_eqS ?_); refine wpu_eqS rfl (by kernel_rfl) rfl rfl rfl ?_; go_frame)
      | fail)
    go_ret
    exact ⟨rfl, own_alloc h _⟩
  · skip
    go_enter Tryd.func45, Tryd.ntmps45
    go_wp2_with (first
      | ((with_reducible refine at_load ?_); (refine wpu_load (own_alloc h _) rfl (by kernel_rfl) rfl rfl ?_; go_frame))
      | (go_at_call 33; refine Calls.mono (beginsB hx hv _) ?_; rintro e w ⟨rfl, rfl⟩)
      | (go_at_call 34; refine Calls.mono (endsB hx hv _) ?_; rintro e w ⟨rfl, rfl⟩)
      | ((with_reducible refine at_eqS ?_); refine wpu_eqS rfl (by kernel_rfl) rfl rfl rfl ?_; go_frame)
      | fail)
    go_ret
    exact ⟨by simp [asksR, h0, h1, h2, h3], own_alloc h _⟩

set_option maxHeartbeats 8000000 in
set_option maxRecDepth 100000 in
theorem fieldRefC {B w : World} {R : Assn} {m : Mr} {L : List Fd} {v : Value} (hm : m.value.length ≤ 9223372036854775807) (hlen : ∀ f ∈ L, f.2.1.length ≤ 9223372036854775807) (h : Own B R w) (hl : ∀ w, Own B R w → rd w 3 v L.length (fds L)) :
    Calls Tryd.prog 24 #[.agg #[str m.name, str m.value, .int .i64 m.how, .bool m.no], v] w fun e w' => e = .returned (.bool (fieldR m L)) ∧ Own B R w' := by
  have G := own_new h m.cs 37
  obtain ⟨ao, ac, rfl, i1, i2, -⟩ := id (hl w h)
  unfold maxLen at i2
  obtain ⟨n, v, how, no⟩ := m
  generalize hc : w.heap.size = c at G
  simp only [Mr.cs] at G hm
  clear h
  go_enter Tryd.func24, Tryd.ntmps24
  go_wp2_with fail
  go_loopw [5, 6, 7] (fun s i o wr => ∃ j : Nat, i = .int .i64 j ∧ j ≤ L.length ∧ s = .bool ((L.take j).any (hasR ⟨n, v, how, no⟩)) ∧ Own B (blk c [str n, str v, .int .i64 how, .bool no] * R) wr) (fun _ i _ _ => L.length - (intOf i).toNat)
  case atStart => exact ⟨0, rfl, Nat.zero_le _, by simp, G⟩
  case round =>
    clear G
    obtain ⟨j, rfl, hj, rfl, G⟩ := hrel
    obtain ⟨b, hb⟩ : ∃ b, (L.take j).any (hasR ⟨n, v, how, no⟩) = b := ⟨_, rfl⟩
    rw [hb]
    have HB := Lib.hid hb
    clear hb
    by_cases hjn : j < L.length
    · obtain ⟨f, hf⟩ : ∃ f, L[j]? = some f := ⟨L[j], List.getElem?_eq_getElem hjn⟩
      obtain ⟨ad, rfl⟩ := rd_some (hl _ G.right) (by omega)
      have HF := Lib.hid (fds_at hf)
      have hfl := hlen f (List.mem_of_getElem? hf)
      obtain ⟨r, hr⟩ : ∃ r, asksR ⟨n, v, how, no⟩ f.2.1 = r := ⟨_, rfl⟩
      obtain ⟨q, hq⟩ : ∃ q, decide (f.1 = n) = q := ⟨_, rfl⟩
      have HTK : Hid ((L.take (j + 1)).any (hasR ⟨n, v, how, no⟩) = (b || (q && r))) := Lib.hid (by
        rw [List.take_add_one, hf, List.any_append, HB.out]
        simp [hasR, hr, hq])
      have HR := Lib.hid hr
      have HQ := Lib.hid hq
      clear hr hf hq
      go_wp2_with fail
      refine wp_region_mix [0, 0, 0, 0, 0, 0, 1, 0] (Own B _) (by kernel_rfl) (by kernel_rfl) (own_drew G) ?_
      refine mix_calm 6 ((own_drew G)) (by rfl) (by rfl) ?_
      intro ι W hne hW
      dsimp only [List.take, List.drop]
      repeat (first | ((with_reducible refine atq_load ?_); first | (refine wpq_load hW rfl rfl rfl rfl ?_; go_frame) | (refine wpq_loadB hW rfl rfl rfl (by rfl) ?_; go_frame) | (refine wpq_loadS hW rfl rfl rfl (by rfl) ?_; simp only [List.drop_succ_cons, List.drop_zero, List.take_succ_cons, List.take_zero]; go_frame)) | ((with_reducible refine atq_load ?_); refine wpq_loadF (k := j) (fun i => hl _ (hW i).right) HF.out rfl (by kernel_rfl) rfl rfl ?_; go_frame) | go_big_quiet_step (fail))
      refine wpQuiet_nil ?_
      clear  hW hne W ι
      refine mix_loud rfl (fun K hK => ?_)
      go_wp2_with fail
      refine Calls.mono (asksRefC hfl hm (own_drew G)) ?_
      clear G; rintro e w ⟨rfl, G⟩
      rw [HR.out]
      refine hK _ _ ⟨G, ?_⟩
      clear hK
      try go_frame
      refine mix_calm 1 (G) (by rfl) (by rfl) ?_
      intro ι W hne hW
      dsimp only [List.take, List.drop]
      repeat (first | ((with_reducible refine atq_load ?_); first | (refine wpq_load hW rfl rfl rfl rfl ?_; go_frame) | (refine wpq_loadB hW rfl rfl rfl (by rfl) ?_; go_frame) | (refine wpq_loadS hW rfl rfl rfl (by rfl) ?_; simp only [List.drop_succ_cons, List.drop_zero, List.take_succ_cons, List.take_zero]; go_frame)) | (fail) | go_big_quiet_step (fail))
      refine wpQuiet_nil ?_
      clear  hW hne W ι
      refine mix_nil ?_
      cases b
      · cases q
        · go_wp2_with fail
          refine wp_region_calm (C := Own _ _) (by kernel_rfl) (by kernel_rfl) (own_drew G) ?_
          intro ι W hne hW hs
          repeat (first | ((first | ((with_reducible refine atq_load ?_); refine wpq_loadF0 (k := j) (fun i => hl _ (hW i).right) HF.out rfl (by kernel_rfl) rfl rfl ?_; go_frame) | ((with_reducible refine atq_eqS ?_); refine wpq_eqS rfl (by kernel_rfl) rfl rfl HQ.out ?_; go_frame))) | ((with_reducible refine atq_load ?_); first | (refine wpq_load hW rfl rfl rfl rfl ?_; go_frame) | (refine wpq_loadB hW rfl rfl rfl (by rfl) ?_; go_frame)) | go_big_quiet_step (fail))
          refine wpQuiet_nil ?_
          intro i
          have G := hW i
          generalize W i = wG at G ⊢
          clear  hs hW hne
          go_wp2_with fail
          go_roundw
          case rel => exact ⟨j + 1, by go_num, by omega, by rw [HTK.out]; rfl, G⟩
          case measure => simp [intOf] <;> omega
        · go_wp2_with fail
          refine wp_region_calm (C := Own _ _) (by kernel_rfl) (by kernel_rfl) (own_drew G) ?_
          intro ι W hne hW hs
          repeat (first | ((first | ((with_reducible refine atq_load ?_); refine wpq_loadF0 (k := j) (fun i => hl _ (hW i).right) HF.out rfl (by kernel_rfl) rfl rfl ?_; go_frame) | ((with_reducible refine atq_eqS ?_); refine wpq_eqS rfl (by kernel_rfl) rfl rfl HQ.out ?_; go_frame))) | ((with_reducible refine atq_load ?_); first | (refine wpq_load hW rfl rfl rfl rfl ?_; go_frame) | (refine wpq_loadB hW rfl rfl rfl (by rfl) ?_; go_frame)) | go_big_quiet_step (fail))
          refine wpQuiet_nil ?_
          intro i
          have G := hW i
          generalize W i = wG at G ⊢
          clear  hs hW hne
          go_wp2_with fail
          go_roundw
          case rel => exact ⟨j + 1, by go_num, by omega, by rw [HTK.out]; simp, G⟩
          case measure => simp [intOf] <;> omega
      · go_wp2_with fail
        refine wp_region_calm (C := Own _ _) (by kernel_rfl) (by kernel_rfl) (own_drew G) ?_
        intro ι W hne hW hs
        repeat (first | ((with_reducible refine atq_load ?_); first | (refine wpq_load hW rfl rfl rfl rfl ?_; go_frame) | (refine wpq_loadB hW rfl rfl rfl (by rfl) ?_; go_frame) | (refine wpq_loadS hW rfl rfl rfl (by rfl) ?_; simp only [List.drop_succ_cons, List.drop_zero, List.take_succ_cons, List.take_zero]; go_frame)) | (fail) | go_big_quiet_step (fail))
        refine wpQuiet_nil ?_
        intro i
        have G := hW i
        generalize W i = wG at G ⊢
        clear  hs hW hne
        go_wp2_with fail
        go_roundw
        case rel => exact ⟨j + 1, by go_num, by omega, by rw [HTK.out]; rfl, G⟩
        case measure => simp [intOf] <;> omega
    · have HA : Hid (L.any (hasR ⟨n, v, how, no⟩) = b) := Lib.hid (by rw [← HB.out, List.take_of_length_le (by omega)])
      go_wp2_with (first
        | ((with_reducible refine at_load ?_); (refine wpu_load G rfl (by kernel_rfl) rfl rfl ?_; go_frame))
        | fail)
      go_ret
      refine ⟨?_, G.right⟩
      unfold fieldR
      rw [HA.out]
      rfl
end Go.Proofs.YtndlfieignhjjaaDoor
