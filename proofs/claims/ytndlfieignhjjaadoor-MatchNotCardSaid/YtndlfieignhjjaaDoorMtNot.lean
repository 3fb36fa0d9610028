
/-
  MatchNot: a matcher that is turned round is the other one; all of some are all of the first, and of the others.
-/
import Derived.Test.YtndlfieignhjjaaDoorMtArg
import Derived.Test.YtndlfieignhjjaaDoorLawD
import Derived.Test.YtndlfieignhjjaaDoorTie
import Derived.Test.YtndlfieignhjjaaDoorCards
import Derived.SevenTiedAt
namespace Go.Proofs.YtndlfieignhjjaaDoor.matchNot
open Go.RowKit Go.Sl Go.ChangeShapes

theorem field_not (n v : Txt) (how : Int) (no : Bool) (F : List Fd) : fieldR ⟨n, v, how, !no⟩ F = !fieldR ⟨n, v, how, no⟩ F := by
  unfold fieldR
  show (F.any (hasR ⟨n, v, how, no⟩) != !no) = !(F.any (hasR ⟨n, v, how, no⟩) != no)
  cases F.any (hasR ⟨n, v, how, no⟩) <;> cases no <;> rfl

theorem at_place {at' : Int} {n : Nat} (h : 0 < at') : ∃ k : Nat, at'.tmod ((n : Int) + 1) = (k : Int) ∧ k ≤ n := by
  have h1 := Int.tmod_nonneg ((n : Int) + 1) (Int.le_of_lt h)
  have h2 := Int.tmod_lt_of_pos at' (show (0 : Int) < (n : Int) + 1 by omega)
  exact ⟨(at'.tmod ((n : Int) + 1)).toNat, by omega, by omega⟩

theorem mrs_drop {w : World} {ao : Option Addr} {cap : Nat} {L : List Mr} (h : rd w 4 (.slice ao L.length cap) L.length (mrs L)) {k : Nat} (hk : k ≤ L.length) : rd w 4 (.slice (cutA ao cap k 4) (L.length - k) (cap - k)) (L.drop k).length (mrs (L.drop k)) := by
  have := rd_cut (by decide) h k L.length hk (Nat.le_refl _)
  have e : (mrs L).drop (k * 4) = mrs (L.drop k) := by
    conv => lhs; rw [← List.take_append_drop k L, ← mrs_app]
    rw [List.drop_append, List.drop_eq_nil_of_le (by rw [mrs_len]; simp; omega), mrs_len, show k * 4 - (L.take k).length * 4 = 0 by simp; omega, List.drop_zero, List.nil_append]
  rw [e, List.take_of_length_le (by rw [mrs_len]; simp)] at this
  rw [List.length_drop]
  exact this
section
variable {P : Program} {C : World → Prop} {q : Act → Prop} {ops : Array Oper} {rest : List Oper} {a : Act} {x y : Operand} {d : Option Tmp} {ty T : TypeId} {pos : String} {after : Array Edge} {g : Option (Nat × Bool)}
theorem atq_sliceLo (h : wpQuiet P ops C q (⟨d, .slice T x (some y) none none, ty, pos, after, g⟩ :: rest) a) : wpQuiet P ops C q (⟨d, .slice T x (some y) none none, ty, pos, after, g⟩ :: rest) a := h
end


set_option maxHeartbeats 8000000 in
set_option maxRecDepth 100000 in
theorem notW {w0 : World} {v u : Value} {at' : Int} {M0 : List Mr} {F0 : List Fd} (hm : rd w0 4 v M0.length (mrs M0)) (hf : rd w0 3 u F0.length (fds F0)) (hlen0 : ∀ f ∈ F0, f.2.1.length ≤ 9223372036854775807) :
    Calls Tryd.prog 10 #[v, u, .int .i64 at'] w0 fun e w' => e = .returned (.bool true) ∧ Below w0.heap.size w0 w' := by
  have G := own_begin w0
  obtain ⟨mo, mc, rfl, i1, i2, -⟩ := id hm
  obtain ⟨fo, fc, rfl, j1, j2, -⟩ := id hf
  unfold maxLen at i2 j2
  obtain ⟨k, k0, k1, k2⟩ : ∃ k : Nat, min (M0.length : Int) 50 = (k : Int) ∧ k ≤ M0.length ∧ k ≤ 50 := ⟨min M0.length 50, by omega, by omega, by omega⟩
  obtain ⟨l, l0, l1, l2⟩ : ∃ k : Nat, min (F0.length : Int) 100 = (k : Int) ∧ k ≤ F0.length ∧ k ≤ 100 := ⟨min F0.length 100, by omega, by omega, by omega⟩
  have hm1 := mrs_take hm rfl k1
  have hf1 := fds_take hf rfl l1
  have hlen : ∀ m ∈ F0.take l, m.2.1.length ≤ 9223372036854775807 := fun m h => hlen0 m (List.mem_of_mem_take h)
  obtain ⟨M, hM⟩ : ∃ M, M0.take k = M := ⟨_, rfl⟩
  obtain ⟨F, hF⟩ : ∃ F, F0.take l = F := ⟨_, rfl⟩
  have e1 : M.length = k := by rw [← hM]; simp; omega
  have e2 : F.length = l := by rw [← hF]; simp; omega
  rw [hM] at hm1
  rw [hF] at hf1 hlen
  have hl : ∀ A w, Own w0 A w → rd w 4 (.slice mo k mc) M.length (mrs M) := fun A w h => hm1.old h
  have hu : ∀ A w, Own w0 A w → rd w 3 (.slice fo l fc) F.length (fds F) := fun A w h => hf1.old h
  clear hm hf hM hF hlen0 hm1 hf1
  subst e1 e2
  go_enter Tryd.func10, Tryd.ntmps10
  go_wp2_with fail
  refine Calls.mono (shownMt G) ?_
  clear G; rintro e w ⟨rfl, G⟩
  go_wp2_with fail
  go_loopw [8, 9] (fun i p wr => ∃ j : Nat, i = .int .i64 j ∧ j ≤ M.length ∧ Own w0 emp wr) (fun i _ _ => M.length - (intOf i).toNat)
  case atStart => exact ⟨0, rfl, Nat.zero_le _, G⟩
  case round =>
    clear G
    obtain ⟨j, rfl, hj, G⟩ := hrel
    by_cases hjn : j < M.length
    · obtain ⟨⟨n, v, how, no⟩, hm⟩ : ∃ m, M[j]? = some m := ⟨M[j], List.getElem?_eq_getElem hjn⟩
      obtain ⟨ad, rfl⟩ := rd_some (hl _ _ G) (by omega)
      have HF := Lib.hid (mrs_at hm)
      obtain ⟨r, hr⟩ : ∃ r, fieldR ⟨n, v, how, no⟩ F = r := ⟨_, rfl⟩
      have HR := Lib.hid hr
      have HN : Hid (fieldR ⟨n, v, how, !no⟩ F = !r) := Lib.hid (by rw [field_not, hr])
      clear hm hr
      go_wp2_with (first
        | ((with_reducible refine at_load ?_); refine wpu_loadE (k := j) (hl _ _ G) HF.out rfl (by kernel_rfl) rfl rfl ?_; go_frame)
        | ((with_reducible refine at_alloc ?_); refine wpu_new G ?_; clear G; intro w G)
        | ((with_reducible refine at_drew ?_); refine wpu_drew G ?_; clear G; intro w G)
        | ((with_reducible refine at_load ?_); first
          | (refine wpu_load G rfl rfl rfl rfl ?_; go_frame)
          | (refine wpu_loadB G rfl rfl rfl (by rfl) ?_; go_frame)
          | (refine wpu_loadS G rfl rfl rfl (by rfl) ?_; simp only [List.drop_succ_cons, List.drop_zero, List.take_succ_cons, List.take_zero]; go_frame))
        | ((with_reducible refine at_store ?_); first
          | (refine wpu_store G rfl rfl rfl rfl (by first | rfl | assumption | simp [*]) rfl ?_; clear G; intro w G; go_frame)
          | (refine wpu_storeB G rfl rfl rfl rfl (by rfl) (by rfl) (by first | rfl | assumption | simp [*]) ?_; clear G; intro w G; go_frame)
          | (refine wpu_storeS G rfl rfl rfl rfl (by rfl) (by rfl) (by first | rfl | assumption | simp [*]) ?_; clear G; intro w G; go_frame))
        | ((with_reducible refine at_convert ?_); refine wpu_str G rfl rfl rfl rfl ?_; go_frame)
        | ((with_reducible refine at_slice ?_); first
          | (refine wpu_sliceLo rfl rfl rfl rfl (by first | rfl | omega) (by omega) (by omega) ?_; go_frame)
          | (refine wpu_sliceLH rfl rfl rfl rfl rfl (by first | rfl | omega) (by first | rfl | omega) (by omega) (by omega) ?_; go_frame))
        | fail)
      refine wp_region_mix [0, 0, 1, 0, 0, 0, 0, 0, 1, 0] (Own w0 _) (by kernel_rfl) (by kernel_rfl) (own_drew G) ?_
      refine mix_calm 2 ((own_drew G)) (by rfl) (by rfl) ?_
      intro ι W hne hW
      dsimp only [List.take, List.drop]
      repeat (first | ((with_reducible refine atq_load ?_); first | (refine wpq_load hW rfl rfl rfl rfl ?_; go_frame) | (refine wpq_loadB hW rfl rfl rfl (by rfl) ?_; go_frame) | (refine wpq_loadS hW rfl rfl rfl (by rfl) ?_; simp only [List.drop_succ_cons, List.drop_zero, List.take_succ_cons, List.take_zero]; go_frame)) | (fail) | go_big_quiet_step (fail))
      refine wpQuiet_nil ?_
      clear  hW hne W ι
      refine mix_loud rfl (fun K hK => ?_)
      go_wp2_with fail
      refine Calls.mono (fieldC (m := ⟨n, v, how, !no⟩) hlen (own_drew G) (hu _)) ?_
      clear G; rintro e w ⟨rfl, G⟩
      rw [HN.out]
      refine hK _ _ ⟨G, ?_⟩
      clear hK
      try go_frame
      refine mix_calm 5 (G) (by rfl) (by rfl) ?_
      intro ι W hne hW
      dsimp only [List.take, List.drop]
      repeat (first | ((with_reducible refine atq_load ?_); refine wpq_loadE (k := j) (fun i => hl _ _ (hW i)) HF.out rfl (by kernel_rfl) rfl rfl ?_; go_frame) | ((with_reducible refine atq_load ?_); first | (refine wpq_load hW rfl rfl rfl rfl ?_; go_frame) | (refine wpq_loadB hW rfl rfl rfl (by rfl) ?_; go_frame)) | go_big_quiet_step (fail))
      refine wpQuiet_nil ?_
      clear  hW hne W ι
      refine mix_loud rfl (fun K hK => ?_)
      go_wp2_with fail
      refine Calls.mono (fieldC (m := ⟨n, v, how, no⟩) hlen G (hu _)) ?_
      clear G; rintro e w ⟨rfl, G⟩
      rw [HR.out]
      refine hK _ _ ⟨G, ?_⟩
      clear hK
      try go_frame
      refine mix_calm 1 (G) (by rfl) (by rfl) ?_
      intro ι W hne hW
      dsimp only [List.take, List.drop]
      repeat (first | ((with_reducible refine atq_load ?_); first | (refine wpq_load hW rfl rfl rfl rfl ?_; go_frame) | (refine wpq_loadB hW rfl rfl rfl (by rfl) ?_; go_frame) | (refine wpq_loadS hW rfl rfl rfl (by rfl) ?_; simp only [List.drop_succ_cons, List.drop_zero, List.take_succ_cons, List.take_zero]; go_frame)) | (fail) | go_big_quiet_step (fail))
      refine wpQuiet_nil ?_
      clear  hW hne W ι
      refine mix_nil ?_
      cases r
      · go_wp2_with fail
        go_roundw
        case rel => exact ⟨j + 1, by go_num, by omega, G.right⟩
        case measure => simp [intOf] <;> omega
      · go_wp2_with fail
        go_roundw
        case rel => exact ⟨j + 1, by go_num, by omega, G.right⟩
        case measure => simp [intOf] <;> omega
    · by_cases hat : 0 < at'
      · obtain ⟨k, hk, hk1⟩ := at_place (n := M.length) hat
        go_wp2_with fail
        obtain ⟨a, ha⟩ : ∃ a, (M.all fun m => fieldR m F) = a := ⟨_, rfl⟩
        obtain ⟨b, hb⟩ : ∃ b, ((M.take k).all fun m => fieldR m F) = b := ⟨_, rfl⟩
        obtain ⟨c, hc⟩ : ∃ c, ((M.drop k).all fun m => fieldR m F) = c := ⟨_, rfl⟩
        have habc : Hid (a = (b && c)) := Lib.hid (by rw [← ha, ← hb, ← hc, ← List.all_append, List.take_append_drop])
        have HFN : Hid (∀ w, Own w0 emp w → Calls Tryd.prog 23 #[.slice none 0 0, .slice fo F.length fc] w fun e w' => e = .returned (.bool true) ∧ Own w0 emp w') := Lib.hid fun w h => fieldsC (L := []) hlen h (hu _) (fun w _ => rd_nil w 4)
        have HFA : Hid (∀ w, Own w0 emp w → Calls Tryd.prog 23 #[.slice mo M.length mc, .slice fo F.length fc] w fun e w' => e = .returned (.bool a) ∧ Own w0 emp w') := Lib.hid fun w h => by
          have := fieldsC hlen h (hu _) (hl _)
          rwa [ha] at this
        have HFB : Hid (∀ w, Own w0 emp w → Calls Tryd.prog 23 #[.slice mo k mc, .slice fo F.length fc] w fun e w' => e = .returned (.bool b) ∧ Own w0 emp w') := Lib.hid fun w h => by
          have := fieldsC (L := M.take k) (v := .slice mo k mc) hlen h (hu _) (fun w h => mrs_take (hl _ w h) rfl hk1)
          rwa [hb] at this
        have HFC : Hid (∀ w, Own w0 emp w → Calls Tryd.prog 23 #[.slice (cutA mo mc k 4) (M.length - k) (mc - k), .slice fo F.length fc] w fun e w' => e = .returned (.bool c) ∧ Own w0 emp w') := Lib.hid fun w h => by
          have := fieldsC (L := M.drop k) (v := .slice (cutA mo mc k 4) (M.length - k) (mc - k)) hlen h (hu _) (fun w h => mrs_drop (hl _ w h) hk1)
          rwa [hc] at this
        clear ha hb hc
        as_aux_lemma =>
        refine wp_region_mix [0, 0, 0, 1, 0, 0, 0, 0, 1, 0, 0, 0, 0, 1, 0, 0, 0, 0, 0, 1, 0, 0, 0, 0] (Own w0 _) (by kernel_rfl) (by kernel_rfl) (own_drew G) ?_
        refine mix_calm 3 ((own_drew G)) (by rfl) (by rfl) ?_
        intro ι W hne hW
        dsimp only [List.take, List.drop]
        repeat (first | ((with_reducible refine atq_load ?_); first | (refine wpq_load hW rfl rfl rfl rfl ?_; go_frame) | (refine wpq_loadB hW rfl rfl rfl (by rfl) ?_; go_frame) | (refine wpq_loadS hW rfl rfl rfl (by rfl) ?_; simp only [List.drop_succ_cons, List.drop_zero, List.take_succ_cons, List.take_zero]; go_frame)) | (fail) | go_big_quiet_step (fail))
        refine wpQuiet_nil ?_
        clear  hW hne W ι
        refine mix_loud_g (by kernel_rfl) (fun K hK => ?_)
        go_wp2_with fail
        refine Calls.mono (HFN.out _ (own_drew G)) ?_
        clear G; rintro e w ⟨rfl, G⟩
        refine hK _ _ ⟨G, ?_⟩
        clear hK
        try go_frame
        refine mix_calm 4 (G) (by rfl) (by rfl) ?_
        intro ι W hne hW
        dsimp only [List.take, List.drop]
        repeat (first | ((with_reducible refine atq_load ?_); first | (refine wpq_load hW rfl rfl rfl rfl ?_; go_frame) | (refine wpq_loadB hW rfl rfl rfl (by rfl) ?_; go_frame) | (refine wpq_loadS hW rfl rfl rfl (by rfl) ?_; simp only [List.drop_succ_cons, List.drop_zero, List.take_succ_cons, List.take_zero]; go_frame)) | (fail) | go_big_quiet_step (fail))
        refine wpQuiet_nil ?_
        clear  hW hne W ι
        refine mix_loud_g (by kernel_rfl) (fun K hK => ?_)
        go_wp2_with fail
        refine Calls.mono (HFA.out _ G) ?_
        clear G; rintro e w ⟨rfl, G⟩
        refine hK _ _ ⟨G, ?_⟩
        clear hK
        try go_frame
        refine mix_calm 4 (G) (by rfl) (by rfl) ?_
        intro ι W hne hW
        dsimp only [List.take, List.drop]
        repeat (first | ((with_reducible refine atq_load ?_); first | (refine wpq_load hW rfl rfl rfl rfl ?_; go_frame) | (refine wpq_loadB hW rfl rfl rfl (by rfl) ?_; go_frame) | (refine wpq_loadS hW rfl rfl rfl (by rfl) ?_; simp only [List.drop_succ_cons, List.drop_zero, List.take_succ_cons, List.take_zero]; go_frame)) | (fail) | go_big_quiet_step (fail))
        refine wpQuiet_nil ?_
        clear  hW hne W ι
        refine mix_loud_g (by kernel_rfl) (fun K hK => ?_)
        go_wp2_with fail
        refine Calls.mono (HFB.out _ G) ?_
        clear G; rintro e w ⟨rfl, G⟩
        refine hK _ _ ⟨G, ?_⟩
        clear hK
        try go_frame
        cases b
        · have ea : a = false := habc.out
          clear habc
          subst ea
          refine mix_calm 5 (G) (by rfl) (by rfl) ?_
          intro ι W hne hW
          dsimp only [List.take, List.drop]
          repeat (first | ((with_reducible refine atq_load ?_); first | (refine wpq_load hW rfl rfl rfl rfl ?_; go_frame) | (refine wpq_loadB hW rfl rfl rfl (by rfl) ?_; go_frame) | (refine wpq_loadS hW rfl rfl rfl (by rfl) ?_; simp only [List.drop_succ_cons, List.drop_zero, List.take_succ_cons, List.take_zero]; go_frame)) | (fail) | go_big_quiet_step (fail))
          refine wpQuiet_nil ?_
          clear  hW hne W ι
          refine Go.Sl.mix_skip rfl (by kernel_rfl) ?_
          try go_frame
          refine mix_calm 4 (G) (by rfl) (by rfl) ?_
          intro ι W hne hW
          dsimp only [List.take, List.drop]
          repeat (first | ((with_reducible refine atq_load ?_); first | (refine wpq_load hW rfl rfl rfl rfl ?_; go_frame) | (refine wpq_loadB hW rfl rfl rfl (by rfl) ?_; go_frame) | (refine wpq_loadS hW rfl rfl rfl (by rfl) ?_; simp only [List.drop_succ_cons, List.drop_zero, List.take_succ_cons, List.take_zero]; go_frame)) | (fail) | go_big_quiet_step (fail))
          refine wpQuiet_nil ?_
          clear  hW hne W ι
          refine mix_nil ?_
          go_wp2_with fail
          go_ret
          exact ⟨rfl, G.below⟩
        · have ea : a = c := habc.out
          clear habc
          subst ea
          refine mix_calm 5 (G) (by rfl) (by rfl) ?_
          intro ι W hne hW
          dsimp only [List.take, List.drop]
          repeat (first | ((with_reducible refine atq_sliceLo ?_); refine wpq_sliceLo rfl (by kernel_rfl) rfl rfl rfl hk1 (by omega) ?_; go_frame) | ((with_reducible refine atq_load ?_); first | (refine wpq_load hW rfl rfl rfl rfl ?_; go_frame) | (refine wpq_loadB hW rfl rfl rfl (by rfl) ?_; go_frame)) | go_big_quiet_step (fail))
          refine wpQuiet_nil ?_
          clear  hW hne W ι
          refine mix_loud_g (by kernel_rfl) (fun K hK => ?_)
          go_wp2_with fail
          refine Calls.mono (HFC.out _ G) ?_
          clear G; rintro e w ⟨rfl, G⟩
          refine hK _ _ ⟨G, ?_⟩
          clear hK
          try go_frame
          refine mix_calm 4 (G) (by rfl) (by rfl) ?_
          intro ι W hne hW
          dsimp only [List.take, List.drop]
          repeat (first | ((with_reducible refine atq_load ?_); first | (refine wpq_load hW rfl rfl rfl rfl ?_; go_frame) | (refine wpq_loadB hW rfl rfl rfl (by rfl) ?_; go_frame) | (refine wpq_loadS hW rfl rfl rfl (by rfl) ?_; simp only [List.drop_succ_cons, List.drop_zero, List.take_succ_cons, List.take_zero]; go_frame)) | (fail) | go_big_quiet_step (fail))
          refine wpQuiet_nil ?_
          clear  hW hne W ι
          refine mix_nil ?_
          go_wp2_with fail
          go_ret
          exact ⟨by cases a <;> rfl, G.below⟩
      · obtain ⟨k, hk, hk1⟩ : ∃ k : Nat, (0 : Int) = (k : Int) ∧ k ≤ M.length := ⟨0, rfl, Nat.zero_le _⟩
        go_wp2_with fail
        obtain ⟨a, ha⟩ : ∃ a, (M.all fun m => fieldR m F) = a := ⟨_, rfl⟩
        obtain ⟨b, hb⟩ : ∃ b, ((M.take k).all fun m => fieldR m F) = b := ⟨_, rfl⟩
        obtain ⟨c, hc⟩ : ∃ c, ((M.drop k).all fun m => fieldR m F) = c := ⟨_, rfl⟩
        have habc : Hid (a = (b && c)) := Lib.hid (by rw [← ha, ← hb, ← hc, ← List.all_append, List.take_append_drop])
        have HFN : Hid (∀ w, Own w0 emp w → Calls Tryd.prog 23 #[.slice none 0 0, .slice fo F.length fc] w fun e w' => e = .returned (.bool true) ∧ Own w0 emp w') := Lib.hid fun w h => fieldsC (L := []) hlen h (hu _) (fun w _ => rd_nil w 4)
        have HFA : Hid (∀ w, Own w0 emp w → Calls Tryd.prog 23 #[.slice mo M.length mc, .slice fo F.length fc] w fun e w' => e = .returned (.bool a) ∧ Own w0 emp w') := Lib.hid fun w h => by
          have := fieldsC hlen h (hu _) (hl _)
          rwa [ha] at this
        have HFB : Hid (∀ w, Own w0 emp w → Calls Tryd.prog 23 #[.slice mo k mc, .slice fo F.length fc] w fun e w' => e = .returned (.bool b) ∧ Own w0 emp w') := Lib.hid fun w h => by
          have := fieldsC (L := M.take k) (v := .slice mo k mc) hlen h (hu _) (fun w h => mrs_take (hl _ w h) rfl hk1)
          rwa [hb] at this
        have HFC : Hid (∀ w, Own w0 emp w → Calls Tryd.prog 23 #[.slice (cutA mo mc k 4) (M.length - k) (mc - k), .slice fo F.length fc] w fun e w' => e = .returned (.bool c) ∧ Own w0 emp w') := Lib.hid fun w h => by
          have := fieldsC (L := M.drop k) (v := .slice (cutA mo mc k 4) (M.length - k) (mc - k)) hlen h (hu _) (fun w h => mrs_drop (hl _ w h) hk1)
          rwa [hc] at this
        clear ha hb hc
        as_aux_lemma =>
        refine wp_region_mix [0, 0, 0, 1, 0, 0, 0, 0, 1, 0, 0, 0, 0, 1, 0, 0, 0, 0, 0, 1, 0, 0, 0, 0] (Own w0 _) (by kernel_rfl) (by kernel_rfl) (own_drew G) ?_
        refine mix_calm 3 ((own_drew G)) (by rfl) (by rfl) ?_
        intro ι W hne hW
        dsimp only [List.take, List.drop]
        repeat (first | ((with_reducible refine atq_load ?_); first | (refine wpq_load hW rfl rfl rfl rfl ?_; go_frame) | (refine wpq_loadB hW rfl rfl rfl (by rfl) ?_; go_frame) | (refine wpq_loadS hW rfl rfl rfl (by rfl) ?_; simp only [List.drop_succ_cons, List.drop_zero, List.take_succ_cons, List.take_zero]; go_frame)) | (fail) | go_big_quiet_step (fail))
        refine wpQuiet_nil ?_
        clear  hW hne W ι
        refine mix_loud_g (by kernel_rfl) (fun K hK => ?_)
        go_wp2_with fail
        refine Calls.mono (HFN.out _ (own_drew G)) ?_
        clear G; rintro e w ⟨rfl, G⟩
        refine hK _ _ ⟨G, ?_⟩
        clear hK
        try go_frame
        refine mix_calm 4 (G) (by rfl) (by rfl) ?_
        intro ι W hne hW
        dsimp only [List.take, List.drop]
        repeat (first | ((with_reducible refine atq_load ?_); first | (refine wpq_load hW rfl rfl rfl rfl ?_; go_frame) | (refine wpq_loadB hW rfl rfl rfl (by rfl) ?_; go_frame) | (refine wpq_loadS hW rfl rfl rfl (by rfl) ?_; simp only [List.drop_succ_cons, List.drop_zero, List.take_succ_cons, List.take_zero]; go_frame)) | (fail) | go_big_quiet_step (fail))
        refine wpQuiet_nil ?_
        clear  hW hne W ι
        refine mix_loud_g (by kernel_rfl) (fun K hK => ?_)
        go_wp2_with fail
        refine Calls.mono (HFA.out _ G) ?_
        clear G; rintro e w ⟨rfl, G⟩
        refine hK _ _ ⟨G, ?_⟩
        clear hK
        try go_frame
        refine mix_calm 4 (G) (by rfl) (by rfl) ?_
        intro ι W hne hW
        dsimp only [List.take, List.drop]
        repeat (first | ((with_reducible refine atq_load ?_); first | (refine wpq_load hW rfl rfl rfl rfl ?_; go_frame) | (refine wpq_loadB hW rfl rfl rfl (by rfl) ?_; go_frame) | (refine wpq_loadS hW rfl rfl rfl (by rfl) ?_; simp only [List.drop_succ_cons, List.drop_zero, List.take_succ_cons, List.take_zero]; go_frame)) | (fail) | go_big_quiet_step (fail))
        refine wpQuiet_nil ?_
        clear  hW hne W ι
        refine mix_loud_g (by kernel_rfl) (fun K hK => ?_)
        go_wp2_with fail
        refine Calls.mono (HFB.out _ G) ?_
        clear G; rintro e w ⟨rfl, G⟩
        refine hK _ _ ⟨G, ?_⟩
        clear hK
        try go_frame
        cases b
        · have ea : a = false := habc.out
          clear habc
          subst ea
          refine mix_calm 5 (G) (by rfl) (by rfl) ?_
          intro ι W hne hW
          dsimp only [List.take, List.drop]
          repeat (first | ((with_reducible refine atq_load ?_); first | (refine wpq_load hW rfl rfl rfl rfl ?_; go_frame) | (refine wpq_loadB hW rfl rfl rfl (by rfl) ?_; go_frame) | (refine wpq_loadS hW rfl rfl rfl (by rfl) ?_; simp only [List.drop_succ_cons, List.drop_zero, List.take_succ_cons, List.take_zero]; go_frame)) | (fail) | go_big_quiet_step (fail))
          refine wpQuiet_nil ?_
          clear  hW hne W ι
          refine Go.Sl.mix_skip rfl (by kernel_rfl) ?_
          try go_frame
          refine mix_calm 4 (G) (by rfl) (by rfl) ?_
          intro ι W hne hW
          dsimp only [List.take, List.drop]
          repeat (first | ((with_reducible refine atq_load ?_); first | (refine wpq_load hW rfl rfl rfl rfl ?_; go_frame) | (refine wpq_loadB hW rfl rfl rfl (by rfl) ?_; go_frame) | (refine wpq_loadS hW rfl rfl rfl (by rfl) ?_; simp only [List.drop_succ_cons, List.drop_zero, List.take_succ_cons, List.take_zero]; go_frame)) | (fail) | go_big_quiet_step (fail))
          refine wpQuiet_nil ?_
          clear  hW hne W ι
          refine mix_nil ?_
          go_wp2_with fail
          go_ret
          exact ⟨rfl, G.below⟩
        · have ea : a = c := habc.out
          clear habc
          subst ea
          refine mix_calm 5 (G) (by rfl) (by rfl) ?_
          intro ι W hne hW
          dsimp only [List.take, List.drop]
          repeat (first | ((with_reducible refine atq_sliceLo ?_); refine wpq_sliceLo rfl (by kernel_rfl) rfl rfl rfl hk1 (by omega) ?_; go_frame) | ((with_reducible refine atq_load ?_); first | (refine wpq_load hW rfl rfl rfl rfl ?_; go_frame) | (refine wpq_loadB hW rfl rfl rfl (by rfl) ?_; go_frame)) | go_big_quiet_step (fail))
          refine wpQuiet_nil ?_
          clear  hW hne W ι
          refine mix_loud_g (by kernel_rfl) (fun K hK => ?_)
          go_wp2_with fail
          refine Calls.mono (HFC.out _ G) ?_
          clear G; rintro e w ⟨rfl, G⟩
          refine hK _ _ ⟨G, ?_⟩
          clear hK
          try go_frame
          refine mix_calm 4 (G) (by rfl) (by rfl) ?_
          intro ι W hne hW
          dsimp only [List.take, List.drop]
          repeat (first | ((with_reducible refine atq_load ?_); first | (refine wpq_load hW rfl rfl rfl rfl ?_; go_frame) | (refine wpq_loadB hW rfl rfl rfl (by rfl) ?_; go_frame) | (refine wpq_loadS hW rfl rfl rfl (by rfl) ?_; simp only [List.drop_succ_cons, List.drop_zero, List.take_succ_cons, List.take_zero]; go_frame)) | (fail) | go_big_quiet_step (fail))
          refine wpQuiet_nil ?_
          clear  hW hne W ι
          refine mix_nil ?_
          go_wp2_with fail
          go_ret
          exact ⟨by cases a <;> rfl, G.below⟩

theorem contract {H : Type} {enc : TypeId × Value → H} {W : World} {vs : List Value} {ds : List (DataW H)}
    (hA : Args enc Tryd.prog W [40, 33, 3] vs ds) (hsz : (DataW.weightsEach Tryd.prog [40, 33, 3] ds).all (· ≤ reachBytes) = true) (hL : laidMetH Tryd.prog Rows.matchNotRow.laid W) :
    Calls Tryd.prog 10 vs.toArray W fun e W' => e = .returned (.bool true) ∧ Below W.heap.size W W' := by
  obtain ⟨v0, _, d0, _, rfl, rfl, h0, hA⟩ := args_cons hA
  obtain ⟨v1, _, d1, _, rfl, rfl, h1, hA⟩ := args_cons hA
  obtain ⟨v2, _, d2, _, rfl, rfl, h2, hA⟩ := args_cons hA
  obtain ⟨rfl, rfl⟩ := args_nil hA
  obtain ⟨M, hm, km⟩ := mrs_in h0
  obtain ⟨F, hf, kf⟩ := fds_in h1
  obtain ⟨x, rfl, -⟩ := arg_i64 Tryd.underlying3 h2
  unfold maxLen at km kf
  exact notW hm hf (fun f h => (kf f h).2)


theorem spec {H : Type} : ∀ ds : List (DataW H), ds.length = 3 → Rows.matchNotSpec.fn H ds = { results := [.lit (.bool true)], args := ds }
  | [_, _, _], _ => rfl
  | [], h => by cases h
  | [_], h => by cases h
  | [_, _], h => by cases h
  | _ :: _ :: _ :: _ :: _, h => by simp at h
theorem door_met (os : Os) (args : Array Value) : laidMetH Tryd.prog Rows.matchNotRow.laid ((World.setRow (World.doorLaid Tryd.prog 19 os) (Tryd.prog.globalNamed "unicode/utf8.first").get! (Go.Pinned.utf8FirstZ.map fun z : Nat => Value.int .u8 (z : Int)).toArray).forCall (fun _ _ => 0) ⟨#[], args, []⟩).memory :=
  laidMetH_of_parts3 (fuel := 8) (laidMet_of_run' 8 (by kernel_rfl) (by kernel_rfl)) (by kernel_rfl) (by kernel_rfl)
set_option maxRecDepth 100000 in
theorem lifted (os : Os) (started : os.Started) (H : Type) (enc : TypeId × Value → H) :
    ReturnsInHanded {} Tryd.checked os 10 .any (fun w args => (Rows.matchNotSpec.pre enc Tryd.prog Tryd.f10 Rows.matchNotRow.domain false w args ∧ laidMetH Tryd.prog Rows.matchNotRow.laid w) ∧ sizedMet enc Tryd.prog Tryd.f10 (OpenSpec.ofChange Rows.matchNotSpec) false w args)
      (Rows.matchNotSpec.post enc Tryd.prog Tryd.f10 false true false false) :=
  lifted_of_law_laid (C := Tryd.checked) (fn := Tryd.f10) (s := Rows.matchNotSpec) (tb := 4) (by kernel_rfl) started (by kernel_rfl) Tryd.func10
    (ChangeSpec.witness_shaped (enc := enc) (C := Tryd.checked) (os := os) (X := fun w _ => laidMetH Tryd.prog Rows.matchNotRow.laid w) false (World.setRow (World.doorLaid Tryd.prog 19 os) (Tryd.prog.globalNamed "unicode/utf8.first").get! (Go.Pinned.utf8FirstZ.map fun z : Nat => Value.int .u8 (z : Int)).toArray) #[.slice none 0 0, .slice none 0 0, .int .i64 0] 8 rfl (World.shaped_of_RefB (by kernel_rfl) (by kernel_rfl)) (by kernel_rfl) (by kernel_rfl) (by kernel_rfl) (door_met os _))
    rfl spec (by kernel_rfl) Tryd.underlying4 (by kernel_rfl) (by kernel_rfl) (fun _ _ _ h1 h2 h3 => contract h1 h2 h3)

theorem holds : Rows.MatchNotSaid :=
  OpenClaim.holds_of_wide 10 Tryd.f10 rfl rfl rfl rfl rfl rfl rfl ⟨rfl, rfl, rfl, rfl, rfl⟩ rfl rfl rfl rfl rfl (by kernel_rfl) Tryd.func10 (by kernel_rfl)
    (of_decide_eq_true (by kernel_rfl)) (by unfold Func.isWrapper; first | (rw [if_pos (by decide +kernel)]; kernel_rfl) | (rw [if_neg (by decide +kernel)]; exact ⟨rfl, rfl⟩))
    (fun os started H enc _ => lifted os started H enc)

theorem proved : Rows.MatchNotCardSaid :=
  Claim7.holds_tied_plain_at .later [] [.data, .pinned] true (true, "f900cad1524d6485163f1f119ee05e345095a2ecf467c548b528305676b6aa51") false
    holds (fun _ h => by cases h) (by kernel_rfl) (fun _ h => by cases h) matchNot_row_tie rfl ⟨rfl, rfl⟩ (by kernel_rfl) rfl
    (fun f fn hf hfn => by
      obtain rfl : f = 10 := Option.some.inj ((show Tryd.prog.funcNamed "flume/flumelaw15.MatchNot" = some 10 by kernel_rfl).symm.trans hf) |>.symm
      obtain rfl : fn = Tryd.f10 := (Option.some.inj (Tryd.func10.symm.trans hfn)).symm
      exact ⟨by kernel_rfl, fun j t ht => by
        rw [Tryd.params10] at ht
        have hm : t ∈ [40, 33, 3] := by simpa using Array.mem_of_getElem? ht
        have hall : ([40, 33, 3].all fun u => !Tryd.prog.wantsStandIn u) = true := by kernel_rfl
        exact (show Tryd.prog.wantsStandIn t = false by simpa using List.all_eq_true.1 hall t hm)⟩)
    (by kernel_rfl)
end Go.Proofs.YtndlfieignhjjaaDoor.matchNot
