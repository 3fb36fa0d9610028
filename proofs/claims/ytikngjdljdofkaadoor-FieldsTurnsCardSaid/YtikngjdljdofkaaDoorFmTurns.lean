

/-
  FieldsTurns: behind the pseudo fields the order does not matter.
-/
import Derived.Test.YtikngjdljdofkaaDoorFmEnd
import Derived.Test.YtikngjdljdofkaaDoorFmTurn
import Derived.Test.YtikngjdljdofkaaDoorLawD
import Derived.Test.YtikngjdljdofkaaDoorTie
import Derived.Test.YtikngjdljdofkaaDoorCards
import Derived.SevenTiedAt
namespace Go.Proofs.YtikngjdljdofkaaDoor.fieldsTurns
open Go.RowKit Go.Sl Go.ChangeShapes

theorem wpk_storeE {P : Program} {B w : World} {A A' : Assn} {Q : Exit → Act → World → Prop} {o : Oper} {a : Act} {K : Act → World → Prop} {T : TypeId} {ad x : Operand} {vs : List Value} {s : Addr} {cap n sz k : Nat} {xs : List Value} (h : Own B A w) [tk : TakeSl (.slice (some s) n cap) sz n xs A A'] (ho : o.op = .store T ad x) (ha' : evalO a ad = some (.pointer (some (s.add (k * sz))))) (hx' : evalO a x = some (.agg vs.toArray)) [hT : TyS P T sz] (hl : vs.length = sz) (h1 : vs.all (·.oneCell') = true) (hk : k < n)
    (kk : ∀ w', Own B (sl sz (.slice (some s) n cap) n (xs.take (k * sz) ++ vs ++ xs.drop (k * sz + sz)) * A') w' → K (a.put o.dst undef) w') : o.wp P a w K Q := by
  obtain ⟨w', hr, g⟩ := exec_storeE (P := P) (cap := cap) h ho ha' hx' hl h1 hk
  exact wpk_skip hr (kk w' g)
theorem lengths_take {L : List Fd} {j : Nat} {f : Fd} (h : L[j]? = some f) : lengths (L.take (j + 1)) = lengths (L.take j) + (if decide (f.1 = CL) then 1 else 0) := by
  unfold lengths
  rw [List.take_add_one, h, List.filter_append, List.length_append]
  cases e : decide (f.1 = CL) <;> simp [e]

theorem idx_in {x : Int} {n : Nat} (hn : 0 < n) : ∃ i : Nat, (bits .and .i64 x 255).tmod (n : Int) = (i : Int) ∧ (bits .and .i64 x 255) % (n : Int) = (i : Int) ∧ i < n := by
  obtain ⟨m, hm, -⟩ := and_i64 x 255 (by decide)
  exact ⟨m % n, by rw [show bits .and .i64 x 255 = (m : Int) from hm]; rfl, by rw [show bits .and .i64 x 255 = (m : Int) from hm]; rfl, Nat.mod_lt _ hn⟩

theorem big_st {L : List Fd} (h : ∀ f ∈ L, f.1.length ≤ 2000 ∧ f.2.1.length ≤ 2000) (hl : L.length ≤ 60) : (∀ f ∈ st :: L, f.1.length ≤ 1000000 ∧ f.2.1.length ≤ 1000000) ∧ (st :: L).length ≤ 1000 := by
  refine ⟨fun f hf => ?_, by simp; omega⟩
  rcases List.mem_cons.1 hf with rfl | hf
  · decide
  · have := h f hf; omega

theorem rd_len {w : World} {sz n n' : Nat} {v : Value} {xs : List Value} (e : n' = n) (h : rd w sz v n xs) : rd w sz v n' xs := e ▸ h

set_option maxHeartbeats 16000000 in
set_option maxRecDepth 100000 in
theorem turnsW {w0 : World} {v0 : Value} {L0 : List Fd} (x y : Int) (h0 : rd w0 3 v0 L0.length (fds L0)) (hv0 : ∀ f ∈ L0, f.1.length ≤ 9223372036854775807 ∧ f.2.1.length ≤ 9223372036854775807) :
    Calls Tryd.prog 7 #[v0, .int .i64 x, .int .i64 y] w0 fun e w' => e = .returned (.bool true) ∧ Below w0.heap.size w0 w' := by
  have G := own_begin w0
  go_enter Tryd.func7, Tryd.ntmps7
  go_wp2_with fail
  refine Calls.mono (shownFm G) ?_
  clear G; rintro e w ⟨rfl, G⟩
  go_wp2_with fail
  refine Calls.mono (fewC (L := L0) (n := 60) (by decide) G (fun w h => h0.old h) hv0) ?_
  clear G; rintro e w ⟨v, rfl, G⟩
  have s1 : ∀ f ∈ fewR L0 60, f.1.length ≤ 2000 ∧ f.2.1.length ≤ 2000 := fewR_small L0 60
  have s2 : (fewR L0 60).length ≤ 60 := by rw [fewR_len]; omega
  generalize fewR L0 60 = L at G s1 s2
  clear h0 hv0
  obtain ⟨vo, vc, rfl, v1, v2⟩ := G.hdr v
  unfold maxLen at v2
  go_wp2_with fail
  go_loopw [8, 9] (fun n i wr => ∃ j k : Nat, i = .int .i64 j ∧ n = .int .i64 k ∧ j ≤ L.length ∧ k ≤ j ∧ Hid (lengths (L.take j) = k) ∧ Own w0 (sl 3 (.slice vo L.length vc) L.length (fds L) * emp) wr) (fun _ i _ => L.length - (intOf i).toNat)
  case atStart => exact ⟨0, 0, rfl, rfl, Nat.zero_le _, Nat.le_refl _, Lib.hid rfl, G⟩
  case round =>
    clear G
    obtain ⟨j, k, rfl, rfl, hj, hk, HK, G⟩ := hrel
    by_cases hjn : j < L.length
    · obtain ⟨f, hf⟩ : ∃ f, L[j]? = some f := ⟨L[j], List.getElem?_eq_getElem hjn⟩
      obtain ⟨ad, rfl⟩ := rd_some (own_rd G) (by omega)
      have HF := Lib.hid (fds_at hf)
      have HL := Lib.hid (lengths_take hf)
      obtain ⟨q, hq⟩ : ∃ q, decide (f.1 = CL) = q := ⟨_, rfl⟩
      rw [hq] at HL
      clear hf
      cases q
      · go_wp2_with (first
          | ((with_reducible refine at_load ?_); refine wpu_loadF0 (k := j) (own_rd G) HF.out rfl (by kernel_rfl) rfl rfl ?_; go_frame)
          | ((with_reducible refine at_eqS ?_); refine wpu_eqS rfl (by kernel_rfl) rfl rfl hq ?_; go_frame)
          | fail)
        go_roundw
        case rel => exact ⟨j + 1, k, by go_num, rfl, by omega, by omega, Lib.hid (by rw [HL.out, HK.out]; rfl), G⟩
        case measure => simp [intOf] <;> omega
      · go_wp2_with (first
          | ((with_reducible refine at_load ?_); refine wpu_loadF0 (k := j) (own_rd G) HF.out rfl (by kernel_rfl) rfl rfl ?_; go_frame)
          | ((with_reducible refine at_eqS ?_); refine wpu_eqS rfl (by kernel_rfl) rfl rfl hq ?_; go_frame)
          | fail)
        go_roundw
        case rel => exact ⟨j + 1, k + 1, by go_num, by go_num, by omega, by omega, Lib.hid (by rw [HL.out, HK.out]; rfl), G⟩
        case measure => simp [intOf] <;> omega
    · have HK2 : Hid (lengths L = k) := Lib.hid (by have := HK.out; rwa [List.take_of_length_le (by omega)] at this)
      clear HK
      by_cases hlen : L.length < 2
      · have y1 : decide ((L.length : Int) < 2) = true := by simp; omega
        have y2 : decide (L.length < 2) = true := by simp; omega
        go_wp2_with (first
          | go_big_skip
          | fail)
        go_ret
        exact ⟨rfl, G.below⟩
      · have y1 : decide ((L.length : Int) < 2) = false := by simp; omega
        have y2 : decide (L.length < 2) = false := by simp; omega
        by_cases hk1 : 1 < k
        · have y3 : decide ((1 : Int) < (k : Int)) = true := by simp; omega
          have y4 : decide ((k : Int) > 1) = true := y3
          go_wp2_with fail
          go_ret
          exact ⟨rfl, G.below⟩
        · have y3 : decide ((1 : Int) < (k : Int)) = false := by simp; omega
          have y4 : decide ((k : Int) > 1) = false := y3
          have hal := alike_of (L := L) (by rw [HK2.out]; omega)
          clear HK2
          go_wp2_with (first
            | ((with_reducible refine at_build ?_); refine hold ?_)
            | fail)
          unfold Held
          refine wpu_val rfl (exec_buildT _ rfl (by kernel_rfl) (bld2 nStatus [50, 48, 48] _)) ?_
          go_frame
          have G1 := own_new_sl (n := 2) (sz := 1) G (pairs [st]) 9 rfl (by decide)
          clear G
          go_wp2_with fail
          refine Calls.mono (ofC (F := [st]) (by first | rfl | decide) (by decide) G1 (fun w h => own_rd h)) ?_
          clear G1; rintro e w ⟨t, rfl, G⟩
          change Own _ (sl 3 t 1 (fds [st]) * _) w at G
          obtain ⟨to, tc, rfl, t1, t2⟩ := G.hdr t
          unfold maxLen at t2
          go_wp2_with (first
            | ((with_reducible refine at_append ?_); refine wpu_append0 G rfl rfl rfl rfl (G.rd (.slice to 1 tc) _ G) (fds_one _) (by unfold maxLen; omega) (by omega) ?_; clear G; intro u w G; refine hold ?_)
            | ((with_reducible refine at_alloc ?_); refine wpu_new G ?_; clear G; intro w G)
            | ((with_reducible refine at_drew ?_); refine wpu_drew G ?_; clear G; intro w G)
            | ((with_reducible refine at_load ?_); first
              | (refine wpu_load G rfl rfl rfl rfl ?_; go_frame)
              | (refine wpu_loadB G rfl rfl rfl (by rfl) ?_; go_frame)
              | (refine wpu_loadS G rfl rfl rfl (by rfl) ?_; simp only [List.drop_succ_cons, List.drop_zero, List.take_succ_cons, List.take_zero]; go_frame))
            | ((with_reducible refine at_store ?_); first
              | (refine wpu_store G rfl rfl rfl rfl (by first | rfl | assumption | simp [*]) rfl ?_; clear G; intro w G; go_frame)
              | (refine wpu_storeB G rfl rfl rfl rfl (by rfl) (by rfl) (by first | rfl | assumption | simp [*]) ?_; clear G; intro w G; go_frame)
              | (refine wpu_storeS G rfl rfl rfl rfl (by rfl) (by rfl) (by first | rfl | assumption | simp [*]) ?_; clear G; intro w G; go_frame))
            | ((with_reducible refine at_convert ?_); refine wpu_str G rfl rfl rfl rfl ?_; go_frame)
            | ((with_reducible refine at_slice ?_); first
              | (refine wpu_sliceLo rfl rfl rfl rfl (by first | rfl | omega) (by omega) (by omega) ?_; go_frame)
              | (refine wpu_sliceLH rfl rfl rfl rfl rfl (by first | rfl | omega) (by first | rfl | omega) (by omega) (by omega) ?_; go_frame))
            | fail)
          unfold Held
          obtain ⟨co, cc, rfl, c1, c2⟩ := G.hdr u
          unfold maxLen at c2
          try go_frame
          go_wp2_with (first
            | ((with_reducible refine at_append ?_); refine wpu_append (v := .slice co 1 cc) G rfl rfl rfl rfl (G.rd (.slice vo L.length vc) _ G) (fds_one _) (by unfold maxLen; omega) (by omega) ?_; clear G; intro u w G; refine hold ?_)
            | fail)
          unfold Held
          rw [fds_app, show [st] ++ L = st :: L from rfl] at G
          obtain ⟨ao, ac, rfl, z1, z2⟩ := G.hdr u
          unfold maxLen at z2
          try go_frame
          go_wp2_with (first
            | ((with_reducible refine at_append ?_); refine wpu_append0 G rfl rfl rfl rfl (G.rd (.slice to 1 tc) _ G) (fds_one _) (by unfold maxLen; omega) (by omega) ?_; clear G; intro u w G; refine hold ?_)
            | ((with_reducible refine at_alloc ?_); refine wpu_new G ?_; clear G; intro w G)
            | ((with_reducible refine at_drew ?_); refine wpu_drew G ?_; clear G; intro w G)
            | ((with_reducible refine at_load ?_); first
              | (refine wpu_load G rfl rfl rfl rfl ?_; go_frame)
              | (refine wpu_loadB G rfl rfl rfl (by rfl) ?_; go_frame)
              | (refine wpu_loadS G rfl rfl rfl (by rfl) ?_; simp only [List.drop_succ_cons, List.drop_zero, List.take_succ_cons, List.take_zero]; go_frame))
            | ((with_reducible refine at_store ?_); first
              | (refine wpu_store G rfl rfl rfl rfl (by first | rfl | assumption | simp [*]) rfl ?_; clear G; intro w G; go_frame)
              | (refine wpu_storeB G rfl rfl rfl rfl (by rfl) (by rfl) (by first | rfl | assumption | simp [*]) ?_; clear G; intro w G; go_frame)
              | (refine wpu_storeS G rfl rfl rfl rfl (by rfl) (by rfl) (by first | rfl | assumption | simp [*]) ?_; clear G; intro w G; go_frame))
            | ((with_reducible refine at_convert ?_); refine wpu_str G rfl rfl rfl rfl ?_; go_frame)
            | ((with_reducible refine at_slice ?_); first
              | (refine wpu_sliceLo rfl rfl rfl rfl (by first | rfl | omega) (by omega) (by omega) ?_; go_frame)
              | (refine wpu_sliceLH rfl rfl rfl rfl rfl (by first | rfl | omega) (by first | rfl | omega) (by omega) (by omega) ?_; go_frame))
            | fail)
          unfold Held
          obtain ⟨co, cc, rfl, c1, c2⟩ := G.hdr u
          unfold maxLen at c2
          try go_frame
          go_wp2_with (first
            | ((with_reducible refine at_append ?_); refine wpu_append (v := .slice co 1 cc) G rfl rfl rfl rfl (G.rd (.slice vo L.length vc) _ G) (fds_one _) (by unfold maxLen; omega) (by omega) ?_; clear G; intro u w G; refine hold ?_)
            | fail)
          unfold Held
          rw [fds_app, show [st] ++ L = st :: L from rfl] at G
          obtain ⟨bo, bc, rfl, z1, z2⟩ := G.hdr u
          unfold maxLen at z2
          try go_frame
          have G1 := G.sub (sl 3 (.slice bo (1 + L.length) bc) (1 + L.length) (fds (st :: L)) * (sl 3 (.slice ao (1 + L.length) ac) (1 + L.length) (fds (st :: L)) * emp))
          clear G
          have G := G1
          clear G1
          obtain ⟨i, hi, hi', hiL⟩ := idx_in (x := x) (n := L.length) (by omega)
          obtain ⟨m, hm, hm', hmL⟩ := idx_in (x := y) (n := L.length) (by omega)
          obtain ⟨f, hf⟩ : ∃ f, L[i]? = some f := ⟨L[i], List.getElem?_eq_getElem hiL⟩
          obtain ⟨g, hg⟩ : ∃ f, L[m]? = some f := ⟨L[m], List.getElem?_eq_getElem hmL⟩
          have HMEM := Lib.hid (swap_mem hf hg)
          have HSZ := Lib.hid (swap_size hf hg)
          have HF : Hid (((fds (st :: L)).drop ((1 + i) * 3)).take 3 = [str f.1, str f.2.1, .bool f.2.2]) := Lib.hid (fds_at (by rw [Nat.add_comm]; simpa using hf))
          have HG : Hid (((fds (st :: L)).drop ((1 + m) * 3)).take 3 = [str g.1, str g.2.1, .bool g.2.2]) := Lib.hid (fds_at (by rw [Nat.add_comm]; simpa using hg))
          obtain ⟨bd, rfl⟩ := rd_some (own_rd G) (by omega)
          clear hf hg
          go_wp2_with fail
          refine wp_region_mix [3, 3, 3, 3, 3, 3, 3, 0, 3, 3, 3, 0, 3, 2, 3, 2] (Own w0 _) (by kernel_rfl) (by kernel_rfl) (own_drew G) ?_
          refine mix_plain 7 (by rfl) (by rfl) ?_
          intro ι W hne
          dsimp only [List.take, List.drop]
          repeat (go_big_quiet_step (fail))
          refine wpQuiet_nil ?_
          clear hne W ι
          refine mix_calm 1 ((own_drew G)) (by rfl) (by rfl) ?_
          intro ι W hne hW
          dsimp only [List.take, List.drop]
          repeat (first | ((with_reducible refine atq_load ?_); refine wpq_loadE (k := 1 + m) (fun i => own_rd (hW i)) HG.out rfl (by kernel_rfl) rfl rfl ?_; go_frame) | ((with_reducible refine atq_load ?_); first | (refine wpq_load hW rfl rfl rfl rfl ?_; go_frame) | (refine wpq_loadB hW rfl rfl rfl (by rfl) ?_; go_frame)) | go_big_quiet_step (fail))
          refine wpQuiet_nil ?_
          clear  hW hne W ι
          refine mix_plain 3 (by rfl) (by rfl) ?_
          intro ι W hne
          dsimp only [List.take, List.drop]
          repeat (go_big_quiet_step (fail))
          refine wpQuiet_nil ?_
          clear hne W ι
          refine mix_calm 1 ((own_drew G)) (by rfl) (by rfl) ?_
          intro ι W hne hW
          dsimp only [List.take, List.drop]
          repeat (first | ((with_reducible refine atq_load ?_); refine wpq_loadE (k := 1 + i) (fun i => own_rd (hW i)) HF.out rfl (by kernel_rfl) rfl rfl ?_; go_frame) | ((with_reducible refine atq_load ?_); first | (refine wpq_load hW rfl rfl rfl rfl ?_; go_frame) | (refine wpq_loadB hW rfl rfl rfl (by rfl) ?_; go_frame)) | go_big_quiet_step (fail))
          refine wpQuiet_nil ?_
          clear  hW hne W ι
          refine mix_plain 1 (by rfl) (by rfl) ?_
          intro ι W hne
          dsimp only [List.take, List.drop]
          repeat (go_big_quiet_step (fail))
          refine wpQuiet_nil ?_
          clear hne W ι
          refine mix_last rfl (fun K hK => ?_)
          refine wpk_storeE (s := bd) (cap := bc) (n := 1 + L.length) (sz := 3) (k := 1 + i) (own_drew G) rfl rfl rfl (by rfl) (by rfl) (by omega) ?_
          clear G; intro w G
          rw [← fds_set (X := st :: L) (k := 1 + i) (f := g) (by simp; omega)] at G
          refine hK _ _ ?_
          clear hK
          try go_frame
          refine mix_plain 1 (by rfl) (by rfl) ?_
          intro ι W hne
          dsimp only [List.take, List.drop]
          repeat (go_big_quiet_step (fail))
          refine wpQuiet_nil ?_
          clear hne W ι
          refine mix_last rfl (fun K hK => ?_)
          refine wpk_storeE (s := bd) (cap := bc) (n := 1 + L.length) (sz := 3) (k := 1 + m) G rfl rfl rfl (by rfl) (by rfl) (by omega) ?_
          clear G; intro w G
          rw [← fds_set (X := (st :: L).set (1 + i) g) (k := 1 + m) (f := f) (by simp; omega)] at G
          refine hK _ _ ?_
          clear hK
          try go_frame
          refine mix_nil ?_
          have hM : ((st :: L).set (1 + i) g).set (1 + m) f = st :: (L.set i g).set m f := by rw [Nat.add_comm 1 i, Nat.add_comm 1 m, List.set_cons_succ, List.set_cons_succ]
          rw [hM] at G
          have HMEM2 := HMEM.out
          have HSZ2 := HSZ.out
          have hml : ((L.set i g).set m f).length = L.length := by simp
          generalize (L.set i g).set m f = M at G HMEM2 HSZ2 hml
          clear HMEM HSZ HF HG hM
          have m1 : ∀ f ∈ M, f.1.length ≤ 2000 ∧ f.2.1.length ≤ 2000 := fun f hf => s1 f ((HMEM2 f).2 hf)
          obtain ⟨r1, r2⟩ := big_st s1 s2
          obtain ⟨r3, r4⟩ := big_st m1 (by omega)
          obtain ⟨mm, b, hmm, hb, -⟩ := msgV_eq (responseR (st :: L))
          have HM1 := Lib.hid hmm
          have HM2 : Hid (msgV (responseR (st :: M)) = _) := Lib.hid ((by rw [← turns HMEM2 hal] : msgV (responseR (st :: M)) = msgV (responseR (st :: L))).trans hmm)
          obtain ⟨z, hz⟩ : ∃ z, sizeR (st :: L) = z := ⟨_, rfl⟩
          have HZ1 := Lib.hid hz
          have HZ2 : Hid (sizeR (st :: M) = z) := Lib.hid (by rw [← hz]; simp only [sizeR, HSZ2])
          clear hmm hb hz HMEM2 HSZ2 hal
          have ha : ∀ {X : Assn} [Sub (sl 3 (.slice ao (1 + L.length) ac) (1 + L.length) (fds (st :: L))) X] (w : World), Own w0 X w → rd w 3 (.slice ao (1 + L.length) ac) (st :: L).length (fds (st :: L)) := fun w h => rd_len (by simp; omega) (own_rd ((h.sub (sl 3 (.slice ao (1 + L.length) ac) (1 + L.length) (fds (st :: L)))).eq (star_emp _).symm))
          have hb : ∀ {X : Assn} [Sub (sl 3 (.slice (some bd) (1 + L.length) bc) (1 + L.length) (fds (st :: M))) X] (w : World), Own w0 X w → rd w 3 (.slice (some bd) (1 + L.length) bc) (st :: M).length (fds (st :: M)) := fun w h => rd_len (by simp; omega) (own_rd ((h.sub (sl 3 (.slice (some bd) (1 + L.length) bc) (1 + L.length) (fds (st :: M)))).eq (star_emp _).symm))
          go_wp2_with fail
          refine Calls.mono (responseC (L := st :: L) r1 r2 G ha) ?_
          clear G; rintro e w ⟨rfl, G⟩
          rw [HM1.out]
          go_wp2_with (first
            | (go_at_call 14; refine hold ?_)
            | ((with_reducible refine at_alloc ?_); refine wpu_new G ?_; clear G; intro w G)
            | ((with_reducible refine at_drew ?_); refine wpu_drew G ?_; clear G; intro w G)
            | ((with_reducible refine at_load ?_); first
              | (refine wpu_load G rfl rfl rfl rfl ?_; go_frame)
              | (refine wpu_loadB G rfl rfl rfl (by rfl) ?_; go_frame)
              | (refine wpu_loadS G rfl rfl rfl (by rfl) ?_; simp only [List.drop_succ_cons, List.drop_zero, List.take_succ_cons, List.take_zero]; go_frame))
            | ((with_reducible refine at_store ?_); first
              | (refine wpu_store G rfl rfl rfl rfl (by first | rfl | assumption | simp [*]) rfl ?_; clear G; intro w G; go_frame)
              | (refine wpu_storeB G rfl rfl rfl rfl (by rfl) (by rfl) (by first | rfl | assumption | simp [*]) ?_; clear G; intro w G; go_frame)
              | (refine wpu_storeS G rfl rfl rfl rfl (by rfl) (by rfl) (by first | rfl | assumption | simp [*]) ?_; clear G; intro w G; go_frame))
            | ((with_reducible refine at_convert ?_); refine wpu_str G rfl rfl rfl rfl ?_; go_frame)
            | ((with_reducible refine at_slice ?_); first
              | (refine wpu_sliceLo rfl rfl rfl rfl (by first | rfl | omega) (by omega) (by omega) ?_; go_frame)
              | (refine wpu_sliceLH rfl rfl rfl rfl rfl (by first | rfl | omega) (by first | rfl | omega) (by omega) (by omega) ?_; go_frame))
            | fail)
          unfold Held
          refine Calls.mono (responseC (L := st :: M) r3 r4 G hb) ?_
          clear G; rintro e w ⟨rfl, G⟩
          rw [HM2.out]
          cases b
          · skip
            as_aux_lemma =>
            go_wp2_with (first
              | ((with_reducible refine at_eqM ?_); refine wpu_val (by kernel_rfl) (exec_eqM rfl rfl rfl) ?_; go_frame)
              | (go_at_call 17; first
                | (refine Calls.mono (sizeC (L := st :: L) r1 r2 G ha) ?_; clear G; rintro e w ⟨rfl, G⟩; rw [HZ1.out])
                | (refine Calls.mono (sizeC (L := st :: M) r3 r4 G hb) ?_; clear G; rintro e w ⟨rfl, G⟩; rw [HZ2.out]))
              | ((with_reducible refine at_alloc ?_); refine wpu_new G ?_; clear G; intro w G)
              | ((with_reducible refine at_drew ?_); refine wpu_drew G ?_; clear G; intro w G)
              | go_big_skip
              | ((with_reducible refine at_load ?_); first
                | (refine wpu_load G rfl (by kernel_rfl) rfl rfl ?_; go_frame)
                | (refine wpu_loadB G rfl (by kernel_rfl) rfl (by rfl) ?_; go_frame)
                | (refine wpu_loadS G rfl (by kernel_rfl) rfl (by rfl) ?_; simp only [List.drop_succ_cons, List.drop_zero, List.take_succ_cons, List.take_zero]; go_frame))
              | ((with_reducible refine at_store ?_); first
                | (refine wpu_store G rfl (by kernel_rfl) rfl rfl (by first | rfl | assumption | simp [*]) rfl ?_; clear G; intro w G; go_frame)
                | (refine wpu_storeB G rfl (by kernel_rfl) rfl rfl (by rfl) (by rfl) (by first | rfl | assumption | simp [*]) ?_; clear G; intro w G; go_frame)
                | (refine wpu_storeS G rfl (by kernel_rfl) rfl rfl (by rfl) (by rfl) (by first | rfl | assumption | simp [*]) ?_; clear G; intro w G; go_frame))
              | ((with_reducible refine at_convert ?_); refine wpu_str G rfl (by kernel_rfl) rfl rfl ?_; go_frame)
              | fail)
            go_ret
            exact ⟨rfl, G.below⟩
          · skip
            as_aux_lemma =>
            go_wp2_with (first
              | ((with_reducible refine at_eqM ?_); refine wpu_val (by kernel_rfl) (exec_eqM rfl rfl rfl) ?_; go_frame)
              | (go_at_call 17; first
                | (refine Calls.mono (sizeC (L := st :: L) r1 r2 G ha) ?_; clear G; rintro e w ⟨rfl, G⟩; rw [HZ1.out])
                | (refine Calls.mono (sizeC (L := st :: M) r3 r4 G hb) ?_; clear G; rintro e w ⟨rfl, G⟩; rw [HZ2.out]))
              | ((with_reducible refine at_alloc ?_); refine wpu_new G ?_; clear G; intro w G)
              | ((with_reducible refine at_drew ?_); refine wpu_drew G ?_; clear G; intro w G)
              | go_big_skip
              | ((with_reducible refine at_load ?_); first
                | (refine wpu_load G rfl (by kernel_rfl) rfl rfl ?_; go_frame)
                | (refine wpu_loadB G rfl (by kernel_rfl) rfl (by rfl) ?_; go_frame)
                | (refine wpu_loadS G rfl (by kernel_rfl) rfl (by rfl) ?_; simp only [List.drop_succ_cons, List.drop_zero, List.take_succ_cons, List.take_zero]; go_frame))
              | ((with_reducible refine at_store ?_); first
                | (refine wpu_store G rfl (by kernel_rfl) rfl rfl (by first | rfl | assumption | simp [*]) rfl ?_; clear G; intro w G; go_frame)
                | (refine wpu_storeB G rfl (by kernel_rfl) rfl rfl (by rfl) (by rfl) (by first | rfl | assumption | simp [*]) ?_; clear G; intro w G; go_frame)
                | (refine wpu_storeS G rfl (by kernel_rfl) rfl rfl (by rfl) (by rfl) (by first | rfl | assumption | simp [*]) ?_; clear G; intro w G; go_frame))
              | ((with_reducible refine at_convert ?_); refine wpu_str G rfl (by kernel_rfl) rfl rfl ?_; go_frame)
              | fail)
            go_ret
            exact ⟨rfl, G.below⟩

theorem contract {H : Type} {enc : TypeId × Value → H} {W : World} {vs : List Value} {ds : List (DataW H)}
    (hA : Args enc Tryd.prog W [22, 3, 3] vs ds) (hsz : (DataW.weightsEach Tryd.prog [22, 3, 3] ds).all (· ≤ reachBytes) = true) (hL : laidMetH Tryd.prog Rows.fieldsTurnsRow.laid W) :
    Calls Tryd.prog 7 vs.toArray W fun e W' => e = .returned (.bool true) ∧ Below W.heap.size W W' := by
  obtain ⟨v0, _, d0, _, rfl, rfl, h0, hA⟩ := args_cons hA
  obtain ⟨v1, _, d1, _, rfl, rfl, h1, hA⟩ := args_cons hA
  obtain ⟨v2, _, d2, _, rfl, rfl, h2, hA⟩ := args_cons hA
  obtain ⟨rfl, rfl⟩ := args_nil hA
  obtain ⟨F, hf, kf⟩ := fds_in h0
  obtain ⟨n, rfl, -⟩ := arg_i64 Tryd.underlying3 h1
  obtain ⟨m, rfl, -⟩ := arg_i64 Tryd.underlying3 h2
  exact turnsW n m hf kf



theorem spec {H : Type} : ∀ ds : List (DataW H), ds.length = 3 → Rows.fieldsTurnsSpec.fn H ds = { results := [.lit (.bool true)], args := ds }
  | [_, _, _], _ => rfl
  | [], h => by cases h
  | [_], h => by cases h
  | [_, _], h => by cases h
  | _ :: _ :: _ :: _ :: _, h => by simp at h
theorem door_met (os : Os) (args : Array Value) : laidMetH Tryd.prog Rows.fieldsTurnsRow.laid ((World.setRow (World.doorLaid Tryd.prog 72 os) (Tryd.prog.globalNamed "unicode/utf8.first").get! (Go.Pinned.utf8FirstZ.map fun z : Nat => Value.int .u8 (z : Int)).toArray).forCall (fun _ _ => 0) ⟨#[], args, []⟩).memory :=
  laidMetH_of_parts3 (fuel := 8) (laidMet_of_run' 8 (by kernel_rfl) (by kernel_rfl)) (by kernel_rfl) (by kernel_rfl)
set_option maxRecDepth 100000 in
theorem lifted (os : Os) (started : os.Started) (H : Type) (enc : TypeId × Value → H) :
    ReturnsInHanded {} Tryd.checked os 7 .any (fun w args => (Rows.fieldsTurnsSpec.pre enc Tryd.prog Tryd.f7 Rows.fieldsTurnsRow.domain false w args ∧ laidMetH Tryd.prog Rows.fieldsTurnsRow.laid w) ∧ sizedMet enc Tryd.prog Tryd.f7 (OpenSpec.ofChange Rows.fieldsTurnsSpec) false w args)
      (Rows.fieldsTurnsSpec.post enc Tryd.prog Tryd.f7 false true false false) :=
  lifted_of_law_laid (C := Tryd.checked) (fn := Tryd.f7) (s := Rows.fieldsTurnsSpec) (tb := 4) (by kernel_rfl) started (by kernel_rfl) Tryd.func7
    (ChangeSpec.witness_shaped (enc := enc) (C := Tryd.checked) (os := os) (X := fun w _ => laidMetH Tryd.prog Rows.fieldsTurnsRow.laid w) false (World.setRow (World.doorLaid Tryd.prog 72 os) (Tryd.prog.globalNamed "unicode/utf8.first").get! (Go.Pinned.utf8FirstZ.map fun z : Nat => Value.int .u8 (z : Int)).toArray) #[.slice none 0 0, .int .i64 0, .int .i64 0] 8 rfl (World.shaped_of_RefB (by kernel_rfl) (by kernel_rfl)) (by kernel_rfl) (by kernel_rfl) (by kernel_rfl) (door_met os _))
    rfl spec (by kernel_rfl) Tryd.underlying4 (by kernel_rfl) (by kernel_rfl) (fun _ _ _ h1 h2 h3 => contract h1 h2 h3)

theorem holds : Rows.FieldsTurnsSaid :=
  OpenClaim.holds_of_wide 7 Tryd.f7 rfl rfl rfl rfl rfl rfl rfl ⟨rfl, rfl, rfl, rfl, rfl⟩ rfl rfl rfl rfl rfl (by kernel_rfl) Tryd.func7 (by kernel_rfl)
    (of_decide_eq_true (by kernel_rfl)) (by unfold Func.isWrapper; first | (rw [if_pos (by decide +kernel)]; kernel_rfl) | (rw [if_neg (by decide +kernel)]; exact ⟨rfl, rfl⟩))
    (fun os started H enc _ => lifted os started H enc)

theorem proved : Rows.FieldsTurnsCardSaid :=
  Claim7.holds_tied_plain_at .later [] [.data, .data, .data, .data, .sentinel, .sentinel, .pinned] true (true, "b7b04a5e23c144aaf3ed07f71e534f1c77dbf3b9fe34ff9557e3f13d899a9de9") true
    holds (fun _ h => by cases h) (by kernel_rfl) (fun _ h => by cases h) fieldsTurns_row_tie rfl ⟨rfl, rfl⟩ (by kernel_rfl) rfl
    (fun f fn hf hfn => by
      obtain rfl : f = 7 := Option.some.inj ((show Tryd.prog.funcNamed "flume/flumelaw10.FieldsTurns" = some 7 by kernel_rfl).symm.trans hf) |>.symm
      obtain rfl : fn = Tryd.f7 := (Option.some.inj (Tryd.func7.symm.trans hfn)).symm
      exact ⟨by kernel_rfl, fun j t ht => by
        rw [Tryd.params7] at ht
        have hm : t ∈ [22, 3, 3] := by simpa using Array.mem_of_getElem? ht
        have hall : ([22, 3, 3].all fun u => !Tryd.prog.wantsStandIn u) = true := by kernel_rfl
        exact (show Tryd.prog.wantsStandIn t = false by simpa using List.all_eq_true.1 hall t hm)⟩)
    (by kernel_rfl)
end Go.Proofs.YtikngjdljdofkaaDoor.fieldsTurns
