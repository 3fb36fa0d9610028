




/-
  RouteIgnores: fields that nobody asks for do not matter.
-/
import Derived.Test.YtjcpfldobiekbaaDoorRtOld
import Derived.Test.YtjcpfldobiekbaaDoorCmp
import Derived.Test.YtjcpfldobiekbaaDoorMixF
import Derived.Test.YtjcpfldobiekbaaDoorStrAdd
import Derived.Test.YtjcpfldobiekbaaDoorLawD
import Derived.Test.YtjcpfldobiekbaaDoorTie
import Derived.Test.YtjcpfldobiekbaaDoorCards
import Derived.SevenTiedAt
namespace Go.Proofs.YtjcpfldobiekbaaDoor.routeIgnores
open Go.RowKit Go.Sl Go.ChangeShapes Go.Fl

/-! a field more, that nobody asks for -/
section
variable {l : List Fd} {f : Fd} {n : Txt} {m : Mr} {r : Rt} {p : Txt} {d : Nat}
theorem firstF_more (h : f.1 ≠ n) : firstF (l ++ [f]) n = firstF l n := by
  unfold firstF
  rw [List.find?_append]
  cases e : l.find? fun f => decide (f.1 = n) with
  | some x => rfl
  | none => simp [h]
theorem fieldR_more (h : m.name ≠ f.1) : fieldR m (l ++ [f]) = fieldR m l := by
  unfold fieldR
  rw [List.any_append]
  have : hasR m f = false := by unfold hasR; simp [Ne.symm h]
  simp [this]
theorem grpcR_more (h : f.1 ≠ [99, 111, 110, 116, 101, 110, 116, 45, 116, 121, 112, 101]) : grpcR (l ++ [f]) = grpcR l := by
  unfold grpcR
  rw [List.any_append]
  have : isG f = false := by unfold isG; rw [decide_eq_false h]; rfl
  simp [this]
theorem fitsR_more (h : f.1 ≠ [99, 111, 110, 116, 101, 110, 116, 45, 116, 121, 112, 101]) (h2 : ∀ m ∈ r.fields, m.name ≠ f.1) : fitsR r p (l ++ [f]) = fitsR r p l := by
  unfold fitsR
  rw [grpcR_more h]
  have : (r.fields.all fun m => fieldR m (l ++ [f])) = r.fields.all fun m => fieldR m l := by
    rw [Bool.eq_iff_iff, List.all_eq_true, List.all_eq_true]
    exact ⟨fun k m hm => by rw [← fieldR_more (h2 m hm)]; exact k m hm, fun k m hm => by rw [fieldR_more (h2 m hm)]; exact k m hm⟩
  rw [this]
theorem find_cong {α : Type} {p q : α → Bool} {l : List α} (h : ∀ x ∈ l, p x = q x) : l.find? p = l.find? q := by
  induction l with
  | nil => rfl
  | cons x l ih => rw [List.find?_cons, List.find?_cons, h x (List.mem_cons_self ..), ih fun y hy => h y (List.mem_cons_of_mem _ hy)]
theorem findR_more {S : Sn} (h : f.1 ≠ [99, 111, 110, 116, 101, 110, 116, 45, 116, 121, 112, 101]) (ha : f.1 ≠ [58, 97, 117, 116, 104, 111, 114, 105, 116, 121]) (hp : f.1 ≠ [58, 112, 97, 116, 104]) (h2 : ∀ h ∈ S.hosts, ∀ r ∈ h.routes, ∀ m ∈ r.fields, m.name ≠ f.1) : findR S (l ++ [f]) d = findR S l d := by
  unfold findR
  rw [firstF_more ha, firstF_more hp]
  split
  · split
    · rfl
    · split
      · rfl
      · rename_i e
        unfold goesR
        rw [find_cong fun r hr => fitsR_more (p := firstF l [58, 112, 97, 116, 104]) (l := l) h (h2 _ (List.mem_of_getElem? e) r hr)]
  · rfl
end
/-- a name that begins so is none of the three -/
theorem none_of {x : Txt} : ([120, 45, 110, 111, 110, 101] : Txt) ++ x ≠ [99, 111, 110, 116, 101, 110, 116, 45, 116, 121, 112, 101] ∧ ([120, 45, 110, 111, 110, 101] : Txt) ++ x ≠ [58, 97, 117, 116, 104, 111, 114, 105, 116, 121] ∧ ([120, 45, 110, 111, 110, 101] : Txt) ++ x ≠ [58, 112, 97, 116, 104] := by
  refine ⟨fun h => ?_, fun h => ?_, fun h => ?_⟩ <;> · injection h with h _; revert h; decide
theorem fds_one (l : List Fd) : ∀ y ∈ fds l, y.oneCell' = true := by
  intro y hy
  obtain ⟨f, -, h⟩ := List.mem_flatMap.1 hy
  rcases List.mem_cons.1 h with rfl | h
  · rfl
  rcases List.mem_cons.1 h with rfl | h
  · rfl
  rcases List.mem_cons.1 h with rfl | h
  · rfl
  · cases h
theorem rd_len {w : World} {sz n n' : Nat} {v : Value} {xs : List Value} (e : n' = n) (h : rd w sz v n xs) : rd w sz v n' xs := e ▸ h
theorem build0 (w : World) : (Instr.buildSlice 26 0 #[]).run Tryd.prog w = .ok (.slice (some ⟨w.heap.size, 0, none⟩) 0 0) (w.alloc (.cells [].toArray 47)) := by kernel_rfl
theorem build1 (a b : Txt) (c : Bool) (w : World) : (Instr.buildSlice 26 1 #[(0, .agg #[str a, str b, .bool c])]).run Tryd.prog w = .ok (.slice (some ⟨w.heap.size, 0, none⟩) 1 1) (w.alloc (.cells (fds [(a, b, c)]).toArray 47)) := by kernel_rfl

set_option maxHeartbeats 16000000 in
set_option maxRecDepth 100000 in
theorem ignW {w0 : World} {s : Sn} {cs : List Value} {v : Value} {F0 : List Fd} {d : Nat} (hs : rdSn w0 cs s) (ok : s.ok) (hF : rd w0 3 v F0.length (fds F0)) (okF0 : ∀ f ∈ F0, f.1.length ≤ 140737488351232 ∧ f.2.1.length ≤ 140737488351232) (hd : d < 18446744073709551616) (nm0 : Txt) (hnm : nm0.length ≤ 2 ^ 63 - 1) :
    Calls Tryd.prog 5 #[.agg cs.toArray, v, .int .u64 (d : Int), str nm0] w0 fun e w' => e = .returned (.bool true) ∧ Below w0.heap.size w0 w' := by
  have hs0 := hs
  obtain ⟨vc, vh, xs, rfl, -, -, -⟩ := hs
  obtain ⟨fo, fc, rfl, j1, j2, -⟩ := id hF
  unfold maxLen at j2
  obtain ⟨m, m0, m1, m2⟩ : ∃ k : Nat, min (F0.length : Int) 50 = (k : Int) ∧ k ≤ F0.length ∧ k ≤ 50 := ⟨min F0.length 50, by omega, by omega, by omega⟩
  have hf1 := fds_take hF rfl m1
  have okF : ∀ f ∈ F0.take m, f.2.1.length ≤ 140737488351232 := fun f h => (okF0 f (List.mem_of_mem_take h)).2
  obtain ⟨F, hFF⟩ : ∃ F, F0.take m = F := ⟨_, rfl⟩
  rw [hFF] at hf1 okF
  have hu : ∀ A w, Own w0 A w → rd w 3 (.slice fo m fc) F.length (fds F) := fun A w h => hf1.old h
  have ok2 := cut_ok ok
  obtain ⟨p, p0, p1, p2⟩ : ∃ k : Nat, min (nm0.length : Int) 100 = (k : Int) ∧ k ≤ nm0.length ∧ k ≤ 100 := ⟨min nm0.length 100, by omega, by omega, by omega⟩
  obtain ⟨N, hN⟩ : ∃ N, ([120, 45, 110, 111, 110, 101] : Txt) ++ nm0.take p = N := ⟨_, rfl⟩
  have hNL : ([120, 45, 110, 111, 110, 101] : Txt).length + (nm0.take p).length ≤ 100000000 := by rw [List.length_take]; simp; omega
  obtain ⟨na, nb, nc0⟩ := none_of (x := nm0.take p)
  rw [hN] at na nb nc0
  have HN := Lib.hid hN
  clear hN
  have G := own_begin w0
  have hFL : F.length = m := by rw [← hFF, List.length_take]; omega
  clear hF hFF okF0 ok hf1
  subst hFL
  obtain ⟨S, hS⟩ : ∃ S, cutSn s = S := ⟨_, rfl⟩
  go_enter Tryd.func5, Tryd.ntmps5
  go_wp2_with (first
    | ((with_reducible refine at_alloc ?_); refine wpu_new G ?_; clear G; intro w G)
    | ((with_reducible refine at_drew ?_); refine wpu_drew G ?_; clear G; intro w G)
    | fail)
  refine Calls.mono (shownC G) ?_
  clear G; rintro e w ⟨rfl, G⟩
  go_wp2_with (first
    | ((with_reducible refine at_alloc ?_); refine wpu_new G ?_; clear G; intro w G)
    | ((with_reducible refine at_drew ?_); refine wpu_drew G ?_; clear G; intro w G)
    | ((with_reducible refine at_load ?_); first
      | (refine wpu_load G rfl rfl rfl rfl ?_; go_frame)
      | (refine wpu_loadB G rfl rfl rfl (by rfl) ?_; go_frame)
      | (refine wpu_loadS G rfl rfl rfl (by rfl) ?_; simp only [List.drop_succ_cons, List.drop_zero, List.take_succ_cons, List.take_zero]; go_frame))
    | ((with_reducible refine at_store ?_); first
      | (refine wpu_store G rfl rfl rfl rfl (by first | rfl | assumption | simp [*]) rfl ?_; clear G; intro w G; go_frame)
      | (refine wpu_storeB G rfl rfl rfl rfl (by rfl) (by rfl) (by first | rfl | assumption | simp [*]) ?_; clear G; intro w G; go_frame)
      | (refine wpu_storeS G rfl rfl rfl rfl (by rfl) (by rfl) (by first | rfl | assumption | simp [*]) ?_; clear G; intro w G; go_frame))
    | ((with_reducible refine at_convert ?_); refine wpu_str G rfl rfl rfl rfl ?_; go_frame)
    | ((with_reducible refine at_slice ?_); first
      | (refine wpu_sliceLo rfl rfl rfl rfl (by first | rfl | omega) (by omega) (by omega) ?_; go_frame)
      | (refine wpu_sliceLH rfl rfl rfl rfl rfl (by first | rfl | omega) (by first | rfl | omega) (by omega) (by omega) ?_; go_frame))
    | fail)
  refine Calls.mono (cutC (hs0.old G)) ?_
  rintro e w1 ⟨nc, nh, rfl, G1⟩
  replace G := own_join G G1
  clear G1 hs0
  have o1 : nc.oneCell' = true := by obtain ⟨_, _, _, e0, _, g⟩ := own_snA G; injection e0 with _ e0; injection e0 with e1 _; rw [e1]; exact (own_rd g).one
  have o2 : nh.oneCell' = true := by obtain ⟨_, _, _, e0, _, g⟩ := own_snA G; injection e0 with _ e0; injection e0 with _ e0; injection e0 with e1 _; rw [e1]; exact (own_rd g.right).one
  rw [hS] at G ok2
  obtain ⟨ver, hver⟩ : ∃ v, s.version = v := ⟨_, rfl⟩
  rw [hver] at G ⊢
  clear hver hS
  go_wp2_with (first
    | ((with_reducible refine at_store ?_); refine wpu_storeB G rfl rfl rfl rfl (by rfl) (by rfl) (by simp only [List.all_cons, o1, o2]; rfl) ?_; clear G; intro w G; go_frame)
    | ((with_reducible refine at_alloc ?_); refine wpu_new G ?_; clear G; intro w G)
    | ((with_reducible refine at_drew ?_); refine wpu_drew G ?_; clear G; intro w G)
    | ((with_reducible refine at_load ?_); first
      | (refine wpu_load G rfl rfl rfl rfl ?_; go_frame)
      | (refine wpu_loadB G rfl rfl rfl (by rfl) ?_; go_frame)
      | (refine wpu_loadS G rfl rfl rfl (by rfl) ?_; simp only [List.drop_succ_cons, List.drop_zero, List.take_succ_cons, List.take_zero]; go_frame))
    | ((with_reducible refine at_store ?_); first
      | (refine wpu_store G rfl rfl rfl rfl (by first | rfl | assumption | simp [*]) rfl ?_; clear G; intro w G; go_frame)
      | (refine wpu_storeB G rfl rfl rfl rfl (by rfl) (by rfl) (by first | rfl | assumption | simp [*]) ?_; clear G; intro w G; go_frame)
      | (refine wpu_storeS G rfl rfl rfl rfl (by rfl) (by rfl) (by first | rfl | assumption | simp [*]) ?_; clear G; intro w G; go_frame))
    | ((with_reducible refine at_convert ?_); refine wpu_str G rfl rfl rfl rfl ?_; go_frame)
    | ((with_reducible refine at_slice ?_); first
      | (refine wpu_sliceLo rfl rfl rfl rfl (by first | rfl | omega) (by omega) (by omega) ?_; go_frame)
      | (refine wpu_sliceLH rfl rfl rfl rfl rfl (by first | rfl | omega) (by first | rfl | omega) (by omega) (by omega) ?_; go_frame))
    | fail)
  -- the ground is this world from here on
  have GW := G
  have hb0 := oldBlk_of (G.pull (blk w0.heap.size [.int .i64 ver, nc, nh]))
  have hsn := sn_read (G.pull (snA [.int .i64 ver, nc, nh] S))
  have hfu := hu _ _ G
  clear G hu o1 o2
  obtain ⟨b0, hb⟩ : ∃ b, w0.heap.size = b := ⟨_, rfl⟩
  rw [hb] at hb0 ⊢
  obtain ⟨wg, hwg⟩ : ∃ u, w = u := ⟨_, rfl⟩
  rw [hwg] at GW hb0 hsn hfu ⊢
  clear hwg
  have G := own_begin wg
  have HB0 : ∀ A u, Own wg A u → OldBlk u b0 [.int .i64 ver, nc, nh] := fun A u h => hb0.old h
  have HSN : ∀ A u, Own wg A u → rdSn u [.int .i64 ver, nc, nh] S := fun A u h => hsn.old h
  have HFU : ∀ A u, Own wg A u → rd u 3 (.slice fo F.length fc) F.length (fds F) := fun A u h => hfu.old h
  obtain ⟨vc, vh, xs, e0, -, hh0, hL⟩ := hsn
  injection e0 with _ e0; injection e0 with e1 e0; injection e0 with e2 _
  subst e1 e2
  obtain ⟨ho, hc, rfl, i3, i4, -⟩ := id hh0
  unfold maxLen at i4
  have HH0 : ∀ A u, Own wg A u → rd u 2 (.slice ho S.hosts.length hc) S.hosts.length xs := fun A u h => hh0.old h
  have HLh := hL
  clear hL hh0
  go_wp2_with (first
    | ((with_reducible refine at_sliceAny ?_); refine wpu_strH rfl (by kernel_rfl) rfl rfl (by first | rfl | omega) p1 ?_; go_frame)
    | ((with_reducible refine at_addS ?_); refine wpu_addS (l := [120, 45, 110, 111, 110, 101]) rfl (by kernel_rfl) rfl rfl HN.out hNL ?_; go_frame)
    | fail)
  rw [show (120 :: 45 :: 110 :: 111 :: 110 :: 101 :: nm0.take p : Txt) = N from HN.out, show (Value.string { data := N.toArray } : Value) = str N from rfl]
  clear HN hNL p0 p1 p2
  have HBW := Lib.hid G.1
  clear G
  go_loopw [10, 11, 12] (fun i _ _ wr => ∃ I : Nat, i = .int .i64 I ∧ I ≤ S.hosts.length ∧ Hid (∀ h ∈ S.hosts.take I, ∀ r ∈ h.routes, ∀ m ∈ r.fields, m.name ≠ N) ∧ Below wg.heap.size wg wr) (fun i _ _ _ => S.hosts.length - (intOf i).toNat)
  case atStart => exact ⟨0, rfl, Nat.zero_le _, Lib.hid (by simp), HBW.out⟩
  case round =>
    clear HBW
    obtain ⟨I, rfl, hI, HA, GB⟩ := hrel
    have G := own_kept (own_begin wg) GB
    by_cases hIn : I < S.hosts.length
    · obtain ⟨h, hh⟩ : ∃ h, S.hosts[I]? = some h := ⟨S.hosts[I], List.getElem?_eq_getElem hIn⟩
      obtain ⟨vn, vr, ys, hcs, -, hr0, hRL⟩ := HLh.2 I h hh
      obtain ⟨ro, rc, rfl, i5, i6, -⟩ := id hr0
      unfold maxLen at i6
      have HF := Lib.hid hcs
      have HR0 : ∀ A u, Own wg A u → rd u 7 (.slice ro h.routes.length rc) h.routes.length ys := fun A u g => hr0.old g
      have HH := Lib.hid hh
      obtain ⟨ad, rfl⟩ := rd_some (HH0 _ _ G) (by omega)
      have GB := Lib.hid GB
      clear hh hcs hr0
      go_wp2_with (first
        | ((with_reducible refine at_load ?_); refine wpu_loadO (HB0 _ _ G) rfl (by kernel_rfl) rfl rfl ?_; go_frame)
        | fail)
      clear G
      go_loopw [11, 12] (fun k _ wr => ∃ K : Nat, k = .int .i64 K ∧ K ≤ h.routes.length ∧ Hid (∀ r ∈ h.routes.take K, ∀ m ∈ r.fields, m.name ≠ N) ∧ Below wg.heap.size wg wr) (fun k _ _ => h.routes.length - (intOf k).toNat)
      case atStart => exact ⟨0, rfl, Nat.zero_le _, Lib.hid (by simp), GB.out⟩
      case round =>
        clear GB
        obtain ⟨K, rfl, hK, HB, GB⟩ := hrel
        have G := own_kept (own_begin wg) GB
        by_cases hKn : K < h.routes.length
        · obtain ⟨r, hr⟩ : ∃ r, h.routes[K]? = some r := ⟨h.routes[K], List.getElem?_eq_getElem hKn⟩
          obtain ⟨vf, vk, hcs, hf0, -⟩ := hRL.2 K r hr
          obtain ⟨co, cc, rfl, i7, i8, -⟩ := id hf0
          unfold maxLen at i8
          have HFr := Lib.hid hcs
          have HM0 : ∀ A u, Own wg A u → rd u 4 (.slice co r.fields.length cc) r.fields.length (mrs r.fields) := fun A u g => hf0.old g
          have HRr := Lib.hid hr
          obtain ⟨rd1, rfl⟩ := rd_some (HR0 _ _ G) (by omega)
          have GB := Lib.hid GB
          clear hr hcs hf0
          go_wp2_with (first
            | ((with_reducible refine at_load ?_); first
              | (refine wpu_loadO (HB0 _ _ G) rfl (by kernel_rfl) rfl rfl ?_; go_frame)
              | (refine wpu_loadF (k := I) (j := 0) (HH0 _ _ G) HF.out rfl (by kernel_rfl) rfl rfl ?_; go_frame))
            | fail)
          clear G
          go_loopw [12] (fun m wr => ∃ M : Nat, m = .int .i64 M ∧ M ≤ r.fields.length ∧ Hid (∀ m ∈ r.fields.take M, m.name ≠ N) ∧ Below wg.heap.size wg wr) (fun m _ => r.fields.length - (intOf m).toNat)
          case atStart => exact ⟨0, rfl, Nat.zero_le _, Lib.hid (by simp), GB.out⟩
          case round =>
            clear GB
            obtain ⟨M, rfl, hM, HC, GB⟩ := hrel
            have G := own_kept (own_begin wg) GB
            by_cases hMn : M < r.fields.length
            · obtain ⟨x, hx⟩ : ∃ x, r.fields[M]? = some x := ⟨r.fields[M], List.getElem?_eq_getElem hMn⟩
              obtain ⟨cd, rfl⟩ := rd_some (HM0 _ _ G) (by omega)
              have HFm := Lib.hid (mrs_at hx)
              obtain ⟨q, hq⟩ : ∃ q, decide (x.name = N) = q := ⟨_, rfl⟩
              have HTK : Hid (r.fields.take (M + 1) = r.fields.take M ++ [x]) := Lib.hid (by rw [List.take_add_one, hx]; rfl)
              clear hx
              cases q
              · have GB := Lib.hid GB
                go_wp2_with (first
                  | ((with_reducible refine at_load ?_); first
                    | (refine wpu_loadO (HB0 _ _ G) rfl (by kernel_rfl) rfl rfl ?_; go_frame)
                    | (refine wpu_loadF (k := I) (j := 0) (HH0 _ _ G) HF.out rfl (by kernel_rfl) rfl rfl ?_; go_frame)
                    | (refine wpu_loadF (k := K) (j := 3) (HR0 _ _ G) HFr.out rfl (by kernel_rfl) rfl rfl ?_; go_frame)
                    | (refine wpu_loadF0 (k := M) (HM0 _ _ G) HFm.out rfl (by kernel_rfl) rfl rfl ?_; go_frame))
                  | ((with_reducible refine at_lss ?_); refine wpu_lss rfl (by kernel_rfl) rfl rfl (by assumption) ?_; go_frame)
                  | ((with_reducible refine at_gtr ?_); refine wpu_gtr rfl (by kernel_rfl) rfl rfl (by assumption) ?_; go_frame)
                  | ((with_reducible refine at_leq ?_); refine wpu_leq rfl (by kernel_rfl) rfl rfl (by assumption) ?_; go_frame)
                  | ((with_reducible refine at_geq ?_); refine wpu_geq rfl (by kernel_rfl) rfl rfl (by assumption) ?_; go_frame)
                  | ((with_reducible refine at_eqS ?_); refine wpu_eqS rfl (by kernel_rfl) rfl rfl (by assumption) ?_; go_frame)
                  | ((with_reducible refine at_neS ?_); refine wpu_neS rfl (by kernel_rfl) rfl rfl (by assumption) ?_; go_frame)
                  | fail)
                go_roundw
                case rel => exact ⟨M + 1, by go_num, by omega, Lib.hid (by
                  rw [HTK.out]
                  intro g hg
                  rcases List.mem_append.1 hg with hg | hg
                  · exact HC.out g hg
                  · rw [List.mem_singleton.1 hg]; simpa using hq), GB.out⟩
                case measure => simp [intOf] <;> omega
              · go_wp2_with (first
                  | ((with_reducible refine at_load ?_); first
                    | (refine wpu_loadO (HB0 _ _ G) rfl (by kernel_rfl) rfl rfl ?_; go_frame)
                    | (refine wpu_loadF (k := I) (j := 0) (HH0 _ _ G) HF.out rfl (by kernel_rfl) rfl rfl ?_; go_frame)
                    | (refine wpu_loadF (k := K) (j := 3) (HR0 _ _ G) HFr.out rfl (by kernel_rfl) rfl rfl ?_; go_frame)
                    | (refine wpu_loadF0 (k := M) (HM0 _ _ G) HFm.out rfl (by kernel_rfl) rfl rfl ?_; go_frame))
                  | ((with_reducible refine at_lss ?_); refine wpu_lss rfl (by kernel_rfl) rfl rfl (by assumption) ?_; go_frame)
                  | ((with_reducible refine at_gtr ?_); refine wpu_gtr rfl (by kernel_rfl) rfl rfl (by assumption) ?_; go_frame)
                  | ((with_reducible refine at_leq ?_); refine wpu_leq rfl (by kernel_rfl) rfl rfl (by assumption) ?_; go_frame)
                  | ((with_reducible refine at_geq ?_); refine wpu_geq rfl (by kernel_rfl) rfl rfl (by assumption) ?_; go_frame)
                  | ((with_reducible refine at_eqS ?_); refine wpu_eqS rfl (by kernel_rfl) rfl rfl (by assumption) ?_; go_frame)
                  | ((with_reducible refine at_neS ?_); refine wpu_neS rfl (by kernel_rfl) rfl rfl (by assumption) ?_; go_frame)
                  | fail)
                go_ret
                exact ⟨rfl, own_shift GW G⟩
            · have GB := Lib.hid GB
              have HD : Hid (∀ g ∈ h.routes.take (K + 1), ∀ m ∈ g.fields, m.name ≠ N) := Lib.hid (by
                rw [List.take_add_one, HRr.out]
                intro g hg
                rcases List.mem_append.1 hg with hg | hg
                · exact HB.out g hg
                · have e : g = r := by simpa using hg
                  subst e
                  have := HC.out
                  rwa [List.take_of_length_le (by omega)] at this)
              go_wp2_with (first
                | ((with_reducible refine at_load ?_); first
                  | (refine wpu_loadO (HB0 _ _ G) rfl (by kernel_rfl) rfl rfl ?_; go_frame)
                  | (refine wpu_loadF (k := I) (j := 0) (HH0 _ _ G) HF.out rfl (by kernel_rfl) rfl rfl ?_; go_frame)
                  | (refine wpu_loadF (k := K) (j := 3) (HR0 _ _ G) HFr.out rfl (by kernel_rfl) rfl rfl ?_; go_frame))
                | fail)
              go_roundw
              case rel => exact ⟨K + 1, by go_num, by omega, HD, GB.out⟩
              case measure => simp [intOf] <;> omega
        · have GB := Lib.hid GB
          have HD : Hid (∀ g ∈ S.hosts.take (I + 1), ∀ r ∈ g.routes, ∀ m ∈ r.fields, m.name ≠ N) := Lib.hid (by
            rw [List.take_add_one, HH.out]
            intro g hg
            rcases List.mem_append.1 hg with hg | hg
            · exact HA.out g hg
            · have e : g = h := by simpa using hg
              subst e
              have := HB.out
              rwa [List.take_of_length_le (by omega)] at this)
          go_wp2_with (first
            | ((with_reducible refine at_load ?_); first
              | (refine wpu_loadO (HB0 _ _ G) rfl (by kernel_rfl) rfl rfl ?_; go_frame)
              | (refine wpu_loadF (k := I) (j := 0) (HH0 _ _ G) HF.out rfl (by kernel_rfl) rfl rfl ?_; go_frame))
            | fail)
          go_roundw
          case rel => exact ⟨I + 1, by go_num, by omega, HD, GB.out⟩
          case measure => simp [intOf] <;> omega
    · have HD : Hid (∀ h ∈ S.hosts, ∀ r ∈ h.routes, ∀ m ∈ r.fields, m.name ≠ N) := Lib.hid (by
        have := HA.out
        rwa [List.take_of_length_le (by omega)] at this)
      clear HA GB
      go_wp2_with (first
        | ((with_reducible refine at_load ?_); first
          | (refine wpu_loadO (HB0 _ _ G) rfl (by kernel_rfl) rfl rfl ?_; go_frame)
          | (refine wpu_loadOB (HB0 _ _ G) rfl (by kernel_rfl) rfl rfl ?_; go_frame))
        | fail)
      refine Calls.mono (findC (s := S) (F := F) (d := d) (HSN _ _ G) ok2 (HFU _ _ G) okF hd) ?_
      rintro e w2 ⟨rfl, hb⟩
      replace G := own_kept G hb
      have HMORE : Hid (findR S (F ++ [(N, [118], false)]) d = findR S F d) := Lib.hid (findR_more na nb nc0 HD.out)
      obtain ⟨c, n, b, hV⟩ : ∃ c n b, findV (findR S F d) = .tuple #[str c, .int .i64 n, .bool b] := by
        cases findR S F d with
        | none => exact ⟨_, _, _, rfl⟩
        | some o => exact ⟨_, _, _, rfl⟩
      have HV := Lib.hid hV
      clear hb HD hV na nb nc0
      rw [HV.out]
      go_wp2_with fail
      have HNE : ∃ u, Own wg emp u := ⟨_, G⟩
      refine wp_region_mixF (A := emp) (B := wg) [0, 4, 3, 1, 3, 3, 4, 1, 3, 1, 3, 3, 3, 3, 3, 3, 3] (Own wg emp) (by kernel_rfl) (by kernel_rfl) (fun w o h => own_alloc h o) (own_drew G) (own_drew G) ?_
      clear G
      refine mixf_calm 1 HNE (by rfl) (by rfl) ?_
      intro ι W hne hW
      dsimp only [List.take, List.drop]
      repeat (first | ((with_reducible refine atq_load ?_); refine wpq_loadOB (fun i => HB0 _ _ (hW i)) rfl (by kernel_rfl) rfl rfl ?_; go_frame) | go_big_quiet_step (fail))
      refine wpQuiet_nil ?_
      clear hW hne W ι
      refine mixf_fresh (fun b => .slice (some ⟨b, 0, none⟩) 0 0) [] 47 (fun w => exec_buildT #[] rfl (by kernel_rfl) (build0 w)) fun b1 => ?_
      try go_frame
      refine mixf_plain 1 HNE (by rfl) (by rfl) ?_
      intro ι W hne
      dsimp only [List.take, List.drop]
      repeat (first | (fail) | go_big_quiet_step (fail))
      refine wpQuiet_nil ?_
      clear hne W ι
      refine mixf_loud fun F' w K HC G hK => ?_
      refine wpk_append0 G rfl rfl rfl (HFU _ _ HC) (fds_one _) (by unfold maxLen; omega) (by omega) fun v w G => ?_
      obtain ⟨eo, ec, rfl, c3, c4⟩ := G.hdr v
      unfold maxLen at c4
      refine hK _ _ (sl 3 (.slice eo F.length ec) F.length (fds F)) (own_kept (own_begin wg) G.1) (G.sub (sl 3 (.slice eo F.length ec) F.length (fds F) * F')) ?_
      clear hK HC G
      try go_frame
      refine mixf_plain 2 HNE (by rfl) (by rfl) ?_
      intro ι W hne
      dsimp only [List.take, List.drop]
      repeat (first | (fail) | go_big_quiet_step (fail))
      refine wpQuiet_nil ?_
      clear hne W ι
      refine mixf_fresh (fun b => .slice (some ⟨b, 0, none⟩) 1 1) (fds [(N, [118], false)]) 47 (fun w => exec_buildT _ rfl (by kernel_rfl) (build1 N [118] false w)) fun b2 => ?_
      try go_frame
      refine mixf_loud fun F' w K HC G hK => ?_
      refine wpk_append1 G rfl rfl rfl rfl (by rfl) (by unfold maxLen; omega) (by omega) fun v w G => ?_
      rw [fds_app] at G
      obtain ⟨go, gc, rfl, c5, c6⟩ := G.hdr v
      unfold maxLen at c6
      change Own _ (sl 3 (.slice go (F.length + 1) gc) (F.length + 1) (fds (F ++ [(N, [118], false)])) * _) w at G
      refine hK _ _ (sl 3 (.slice go (F.length + 1) gc) (F.length + 1) (fds (F ++ [(N, [118], false)]))) (own_kept (own_begin wg) G.1) (G.sub (sl 3 (.slice go (F.length + 1) gc) (F.length + 1) (fds (F ++ [(N, [118], false)])) * F')) ?_
      clear hK HC G
      try go_frame
      refine mixf_plain 1 HNE (by rfl) (by rfl) ?_
      intro ι W hne
      dsimp only [List.take, List.drop]
      repeat (first | (fail) | go_big_quiet_step (fail))
      refine wpQuiet_nil ?_
      clear hne W ι
      refine mixf_loud fun F' w K HC G hK => ?_
      go_wp2_with fail
      refine Calls.mono (findC (s := S) (F := F ++ [(N, [118], false)]) (d := d) (HSN _ _ HC) ok2 (rd_len (by simp) (own_rd G)) (by
        intro f hf
        rcases List.mem_append.1 hf with hf | hf
        · exact okF f hf
        · rw [List.mem_singleton.1 hf]; simp) hd) ?_
      rintro e w3 ⟨rfl, hb⟩
      rw [HMORE.out, HV.out]
      refine hK _ _ _ (own_kept HC hb) (own_kept G hb) ?_
      clear hK HC G hb
      try go_frame
      refine mixf_plain 7 HNE (by rfl) (by rfl) ?_
      intro ι W hne
      dsimp only [List.take, List.drop]
      repeat (first | (fail) | go_big_quiet_step (fail))
      refine wpQuiet_nil ?_
      clear hne W ι
      refine mixf_nil fun w G => ?_
      go_wp2_with (first
        | ((with_reducible refine at_eqS ?_); refine wpu_eqS (b := true) rfl (by kernel_rfl) rfl rfl (by simp) ?_; go_frame)
        | fail)
      go_ret
      exact ⟨by simp, own_shift GW G⟩

theorem contract {H : Type} {enc : TypeId × Value → H} {W : World} {vs : List Value} {ds : List (DataW H)}
    (hA : Args enc Tryd.prog W [25, 26, 27, 9] vs ds) (hsz : (DataW.weightsEach Tryd.prog [25, 26, 27, 9] ds).all (· ≤ reachBytes) = true) (hL : laidMetH Tryd.prog Rows.routeIgnoresRow.laid W) :
    Calls Tryd.prog 5 vs.toArray W fun e W' => e = .returned (.bool true) ∧ Below W.heap.size W W' := by
  obtain ⟨v0, _, d0, _, rfl, rfl, h0, hA⟩ := args_cons hA
  obtain ⟨v1, _, d1, _, rfl, rfl, h1, hA⟩ := args_cons hA
  obtain ⟨v2, _, d2, _, rfl, rfl, h2, hA⟩ := args_cons hA
  obtain ⟨v3, _, d3, _, rfl, rfl, h3, hA⟩ := args_cons hA
  obtain ⟨rfl, rfl⟩ := args_nil hA
  obtain ⟨cs, rfl, hz0⟩ := argz_struct Tryd.underlying25 h0 hsz 0 rfl rfl
  obtain ⟨s, ok, hs, -⟩ := snap_in hz0
  obtain ⟨F, hF, okF⟩ := fsz_in (argz_slice Tryd.underlying26 h1 hsz 1 rfl rfl)
  obtain ⟨d, rfl, hd⟩ := arg_u64 Tryd.underlying27 h2
  obtain ⟨a, rfl, ha, -⟩ := arg_string Tryd.underlying9 h3
  unfold maxLen at ha
  exact ignW hs ok hF okF hd a ha






theorem spec {H : Type} : ∀ ds : List (DataW H), ds.length = 4 → Rows.routeIgnoresSpec.fn H ds = { results := [.lit (.bool true)], args := ds }
  | [_, _, _, _], _ => rfl
  | [], h => by cases h
  | [_], h => by cases h
  | [_, _], h => by cases h
  | [_, _, _], h => by cases h
  | _ :: _ :: _ :: _ :: _ :: _, h => by simp at h
theorem door_met (os : Os) (args : Array Value) : laidMetH Tryd.prog Rows.routeIgnoresRow.laid ((World.setRow (World.doorLaid Tryd.prog 19 os) (Tryd.prog.globalNamed "unicode/utf8.first").get! (Go.Pinned.utf8FirstZ.map fun z : Nat => Value.int .u8 (z : Int)).toArray).forCall (fun _ _ => 0) ⟨#[], args, []⟩).memory :=
  laidMetH_of_parts3 (fuel := 8) (laidMet_of_run' 8 (by kernel_rfl) (by kernel_rfl)) (by kernel_rfl) (by kernel_rfl)
set_option maxRecDepth 100000 in
theorem lifted (os : Os) (started : os.Started) (H : Type) (enc : TypeId × Value → H) :
    ReturnsInHanded {} Tryd.checked os 5 .any (fun w args => (Rows.routeIgnoresSpec.pre enc Tryd.prog Tryd.f5 Rows.routeIgnoresRow.domain false w args ∧ laidMetH Tryd.prog Rows.routeIgnoresRow.laid w) ∧ sizedMet enc Tryd.prog Tryd.f5 (OpenSpec.ofChange Rows.routeIgnoresSpec) false w args)
      (Rows.routeIgnoresSpec.post enc Tryd.prog Tryd.f5 false true false false) :=
  lifted_of_law_laid (C := Tryd.checked) (fn := Tryd.f5) (s := Rows.routeIgnoresSpec) (tb := 4) (by kernel_rfl) started (by kernel_rfl) Tryd.func5
    (ChangeSpec.witness_shaped (enc := enc) (C := Tryd.checked) (os := os) (X := fun w _ => laidMetH Tryd.prog Rows.routeIgnoresRow.laid w) false (World.setRow (World.doorLaid Tryd.prog 19 os) (Tryd.prog.globalNamed "unicode/utf8.first").get! (Go.Pinned.utf8FirstZ.map fun z : Nat => Value.int .u8 (z : Int)).toArray) #[.agg #[.int .i64 0, .slice none 0 0, .slice none 0 0], .slice none 0 0, .int .u64 0, .string ⟨#[]⟩] 8 rfl (World.shaped_of_RefB (by kernel_rfl) (by kernel_rfl)) (by kernel_rfl) (by kernel_rfl) (by kernel_rfl) (door_met os _))
    rfl spec (by kernel_rfl) Tryd.underlying4 (by kernel_rfl) (by kernel_rfl) (fun _ _ _ h1 h2 h3 => contract h1 h2 h3)

theorem holds : Rows.RouteIgnoresSaid :=
  OpenClaim.holds_of_wide 5 Tryd.f5 rfl rfl rfl rfl rfl rfl rfl ⟨rfl, rfl, rfl, rfl, rfl⟩ rfl rfl rfl rfl rfl (by kernel_rfl) Tryd.func5 (by kernel_rfl)
    (of_decide_eq_true (by kernel_rfl)) (by unfold Func.isWrapper; first | (rw [if_pos (by decide +kernel)]; kernel_rfl) | (rw [if_neg (by decide +kernel)]; exact ⟨rfl, rfl⟩))
    (fun os started H enc _ => lifted os started H enc)

theorem proved : Rows.RouteIgnoresCardSaid :=
  Claim7.holds_tied_plain_at .later [] [.data, .pinned] true (true, "8ad4a4f5b69d3fbbf86e42b9283652f351f0a1c623a0149f61aae9e179e7ce1c") false
    holds (fun _ h => by cases h) (by kernel_rfl) (fun _ h => by cases h) routeIgnores_row_tie rfl ⟨rfl, rfl⟩ (by kernel_rfl) rfl
    (fun f fn hf hfn => by
      obtain rfl : f = 5 := Option.some.inj ((show Tryd.prog.funcNamed "flume/flumelaw16.RouteIgnores" = some 5 by kernel_rfl).symm.trans hf) |>.symm
      obtain rfl : fn = Tryd.f5 := (Option.some.inj (Tryd.func5.symm.trans hfn)).symm
      exact ⟨by kernel_rfl, fun j t ht => by
        rw [Tryd.params5] at ht
        have hm : t ∈ [25, 26, 27, 9] := by simpa using Array.mem_of_getElem? ht
        have hall : ([25, 26, 27, 9].all fun u => !Tryd.prog.wantsStandIn u) = true := by kernel_rfl
        exact (show Tryd.prog.wantsStandIn t = false by simpa using List.all_eq_true.1 hall t hm)⟩)
    (by kernel_rfl)
end Go.Proofs.YtjcpfldobiekbaaDoor.routeIgnores
