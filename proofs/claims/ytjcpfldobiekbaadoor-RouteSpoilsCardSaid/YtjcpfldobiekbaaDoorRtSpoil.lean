




/-
  RouteSpoils: one thing that may not be makes a snapshot that is not right.
-/
import Derived.Test.YtjcpfldobiekbaaDoorRtSpP
import Derived.Test.YtjcpfldobiekbaaDoorRtOld
import Derived.Test.YtjcpfldobiekbaaDoorMixF
import Derived.Test.YtjcpfldobiekbaaDoorStrAdd
import Derived.Test.YtjcpfldobiekbaaDoorLawD
import Derived.Test.YtjcpfldobiekbaaDoorTie
import Derived.Test.YtjcpfldobiekbaaDoorCards
import Derived.SevenTiedAt
import Derived.Laws.BitsLemmas
namespace Go.Proofs.YtjcpfldobiekbaaDoor.routeSpoils
open Go.RowKit Go.Sl Go.ChangeShapes Go.Fl

section
variable {P : Program} {ops : Array Oper} {Q : Exit → Act → World → Prop} {rest : List Oper} {o : Oper} {a : Act} {w : World} {d : Option Tmp} {ty T T' : TypeId} {x y : Operand} {pos : String} {after : Array Edge} {g : Option (Nat × Bool)} {p q r : Int} {l m : Txt}
theorem at_and (h : wpList P ops Q (⟨d, .binOp .and T x y T', ty, pos, after, g⟩ :: rest) a w) : wpList P ops Q (⟨d, .binOp .and T x y T', ty, pos, after, g⟩ :: rest) a w := h
theorem at_rem (h : wpList P ops Q (⟨d, .binOp .rem T x y T', ty, pos, after, g⟩ :: rest) a w) : wpList P ops Q (⟨d, .binOp .rem T x y T', ty, pos, after, g⟩ :: rest) a w := h
theorem exec_andI (ho : o.op = .binOp .and T x y T') (hx : evalO a x = some (.int .i64 p)) (hy : evalO a y = some (.int .i64 q)) (hr : bits .and .i64 p q = r) : (execOp a.eval o).run P w = .ok (.value (.int .i64 r)) w := by
  subst hr
  unfold execOp
  rw [ho]
  simp only [evalO_eq hx, evalO_eq hy]
  simp [eqGuard, go_sem]
theorem exec_rem7 (ho : o.op = .binOp .rem T x y T') (hx : evalO a x = some (.int .i64 p)) (hy : evalO a y = some (.int .i64 7)) (hr : p.tmod 7 = r) : (execOp a.eval o).run P w = .ok (.value (.int .i64 r)) w := by
  subst hr
  unfold execOp
  rw [ho]
  simp only [evalO_eq hx, evalO_eq hy]
  simp [eqGuard, go_sem]
end
theorem and15 (k : Int) : ∃ n : Nat, n ≤ 15 ∧ bits .and .i64 k 15 = n := by
  have h : (BitVec.ofInt 64 k &&& BitVec.ofInt 64 15).toNat ≤ 15 := by
    rw [BitVec.toNat_and]
    exact Nat.le_trans Nat.and_le_right (by decide)
  refine ⟨(BitVec.ofInt 64 k &&& BitVec.ofInt 64 15).toNat, h, ?_⟩
  show IntKind.i64.wrap _ = _
  rw [IntKind.wrap_i64]
  have e : ∀ n : Nat, n ≤ 15 → ((n : Int) + 9223372036854775808) % 18446744073709551616 - 9223372036854775808 = n := fun n hn => by omega
  exact e _ h
theorem find_not {s : Sn} {l : List Fd} {d : Nat} (h : rightR s = false) : findR s l d = none := by
  unfold findR
  rw [h]
  rfl
abbrev FRESH : Txt := [102, 114, 101, 115, 104, 46, 110, 97, 109, 101, 46, 111, 102, 46, 110, 111, 98, 111, 100, 121, 46, 101, 108, 115, 101]
abbrev FF : List Fd := [([58, 112, 97, 116, 104], [47], false), ([58, 97, 117, 116, 104, 111, 114, 105, 116, 121], [102, 114, 101, 115, 104, 46, 110, 97, 109, 101, 46, 111, 102, 46, 110, 111, 98, 111, 100, 121, 46, 101, 108, 115, 101], false)]
theorem exec_strAdd2 {P : Program} {w : World} {o : Oper} {a : Act} {T T' : TypeId} {x y : Operand} {l m r : Txt} (ho : o.op = .binOp .add T x y T') (hx : evalO a x = some (str l)) (hy : evalO a y = some (str m)) (hr : l ++ m = r) (hl : l.length ≤ 140737488351232) (hm : m.length ≤ 100) : (execOp a.eval o).run P w = .ok (.value (str r)) w := by
  subst hr
  have h1 : (ByteArray.mk l.toArray).size = l.length := str_size l
  have h2 : (ByteArray.mk m.toArray).size = m.length := str_size m
  unfold execOp
  rw [ho]
  simp only [evalO_eq hx, evalO_eq hy]
  simp [eqGuard, binOp_string_add, Op.stringOp, str_append]
  rw [h1, h2]
  omega
theorem atq_addS {P : Program} {ops : Array Oper} {rest : List Oper} {C : World → Prop} {q : Act → Prop} {a : Act} {d : Option Tmp} {x y : Operand} {T' ty : TypeId} {pos : String} {after : Array Edge} {g : Option (Nat × Bool)} (h : wpQuiet P ops C q (⟨d, .binOp .add 9 x y T', ty, pos, after, g⟩ :: rest) a) : wpQuiet P ops C q (⟨d, .binOp .add 9 x y T', ty, pos, after, g⟩ :: rest) a := h
theorem wpk_v {P : Program} {w w' : World} {a : Act} {o : Oper} {v : Value} {K : Act → World → Prop} {Q : Exit → Act → World → Prop} (hr : (execOp a.eval o).run P w = .ok (.value v) w') (k : K (a.put o.dst v) w') : o.wp P a w K Q := by
  unfold Oper.wp
  rw [hr]
  exact k
theorem wpq_loadO {P : Program} {ops : Array Oper} {rest : List Oper} {o : Oper} {a : Act} {T : TypeId} {ad : Operand} {b i : Nat} {cs : List Value} {v : Value} {ι : Type} {W : ι → World} {q : Act → Prop} (h : ∀ j, OldBlk (W j) b cs) (ho : o.op = .load T ad) (hw : Region.wanted o (yielded ops a.tmps) = true) (ha' : evalO a ad = some (.pointer (some ⟨b, i, none⟩))) [hT : TyOne P T] (hv : cs[i]? = some v)
    (k : wpQuiet P ops (fun w' => ∃ i, w' = W i) q rest (a.put o.dst v)) : wpQuiet P ops (fun w' => ∃ i, w' = W i) q (o :: rest) a :=
  wpq_val hw (fun j => exec_load ho (evalO_eq ha') (run_loadVar_one (h j i v hv))) k
theorem buildFF (w : World) : (Instr.buildSlice 26 2 #[(0, .agg #[str [58, 112, 97, 116, 104], str [47], .bool false]), (1, .agg #[str [58, 97, 117, 116, 104, 111, 114, 105, 116, 121], str [102, 114, 101, 115, 104, 46, 110, 97, 109, 101, 46, 111, 102, 46, 110, 111, 98, 111, 100, 121, 46, 101, 108, 115, 101], .bool false])]).run Tryd.prog w = .ok (.slice (some ⟨w.heap.size, 0, none⟩) 2 2) (w.alloc (.cells (fds FF).toArray 47)) := by kernel_rfl
theorem buildS2 (x y : Txt) (w : World) : (Instr.buildSlice 22 2 #[(0, str x), (1, str y)]).run Tryd.prog w = .ok (.slice (some ⟨w.heap.size, 0, none⟩) 2 2) (w.alloc (.cells (strs [x, y]).toArray 9)) := by kernel_rfl

set_option maxHeartbeats 16000000 in
set_option maxRecDepth 100000 in
theorem spoilW {w0 : World} {s : Sn} {cs : List Value} {k : Int} (hs : rdSn w0 cs s) (ok : s.ok) :
    Calls Tryd.prog 6 #[.agg cs.toArray, .int .i64 k] w0 fun e w' => e = .returned (.bool true) ∧ Below w0.heap.size w0 w' := by
  have hs0 := hs
  obtain ⟨vc, vh, xs, rfl, -, -, -⟩ := hs
  have ok2 := cut_ok ok
  have G := own_begin w0
  clear ok
  obtain ⟨S, hS⟩ : ∃ S, cutSn s = S := ⟨_, rfl⟩
  go_enter Tryd.func6, Tryd.ntmps6
  go_wp2_with (first
    | ((with_reducible refine at_alloc ?_); refine wpu_new G ?_; clear G; intro w G)
    | ((with_reducible refine at_drew ?_); refine wpu_drew G ?_; clear G; intro w G)
    | fail)
  refine Calls.mono (shownC G) ?_
  clear G; rintro e w ⟨rfl, G⟩
  go_wp2_with (first
    | ((with_reducible refine at_alloc ?_); refine wpu_new G ?_; clear G; intro w G)
    | ((with_reducible refine at_drew ?_); refine wpu_drew G ?_; clear G; intro w G)
    | ((with_reducible refine at_load ?_); first
      | (refine wpu_load G rfl rfl rfl rfl ?_; go_frame)
      | (refine wpu_loadB G rfl rfl rfl (by rfl) ?_; go_frame)
      | (refine wpu_loadS G rfl rfl rfl (by rfl) ?_; simp only [List.drop_succ_cons, List.drop_zero, List.take_succ_cons, List.take_zero]; go_frame))
    | ((with_reducible refine at_store ?_); first
      | (refine wpu_store G rfl rfl rfl rfl (by first | rfl | assumption | simp [*]) rfl ?_; clear G; intro w G; go_frame)
      | (refine wpu_storeB G rfl rfl rfl rfl (by rfl) (by rfl) (by first | rfl | assumption | simp [*]) ?_; clear G; intro w G; go_frame)
      | (refine wpu_storeS G rfl rfl rfl rfl (by rfl) (by rfl) (by first | rfl | assumption | simp [*]) ?_; clear G; intro w G; go_frame))
    | ((with_reducible refine at_convert ?_); refine wpu_str G rfl rfl rfl rfl ?_; go_frame)
    | ((with_reducible refine at_slice ?_); first
      | (refine wpu_sliceLo rfl rfl rfl rfl (by first | rfl | omega) (by omega) (by omega) ?_; go_frame)
      | (refine wpu_sliceLH rfl rfl rfl rfl rfl (by first | rfl | omega) (by first | rfl | omega) (by omega) (by omega) ?_; go_frame))
    | fail)
  refine Calls.mono (cutC (hs0.old G)) ?_
  rintro e w1 ⟨nc, nh, rfl, G1⟩
  replace G := own_join G G1
  clear G1 hs0
  have o1 : nc.oneCell' = true := by obtain ⟨_, _, _, e0, _, g⟩ := own_snA G; injection e0 with _ e0; injection e0 with e1 _; rw [e1]; exact (own_rd g).one
  have o2 : nh.oneCell' = true := by obtain ⟨_, _, _, e0, _, g⟩ := own_snA G; injection e0 with _ e0; injection e0 with _ e0; injection e0 with e1 _; rw [e1]; exact (own_rd g.right).one
  rw [hS] at G ok2
  obtain ⟨ver, hver⟩ : ∃ v, s.version = v := ⟨_, rfl⟩
  rw [hver] at G ⊢
  clear hver hS
  go_wp2_with (first
    | ((with_reducible refine at_store ?_); refine wpu_storeB G rfl rfl rfl rfl (by rfl) (by rfl) (by simp only [List.all_cons, o1, o2]; rfl) ?_; clear G; intro w G; go_frame)
    | ((with_reducible refine at_alloc ?_); refine wpu_new G ?_; clear G; intro w G)
    | ((with_reducible refine at_drew ?_); refine wpu_drew G ?_; clear G; intro w G)
    | ((with_reducible refine at_load ?_); first
      | (refine wpu_load G rfl rfl rfl rfl ?_; go_frame)
      | (refine wpu_loadB G rfl rfl rfl (by rfl) ?_; go_frame)
      | (refine wpu_loadS G rfl rfl rfl (by rfl) ?_; simp only [List.drop_succ_cons, List.drop_zero, List.take_succ_cons, List.take_zero]; go_frame))
    | ((with_reducible refine at_store ?_); first
      | (refine wpu_store G rfl rfl rfl rfl (by first | rfl | assumption | simp [*]) rfl ?_; clear G; intro w G; go_frame)
      | (refine wpu_storeB G rfl rfl rfl rfl (by rfl) (by rfl) (by first | rfl | assumption | simp [*]) ?_; clear G; intro w G; go_frame)
      | (refine wpu_storeS G rfl rfl rfl rfl (by rfl) (by rfl) (by first | rfl | assumption | simp [*]) ?_; clear G; intro w G; go_frame))
    | ((with_reducible refine at_convert ?_); refine wpu_str G rfl rfl rfl rfl ?_; go_frame)
    | ((with_reducible refine at_slice ?_); first
      | (refine wpu_sliceLo rfl rfl rfl rfl (by first | rfl | omega) (by omega) (by omega) ?_; go_frame)
      | (refine wpu_sliceLH rfl rfl rfl rfl rfl (by first | rfl | omega) (by first | rfl | omega) (by omega) (by omega) ?_; go_frame))
    | fail)
  -- the ground is this world from here on
  have GW := G
  have hb0 := oldBlk_of (G.pull (blk w0.heap.size [.int .i64 ver, nc, nh]))
  have hsn := sn_read (G.pull (snA [.int .i64 ver, nc, nh] S))
  clear G o1 o2
  obtain ⟨b0, hb⟩ : ∃ b, w0.heap.size = b := ⟨_, rfl⟩
  rw [hb] at hb0 ⊢
  obtain ⟨wg, hwg⟩ : ∃ u, w = u := ⟨_, rfl⟩
  rw [hwg] at GW hb0 hsn ⊢
  clear hwg
  have G := own_begin wg
  have HB0 : ∀ A u, Own wg A u → OldBlk u b0 [.int .i64 ver, nc, nh] := fun A u h => hb0.old h
  have HSN : ∀ A u, Own wg A u → rdSn u [.int .i64 ver, nc, nh] S := fun A u h => hsn.old h
  obtain ⟨vc, vh, xs, e0, hcc, hh0, hL⟩ := hsn
  injection e0 with _ e0; injection e0 with e1 e0; injection e0 with e2 _
  subst e1 e2
  obtain ⟨ho, hc, rfl, i3, i4, -⟩ := id hh0
  unfold maxLen at i4
  have HH0 : ∀ A u, Own wg A u → rd u 2 (.slice ho S.hosts.length hc) S.hosts.length xs := fun A u h => hh0.old h
  have HLh := hL
  clear hL hh0
  have hcl0 : ∀ A u, Own wg A u → rd u 1 nc S.clusters.length (strs S.clusters) := fun A u h => hcc.old h
  clear hcc
  cases hr : rightR S with
  | false =>
    have HR := Lib.hid hr
    go_wp2_with (first
      | ((with_reducible refine at_load ?_); refine wpu_loadOB (HB0 _ _ G) rfl (by kernel_rfl) rfl rfl ?_; go_frame)
      | fail)
    refine Calls.mono (rightC (s := S) (HSN _ _ G) ok2) ?_
    rintro e w3 ⟨rfl, hb⟩
    replace G := own_kept G hb
    rw [HR.out]
    go_wp2_with fail
    go_ret
    exact ⟨rfl, own_shift GW G⟩
  | true =>
    have HR := Lib.hid hr
    obtain ⟨co, cc, rfl, c1, c2, -⟩ := id (hcl0 _ _ G)
    unfold maxLen at c2
    go_wp2_with (first
      | ((with_reducible refine at_load ?_); refine wpu_loadOB (HB0 _ _ G) rfl (by kernel_rfl) rfl rfl ?_; go_frame)
      | fail)
    refine Calls.mono (rightC (s := S) (HSN _ _ G) ok2) ?_
    rintro e w3 ⟨rfl, hb⟩
    replace G := own_kept G hb
    clear hb
    rw [HR.out]
    obtain ⟨q1, hq1⟩ : ∃ q, decide ((S.clusters.length : Int) > 30) = q := ⟨_, rfl⟩
    cases q1 with
    | true =>
      go_wp2_with (first
        | ((with_reducible refine at_load ?_); refine wpu_loadO (HB0 _ _ G) rfl (by kernel_rfl) rfl rfl ?_; go_frame)
        | ((with_reducible refine at_lss ?_); refine wpu_lss rfl (by kernel_rfl) rfl rfl (by assumption) ?_; go_frame)
        | ((with_reducible refine at_gtr ?_); refine wpu_gtr rfl (by kernel_rfl) rfl rfl (by assumption) ?_; go_frame)
        | ((with_reducible refine at_leq ?_); refine wpu_leq rfl (by kernel_rfl) rfl rfl (by assumption) ?_; go_frame)
        | ((with_reducible refine at_geq ?_); refine wpu_geq rfl (by kernel_rfl) rfl rfl (by assumption) ?_; go_frame)
        | ((with_reducible refine at_eqS ?_); refine wpu_eqS rfl (by kernel_rfl) rfl rfl (by assumption) ?_; go_frame)
        | ((with_reducible refine at_neS ?_); refine wpu_neS rfl (by kernel_rfl) rfl rfl (by assumption) ?_; go_frame)
        | fail)
      go_ret
      exact ⟨rfl, own_shift GW G⟩
    | false =>
      obtain ⟨q2, hq2⟩ : ∃ q, decide ((S.hosts.length : Int) > 30) = q := ⟨_, rfl⟩
      cases q2 with
      | true =>
        go_wp2_with (first
          | ((with_reducible refine at_load ?_); refine wpu_loadO (HB0 _ _ G) rfl (by kernel_rfl) rfl rfl ?_; go_frame)
          | ((with_reducible refine at_lss ?_); refine wpu_lss rfl (by kernel_rfl) rfl rfl (by assumption) ?_; go_frame)
          | ((with_reducible refine at_gtr ?_); refine wpu_gtr rfl (by kernel_rfl) rfl rfl (by assumption) ?_; go_frame)
          | ((with_reducible refine at_leq ?_); refine wpu_leq rfl (by kernel_rfl) rfl rfl (by assumption) ?_; go_frame)
          | ((with_reducible refine at_geq ?_); refine wpu_geq rfl (by kernel_rfl) rfl rfl (by assumption) ?_; go_frame)
          | ((with_reducible refine at_eqS ?_); refine wpu_eqS rfl (by kernel_rfl) rfl rfl (by assumption) ?_; go_frame)
          | ((with_reducible refine at_neS ?_); refine wpu_neS rfl (by kernel_rfl) rfl rfl (by assumption) ?_; go_frame)
          | fail)
        go_ret
        exact ⟨rfl, own_shift GW G⟩
      | false =>
        obtain ⟨q3, hq3⟩ : ∃ q, decide ((S.clusters.length : Int) < 1) = q := ⟨_, rfl⟩
        cases q3 with
        | true =>
          go_wp2_with (first
            | ((with_reducible refine at_load ?_); refine wpu_loadO (HB0 _ _ G) rfl (by kernel_rfl) rfl rfl ?_; go_frame)
            | ((with_reducible refine at_lss ?_); refine wpu_lss rfl (by kernel_rfl) rfl rfl (by assumption) ?_; go_frame)
            | ((with_reducible refine at_gtr ?_); refine wpu_gtr rfl (by kernel_rfl) rfl rfl (by assumption) ?_; go_frame)
            | ((with_reducible refine at_leq ?_); refine wpu_leq rfl (by kernel_rfl) rfl rfl (by assumption) ?_; go_frame)
            | ((with_reducible refine at_geq ?_); refine wpu_geq rfl (by kernel_rfl) rfl rfl (by assumption) ?_; go_frame)
            | ((with_reducible refine at_eqS ?_); refine wpu_eqS rfl (by kernel_rfl) rfl rfl (by assumption) ?_; go_frame)
            | ((with_reducible refine at_neS ?_); refine wpu_neS rfl (by kernel_rfl) rfl rfl (by assumption) ?_; go_frame)
            | fail)
          go_ret
          exact ⟨rfl, own_shift GW G⟩
        | false =>
          go_wp2_with (first
            | ((with_reducible refine at_load ?_); first
              | (refine wpu_loadO (HB0 _ _ G) rfl (by kernel_rfl) rfl rfl ?_; go_frame)
              | (refine wpu_loadOB (HB0 _ _ G) rfl (by kernel_rfl) rfl rfl ?_; go_frame))
            | ((with_reducible refine at_lss ?_); refine wpu_lss rfl (by kernel_rfl) rfl rfl (by assumption) ?_; go_frame)
            | ((with_reducible refine at_gtr ?_); refine wpu_gtr rfl (by kernel_rfl) rfl rfl (by assumption) ?_; go_frame)
            | ((with_reducible refine at_leq ?_); refine wpu_leq rfl (by kernel_rfl) rfl rfl (by assumption) ?_; go_frame)
            | ((with_reducible refine at_geq ?_); refine wpu_geq rfl (by kernel_rfl) rfl rfl (by assumption) ?_; go_frame)
            | ((with_reducible refine at_eqS ?_); refine wpu_eqS rfl (by kernel_rfl) rfl rfl (by assumption) ?_; go_frame)
            | ((with_reducible refine at_neS ?_); refine wpu_neS rfl (by kernel_rfl) rfl rfl (by assumption) ?_; go_frame)
            | fail)
          refine Calls.mono (copyC (s := S) (HSN _ _ G) (right_small HR.out)) ?_
          rintro e w4 ⟨cs', rfl, G1⟩
          replace G := own_join G G1
          clear G1
          obtain ⟨bc, bh, rows, rfl, h2, G⟩ := own_snA G
          obtain ⟨bco, bcc, rfl, d1, d2⟩ := G.hdr bc
          obtain ⟨bho, bhc, rfl, d3, d4⟩ := G.hdr bh
          unfold maxLen at d2 d4
          have hq3' := of_decide_eq_false hq3
          have hq1' := of_decide_eq_false hq1
          have hq2' := of_decide_eq_false hq2
          obtain ⟨c0, hc0⟩ : ∃ x, S.clusters[0]? = some x := ⟨S.clusters[0]'(by omega), List.getElem?_eq_getElem _⟩
          have HC0 := Lib.hid (strs_at hc0)
          have HCM := Lib.hid (List.mem_of_getElem? hc0)
          obtain ⟨cd, rfl⟩ := rd_some (hcl0 _ _ G) (by omega)
          have HH2 := Lib.hid h2
          clear hc0 hq1 hq2 hq3 h2
          replace G := G.sub (sl 1 (.slice bco S.clusters.length bcc) S.clusters.length (strs S.clusters) * (sl 2 (.slice bho S.hosts.length bhc) S.hosts.length rows.flatten * starL hsA rows S.hosts))
          go_wp2_with (first
            | ((with_reducible refine at_alloc ?_); refine wpu_new G ?_; clear G; intro w G)
            | ((with_reducible refine at_drew ?_); refine wpu_drew G ?_; clear G; intro w G)
            | ((with_reducible refine at_build ?_); refine hold ?_)
            | ((with_reducible refine at_alloc ?_); refine wpu_new G ?_; clear G; intro w G)
            | ((with_reducible refine at_drew ?_); refine wpu_drew G ?_; clear G; intro w G)
            | ((with_reducible refine at_load ?_); first
              | (refine wpu_load G rfl rfl rfl rfl ?_; go_frame)
              | (refine wpu_loadB G rfl rfl rfl (by rfl) ?_; go_frame)
              | (refine wpu_loadS G rfl rfl rfl (by rfl) ?_; simp only [List.drop_succ_cons, List.drop_zero, List.take_succ_cons, List.take_zero]; go_frame))
            | ((with_reducible refine at_store ?_); first
              | (refine wpu_store G rfl rfl rfl rfl (by first | rfl | assumption | simp [*]) rfl ?_; clear G; intro w G; go_frame)
              | (refine wpu_storeB G rfl rfl rfl rfl (by rfl) (by rfl) (by first | rfl | assumption | simp [*]) ?_; clear G; intro w G; go_frame)
              | (refine wpu_storeS G rfl rfl rfl rfl (by rfl) (by rfl) (by first | rfl | assumption | simp [*]) ?_; clear G; intro w G; go_frame))
            | ((with_reducible refine at_convert ?_); refine wpu_str G rfl rfl rfl rfl ?_; go_frame)
            | ((with_reducible refine at_slice ?_); first
              | (refine wpu_sliceLo rfl rfl rfl rfl (by first | rfl | omega) (by omega) (by omega) ?_; go_frame)
              | (refine wpu_sliceLH rfl rfl rfl rfl rfl (by first | rfl | omega) (by first | rfl | omega) (by omega) (by omega) ?_; go_frame))
            | fail)
          unfold Held
          refine wpu_val rfl (exec_buildT _ rfl (by kernel_rfl) (buildS1 [102, 114, 101, 115, 104, 46, 110, 97, 109, 101, 46, 111, 102, 46, 110, 111, 98, 111, 100, 121, 46, 101, 108, 115, 101] _)) ?_
          go_frame
          obtain ⟨b6, hb6⟩ : ∃ b, w4.heap.size = b := ⟨_, rfl⟩
          rw [hb6] at G ⊢
          clear hb6
          replace G := own_new_sl (n := 1) (sz := 1) G (strs [[102, 114, 101, 115, 104, 46, 110, 97, 109, 101, 46, 111, 102, 46, 110, 111, 98, 111, 100, 121, 46, 101, 108, 115, 101]]) 9 rfl (by decide)
          generalize w.heap.size = bn at G ⊢
          generalize w.alloc _ = w at G ⊢
          go_wp2_with (first
            | ((with_reducible refine at_alloc ?_); refine wpu_new G ?_; clear G; intro w G)
            | ((with_reducible refine at_drew ?_); refine wpu_drew G ?_; clear G; intro w G)
            | ((with_reducible refine at_build ?_); refine hold ?_)
            | ((with_reducible refine at_load ?_); first
              | (refine wpu_loadO (HB0 _ _ G) rfl (by kernel_rfl) rfl rfl ?_; go_frame)
              | (refine wpu_loadC (k := 0) (hcl0 _ _ G) HC0.out rfl (by kernel_rfl) rfl ?_; go_frame))
            | ((with_reducible refine at_alloc ?_); refine wpu_new G ?_; clear G; intro w G)
            | ((with_reducible refine at_drew ?_); refine wpu_drew G ?_; clear G; intro w G)
            | ((with_reducible refine at_load ?_); first
              | (refine wpu_load G rfl rfl rfl rfl ?_; go_frame)
              | (refine wpu_loadB G rfl rfl rfl (by rfl) ?_; go_frame)
              | (refine wpu_loadS G rfl rfl rfl (by rfl) ?_; simp only [List.drop_succ_cons, List.drop_zero, List.take_succ_cons, List.take_zero]; go_frame))
            | ((with_reducible refine at_store ?_); first
              | (refine wpu_store G rfl rfl rfl rfl (by first | rfl | assumption | simp [*]) rfl ?_; clear G; intro w G; go_frame)
              | (refine wpu_storeB G rfl rfl rfl rfl (by rfl) (by rfl) (by first | rfl | assumption | simp [*]) ?_; clear G; intro w G; go_frame)
              | (refine wpu_storeS G rfl rfl rfl rfl (by rfl) (by rfl) (by first | rfl | assumption | simp [*]) ?_; clear G; intro w G; go_frame))
            | ((with_reducible refine at_convert ?_); refine wpu_str G rfl rfl rfl rfl ?_; go_frame)
            | ((with_reducible refine at_slice ?_); first
              | (refine wpu_sliceLo rfl rfl rfl rfl (by first | rfl | omega) (by omega) (by omega) ?_; go_frame)
              | (refine wpu_sliceLH rfl rfl rfl rfl rfl (by first | rfl | omega) (by first | rfl | omega) (by omega) (by omega) ?_; go_frame))
            | fail)
          rename_i wa wb _ _
          obtain ⟨b7, hb7⟩ : ∃ b, wa.heap.size = b := ⟨_, rfl⟩
          rw [hb7] at G ⊢
          clear hb7
          unfold Held
          refine wpu_val rfl (exec_buildT _ rfl (by kernel_rfl) (buildC1 c0 _)) ?_
          go_frame
          replace G := own_new_sl (n := 1) (sz := 2) G (chs [⟨c0, one64⟩]) 38 rfl (by decide)
          generalize w.heap.size = bch at G ⊢
          generalize w.alloc _ = w at G ⊢
          go_wp2_with (first
            | ((with_reducible refine at_alloc ?_); refine wpu_new G ?_; clear G; intro w G)
            | ((with_reducible refine at_drew ?_); refine wpu_drew G ?_; clear G; intro w G)
            | ((with_reducible refine at_and ?_); refine hold ?_)
            | ((with_reducible refine at_alloc ?_); refine wpu_new G ?_; clear G; intro w G)
            | ((with_reducible refine at_drew ?_); refine wpu_drew G ?_; clear G; intro w G)
            | ((with_reducible refine at_load ?_); first
              | (refine wpu_load G rfl rfl rfl rfl ?_; go_frame)
              | (refine wpu_loadB G rfl rfl rfl (by rfl) ?_; go_frame)
              | (refine wpu_loadS G rfl rfl rfl (by rfl) ?_; simp only [List.drop_succ_cons, List.drop_zero, List.take_succ_cons, List.take_zero]; go_frame))
            | ((with_reducible refine at_store ?_); first
              | (refine wpu_store G rfl rfl rfl rfl (by first | rfl | assumption | simp [*]) rfl ?_; clear G; intro w G; go_frame)
              | (refine wpu_storeB G rfl rfl rfl rfl (by rfl) (by rfl) (by first | rfl | assumption | simp [*]) ?_; clear G; intro w G; go_frame)
              | (refine wpu_storeS G rfl rfl rfl rfl (by rfl) (by rfl) (by first | rfl | assumption | simp [*]) ?_; clear G; intro w G; go_frame))
            | ((with_reducible refine at_convert ?_); refine wpu_str G rfl rfl rfl rfl ?_; go_frame)
            | ((with_reducible refine at_slice ?_); first
              | (refine wpu_sliceLo rfl rfl rfl rfl (by first | rfl | omega) (by omega) (by omega) ?_; go_frame)
              | (refine wpu_sliceLH rfl rfl rfl rfl rfl (by first | rfl | omega) (by first | rfl | omega) (by omega) (by omega) ?_; go_frame))
            | fail)
          rename_i wc wd _ _ _ _
          obtain ⟨b8, hb8⟩ : ∃ b, wc.heap.size = b := ⟨_, rfl⟩
          rw [hb8] at G ⊢
          clear hb8
          replace G := show Own wg (blk b8 [str [], .int .i64 0, str [], str [], .slice none 0 0, .slice (some ⟨bch, 0, none⟩) 1 1, .int .i64 0] * (sl 2 (.slice (some ⟨bch, 0, none⟩) 1 1) 1 (chs [⟨c0, one64⟩]) * (blk b7 [.slice (some ⟨bn, 0, none⟩) 1 1, .slice none 0 0] * (sl 1 (.slice (some ⟨bn, 0, none⟩) 1 1) 1 (strs [[102, 114, 101, 115, 104, 46, 110, 97, 109, 101, 46, 111, 102, 46, 110, 111, 98, 111, 100, 121, 46, 101, 108, 115, 101]]) * (blk b6 [.int .i64 S.version, .slice bco S.clusters.length bcc, .slice bho S.hosts.length bhc] * (sl 1 (.slice bco S.clusters.length bcc) S.clusters.length (strs S.clusters) * (sl 2 (.slice bho S.hosts.length bhc) S.hosts.length rows.flatten * starL hsA rows S.hosts))))))) w from G
          unfold Held
          obtain ⟨z, hz15, hz⟩ := and15 k
          obtain ⟨m, hm⟩ : ∃ m, (z : Int).tmod 7 = m := ⟨_, rfl⟩
          have hmb : 0 ≤ m ∧ m < 7 := by
            rw [← hm, Int.tmod_eq_emod_of_nonneg (by omega)]
            omega
          have HZ := Lib.hid hz
          have HM := Lib.hid hm
          clear hz hm hz15
          rcases (show m = 0 ∨ m = 1 ∨ m = 2 ∨ m = 3 ∨ m = 4 ∨ m = 5 ∨ m = 6 by omega) with rfl | rfl | rfl | rfl | rfl | rfl | rfl
          · as_aux_lemma =>
            clear hmb
            go_wp2_with (first
              | ((with_reducible refine at_alloc ?_); refine wpu_new G ?_; clear G; intro w G)
              | ((with_reducible refine at_drew ?_); refine wpu_drew G ?_; clear G; intro w G)
              | ((with_reducible refine at_build ?_); refine hold ?_)
              | ((with_reducible refine at_and ?_); refine wpu_val rfl (exec_andI rfl rfl rfl HZ.out) ?_; go_frame)
              | ((with_reducible refine at_rem ?_); refine wpu_val rfl (exec_rem7 rfl rfl rfl HM.out) ?_; go_frame)
              | ((with_reducible refine at_alloc ?_); refine wpu_new G ?_; clear G; intro w G)
              | ((with_reducible refine at_drew ?_); refine wpu_drew G ?_; clear G; intro w G)
              | ((with_reducible refine at_load ?_); first
                | (refine wpu_load G rfl rfl rfl rfl ?_; go_frame)
                | (refine wpu_loadB G rfl rfl rfl (by rfl) ?_; go_frame)
                | (refine wpu_loadS G rfl rfl rfl (by rfl) ?_; simp only [List.drop_succ_cons, List.drop_zero, List.take_succ_cons, List.take_zero]; go_frame))
              | ((with_reducible refine at_store ?_); first
                | (refine wpu_store G rfl rfl rfl rfl (by first | rfl | assumption | simp [*]) rfl ?_; clear G; intro w G; go_frame)
                | (refine wpu_storeB G rfl rfl rfl rfl (by rfl) (by rfl) (by first | rfl | assumption | simp [*]) ?_; clear G; intro w G; go_frame)
                | (refine wpu_storeS G rfl rfl rfl rfl (by rfl) (by rfl) (by first | rfl | assumption | simp [*]) ?_; clear G; intro w G; go_frame))
              | ((with_reducible refine at_convert ?_); refine wpu_str G rfl rfl rfl rfl ?_; go_frame)
              | ((with_reducible refine at_slice ?_); first
                | (refine wpu_sliceLo rfl rfl rfl rfl (by first | rfl | omega) (by omega) (by omega) ?_; go_frame)
                | (refine wpu_sliceLH rfl rfl rfl rfl rfl (by first | rfl | omega) (by first | rfl | omega) (by omega) (by omega) ?_; go_frame))
              | fail)
            have HBAD : Hid (rightR (verS S 0) = false) := Lib.hid (spoil0 S)
            have HOK : Hid (verS S 0).ok := Lib.hid (verS_ok ok2 0)
            simp only [List.set_cons_zero] at G
            replace G : Own wg (snA [.int .i64 0, .slice bco S.clusters.length bcc, .slice bho S.hosts.length bhc] (verS S 0) * blk b6 [.int .i64 0, .slice bco S.clusters.length bcc, .slice bho S.hosts.length bhc]) w := own_snA_mk (s := verS S 0) HH2.out (G.sub (sl 1 (.slice bco S.clusters.length bcc) S.clusters.length (strs S.clusters) * (sl 2 (.slice bho S.hosts.length bhc) S.hosts.length rows.flatten * (starL hsA rows S.hosts * blk b6 [.int .i64 0, .slice bco S.clusters.length bcc, .slice bho S.hosts.length bhc]))))
            unfold Held
            refine wpu_val rfl (exec_buildT _ rfl (by kernel_rfl) (buildFF _)) ?_
            go_frame
            replace G := own_new_sl (n := 2) (sz := 3) G (fds FF) 47 rfl (by decide)
            generalize w.heap.size = bf at G ⊢
            generalize w.alloc _ = w at G ⊢
            go_wp2_with fail
            refine Calls.mono (findC (s := (verS S 0)) (F := FF) (d := 0) (sn_read (G.pull (snA [.int .i64 0, .slice bco S.clusters.length bcc, .slice bho S.hosts.length bhc] (verS S 0)))) HOK.out (own_rd G) (by decide) (by decide)) ?_
            rintro e w5 ⟨rfl, hb⟩
            replace G := own_kept G hb
            clear hb
            rw [find_not HBAD.out, show findV none = .tuple #[str [], .int .i64 0, .bool false] from rfl]
            go_wp2_with (first
              | ((with_reducible refine at_alloc ?_); refine wpu_new G ?_; clear G; intro w G)
              | ((with_reducible refine at_drew ?_); refine wpu_drew G ?_; clear G; intro w G)
              | ((with_reducible refine at_load ?_); first
                | (refine wpu_load G rfl rfl rfl rfl ?_; go_frame)
                | (refine wpu_loadB G rfl rfl rfl (by rfl) ?_; go_frame)
                | (refine wpu_loadS G rfl rfl rfl (by rfl) ?_; simp only [List.drop_succ_cons, List.drop_zero, List.take_succ_cons, List.take_zero]; go_frame))
              | ((with_reducible refine at_store ?_); first
                | (refine wpu_store G rfl rfl rfl rfl (by first | rfl | assumption | simp [*]) rfl ?_; clear G; intro w G; go_frame)
                | (refine wpu_storeB G rfl rfl rfl rfl (by rfl) (by rfl) (by first | rfl | assumption | simp [*]) ?_; clear G; intro w G; go_frame)
                | (refine wpu_storeS G rfl rfl rfl rfl (by rfl) (by rfl) (by first | rfl | assumption | simp [*]) ?_; clear G; intro w G; go_frame))
              | ((with_reducible refine at_convert ?_); refine wpu_str G rfl rfl rfl rfl ?_; go_frame)
              | ((with_reducible refine at_slice ?_); first
                | (refine wpu_sliceLo rfl rfl rfl rfl (by first | rfl | omega) (by omega) (by omega) ?_; go_frame)
                | (refine wpu_sliceLH rfl rfl rfl rfl rfl (by first | rfl | omega) (by first | rfl | omega) (by omega) (by omega) ?_; go_frame))
              | fail)
            refine Calls.mono (rightC (s := (verS S 0)) (sn_read (G.pull (snA [.int .i64 0, .slice bco S.clusters.length bcc, .slice bho S.hosts.length bhc] (verS S 0)))) HOK.out) ?_
            rintro e w6 ⟨rfl, hb⟩
            replace G := own_kept G hb
            clear hb
            rw [HBAD.out]
            go_wp2_with (first
              | ((with_reducible refine at_eqS ?_); refine wpu_eqS (b := true) rfl (by kernel_rfl) rfl rfl (by rfl) ?_; go_frame)
              | fail)
            go_ret
            exact ⟨rfl, own_shift GW G⟩
          · as_aux_lemma =>
            clear hmb
            go_wp2_with (first
              | ((with_reducible refine at_alloc ?_); refine wpu_new G ?_; clear G; intro w G)
              | ((with_reducible refine at_drew ?_); refine wpu_drew G ?_; clear G; intro w G)
              | ((with_reducible refine at_build ?_); refine hold ?_)
              | ((with_reducible refine at_and ?_); refine wpu_val rfl (exec_andI rfl rfl rfl HZ.out) ?_; go_frame)
              | ((with_reducible refine at_rem ?_); refine wpu_val rfl (exec_rem7 rfl rfl rfl HM.out) ?_; go_frame)
              | ((with_reducible refine at_alloc ?_); refine wpu_new G ?_; clear G; intro w G)
              | ((with_reducible refine at_drew ?_); refine wpu_drew G ?_; clear G; intro w G)
              | ((with_reducible refine at_load ?_); first
                | (refine wpu_load G rfl rfl rfl rfl ?_; go_frame)
                | (refine wpu_loadB G rfl rfl rfl (by rfl) ?_; go_frame)
                | (refine wpu_loadS G rfl rfl rfl (by rfl) ?_; simp only [List.drop_succ_cons, List.drop_zero, List.take_succ_cons, List.take_zero]; go_frame))
              | ((with_reducible refine at_store ?_); first
                | (refine wpu_store G rfl rfl rfl rfl (by first | rfl | assumption | simp [*]) rfl ?_; clear G; intro w G; go_frame)
                | (refine wpu_storeB G rfl rfl rfl rfl (by rfl) (by rfl) (by first | rfl | assumption | simp [*]) ?_; clear G; intro w G; go_frame)
                | (refine wpu_storeS G rfl rfl rfl rfl (by rfl) (by rfl) (by first | rfl | assumption | simp [*]) ?_; clear G; intro w G; go_frame))
              | ((with_reducible refine at_convert ?_); refine wpu_str G rfl rfl rfl rfl ?_; go_frame)
              | ((with_reducible refine at_slice ?_); first
                | (refine wpu_sliceLo rfl rfl rfl rfl (by first | rfl | omega) (by omega) (by omega) ?_; go_frame)
                | (refine wpu_sliceLH rfl rfl rfl rfl rfl (by first | rfl | omega) (by first | rfl | omega) (by omega) (by omega) ?_; go_frame))
              | fail)
            try unfold Held
            have HC1 : Hid (c0 ∈ S.clusters) := HCM
            have HBAD : Hid (rightR (moreC S c0) = false) := Lib.hid (spoil1 HCM.out)
            have HOK : Hid (moreC S c0).ok := Lib.hid (moreC_ok ok2 (ok2.clusters _ HCM.out))
            replace G := own_drew G
            refine wp_region_mix [3, 0, 3, 0, 0, 0, 1, 1, 3, 2] (Own wg (blk b6 [.int .i64 S.version, .slice bco S.clusters.length bcc, .slice bho S.hosts.length bhc])) (by kernel_rfl) (by kernel_rfl) (G.sub _) ?_
            have GB : Own wg (blk b6 [.int .i64 S.version, .slice bco S.clusters.length bcc, .slice bho S.hosts.length bhc]) _ := G.sub _
            refine mix_plain 1 (by rfl) (by rfl) ?_
            intro ι W hne
            dsimp only [List.take, List.drop]
            repeat (go_big_quiet_step (fail))
            refine wpQuiet_nil ?_
            clear hne W ι
            refine mix_calm 1 (GB) (by rfl) (by rfl) ?_
            intro ι W hne hW
            dsimp only [List.take, List.drop]
            repeat (first | ((with_reducible refine atq_load ?_); first | (refine wpq_load hW rfl rfl rfl rfl ?_; go_frame) | (refine wpq_loadB hW rfl rfl rfl (by rfl) ?_; go_frame) | (refine wpq_loadS hW rfl rfl rfl (by rfl) ?_; simp only [List.drop_succ_cons, List.drop_zero, List.take_succ_cons, List.take_zero]; go_frame)) | (fail) | go_big_quiet_step (fail))
            refine wpQuiet_nil ?_
            clear  hW hne W ι
            refine mix_plain 1 (by rfl) (by rfl) ?_
            intro ι W hne
            dsimp only [List.take, List.drop]
            repeat (go_big_quiet_step (fail))
            refine wpQuiet_nil ?_
            clear hne W ι
            refine mix_calm 3 (GB) (by rfl) (by rfl) ?_
            intro ι W hne hW
            dsimp only [List.take, List.drop]
            repeat (first | ((with_reducible refine atq_load ?_); first | (refine wpq_loadO (fun i => HB0 _ _ (hW i)) rfl (by kernel_rfl) rfl rfl ?_; go_frame) | (refine wpq_loadC (k := 0) (fun i => hcl0 _ _ (hW i)) HC0.out rfl (by kernel_rfl) rfl ?_; go_frame)) | ((with_reducible refine atq_load ?_); first | (refine wpq_load hW rfl rfl rfl rfl ?_; go_frame) | (refine wpq_loadB hW rfl rfl rfl (by rfl) ?_; go_frame)) | go_big_quiet_step (fail))
            refine wpQuiet_nil ?_
            clear  hW hne W ι
            clear GB
            refine mix_loud rfl (fun K hK => ?_)
            refine wpk_v (exec_buildT _ rfl (by kernel_rfl) (buildS1 c0 _)) ?_
            replace G := own_new G (strs [c0]) 9
            generalize w.drew.heap.size = bn1 at G ⊢
            generalize w.drew.alloc _ = w at G ⊢
            refine hK _ _ ⟨G.sub _, ?_⟩
            clear hK
            try go_frame
            refine mix_loud rfl (fun K hK => ?_)
            refine wpk_append1 (n := S.clusters.length) (sz := 1) G rfl rfl rfl (by rfl) (by rfl) (by unfold maxLen; omega) (by omega) fun v w G => ?_
            obtain ⟨xo, xc, rfl, e1, e2⟩ := G.hdr v
            unfold maxLen at e2
            refine hK _ _ ⟨G.sub _, ?_⟩
            clear hK
            try go_frame
            refine mix_plain 1 (by rfl) (by rfl) ?_
            intro ι W hne
            dsimp only [List.take, List.drop]
            repeat (go_big_quiet_step (fail))
            refine wpQuiet_nil ?_
            clear hne W ι
            refine mix_last rfl (fun K hK => ?_)
            refine wpk_store G rfl rfl rfl rfl rfl ?_
            clear G; intro w G
            refine hK _ _ ?_
            clear hK
            try go_frame
            refine mix_nil ?_
            go_wp2_with (first
              | ((with_reducible refine at_alloc ?_); refine wpu_new G ?_; clear G; intro w G)
              | ((with_reducible refine at_drew ?_); refine wpu_drew G ?_; clear G; intro w G)
              | ((with_reducible refine at_build ?_); refine hold ?_)
              | ((with_reducible refine at_and ?_); refine wpu_val rfl (exec_andI rfl rfl rfl HZ.out) ?_; go_frame)
              | ((with_reducible refine at_rem ?_); refine wpu_val rfl (exec_rem7 rfl rfl rfl HM.out) ?_; go_frame)
              | ((with_reducible refine at_alloc ?_); refine wpu_new G ?_; clear G; intro w G)
              | ((with_reducible refine at_drew ?_); refine wpu_drew G ?_; clear G; intro w G)
              | ((with_reducible refine at_load ?_); first
                | (refine wpu_load G rfl rfl rfl rfl ?_; go_frame)
                | (refine wpu_loadB G rfl rfl rfl (by rfl) ?_; go_frame)
                | (refine wpu_loadS G rfl rfl rfl (by rfl) ?_; simp only [List.drop_succ_cons, List.drop_zero, List.take_succ_cons, List.take_zero]; go_frame))
              | ((with_reducible refine at_store ?_); first
                | (refine wpu_store G rfl rfl rfl rfl (by first | rfl | assumption | simp [*]) rfl ?_; clear G; intro w G; go_frame)
                | (refine wpu_storeB G rfl rfl rfl rfl (by rfl) (by rfl) (by first | rfl | assumption | simp [*]) ?_; clear G; intro w G; go_frame)
                | (refine wpu_storeS G rfl rfl rfl rfl (by rfl) (by rfl) (by first | rfl | assumption | simp [*]) ?_; clear G; intro w G; go_frame))
              | ((with_reducible refine at_convert ?_); refine wpu_str G rfl rfl rfl rfl ?_; go_frame)
              | ((with_reducible refine at_slice ?_); first
                | (refine wpu_sliceLo rfl rfl rfl rfl (by first | rfl | omega) (by omega) (by omega) ?_; go_frame)
                | (refine wpu_sliceLH rfl rfl rfl rfl rfl (by first | rfl | omega) (by first | rfl | omega) (by omega) (by omega) ?_; go_frame))
              | fail)
            simp only [List.set_cons_succ, List.set_cons_zero] at G
            rw [show strs S.clusters ++ strs [c0] = strs (S.clusters ++ [c0]) from strs_app _ _] at G
            replace G := clus_end (c := c0) (R := blk b6 [.int .i64 S.version, .slice xo (S.clusters.length + 1) xc, .slice bho S.hosts.length bhc]) HH2.out (G.sub (sl 1 (.slice xo (S.clusters.length + 1) xc) (S.clusters.length + 1) (strs (S.clusters ++ [c0])) * (sl 2 (.slice bho S.hosts.length bhc) S.hosts.length rows.flatten * (starL hsA rows S.hosts * blk b6 [.int .i64 S.version, .slice xo (S.clusters.length + 1) xc, .slice bho S.hosts.length bhc]))))
            unfold Held
            refine wpu_val rfl (exec_buildT _ rfl (by kernel_rfl) (buildFF _)) ?_
            go_frame
            replace G := own_new_sl (n := 2) (sz := 3) G (fds FF) 47 rfl (by decide)
            generalize w.heap.size = bf at G ⊢
            generalize w.alloc _ = w at G ⊢
            go_wp2_with fail
            refine Calls.mono (findC (s := (moreC S c0)) (F := FF) (d := 0) (sn_read (G.pull (snA [.int .i64 S.version, .slice xo (S.clusters.length + 1) xc, .slice bho S.hosts.length bhc] (moreC S c0)))) HOK.out (own_rd G) (by decide) (by decide)) ?_
            rintro e w5 ⟨rfl, hb⟩
            replace G := own_kept G hb
            clear hb
            rw [find_not HBAD.out, show findV none = .tuple #[str [], .int .i64 0, .bool false] from rfl]
            go_wp2_with (first
              | ((with_reducible refine at_alloc ?_); refine wpu_new G ?_; clear G; intro w G)
              | ((with_reducible refine at_drew ?_); refine wpu_drew G ?_; clear G; intro w G)
              | ((with_reducible refine at_load ?_); first
                | (refine wpu_load G rfl rfl rfl rfl ?_; go_frame)
                | (refine wpu_loadB G rfl rfl rfl (by rfl) ?_; go_frame)
                | (refine wpu_loadS G rfl rfl rfl (by rfl) ?_; simp only [List.drop_succ_cons, List.drop_zero, List.take_succ_cons, List.take_zero]; go_frame))
              | ((with_reducible refine at_store ?_); first
                | (refine wpu_store G rfl rfl rfl rfl (by first | rfl | assumption | simp [*]) rfl ?_; clear G; intro w G; go_frame)
                | (refine wpu_storeB G rfl rfl rfl rfl (by rfl) (by rfl) (by first | rfl | assumption | simp [*]) ?_; clear G; intro w G; go_frame)
                | (refine wpu_storeS G rfl rfl rfl rfl (by rfl) (by rfl) (by first | rfl | assumption | simp [*]) ?_; clear G; intro w G; go_frame))
              | ((with_reducible refine at_convert ?_); refine wpu_str G rfl rfl rfl rfl ?_; go_frame)
              | ((with_reducible refine at_slice ?_); first
                | (refine wpu_sliceLo rfl rfl rfl rfl (by first | rfl | omega) (by omega) (by omega) ?_; go_frame)
                | (refine wpu_sliceLH rfl rfl rfl rfl rfl (by first | rfl | omega) (by first | rfl | omega) (by omega) (by omega) ?_; go_frame))
              | fail)
            refine Calls.mono (rightC (s := (moreC S c0)) (sn_read (G.pull (snA [.int .i64 S.version, .slice xo (S.clusters.length + 1) xc, .slice bho S.hosts.length bhc] (moreC S c0)))) HOK.out) ?_
            rintro e w6 ⟨rfl, hb⟩
            replace G := own_kept G hb
            clear hb
            rw [HBAD.out]
            go_wp2_with (first
              | ((with_reducible refine at_eqS ?_); refine wpu_eqS (b := true) rfl (by kernel_rfl) rfl rfl (by rfl) ?_; go_frame)
              | fail)
            go_ret
            exact ⟨rfl, own_shift GW G⟩
          · as_aux_lemma =>
            clear hmb
            go_wp2_with (first
              | ((with_reducible refine at_alloc ?_); refine wpu_new G ?_; clear G; intro w G)
              | ((with_reducible refine at_drew ?_); refine wpu_drew G ?_; clear G; intro w G)
              | ((with_reducible refine at_build ?_); refine hold ?_)
              | ((with_reducible refine at_and ?_); refine wpu_val rfl (exec_andI rfl rfl rfl HZ.out) ?_; go_frame)
              | ((with_reducible refine at_rem ?_); refine wpu_val rfl (exec_rem7 rfl rfl rfl HM.out) ?_; go_frame)
              | ((with_reducible refine at_alloc ?_); refine wpu_new G ?_; clear G; intro w G)
              | ((with_reducible refine at_drew ?_); refine wpu_drew G ?_; clear G; intro w G)
              | ((with_reducible refine at_load ?_); first
                | (refine wpu_load G rfl rfl rfl rfl ?_; go_frame)
                | (refine wpu_loadB G rfl rfl rfl (by rfl) ?_; go_frame)
                | (refine wpu_loadS G rfl rfl rfl (by rfl) ?_; simp only [List.drop_succ_cons, List.drop_zero, List.take_succ_cons, List.take_zero]; go_frame))
              | ((with_reducible refine at_store ?_); first
                | (refine wpu_store G rfl rfl rfl rfl (by first | rfl | assumption | simp [*]) rfl ?_; clear G; intro w G; go_frame)
                | (refine wpu_storeB G rfl rfl rfl rfl (by rfl) (by rfl) (by first | rfl | assumption | simp [*]) ?_; clear G; intro w G; go_frame)
                | (refine wpu_storeS G rfl rfl rfl rfl (by rfl) (by rfl) (by first | rfl | assumption | simp [*]) ?_; clear G; intro w G; go_frame))
              | ((with_reducible refine at_convert ?_); refine wpu_str G rfl rfl rfl rfl ?_; go_frame)
              | ((with_reducible refine at_slice ?_); first
                | (refine wpu_sliceLo rfl rfl rfl rfl (by first | rfl | omega) (by omega) (by omega) ?_; go_frame)
                | (refine wpu_sliceLH rfl rfl rfl rfl rfl (by first | rfl | omega) (by first | rfl | omega) (by omega) (by omega) ?_; go_frame))
              | fail)
            have HBAD : Hid (rightR (moreH S ⟨[], []⟩) = false) := Lib.hid (spoilH (fun seen => spoil2 _ seen))
            have HOK : Hid (moreH S ⟨[], []⟩).ok := Lib.hid (moreH_ok ok2 ⟨(fun _ h => by cases h), (fun _ h => by cases h)⟩)
            unfold Held
            try simp only [List.set_cons_succ, List.set_cons_zero] at G ⊢
            refine wpu_val rfl (exec_buildT _ rfl (by kernel_rfl) (buildH1 (.slice none 0 0) (.slice none 0 0) _)) ?_
            go_frame
            refine wpu_new G ?_
            clear G; intro w G
            go_wp2_with (first
              | ((with_reducible refine at_append ?_); refine hold ?_)
              | ((with_reducible refine at_alloc ?_); refine wpu_new G ?_; clear G; intro w G)
              | ((with_reducible refine at_drew ?_); refine wpu_drew G ?_; clear G; intro w G)
              | ((with_reducible refine at_load ?_); first
                | (refine wpu_load G rfl rfl rfl rfl ?_; go_frame)
                | (refine wpu_loadB G rfl rfl rfl (by rfl) ?_; go_frame)
                | (refine wpu_loadS G rfl rfl rfl (by rfl) ?_; simp only [List.drop_succ_cons, List.drop_zero, List.take_succ_cons, List.take_zero]; go_frame))
              | ((with_reducible refine at_store ?_); first
                | (refine wpu_store G rfl rfl rfl rfl (by first | rfl | assumption | simp [*]) rfl ?_; clear G; intro w G; go_frame)
                | (refine wpu_storeB G rfl rfl rfl rfl (by rfl) (by rfl) (by first | rfl | assumption | simp [*]) ?_; clear G; intro w G; go_frame)
                | (refine wpu_storeS G rfl rfl rfl rfl (by rfl) (by rfl) (by first | rfl | assumption | simp [*]) ?_; clear G; intro w G; go_frame))
              | ((with_reducible refine at_convert ?_); refine wpu_str G rfl rfl rfl rfl ?_; go_frame)
              | ((with_reducible refine at_slice ?_); first
                | (refine wpu_sliceLo rfl rfl rfl rfl (by first | rfl | omega) (by omega) (by omega) ?_; go_frame)
                | (refine wpu_sliceLH rfl rfl rfl rfl rfl (by first | rfl | omega) (by first | rfl | omega) (by omega) (by omega) ?_; go_frame))
              | fail)
            unfold Held
            refine wpu_append1 (n := S.hosts.length) (sz := 2) G rfl rfl rfl rfl rfl (by rfl) (by unfold maxLen; omega) (by omega) ?_
            clear G; intro v w G
            obtain ⟨xo, xc, rfl, e1, e2⟩ := G.hdr v
            unfold maxLen at e2
            go_frame
            go_wp2_with (first
              | ((with_reducible refine at_build ?_); refine hold ?_)
              | ((with_reducible refine at_alloc ?_); refine wpu_new G ?_; clear G; intro w G)
              | ((with_reducible refine at_drew ?_); refine wpu_drew G ?_; clear G; intro w G)
              | ((with_reducible refine at_load ?_); first
                | (refine wpu_load G rfl rfl rfl rfl ?_; go_frame)
                | (refine wpu_loadB G rfl rfl rfl (by rfl) ?_; go_frame)
                | (refine wpu_loadS G rfl rfl rfl (by rfl) ?_; simp only [List.drop_succ_cons, List.drop_zero, List.take_succ_cons, List.take_zero]; go_frame))
              | ((with_reducible refine at_store ?_); first
                | (refine wpu_store G rfl rfl rfl rfl (by first | rfl | assumption | simp [*]) rfl ?_; clear G; intro w G; go_frame)
                | (refine wpu_storeB G rfl rfl rfl rfl (by rfl) (by rfl) (by first | rfl | assumption | simp [*]) ?_; clear G; intro w G; go_frame)
                | (refine wpu_storeS G rfl rfl rfl rfl (by rfl) (by rfl) (by first | rfl | assumption | simp [*]) ?_; clear G; intro w G; go_frame))
              | ((with_reducible refine at_convert ?_); refine wpu_str G rfl rfl rfl rfl ?_; go_frame)
              | ((with_reducible refine at_slice ?_); first
                | (refine wpu_sliceLo rfl rfl rfl rfl (by first | rfl | omega) (by omega) (by omega) ?_; go_frame)
                | (refine wpu_sliceLH rfl rfl rfl rfl rfl (by first | rfl | omega) (by first | rfl | omega) (by omega) (by omega) ?_; go_frame))
              | fail)
            unfold Held
            simp only [List.set_cons_succ, List.set_cons_zero] at G
            replace G := names_end (N := []) (vn := .slice none 0 0) ((own_nil G 1).eq rfl)
            replace G := hosts_end (h := ⟨[], []⟩) (R := blk b6 [.int .i64 S.version, .slice bco S.clusters.length bcc, .slice xo (S.hosts.length + 1) xc]) HH2.out (G.sub (hsA [(.slice none 0 0), (.slice none 0 0)] ⟨[], []⟩ * (sl 1 (.slice bco S.clusters.length bcc) S.clusters.length (strs S.clusters) * (sl 2 (.slice xo (S.hosts.length + 1) xc) (S.hosts.length + 1) (rows.flatten ++ [(.slice none 0 0), (.slice none 0 0)]) * (starL hsA rows S.hosts * blk b6 [.int .i64 S.version, .slice bco S.clusters.length bcc, .slice xo (S.hosts.length + 1) xc])))))
            refine wpu_val rfl (exec_buildT _ rfl (by kernel_rfl) (buildFF _)) ?_
            go_frame
            replace G := own_new_sl (n := 2) (sz := 3) G (fds FF) 47 rfl (by decide)
            generalize w.heap.size = bf at G ⊢
            generalize w.alloc _ = w at G ⊢
            go_wp2_with fail
            refine Calls.mono (findC (s := (moreH S ⟨[], []⟩)) (F := FF) (d := 0) (sn_read (G.pull (snA [.int .i64 S.version, .slice bco S.clusters.length bcc, .slice xo (S.hosts.length + 1) xc] (moreH S ⟨[], []⟩)))) HOK.out (own_rd G) (by decide) (by decide)) ?_
            rintro e w5 ⟨rfl, hb⟩
            replace G := own_kept G hb
            clear hb
            rw [find_not HBAD.out, show findV none = .tuple #[str [], .int .i64 0, .bool false] from rfl]
            go_wp2_with (first
              | ((with_reducible refine at_alloc ?_); refine wpu_new G ?_; clear G; intro w G)
              | ((with_reducible refine at_drew ?_); refine wpu_drew G ?_; clear G; intro w G)
              | ((with_reducible refine at_load ?_); first
                | (refine wpu_load G rfl rfl rfl rfl ?_; go_frame)
                | (refine wpu_loadB G rfl rfl rfl (by rfl) ?_; go_frame)
                | (refine wpu_loadS G rfl rfl rfl (by rfl) ?_; simp only [List.drop_succ_cons, List.drop_zero, List.take_succ_cons, List.take_zero]; go_frame))
              | ((with_reducible refine at_store ?_); first
                | (refine wpu_store G rfl rfl rfl rfl (by first | rfl | assumption | simp [*]) rfl ?_; clear G; intro w G; go_frame)
                | (refine wpu_storeB G rfl rfl rfl rfl (by rfl) (by rfl) (by first | rfl | assumption | simp [*]) ?_; clear G; intro w G; go_frame)
                | (refine wpu_storeS G rfl rfl rfl rfl (by rfl) (by rfl) (by first | rfl | assumption | simp [*]) ?_; clear G; intro w G; go_frame))
              | ((with_reducible refine at_convert ?_); refine wpu_str G rfl rfl rfl rfl ?_; go_frame)
              | ((with_reducible refine at_slice ?_); first
                | (refine wpu_sliceLo rfl rfl rfl rfl (by first | rfl | omega) (by omega) (by omega) ?_; go_frame)
                | (refine wpu_sliceLH rfl rfl rfl rfl rfl (by first | rfl | omega) (by first | rfl | omega) (by omega) (by omega) ?_; go_frame))
              | fail)
            refine Calls.mono (rightC (s := (moreH S ⟨[], []⟩)) (sn_read (G.pull (snA [.int .i64 S.version, .slice bco S.clusters.length bcc, .slice xo (S.hosts.length + 1) xc] (moreH S ⟨[], []⟩)))) HOK.out) ?_
            rintro e w6 ⟨rfl, hb⟩
            replace G := own_kept G hb
            clear hb
            rw [HBAD.out]
            go_wp2_with (first
              | ((with_reducible refine at_eqS ?_); refine wpu_eqS (b := true) rfl (by kernel_rfl) rfl rfl (by rfl) ?_; go_frame)
              | fail)
            go_ret
            exact ⟨rfl, own_shift GW G⟩
          · as_aux_lemma =>
            clear hmb
            go_wp2_with (first
              | ((with_reducible refine at_alloc ?_); refine wpu_new G ?_; clear G; intro w G)
              | ((with_reducible refine at_drew ?_); refine wpu_drew G ?_; clear G; intro w G)
              | ((with_reducible refine at_build ?_); refine hold ?_)
              | ((with_reducible refine at_and ?_); refine wpu_val rfl (exec_andI rfl rfl rfl HZ.out) ?_; go_frame)
              | ((with_reducible refine at_rem ?_); refine wpu_val rfl (exec_rem7 rfl rfl rfl HM.out) ?_; go_frame)
              | ((with_reducible refine at_alloc ?_); refine wpu_new G ?_; clear G; intro w G)
              | ((with_reducible refine at_drew ?_); refine wpu_drew G ?_; clear G; intro w G)
              | ((with_reducible refine at_load ?_); first
                | (refine wpu_load G rfl rfl rfl rfl ?_; go_frame)
                | (refine wpu_loadB G rfl rfl rfl (by rfl) ?_; go_frame)
                | (refine wpu_loadS G rfl rfl rfl (by rfl) ?_; simp only [List.drop_succ_cons, List.drop_zero, List.take_succ_cons, List.take_zero]; go_frame))
              | ((with_reducible refine at_store ?_); first
                | (refine wpu_store G rfl rfl rfl rfl (by first | rfl | assumption | simp [*]) rfl ?_; clear G; intro w G; go_frame)
                | (refine wpu_storeB G rfl rfl rfl rfl (by rfl) (by rfl) (by first | rfl | assumption | simp [*]) ?_; clear G; intro w G; go_frame)
                | (refine wpu_storeS G rfl rfl rfl rfl (by rfl) (by rfl) (by first | rfl | assumption | simp [*]) ?_; clear G; intro w G; go_frame))
              | ((with_reducible refine at_convert ?_); refine wpu_str G rfl rfl rfl rfl ?_; go_frame)
              | ((with_reducible refine at_slice ?_); first
                | (refine wpu_sliceLo rfl rfl rfl rfl (by first | rfl | omega) (by omega) (by omega) ?_; go_frame)
                | (refine wpu_sliceLH rfl rfl rfl rfl rfl (by first | rfl | omega) (by first | rfl | omega) (by omega) (by omega) ?_; go_frame))
              | fail)
            unfold Held
            refine wpu_val rfl (exec_buildT _ rfl (by kernel_rfl) (buildS2 [116, 119, 105, 99, 101, 46, 111, 102, 46, 109, 101] [84, 87, 73, 67, 69, 46, 111, 102, 46, 77, 69] _)) ?_
            go_frame
            replace G := own_new_sl (n := 2) (sz := 1) G (strs [[116, 119, 105, 99, 101, 46, 111, 102, 46, 109, 101], [84, 87, 73, 67, 69, 46, 111, 102, 46, 77, 69]]) 9 rfl (by decide)
            generalize w.heap.size = bt at G ⊢
            generalize w.alloc _ = w at G ⊢
            go_wp2_with (first
              | ((with_reducible refine at_alloc ?_); refine wpu_new G ?_; clear G; intro w G)
              | ((with_reducible refine at_drew ?_); refine wpu_drew G ?_; clear G; intro w G)
              | ((with_reducible refine at_build ?_); refine hold ?_)
              | ((with_reducible refine at_and ?_); refine wpu_val rfl (exec_andI rfl rfl rfl HZ.out) ?_; go_frame)
              | ((with_reducible refine at_rem ?_); refine wpu_val rfl (exec_rem7 rfl rfl rfl HM.out) ?_; go_frame)
              | ((with_reducible refine at_alloc ?_); refine wpu_new G ?_; clear G; intro w G)
              | ((with_reducible refine at_drew ?_); refine wpu_drew G ?_; clear G; intro w G)
              | ((with_reducible refine at_load ?_); first
                | (refine wpu_load G rfl rfl rfl rfl ?_; go_frame)
                | (refine wpu_loadB G rfl rfl rfl (by rfl) ?_; go_frame)
                | (refine wpu_loadS G rfl rfl rfl (by rfl) ?_; simp only [List.drop_succ_cons, List.drop_zero, List.take_succ_cons, List.take_zero]; go_frame))
              | ((with_reducible refine at_store ?_); first
                | (refine wpu_store G rfl rfl rfl rfl (by first | rfl | assumption | simp [*]) rfl ?_; clear G; intro w G; go_frame)
                | (refine wpu_storeB G rfl rfl rfl rfl (by rfl) (by rfl) (by first | rfl | assumption | simp [*]) ?_; clear G; intro w G; go_frame)
                | (refine wpu_storeS G rfl rfl rfl rfl (by rfl) (by rfl) (by first | rfl | assumption | simp [*]) ?_; clear G; intro w G; go_frame))
              | ((with_reducible refine at_convert ?_); refine wpu_str G rfl rfl rfl rfl ?_; go_frame)
              | ((with_reducible refine at_slice ?_); first
                | (refine wpu_sliceLo rfl rfl rfl rfl (by first | rfl | omega) (by omega) (by omega) ?_; go_frame)
                | (refine wpu_sliceLH rfl rfl rfl rfl rfl (by first | rfl | omega) (by first | rfl | omega) (by omega) (by omega) ?_; go_frame))
              | fail)
            have HBAD : Hid (rightR (moreH S ⟨[[116, 119, 105, 99, 101, 46, 111, 102, 46, 109, 101], [84, 87, 73, 67, 69, 46, 111, 102, 46, 77, 69]], []⟩) = false) := Lib.hid (spoilH (fun seen => spoil3 _ seen (by decide)))
            have HOK : Hid (moreH S ⟨[[116, 119, 105, 99, 101, 46, 111, 102, 46, 109, 101], [84, 87, 73, 67, 69, 46, 111, 102, 46, 77, 69]], []⟩).ok := Lib.hid (moreH_ok ok2 ⟨(fun x h => by
              rcases List.mem_cons.1 h with rfl | h
              · decide
              · rw [List.mem_singleton.1 h]; decide), (fun _ h => by cases h)⟩)
            unfold Held
            try simp only [List.set_cons_succ, List.set_cons_zero] at G ⊢
            refine wpu_val rfl (exec_buildT _ rfl (by kernel_rfl) (buildH1 (.slice (some ⟨bt, 0, none⟩) 2 2) (.slice none 0 0) _)) ?_
            go_frame
            refine wpu_new G ?_
            clear G; intro w G
            go_wp2_with (first
              | ((with_reducible refine at_append ?_); refine hold ?_)
              | ((with_reducible refine at_alloc ?_); refine wpu_new G ?_; clear G; intro w G)
              | ((with_reducible refine at_drew ?_); refine wpu_drew G ?_; clear G; intro w G)
              | ((with_reducible refine at_load ?_); first
                | (refine wpu_load G rfl rfl rfl rfl ?_; go_frame)
                | (refine wpu_loadB G rfl rfl rfl (by rfl) ?_; go_frame)
                | (refine wpu_loadS G rfl rfl rfl (by rfl) ?_; simp only [List.drop_succ_cons, List.drop_zero, List.take_succ_cons, List.take_zero]; go_frame))
              | ((with_reducible refine at_store ?_); first
                | (refine wpu_store G rfl rfl rfl rfl (by first | rfl | assumption | simp [*]) rfl ?_; clear G; intro w G; go_frame)
                | (refine wpu_storeB G rfl rfl rfl rfl (by rfl) (by rfl) (by first | rfl | assumption | simp [*]) ?_; clear G; intro w G; go_frame)
                | (refine wpu_storeS G rfl rfl rfl rfl (by rfl) (by rfl) (by first | rfl | assumption | simp [*]) ?_; clear G; intro w G; go_frame))
              | ((with_reducible refine at_convert ?_); refine wpu_str G rfl rfl rfl rfl ?_; go_frame)
              | ((with_reducible refine at_slice ?_); first
                | (refine wpu_sliceLo rfl rfl rfl rfl (by first | rfl | omega) (by omega) (by omega) ?_; go_frame)
                | (refine wpu_sliceLH rfl rfl rfl rfl rfl (by first | rfl | omega) (by first | rfl | omega) (by omega) (by omega) ?_; go_frame))
              | fail)
            unfold Held
            refine wpu_append1 (n := S.hosts.length) (sz := 2) G rfl rfl rfl rfl rfl (by rfl) (by unfold maxLen; omega) (by omega) ?_
            clear G; intro v w G
            obtain ⟨xo, xc, rfl, e1, e2⟩ := G.hdr v
            unfold maxLen at e2
            go_frame
            go_wp2_with (first
              | ((with_reducible refine at_build ?_); refine hold ?_)
              | ((with_reducible refine at_alloc ?_); refine wpu_new G ?_; clear G; intro w G)
              | ((with_reducible refine at_drew ?_); refine wpu_drew G ?_; clear G; intro w G)
              | ((with_reducible refine at_load ?_); first
                | (refine wpu_load G rfl rfl rfl rfl ?_; go_frame)
                | (refine wpu_loadB G rfl rfl rfl (by rfl) ?_; go_frame)
                | (refine wpu_loadS G rfl rfl rfl (by rfl) ?_; simp only [List.drop_succ_cons, List.drop_zero, List.take_succ_cons, List.take_zero]; go_frame))
              | ((with_reducible refine at_store ?_); first
                | (refine wpu_store G rfl rfl rfl rfl (by first | rfl | assumption | simp [*]) rfl ?_; clear G; intro w G; go_frame)
                | (refine wpu_storeB G rfl rfl rfl rfl (by rfl) (by rfl) (by first | rfl | assumption | simp [*]) ?_; clear G; intro w G; go_frame)
                | (refine wpu_storeS G rfl rfl rfl rfl (by rfl) (by rfl) (by first | rfl | assumption | simp [*]) ?_; clear G; intro w G; go_frame))
              | ((with_reducible refine at_convert ?_); refine wpu_str G rfl rfl rfl rfl ?_; go_frame)
              | ((with_reducible refine at_slice ?_); first
                | (refine wpu_sliceLo rfl rfl rfl rfl (by first | rfl | omega) (by omega) (by omega) ?_; go_frame)
                | (refine wpu_sliceLH rfl rfl rfl rfl rfl (by first | rfl | omega) (by first | rfl | omega) (by omega) (by omega) ?_; go_frame))
              | fail)
            unfold Held
            simp only [List.set_cons_succ, List.set_cons_zero] at G
            replace G := names_end (N := [[116, 119, 105, 99, 101, 46, 111, 102, 46, 109, 101], [84, 87, 73, 67, 69, 46, 111, 102, 46, 77, 69]]) (vn := .slice (some ⟨bt, 0, none⟩) 2 2) (G.pull (sl 1 (.slice (some ⟨bt, 0, none⟩) 2 2) 2 (strs [[116, 119, 105, 99, 101, 46, 111, 102, 46, 109, 101], [84, 87, 73, 67, 69, 46, 111, 102, 46, 77, 69]])))
            replace G := hosts_end (h := ⟨[[116, 119, 105, 99, 101, 46, 111, 102, 46, 109, 101], [84, 87, 73, 67, 69, 46, 111, 102, 46, 77, 69]], []⟩) (R := blk b6 [.int .i64 S.version, .slice bco S.clusters.length bcc, .slice xo (S.hosts.length + 1) xc]) HH2.out (G.sub (hsA [(.slice (some ⟨bt, 0, none⟩) 2 2), (.slice none 0 0)] ⟨[[116, 119, 105, 99, 101, 46, 111, 102, 46, 109, 101], [84, 87, 73, 67, 69, 46, 111, 102, 46, 77, 69]], []⟩ * (sl 1 (.slice bco S.clusters.length bcc) S.clusters.length (strs S.clusters) * (sl 2 (.slice xo (S.hosts.length + 1) xc) (S.hosts.length + 1) (rows.flatten ++ [(.slice (some ⟨bt, 0, none⟩) 2 2), (.slice none 0 0)]) * (starL hsA rows S.hosts * blk b6 [.int .i64 S.version, .slice bco S.clusters.length bcc, .slice xo (S.hosts.length + 1) xc])))))
            refine wpu_val rfl (exec_buildT _ rfl (by kernel_rfl) (buildFF _)) ?_
            go_frame
            replace G := own_new_sl (n := 2) (sz := 3) G (fds FF) 47 rfl (by decide)
            generalize w.heap.size = bf at G ⊢
            generalize w.alloc _ = w at G ⊢
            go_wp2_with fail
            refine Calls.mono (findC (s := (moreH S ⟨[[116, 119, 105, 99, 101, 46, 111, 102, 46, 109, 101], [84, 87, 73, 67, 69, 46, 111, 102, 46, 77, 69]], []⟩)) (F := FF) (d := 0) (sn_read (G.pull (snA [.int .i64 S.version, .slice bco S.clusters.length bcc, .slice xo (S.hosts.length + 1) xc] (moreH S ⟨[[116, 119, 105, 99, 101, 46, 111, 102, 46, 109, 101], [84, 87, 73, 67, 69, 46, 111, 102, 46, 77, 69]], []⟩)))) HOK.out (own_rd G) (by decide) (by decide)) ?_
            rintro e w5 ⟨rfl, hb⟩
            replace G := own_kept G hb
            clear hb
            rw [find_not HBAD.out, show findV none = .tuple #[str [], .int .i64 0, .bool false] from rfl]
            go_wp2_with (first
              | ((with_reducible refine at_alloc ?_); refine wpu_new G ?_; clear G; intro w G)
              | ((with_reducible refine at_drew ?_); refine wpu_drew G ?_; clear G; intro w G)
              | ((with_reducible refine at_load ?_); first
                | (refine wpu_load G rfl rfl rfl rfl ?_; go_frame)
                | (refine wpu_loadB G rfl rfl rfl (by rfl) ?_; go_frame)
                | (refine wpu_loadS G rfl rfl rfl (by rfl) ?_; simp only [List.drop_succ_cons, List.drop_zero, List.take_succ_cons, List.take_zero]; go_frame))
              | ((with_reducible refine at_store ?_); first
                | (refine wpu_store G rfl rfl rfl rfl (by first | rfl | assumption | simp [*]) rfl ?_; clear G; intro w G; go_frame)
                | (refine wpu_storeB G rfl rfl rfl rfl (by rfl) (by rfl) (by first | rfl | assumption | simp [*]) ?_; clear G; intro w G; go_frame)
                | (refine wpu_storeS G rfl rfl rfl rfl (by rfl) (by rfl) (by first | rfl | assumption | simp [*]) ?_; clear G; intro w G; go_frame))
              | ((with_reducible refine at_convert ?_); refine wpu_str G rfl rfl rfl rfl ?_; go_frame)
              | ((with_reducible refine at_slice ?_); first
                | (refine wpu_sliceLo rfl rfl rfl rfl (by first | rfl | omega) (by omega) (by omega) ?_; go_frame)
                | (refine wpu_sliceLH rfl rfl rfl rfl rfl (by first | rfl | omega) (by first | rfl | omega) (by omega) (by omega) ?_; go_frame))
              | fail)
            refine Calls.mono (rightC (s := (moreH S ⟨[[116, 119, 105, 99, 101, 46, 111, 102, 46, 109, 101], [84, 87, 73, 67, 69, 46, 111, 102, 46, 77, 69]], []⟩)) (sn_read (G.pull (snA [.int .i64 S.version, .slice bco S.clusters.length bcc, .slice xo (S.hosts.length + 1) xc] (moreH S ⟨[[116, 119, 105, 99, 101, 46, 111, 102, 46, 109, 101], [84, 87, 73, 67, 69, 46, 111, 102, 46, 77, 69]], []⟩)))) HOK.out) ?_
            rintro e w6 ⟨rfl, hb⟩
            replace G := own_kept G hb
            clear hb
            rw [HBAD.out]
            go_wp2_with (first
              | ((with_reducible refine at_eqS ?_); refine wpu_eqS (b := true) rfl (by kernel_rfl) rfl rfl (by rfl) ?_; go_frame)
              | fail)
            go_ret
            exact ⟨rfl, own_shift GW G⟩
          · as_aux_lemma =>
            clear hmb
            go_wp2_with (first
              | ((with_reducible refine at_alloc ?_); refine wpu_new G ?_; clear G; intro w G)
              | ((with_reducible refine at_drew ?_); refine wpu_drew G ?_; clear G; intro w G)
              | ((with_reducible refine at_build ?_); refine hold ?_)
              | ((with_reducible refine at_and ?_); refine wpu_val rfl (exec_andI rfl rfl rfl HZ.out) ?_; go_frame)
              | ((with_reducible refine at_rem ?_); refine wpu_val rfl (exec_rem7 rfl rfl rfl HM.out) ?_; go_frame)
              | ((with_reducible refine at_alloc ?_); refine wpu_new G ?_; clear G; intro w G)
              | ((with_reducible refine at_drew ?_); refine wpu_drew G ?_; clear G; intro w G)
              | ((with_reducible refine at_load ?_); first
                | (refine wpu_load G rfl rfl rfl rfl ?_; go_frame)
                | (refine wpu_loadB G rfl rfl rfl (by rfl) ?_; go_frame)
                | (refine wpu_loadS G rfl rfl rfl (by rfl) ?_; simp only [List.drop_succ_cons, List.drop_zero, List.take_succ_cons, List.take_zero]; go_frame))
              | ((with_reducible refine at_store ?_); first
                | (refine wpu_store G rfl rfl rfl rfl (by first | rfl | assumption | simp [*]) rfl ?_; clear G; intro w G; go_frame)
                | (refine wpu_storeB G rfl rfl rfl rfl (by rfl) (by rfl) (by first | rfl | assumption | simp [*]) ?_; clear G; intro w G; go_frame)
                | (refine wpu_storeS G rfl rfl rfl rfl (by rfl) (by rfl) (by first | rfl | assumption | simp [*]) ?_; clear G; intro w G; go_frame))
              | ((with_reducible refine at_convert ?_); refine wpu_str G rfl rfl rfl rfl ?_; go_frame)
              | ((with_reducible refine at_slice ?_); first
                | (refine wpu_sliceLo rfl rfl rfl rfl (by first | rfl | omega) (by omega) (by omega) ?_; go_frame)
                | (refine wpu_sliceLH rfl rfl rfl rfl rfl (by first | rfl | omega) (by first | rfl | omega) (by omega) (by omega) ?_; go_frame))
              | fail)
            try unfold Held
            have hcl := ok2.clusters _ HCM.out
            obtain ⟨CC, hCC⟩ : ∃ x, c0 ++ [43, 43, 43, 43, 43, 43, 43] = x := ⟨_, rfl⟩
            have HCL : Hid (CC.length ≤ 9223372036854775807) := Lib.hid (by rw [← hCC, List.length_append]; exact Nat.le_trans (Nat.add_le_add_right hcl _) (by decide))
            replace G := own_drew G
            refine wp_region_mix [3, 0, 3, 0, 0, 0, 3, 3, 3, 2] (Own wg (blk b8 [str [], .int .i64 0, str [], str [], .slice none 0 0, .slice (some ⟨bch, 0, none⟩) 1 1, .int .i64 0])) (by kernel_rfl) (by kernel_rfl) (G.sub _) ?_
            have GB : Own wg (blk b8 [str [], .int .i64 0, str [], str [], .slice none 0 0, .slice (some ⟨bch, 0, none⟩) 1 1, .int .i64 0]) _ := G.sub _
            refine mix_plain 1 (by rfl) (by rfl) ?_
            intro ι W hne
            dsimp only [List.take, List.drop]
            repeat (go_big_quiet_step (fail))
            refine wpQuiet_nil ?_
            clear hne W ι
            refine mix_calm 1 (GB) (by rfl) (by rfl) ?_
            intro ι W hne hW
            dsimp only [List.take, List.drop]
            repeat (first | ((with_reducible refine atq_load ?_); first | (refine wpq_load hW rfl rfl rfl rfl ?_; go_frame) | (refine wpq_loadB hW rfl rfl rfl (by rfl) ?_; go_frame) | (refine wpq_loadS hW rfl rfl rfl (by rfl) ?_; simp only [List.drop_succ_cons, List.drop_zero, List.take_succ_cons, List.take_zero]; go_frame)) | (fail) | go_big_quiet_step (fail))
            refine wpQuiet_nil ?_
            clear  hW hne W ι
            refine mix_plain 1 (by rfl) (by rfl) ?_
            intro ι W hne
            dsimp only [List.take, List.drop]
            repeat (go_big_quiet_step (fail))
            refine wpQuiet_nil ?_
            clear hne W ι
            refine mix_calm 3 (GB) (by rfl) (by rfl) ?_
            intro ι W hne hW
            dsimp only [List.take, List.drop]
            repeat (first | ((with_reducible refine atq_load ?_); first | (refine wpq_loadO (fun i => HB0 _ _ (hW i)) rfl (by kernel_rfl) rfl rfl ?_; go_frame) | (refine wpq_loadC (k := 0) (fun i => hcl0 _ _ (hW i)) HC0.out rfl (by kernel_rfl) rfl ?_; go_frame)) | ((with_reducible refine atq_load ?_); first | (refine wpq_load hW rfl rfl rfl rfl ?_; go_frame) | (refine wpq_loadB hW rfl rfl rfl (by rfl) ?_; go_frame)) | go_big_quiet_step (fail))
            refine wpQuiet_nil ?_
            clear  hW hne W ι
            clear GB
            refine mix_plain 3 (by rfl) (by rfl) ?_
            intro ι W hne
            dsimp only [List.take, List.drop]
            repeat (first | ((with_reducible refine atq_addS ?_); refine wpq_val (by kernel_rfl) (fun i => exec_strAdd2 (m := [43, 43, 43, 43, 43, 43, 43]) rfl rfl rfl hCC hcl (by decide)) ?_; go_frame) | go_big_quiet_step (fail))
            refine wpQuiet_nil ?_
            clear hne W ι
            clear hcl hCC
            refine mix_last rfl (fun K hK => ?_)
            refine wpk_storeF0 (k := 0) (cap := 1) (sz := 2) (n := 1) G rfl rfl rfl rfl (by omega) ?_
            clear G; intro w G
            refine hK _ _ ?_
            clear hK
            try go_frame
            refine mix_nil ?_
            rw [show (chs [⟨c0, one64⟩]).set (0 * 2) (str CC) = chs [⟨CC, one64⟩] from rfl] at G
            replace G : Own wg (blk b8 [str [], .int .i64 0, str [], str [], .slice none 0 0, .slice (some ⟨bch, 0, none⟩) 1 1, .int .i64 0] * (sl 2 (.slice (some ⟨bch, 0, none⟩) 1 1) 1 (chs [⟨CC, one64⟩]) * (blk b7 [.slice (some ⟨bn, 0, none⟩) 1 1, .slice none 0 0] * (sl 1 (.slice (some ⟨bn, 0, none⟩) 1 1) 1 (strs [[102, 114, 101, 115, 104, 46, 110, 97, 109, 101, 46, 111, 102, 46, 110, 111, 98, 111, 100, 121, 46, 101, 108, 115, 101]]) * (blk b6 [.int .i64 S.version, .slice bco S.clusters.length bcc, .slice bho S.hosts.length bhc] * (sl 1 (.slice bco S.clusters.length bcc) S.clusters.length (strs S.clusters) * (sl 2 (.slice bho S.hosts.length bhc) S.hosts.length rows.flatten * starL hsA rows S.hosts))))))) w := G.sub ((blk b8 [str [], .int .i64 0, str [], str [], .slice none 0 0, .slice (some ⟨bch, 0, none⟩) 1 1, .int .i64 0] * (sl 2 (.slice (some ⟨bch, 0, none⟩) 1 1) 1 (chs [⟨CC, one64⟩]) * (blk b7 [.slice (some ⟨bn, 0, none⟩) 1 1, .slice none 0 0] * (sl 1 (.slice (some ⟨bn, 0, none⟩) 1 1) 1 (strs [[102, 114, 101, 115, 104, 46, 110, 97, 109, 101, 46, 111, 102, 46, 110, 111, 98, 111, 100, 121, 46, 101, 108, 115, 101]]) * (blk b6 [.int .i64 S.version, .slice bco S.clusters.length bcc, .slice bho S.hosts.length bhc] * (sl 1 (.slice bco S.clusters.length bcc) S.clusters.length (strs S.clusters) * (sl 2 (.slice bho S.hosts.length bhc) S.hosts.length rows.flatten * starL hsA rows S.hosts))))))))
            have G0 := Lib.hid G
            go_wp2_with fail
            clear G
            go_loopw [9] (fun i wr => ∃ j : Nat, i = .int .i64 j ∧ j ≤ S.clusters.length ∧ Hid (CC ∉ S.clusters.take j) ∧ Own wg (blk b8 [str [], .int .i64 0, str [], str [], .slice none 0 0, .slice (some ⟨bch, 0, none⟩) 1 1, .int .i64 0] * (sl 2 (.slice (some ⟨bch, 0, none⟩) 1 1) 1 (chs [⟨CC, one64⟩]) * (blk b7 [.slice (some ⟨bn, 0, none⟩) 1 1, .slice none 0 0] * (sl 1 (.slice (some ⟨bn, 0, none⟩) 1 1) 1 (strs [[102, 114, 101, 115, 104, 46, 110, 97, 109, 101, 46, 111, 102, 46, 110, 111, 98, 111, 100, 121, 46, 101, 108, 115, 101]]) * (blk b6 [.int .i64 S.version, .slice bco S.clusters.length bcc, .slice bho S.hosts.length bhc] * (sl 1 (.slice bco S.clusters.length bcc) S.clusters.length (strs S.clusters) * (sl 2 (.slice bho S.hosts.length bhc) S.hosts.length rows.flatten * starL hsA rows S.hosts))))))) wr) (fun i _ => S.clusters.length - (intOf i).toNat)
            case atStart => exact ⟨0, rfl, Nat.zero_le _, Lib.hid (by simp), G0.out⟩
            case round =>
              clear G0
              obtain ⟨j, rfl, hj, HN, G⟩ := hrel
              by_cases hjn : j < S.clusters.length
              · obtain ⟨x, hx⟩ : ∃ x, S.clusters[j]? = some x := ⟨S.clusters[j], List.getElem?_eq_getElem hjn⟩
                have HX := Lib.hid (strs_at hx)
                have HTK : Hid (S.clusters.take (j + 1) = S.clusters.take j ++ [x]) := Lib.hid (by rw [List.take_add_one, hx]; rfl)
                obtain ⟨q, hq⟩ : ∃ q, decide (x = CC) = q := ⟨_, rfl⟩
                have HQ := Lib.hid hq
                clear hx hq
                go_wp2_with (first
                  | ((with_reducible refine at_load ?_); refine wpu_loadO (HB0 _ _ G) rfl (by kernel_rfl) rfl rfl ?_; go_frame)
                  | fail)
                refine wp_region_calm (C := Own _ _) (by kernel_rfl) (by kernel_rfl) (own_drew G) ?_
                intro ι W hne hW hs
                repeat (first | ((first | ((with_reducible refine atq_load ?_); first | (refine wpq_loadO (fun i => HB0 _ _ (hW i)) rfl (by kernel_rfl) rfl rfl ?_; go_frame) | (refine wpq_loadC (k := j) (fun i => hcl0 _ _ (hW i)) HX.out rfl (by kernel_rfl) rfl ?_; go_frame) | (refine wpq_loadF0 (k := 0) (sz := 2) (m := 1) (xs := chs [⟨CC, one64⟩]) (fun i => own_rd ((hW i).pull (sl 2 (.slice (some ⟨bch, 0, none⟩) 1 1) 1 (chs [⟨CC, one64⟩])))) (chs_at (l := [⟨CC, one64⟩]) (k := 0) rfl) rfl (by kernel_rfl) rfl rfl ?_; go_frame)) | ((with_reducible refine atq_eqS ?_); refine wpq_eqS rfl (by kernel_rfl) rfl rfl HQ.out ?_; go_frame))) | ((with_reducible refine atq_load ?_); first | (refine wpq_load hW rfl rfl rfl rfl ?_; go_frame) | (refine wpq_loadB hW rfl rfl rfl (by rfl) ?_; go_frame)) | go_big_quiet_step (fail))
                refine wpQuiet_nil ?_
                intro i
                have G := hW i
                generalize W i = wG at G ⊢
                clear  hs hW hne
                cases q with
                | true =>
                  go_wp2_with fail
                  go_ret
                  exact ⟨rfl, own_shift GW G⟩
                | false =>
                  go_wp2_with fail
                  go_roundw
                  case rel => exact ⟨j + 1, by go_num, by omega, Lib.hid (by
                    rw [HTK.out]
                    intro h
                    rcases List.mem_append.1 h with h | h
                    · exact HN.out h
                    · exact (of_decide_eq_false HQ.out) (List.mem_singleton.1 h).symm), G⟩
                  case measure => simp [intOf] <;> omega
              · have HNN0 : Hid (CC ∉ S.clusters) := Lib.hid (by have := HN.out; rw [List.take_of_length_le (by omega)] at this; exact this)
                clear HN
                go_wp2_with (first
                  | ((with_reducible refine at_load ?_); refine wpu_loadO (HB0 _ _ G) rfl (by kernel_rfl) rfl rfl ?_; go_frame)
                  | ((with_reducible refine at_build ?_); refine hold ?_)
                  | ((with_reducible refine at_alloc ?_); refine wpu_new G ?_; clear G; intro w G)
                  | ((with_reducible refine at_drew ?_); refine wpu_drew G ?_; clear G; intro w G)
                  | ((with_reducible refine at_load ?_); first
                    | (refine wpu_load G rfl rfl rfl rfl ?_; go_frame)
                    | (refine wpu_loadB G rfl rfl rfl (by rfl) ?_; go_frame)
                    | (refine wpu_loadS G rfl rfl rfl (by rfl) ?_; simp only [List.drop_succ_cons, List.drop_zero, List.take_succ_cons, List.take_zero]; go_frame))
                  | ((with_reducible refine at_store ?_); first
                    | (refine wpu_store G rfl rfl rfl rfl (by first | rfl | assumption | simp [*]) rfl ?_; clear G; intro w G; go_frame)
                    | (refine wpu_storeB G rfl rfl rfl rfl (by rfl) (by rfl) (by first | rfl | assumption | simp [*]) ?_; clear G; intro w G; go_frame)
                    | (refine wpu_storeS G rfl rfl rfl rfl (by rfl) (by rfl) (by first | rfl | assumption | simp [*]) ?_; clear G; intro w G; go_frame))
                  | ((with_reducible refine at_convert ?_); refine wpu_str G rfl rfl rfl rfl ?_; go_frame)
                  | ((with_reducible refine at_slice ?_); first
                    | (refine wpu_sliceLo rfl rfl rfl rfl (by first | rfl | omega) (by omega) (by omega) ?_; go_frame)
                    | (refine wpu_sliceLH rfl rfl rfl rfl rfl (by first | rfl | omega) (by first | rfl | omega) (by omega) (by omega) ?_; go_frame))
                  | fail)
                obtain ⟨w, hww⟩ : ∃ u, wr = u := ⟨_, rfl⟩
                rw [hww] at G ⊢
                clear hww
                unfold Held
                try simp only [List.set_cons_succ, List.set_cons_zero] at G ⊢
                refine wpu_val rfl (exec_buildT _ rfl (by kernel_rfl) (buildR1 (str []) (.int .i64 0) (str []) (str []) (.slice none 0 0) (.slice (some ⟨bch, 0, none⟩) 1 1) (.int .i64 0) _)) ?_
                go_frame
                replace G := own_new_sl (n := 1) (sz := 7) G [str [], .int .i64 0, str [], (str []), .slice none 0 0, (.slice (some ⟨bch, 0, none⟩) 1 1), .int .i64 0] 42 rfl (by decide)
                generalize w.heap.size = br at G ⊢
                generalize w.alloc _ = w at G ⊢
                go_wp2_with (first
                  | ((with_reducible refine at_build ?_); refine hold ?_)
                  | ((with_reducible refine at_alloc ?_); refine wpu_new G ?_; clear G; intro w G)
                  | ((with_reducible refine at_drew ?_); refine wpu_drew G ?_; clear G; intro w G)
                  | ((with_reducible refine at_load ?_); first
                    | (refine wpu_load G rfl rfl rfl rfl ?_; go_frame)
                    | (refine wpu_loadB G rfl rfl rfl (by rfl) ?_; go_frame)
                    | (refine wpu_loadS G rfl rfl rfl (by rfl) ?_; simp only [List.drop_succ_cons, List.drop_zero, List.take_succ_cons, List.take_zero]; go_frame))
                  | ((with_reducible refine at_store ?_); first
                    | (refine wpu_store G rfl rfl rfl rfl (by first | rfl | assumption | simp [*]) rfl ?_; clear G; intro w G; go_frame)
                    | (refine wpu_storeB G rfl rfl rfl rfl (by rfl) (by rfl) (by first | rfl | assumption | simp [*]) ?_; clear G; intro w G; go_frame)
                    | (refine wpu_storeS G rfl rfl rfl rfl (by rfl) (by rfl) (by first | rfl | assumption | simp [*]) ?_; clear G; intro w G; go_frame))
                  | ((with_reducible refine at_convert ?_); refine wpu_str G rfl rfl rfl rfl ?_; go_frame)
                  | ((with_reducible refine at_slice ?_); first
                    | (refine wpu_sliceLo rfl rfl rfl rfl (by first | rfl | omega) (by omega) (by omega) ?_; go_frame)
                    | (refine wpu_sliceLH rfl rfl rfl rfl rfl (by first | rfl | omega) (by first | rfl | omega) (by omega) (by omega) ?_; go_frame))
                  | fail)
                unfold Held
                try simp only [List.set_cons_succ, List.set_cons_zero] at G ⊢
                refine wpu_val rfl (exec_buildT _ rfl (by kernel_rfl) (buildH1 (.slice (some ⟨bn, 0, none⟩) 1 1) (.slice (some ⟨br, 0, none⟩) 1 1) _)) ?_
                go_frame
                refine wpu_new G ?_
                clear G; intro w G
                go_wp2_with (first
                  | ((with_reducible refine at_append ?_); refine hold ?_)
                  | ((with_reducible refine at_alloc ?_); refine wpu_new G ?_; clear G; intro w G)
                  | ((with_reducible refine at_drew ?_); refine wpu_drew G ?_; clear G; intro w G)
                  | ((with_reducible refine at_load ?_); first
                    | (refine wpu_load G rfl rfl rfl rfl ?_; go_frame)
                    | (refine wpu_loadB G rfl rfl rfl (by rfl) ?_; go_frame)
                    | (refine wpu_loadS G rfl rfl rfl (by rfl) ?_; simp only [List.drop_succ_cons, List.drop_zero, List.take_succ_cons, List.take_zero]; go_frame))
                  | ((with_reducible refine at_store ?_); first
                    | (refine wpu_store G rfl rfl rfl rfl (by first | rfl | assumption | simp [*]) rfl ?_; clear G; intro w G; go_frame)
                    | (refine wpu_storeB G rfl rfl rfl rfl (by rfl) (by rfl) (by first | rfl | assumption | simp [*]) ?_; clear G; intro w G; go_frame)
                    | (refine wpu_storeS G rfl rfl rfl rfl (by rfl) (by rfl) (by first | rfl | assumption | simp [*]) ?_; clear G; intro w G; go_frame))
                  | ((with_reducible refine at_convert ?_); refine wpu_str G rfl rfl rfl rfl ?_; go_frame)
                  | ((with_reducible refine at_slice ?_); first
                    | (refine wpu_sliceLo rfl rfl rfl rfl (by first | rfl | omega) (by omega) (by omega) ?_; go_frame)
                    | (refine wpu_sliceLH rfl rfl rfl rfl rfl (by first | rfl | omega) (by first | rfl | omega) (by omega) (by omega) ?_; go_frame))
                  | fail)
                unfold Held
                refine wpu_append1 (n := S.hosts.length) (sz := 2) G rfl rfl rfl rfl rfl (by rfl) (by unfold maxLen; omega) (by omega) ?_
                clear G; intro v w G
                obtain ⟨xo, xc, rfl, e1, e2⟩ := G.hdr v
                unfold maxLen at e2
                go_frame
                go_wp2_with (first
                  | ((with_reducible refine at_build ?_); refine hold ?_)
                  | ((with_reducible refine at_alloc ?_); refine wpu_new G ?_; clear G; intro w G)
                  | ((with_reducible refine at_drew ?_); refine wpu_drew G ?_; clear G; intro w G)
                  | ((with_reducible refine at_load ?_); first
                    | (refine wpu_load G rfl rfl rfl rfl ?_; go_frame)
                    | (refine wpu_loadB G rfl rfl rfl (by rfl) ?_; go_frame)
                    | (refine wpu_loadS G rfl rfl rfl (by rfl) ?_; simp only [List.drop_succ_cons, List.drop_zero, List.take_succ_cons, List.take_zero]; go_frame))
                  | ((with_reducible refine at_store ?_); first
                    | (refine wpu_store G rfl rfl rfl rfl (by first | rfl | assumption | simp [*]) rfl ?_; clear G; intro w G; go_frame)
                    | (refine wpu_storeB G rfl rfl rfl rfl (by rfl) (by rfl) (by first | rfl | assumption | simp [*]) ?_; clear G; intro w G; go_frame)
                    | (refine wpu_storeS G rfl rfl rfl rfl (by rfl) (by rfl) (by first | rfl | assumption | simp [*]) ?_; clear G; intro w G; go_frame))
                  | ((with_reducible refine at_convert ?_); refine wpu_str G rfl rfl rfl rfl ?_; go_frame)
                  | ((with_reducible refine at_slice ?_); first
                    | (refine wpu_sliceLo rfl rfl rfl rfl (by first | rfl | omega) (by omega) (by omega) ?_; go_frame)
                    | (refine wpu_sliceLH rfl rfl rfl rfl rfl (by first | rfl | omega) (by first | rfl | omega) (by omega) (by omega) ?_; go_frame))
                  | fail)
                unfold Held
                simp only [List.set_cons_succ, List.set_cons_zero] at G
                obtain ⟨NN, hNN⟩ : ∃ N : List Txt, N = [[102, 114, 101, 115, 104, 46, 110, 97, 109, 101, 46, 111, 102, 46, 110, 111, 98, 111, 100, 121, 46, 101, 108, 115, 101]] := ⟨_, rfl⟩
                obtain ⟨RR, hRR⟩ : ∃ r, r = (⟨[], 0, [], [], [], [⟨CC, one64⟩], 0⟩ : Rt) := ⟨_, rfl⟩
                have HNN := Lib.hid hNN
                have HRR := Lib.hid hRR
                have HBAD : Hid (rightR (moreH S ⟨NN, [RR]⟩) = false) := Lib.hid (spoilH (fun seen => spoilR (spoil4 (c := ⟨CC, one64⟩) (by rw [hRR]) HNN0.out)))
                have HOK : Hid (moreH S ⟨NN, [RR]⟩).ok := Lib.hid (moreH_ok ok2 ⟨(fun x h => by rw [hNN] at h; rw [List.mem_singleton.1 h]; decide), (fun x h => by rw [List.mem_singleton.1 h, hRR]; exact ⟨Nat.zero_le _, Nat.zero_le _, Nat.zero_le _, (fun _ h => by cases h), (fun _ h => by rw [List.mem_singleton.1 h]; exact HCL.out)⟩)⟩)
                clear hNN hRR
                replace G := own_nil G 4
                have hn1 : 1 = NN.length := by rw [HNN.out]; rfl
                have hs1 : strs [[102, 114, 101, 115, 104, 46, 110, 97, 109, 101, 46, 111, 102, 46, 110, 111, 98, 111, 100, 121, 46, 101, 108, 115, 101]] = strs NN := by rw [HNN.out]
                have hr1 : [str [], .int .i64 0, str [], (str []), .slice none 0 0, (.slice (some ⟨bch, 0, none⟩) 1 1), .int .i64 0] = rtCs RR (.slice none 0 0) (.slice (some ⟨bch, 0, none⟩) 1 1) := by rw [HRR.out] <;> rfl
                have hf1 : 0 = RR.fields.length := by rw [HRR.out] <;> rfl
                have hf2 : [] = mrs RR.fields := by rw [HRR.out] <;> rfl
                have hc1 : 1 = RR.choices.length := by rw [HRR.out] <;> rfl
                have hc2 : (chs [⟨CC, one64⟩]) = chs RR.choices := by rw [HRR.out] <;> rfl
                obtain ⟨HX, hHX⟩ : ∃ X, X = (⟨NN, [RR]⟩ : Hs) := ⟨_, rfl⟩
                replace G := route_end' (N := NN) (r := RR) (vn := .slice (some ⟨bn, 0, none⟩) 1 1) (vr := .slice (some ⟨br, 0, none⟩) 1 1) (vf := .slice none 0 0) (vc := (.slice (some ⟨bch, 0, none⟩) 1 1)) (R := sl 1 (.slice bco S.clusters.length bcc) S.clusters.length (strs S.clusters) * (sl 2 (.slice xo (S.hosts.length + 1) xc) (S.hosts.length + 1) (rows.flatten ++ [.slice (some ⟨bn, 0, none⟩) 1 1, .slice (some ⟨br, 0, none⟩) 1 1]) * (starL hsA rows S.hosts * blk b6 [.int .i64 S.version, .slice bco S.clusters.length bcc, .slice xo (S.hosts.length + 1) xc]))) hn1 hs1 hr1 hf1 hf2 hc1 hc2 (G.sub _)
                rw [← hHX] at G HBAD HOK
                clear hn1 hs1 hr1 hf1 hf2 hc1 hc2
                replace G := hosts_end (h := HX) (R := blk b6 [.int .i64 S.version, .slice bco S.clusters.length bcc, .slice xo (S.hosts.length + 1) xc]) HH2.out (G.sub (hsA [(.slice (some ⟨bn, 0, none⟩) 1 1), (.slice (some ⟨br, 0, none⟩) 1 1)] HX * (sl 1 (.slice bco S.clusters.length bcc) S.clusters.length (strs S.clusters) * (sl 2 (.slice xo (S.hosts.length + 1) xc) (S.hosts.length + 1) (rows.flatten ++ [(.slice (some ⟨bn, 0, none⟩) 1 1), (.slice (some ⟨br, 0, none⟩) 1 1)]) * (starL hsA rows S.hosts * blk b6 [.int .i64 S.version, .slice bco S.clusters.length bcc, .slice xo (S.hosts.length + 1) xc])))))
                refine wpu_val rfl (exec_buildT _ rfl (by kernel_rfl) (buildFF _)) ?_
                go_frame
                replace G := own_new_sl (n := 2) (sz := 3) G (fds FF) 47 rfl (by decide)
                generalize w.heap.size = bf at G ⊢
                generalize w.alloc _ = w at G ⊢
                go_wp2_with fail
                refine Calls.mono (findC (s := (moreH S HX)) (F := FF) (d := 0) (sn_read (G.pull (snA [.int .i64 S.version, .slice bco S.clusters.length bcc, .slice xo (S.hosts.length + 1) xc] (moreH S HX)))) HOK.out (own_rd G) (by decide) (by decide)) ?_
                rintro e w5 ⟨rfl, hb⟩
                replace G := own_kept G hb
                clear hb
                rw [find_not HBAD.out, show findV none = .tuple #[str [], .int .i64 0, .bool false] from rfl]
                go_wp2_with (first
                  | ((with_reducible refine at_alloc ?_); refine wpu_new G ?_; clear G; intro w G)
                  | ((with_reducible refine at_drew ?_); refine wpu_drew G ?_; clear G; intro w G)
                  | ((with_reducible refine at_load ?_); first
                    | (refine wpu_load G rfl rfl rfl rfl ?_; go_frame)
                    | (refine wpu_loadB G rfl rfl rfl (by rfl) ?_; go_frame)
                    | (refine wpu_loadS G rfl rfl rfl (by rfl) ?_; simp only [List.drop_succ_cons, List.drop_zero, List.take_succ_cons, List.take_zero]; go_frame))
                  | ((with_reducible refine at_store ?_); first
                    | (refine wpu_store G rfl rfl rfl rfl (by first | rfl | assumption | simp [*]) rfl ?_; clear G; intro w G; go_frame)
                    | (refine wpu_storeB G rfl rfl rfl rfl (by rfl) (by rfl) (by first | rfl | assumption | simp [*]) ?_; clear G; intro w G; go_frame)
                    | (refine wpu_storeS G rfl rfl rfl rfl (by rfl) (by rfl) (by first | rfl | assumption | simp [*]) ?_; clear G; intro w G; go_frame))
                  | ((with_reducible refine at_convert ?_); refine wpu_str G rfl rfl rfl rfl ?_; go_frame)
                  | ((with_reducible refine at_slice ?_); first
                    | (refine wpu_sliceLo rfl rfl rfl rfl (by first | rfl | omega) (by omega) (by omega) ?_; go_frame)
                    | (refine wpu_sliceLH rfl rfl rfl rfl rfl (by first | rfl | omega) (by first | rfl | omega) (by omega) (by omega) ?_; go_frame))
                  | fail)
                refine Calls.mono (rightC (s := (moreH S HX)) (sn_read (G.pull (snA [.int .i64 S.version, .slice bco S.clusters.length bcc, .slice xo (S.hosts.length + 1) xc] (moreH S HX)))) HOK.out) ?_
                rintro e w6 ⟨rfl, hb⟩
                replace G := own_kept G hb
                clear hb
                rw [HBAD.out]
                go_wp2_with (first
                  | ((with_reducible refine at_eqS ?_); refine wpu_eqS (b := true) rfl (by kernel_rfl) rfl rfl (by rfl) ?_; go_frame)
                  | fail)
                go_ret
                exact ⟨rfl, own_shift GW G⟩
          · as_aux_lemma =>
            clear hmb
            go_wp2_with (first
              | ((with_reducible refine at_alloc ?_); refine wpu_new G ?_; clear G; intro w G)
              | ((with_reducible refine at_drew ?_); refine wpu_drew G ?_; clear G; intro w G)
              | ((with_reducible refine at_build ?_); refine hold ?_)
              | ((with_reducible refine at_and ?_); refine wpu_val rfl (exec_andI rfl rfl rfl HZ.out) ?_; go_frame)
              | ((with_reducible refine at_rem ?_); refine wpu_val rfl (exec_rem7 rfl rfl rfl HM.out) ?_; go_frame)
              | ((with_reducible refine at_alloc ?_); refine wpu_new G ?_; clear G; intro w G)
              | ((with_reducible refine at_drew ?_); refine wpu_drew G ?_; clear G; intro w G)
              | ((with_reducible refine at_load ?_); first
                | (refine wpu_load G rfl rfl rfl rfl ?_; go_frame)
                | (refine wpu_loadB G rfl rfl rfl (by rfl) ?_; go_frame)
                | (refine wpu_loadS G rfl rfl rfl (by rfl) ?_; simp only [List.drop_succ_cons, List.drop_zero, List.take_succ_cons, List.take_zero]; go_frame))
              | ((with_reducible refine at_store ?_); first
                | (refine wpu_store G rfl rfl rfl rfl (by first | rfl | assumption | simp [*]) rfl ?_; clear G; intro w G; go_frame)
                | (refine wpu_storeB G rfl rfl rfl rfl (by rfl) (by rfl) (by first | rfl | assumption | simp [*]) ?_; clear G; intro w G; go_frame)
                | (refine wpu_storeS G rfl rfl rfl rfl (by rfl) (by rfl) (by first | rfl | assumption | simp [*]) ?_; clear G; intro w G; go_frame))
              | ((with_reducible refine at_convert ?_); refine wpu_str G rfl rfl rfl rfl ?_; go_frame)
              | ((with_reducible refine at_slice ?_); first
                | (refine wpu_sliceLo rfl rfl rfl rfl (by first | rfl | omega) (by omega) (by omega) ?_; go_frame)
                | (refine wpu_sliceLH rfl rfl rfl rfl rfl (by first | rfl | omega) (by first | rfl | omega) (by omega) (by omega) ?_; go_frame))
              | fail)
            unfold Held
            try simp only [List.set_cons_succ, List.set_cons_zero] at G ⊢
            refine wpu_val rfl (exec_buildT _ rfl (by kernel_rfl) (buildR1 (str []) (.int .i64 0) (str []) (str []) (.slice none 0 0) (.slice none 0 0) (.int .i64 0) _)) ?_
            go_frame
            replace G := own_new_sl (n := 1) (sz := 7) G [str [], .int .i64 0, str [], (str []), .slice none 0 0, (.slice none 0 0), .int .i64 0] 42 rfl (by decide)
            generalize w.heap.size = br at G ⊢
            generalize w.alloc _ = w at G ⊢
            go_wp2_with (first
              | ((with_reducible refine at_build ?_); refine hold ?_)
              | ((with_reducible refine at_alloc ?_); refine wpu_new G ?_; clear G; intro w G)
              | ((with_reducible refine at_drew ?_); refine wpu_drew G ?_; clear G; intro w G)
              | ((with_reducible refine at_load ?_); first
                | (refine wpu_load G rfl rfl rfl rfl ?_; go_frame)
                | (refine wpu_loadB G rfl rfl rfl (by rfl) ?_; go_frame)
                | (refine wpu_loadS G rfl rfl rfl (by rfl) ?_; simp only [List.drop_succ_cons, List.drop_zero, List.take_succ_cons, List.take_zero]; go_frame))
              | ((with_reducible refine at_store ?_); first
                | (refine wpu_store G rfl rfl rfl rfl (by first | rfl | assumption | simp [*]) rfl ?_; clear G; intro w G; go_frame)
                | (refine wpu_storeB G rfl rfl rfl rfl (by rfl) (by rfl) (by first | rfl | assumption | simp [*]) ?_; clear G; intro w G; go_frame)
                | (refine wpu_storeS G rfl rfl rfl rfl (by rfl) (by rfl) (by first | rfl | assumption | simp [*]) ?_; clear G; intro w G; go_frame))
              | ((with_reducible refine at_convert ?_); refine wpu_str G rfl rfl rfl rfl ?_; go_frame)
              | ((with_reducible refine at_slice ?_); first
                | (refine wpu_sliceLo rfl rfl rfl rfl (by first | rfl | omega) (by omega) (by omega) ?_; go_frame)
                | (refine wpu_sliceLH rfl rfl rfl rfl rfl (by first | rfl | omega) (by first | rfl | omega) (by omega) (by omega) ?_; go_frame))
              | fail)
            unfold Held
            try simp only [List.set_cons_succ, List.set_cons_zero] at G ⊢
            refine wpu_val rfl (exec_buildT _ rfl (by kernel_rfl) (buildH1 (.slice (some ⟨bn, 0, none⟩) 1 1) (.slice (some ⟨br, 0, none⟩) 1 1) _)) ?_
            go_frame
            refine wpu_new G ?_
            clear G; intro w G
            go_wp2_with (first
              | ((with_reducible refine at_append ?_); refine hold ?_)
              | ((with_reducible refine at_alloc ?_); refine wpu_new G ?_; clear G; intro w G)
              | ((with_reducible refine at_drew ?_); refine wpu_drew G ?_; clear G; intro w G)
              | ((with_reducible refine at_load ?_); first
                | (refine wpu_load G rfl rfl rfl rfl ?_; go_frame)
                | (refine wpu_loadB G rfl rfl rfl (by rfl) ?_; go_frame)
                | (refine wpu_loadS G rfl rfl rfl (by rfl) ?_; simp only [List.drop_succ_cons, List.drop_zero, List.take_succ_cons, List.take_zero]; go_frame))
              | ((with_reducible refine at_store ?_); first
                | (refine wpu_store G rfl rfl rfl rfl (by first | rfl | assumption | simp [*]) rfl ?_; clear G; intro w G; go_frame)
                | (refine wpu_storeB G rfl rfl rfl rfl (by rfl) (by rfl) (by first | rfl | assumption | simp [*]) ?_; clear G; intro w G; go_frame)
                | (refine wpu_storeS G rfl rfl rfl rfl (by rfl) (by rfl) (by first | rfl | assumption | simp [*]) ?_; clear G; intro w G; go_frame))
              | ((with_reducible refine at_convert ?_); refine wpu_str G rfl rfl rfl rfl ?_; go_frame)
              | ((with_reducible refine at_slice ?_); first
                | (refine wpu_sliceLo rfl rfl rfl rfl (by first | rfl | omega) (by omega) (by omega) ?_; go_frame)
                | (refine wpu_sliceLH rfl rfl rfl rfl rfl (by first | rfl | omega) (by first | rfl | omega) (by omega) (by omega) ?_; go_frame))
              | fail)
            unfold Held
            refine wpu_append1 (n := S.hosts.length) (sz := 2) G rfl rfl rfl rfl rfl (by rfl) (by unfold maxLen; omega) (by omega) ?_
            clear G; intro v w G
            obtain ⟨xo, xc, rfl, e1, e2⟩ := G.hdr v
            unfold maxLen at e2
            go_frame
            go_wp2_with (first
              | ((with_reducible refine at_build ?_); refine hold ?_)
              | ((with_reducible refine at_alloc ?_); refine wpu_new G ?_; clear G; intro w G)
              | ((with_reducible refine at_drew ?_); refine wpu_drew G ?_; clear G; intro w G)
              | ((with_reducible refine at_load ?_); first
                | (refine wpu_load G rfl rfl rfl rfl ?_; go_frame)
                | (refine wpu_loadB G rfl rfl rfl (by rfl) ?_; go_frame)
                | (refine wpu_loadS G rfl rfl rfl (by rfl) ?_; simp only [List.drop_succ_cons, List.drop_zero, List.take_succ_cons, List.take_zero]; go_frame))
              | ((with_reducible refine at_store ?_); first
                | (refine wpu_store G rfl rfl rfl rfl (by first | rfl | assumption | simp [*]) rfl ?_; clear G; intro w G; go_frame)
                | (refine wpu_storeB G rfl rfl rfl rfl (by rfl) (by rfl) (by first | rfl | assumption | simp [*]) ?_; clear G; intro w G; go_frame)
                | (refine wpu_storeS G rfl rfl rfl rfl (by rfl) (by rfl) (by first | rfl | assumption | simp [*]) ?_; clear G; intro w G; go_frame))
              | ((with_reducible refine at_convert ?_); refine wpu_str G rfl rfl rfl rfl ?_; go_frame)
              | ((with_reducible refine at_slice ?_); first
                | (refine wpu_sliceLo rfl rfl rfl rfl (by first | rfl | omega) (by omega) (by omega) ?_; go_frame)
                | (refine wpu_sliceLH rfl rfl rfl rfl rfl (by first | rfl | omega) (by first | rfl | omega) (by omega) (by omega) ?_; go_frame))
              | fail)
            unfold Held
            simp only [List.set_cons_succ, List.set_cons_zero] at G
            obtain ⟨NN, hNN⟩ : ∃ N : List Txt, N = [[102, 114, 101, 115, 104, 46, 110, 97, 109, 101, 46, 111, 102, 46, 110, 111, 98, 111, 100, 121, 46, 101, 108, 115, 101]] := ⟨_, rfl⟩
            obtain ⟨RR, hRR⟩ : ∃ r, r = (⟨[], 0, [], [], [], [], 0⟩ : Rt) := ⟨_, rfl⟩
            have HNN := Lib.hid hNN
            have HRR := Lib.hid hRR
            have HBAD : Hid (rightR (moreH S ⟨NN, [RR]⟩) = false) := Lib.hid (spoilH (fun seen => spoilR (spoil5 (by rw [hRR]))))
            have HOK : Hid (moreH S ⟨NN, [RR]⟩).ok := Lib.hid (moreH_ok ok2 ⟨(fun x h => by rw [hNN] at h; rw [List.mem_singleton.1 h]; decide), (fun x h => by rw [List.mem_singleton.1 h, hRR]; exact ⟨by decide, by decide, by decide, (fun _ h => by cases h), (fun _ h => by cases h)⟩)⟩)
            clear hNN hRR
            replace G := own_nil (own_nil G 2) 4
            have hn1 : 1 = NN.length := by rw [HNN.out]; rfl
            have hs1 : strs [[102, 114, 101, 115, 104, 46, 110, 97, 109, 101, 46, 111, 102, 46, 110, 111, 98, 111, 100, 121, 46, 101, 108, 115, 101]] = strs NN := by rw [HNN.out]
            have hr1 : [str [], .int .i64 0, str [], (str []), .slice none 0 0, (.slice none 0 0), .int .i64 0] = rtCs RR (.slice none 0 0) (.slice none 0 0) := by rw [HRR.out] <;> rfl
            have hf1 : 0 = RR.fields.length := by rw [HRR.out] <;> rfl
            have hf2 : [] = mrs RR.fields := by rw [HRR.out] <;> rfl
            have hc1 : 0 = RR.choices.length := by rw [HRR.out] <;> rfl
            have hc2 : [] = chs RR.choices := by rw [HRR.out] <;> rfl
            obtain ⟨HX, hHX⟩ : ∃ X, X = (⟨NN, [RR]⟩ : Hs) := ⟨_, rfl⟩
            replace G := route_end' (N := NN) (r := RR) (vn := .slice (some ⟨bn, 0, none⟩) 1 1) (vr := .slice (some ⟨br, 0, none⟩) 1 1) (vf := .slice none 0 0) (vc := (.slice none 0 0)) (R := sl 1 (.slice bco S.clusters.length bcc) S.clusters.length (strs S.clusters) * (sl 2 (.slice xo (S.hosts.length + 1) xc) (S.hosts.length + 1) (rows.flatten ++ [.slice (some ⟨bn, 0, none⟩) 1 1, .slice (some ⟨br, 0, none⟩) 1 1]) * (starL hsA rows S.hosts * blk b6 [.int .i64 S.version, .slice bco S.clusters.length bcc, .slice xo (S.hosts.length + 1) xc]))) hn1 hs1 hr1 hf1 hf2 hc1 hc2 (G.sub _)
            rw [← hHX] at G HBAD HOK
            clear hn1 hs1 hr1 hf1 hf2 hc1 hc2
            replace G := hosts_end (h := HX) (R := blk b6 [.int .i64 S.version, .slice bco S.clusters.length bcc, .slice xo (S.hosts.length + 1) xc]) HH2.out (G.sub (hsA [(.slice (some ⟨bn, 0, none⟩) 1 1), (.slice (some ⟨br, 0, none⟩) 1 1)] HX * (sl 1 (.slice bco S.clusters.length bcc) S.clusters.length (strs S.clusters) * (sl 2 (.slice xo (S.hosts.length + 1) xc) (S.hosts.length + 1) (rows.flatten ++ [(.slice (some ⟨bn, 0, none⟩) 1 1), (.slice (some ⟨br, 0, none⟩) 1 1)]) * (starL hsA rows S.hosts * blk b6 [.int .i64 S.version, .slice bco S.clusters.length bcc, .slice xo (S.hosts.length + 1) xc])))))
            refine wpu_val rfl (exec_buildT _ rfl (by kernel_rfl) (buildFF _)) ?_
            go_frame
            replace G := own_new_sl (n := 2) (sz := 3) G (fds FF) 47 rfl (by decide)
            generalize w.heap.size = bf at G ⊢
            generalize w.alloc _ = w at G ⊢
            go_wp2_with fail
            refine Calls.mono (findC (s := (moreH S HX)) (F := FF) (d := 0) (sn_read (G.pull (snA [.int .i64 S.version, .slice bco S.clusters.length bcc, .slice xo (S.hosts.length + 1) xc] (moreH S HX)))) HOK.out (own_rd G) (by decide) (by decide)) ?_
            rintro e w5 ⟨rfl, hb⟩
            replace G := own_kept G hb
            clear hb
            rw [find_not HBAD.out, show findV none = .tuple #[str [], .int .i64 0, .bool false] from rfl]
            go_wp2_with (first
              | ((with_reducible refine at_alloc ?_); refine wpu_new G ?_; clear G; intro w G)
              | ((with_reducible refine at_drew ?_); refine wpu_drew G ?_; clear G; intro w G)
              | ((with_reducible refine at_load ?_); first
                | (refine wpu_load G rfl rfl rfl rfl ?_; go_frame)
                | (refine wpu_loadB G rfl rfl rfl (by rfl) ?_; go_frame)
                | (refine wpu_loadS G rfl rfl rfl (by rfl) ?_; simp only [List.drop_succ_cons, List.drop_zero, List.take_succ_cons, List.take_zero]; go_frame))
              | ((with_reducible refine at_store ?_); first
                | (refine wpu_store G rfl rfl rfl rfl (by first | rfl | assumption | simp [*]) rfl ?_; clear G; intro w G; go_frame)
                | (refine wpu_storeB G rfl rfl rfl rfl (by rfl) (by rfl) (by first | rfl | assumption | simp [*]) ?_; clear G; intro w G; go_frame)
                | (refine wpu_storeS G rfl rfl rfl rfl (by rfl) (by rfl) (by first | rfl | assumption | simp [*]) ?_; clear G; intro w G; go_frame))
              | ((with_reducible refine at_convert ?_); refine wpu_str G rfl rfl rfl rfl ?_; go_frame)
              | ((with_reducible refine at_slice ?_); first
                | (refine wpu_sliceLo rfl rfl rfl rfl (by first | rfl | omega) (by omega) (by omega) ?_; go_frame)
                | (refine wpu_sliceLH rfl rfl rfl rfl rfl (by first | rfl | omega) (by first | rfl | omega) (by omega) (by omega) ?_; go_frame))
              | fail)
            refine Calls.mono (rightC (s := (moreH S HX)) (sn_read (G.pull (snA [.int .i64 S.version, .slice bco S.clusters.length bcc, .slice xo (S.hosts.length + 1) xc] (moreH S HX)))) HOK.out) ?_
            rintro e w6 ⟨rfl, hb⟩
            replace G := own_kept G hb
            clear hb
            rw [HBAD.out]
            go_wp2_with (first
              | ((with_reducible refine at_eqS ?_); refine wpu_eqS (b := true) rfl (by kernel_rfl) rfl rfl (by rfl) ?_; go_frame)
              | fail)
            go_ret
            exact ⟨rfl, own_shift GW G⟩
          · as_aux_lemma =>
            clear hmb
            go_wp2_with (first
              | ((with_reducible refine at_alloc ?_); refine wpu_new G ?_; clear G; intro w G)
              | ((with_reducible refine at_drew ?_); refine wpu_drew G ?_; clear G; intro w G)
              | ((with_reducible refine at_build ?_); refine hold ?_)
              | ((with_reducible refine at_and ?_); refine wpu_val rfl (exec_andI rfl rfl rfl HZ.out) ?_; go_frame)
              | ((with_reducible refine at_rem ?_); refine wpu_val rfl (exec_rem7 rfl rfl rfl HM.out) ?_; go_frame)
              | ((with_reducible refine at_alloc ?_); refine wpu_new G ?_; clear G; intro w G)
              | ((with_reducible refine at_drew ?_); refine wpu_drew G ?_; clear G; intro w G)
              | ((with_reducible refine at_load ?_); first
                | (refine wpu_load G rfl rfl rfl rfl ?_; go_frame)
                | (refine wpu_loadB G rfl rfl rfl (by rfl) ?_; go_frame)
                | (refine wpu_loadS G rfl rfl rfl (by rfl) ?_; simp only [List.drop_succ_cons, List.drop_zero, List.take_succ_cons, List.take_zero]; go_frame))
              | ((with_reducible refine at_store ?_); first
                | (refine wpu_store G rfl rfl rfl rfl (by first | rfl | assumption | simp [*]) rfl ?_; clear G; intro w G; go_frame)
                | (refine wpu_storeB G rfl rfl rfl rfl (by rfl) (by rfl) (by first | rfl | assumption | simp [*]) ?_; clear G; intro w G; go_frame)
                | (refine wpu_storeS G rfl rfl rfl rfl (by rfl) (by rfl) (by first | rfl | assumption | simp [*]) ?_; clear G; intro w G; go_frame))
              | ((with_reducible refine at_convert ?_); refine wpu_str G rfl rfl rfl rfl ?_; go_frame)
              | ((with_reducible refine at_slice ?_); first
                | (refine wpu_sliceLo rfl rfl rfl rfl (by first | rfl | omega) (by omega) (by omega) ?_; go_frame)
                | (refine wpu_sliceLH rfl rfl rfl rfl rfl (by first | rfl | omega) (by first | rfl | omega) (by omega) (by omega) ?_; go_frame))
              | fail)
            unfold Held
            try simp only [List.set_cons_succ, List.set_cons_zero] at G ⊢
            refine wpu_val rfl (exec_buildT _ rfl (by kernel_rfl) (buildR1 (str []) (.int .i64 0) (str []) (str [109]) (.slice none 0 0) (.slice (some ⟨bch, 0, none⟩) 1 1) (.int .i64 0) _)) ?_
            go_frame
            replace G := own_new_sl (n := 1) (sz := 7) G [str [], .int .i64 0, str [], (str [109]), .slice none 0 0, (.slice (some ⟨bch, 0, none⟩) 1 1), .int .i64 0] 42 rfl (by decide)
            generalize w.heap.size = br at G ⊢
            generalize w.alloc _ = w at G ⊢
            go_wp2_with (first
              | ((with_reducible refine at_build ?_); refine hold ?_)
              | ((with_reducible refine at_alloc ?_); refine wpu_new G ?_; clear G; intro w G)
              | ((with_reducible refine at_drew ?_); refine wpu_drew G ?_; clear G; intro w G)
              | ((with_reducible refine at_load ?_); first
                | (refine wpu_load G rfl rfl rfl rfl ?_; go_frame)
                | (refine wpu_loadB G rfl rfl rfl (by rfl) ?_; go_frame)
                | (refine wpu_loadS G rfl rfl rfl (by rfl) ?_; simp only [List.drop_succ_cons, List.drop_zero, List.take_succ_cons, List.take_zero]; go_frame))
              | ((with_reducible refine at_store ?_); first
                | (refine wpu_store G rfl rfl rfl rfl (by first | rfl | assumption | simp [*]) rfl ?_; clear G; intro w G; go_frame)
                | (refine wpu_storeB G rfl rfl rfl rfl (by rfl) (by rfl) (by first | rfl | assumption | simp [*]) ?_; clear G; intro w G; go_frame)
                | (refine wpu_storeS G rfl rfl rfl rfl (by rfl) (by rfl) (by first | rfl | assumption | simp [*]) ?_; clear G; intro w G; go_frame))
              | ((with_reducible refine at_convert ?_); refine wpu_str G rfl rfl rfl rfl ?_; go_frame)
              | ((with_reducible refine at_slice ?_); first
                | (refine wpu_sliceLo rfl rfl rfl rfl (by first | rfl | omega) (by omega) (by omega) ?_; go_frame)
                | (refine wpu_sliceLH rfl rfl rfl rfl rfl (by first | rfl | omega) (by first | rfl | omega) (by omega) (by omega) ?_; go_frame))
              | fail)
            unfold Held
            try simp only [List.set_cons_succ, List.set_cons_zero] at G ⊢
            refine wpu_val rfl (exec_buildT _ rfl (by kernel_rfl) (buildH1 (.slice (some ⟨bn, 0, none⟩) 1 1) (.slice (some ⟨br, 0, none⟩) 1 1) _)) ?_
            go_frame
            refine wpu_new G ?_
            clear G; intro w G
            go_wp2_with (first
              | ((with_reducible refine at_append ?_); refine hold ?_)
              | ((with_reducible refine at_alloc ?_); refine wpu_new G ?_; clear G; intro w G)
              | ((with_reducible refine at_drew ?_); refine wpu_drew G ?_; clear G; intro w G)
              | ((with_reducible refine at_load ?_); first
                | (refine wpu_load G rfl rfl rfl rfl ?_; go_frame)
                | (refine wpu_loadB G rfl rfl rfl (by rfl) ?_; go_frame)
                | (refine wpu_loadS G rfl rfl rfl (by rfl) ?_; simp only [List.drop_succ_cons, List.drop_zero, List.take_succ_cons, List.take_zero]; go_frame))
              | ((with_reducible refine at_store ?_); first
                | (refine wpu_store G rfl rfl rfl rfl (by first | rfl | assumption | simp [*]) rfl ?_; clear G; intro w G; go_frame)
                | (refine wpu_storeB G rfl rfl rfl rfl (by rfl) (by rfl) (by first | rfl | assumption | simp [*]) ?_; clear G; intro w G; go_frame)
                | (refine wpu_storeS G rfl rfl rfl rfl (by rfl) (by rfl) (by first | rfl | assumption | simp [*]) ?_; clear G; intro w G; go_frame))
              | ((with_reducible refine at_convert ?_); refine wpu_str G rfl rfl rfl rfl ?_; go_frame)
              | ((with_reducible refine at_slice ?_); first
                | (refine wpu_sliceLo rfl rfl rfl rfl (by first | rfl | omega) (by omega) (by omega) ?_; go_frame)
                | (refine wpu_sliceLH rfl rfl rfl rfl rfl (by first | rfl | omega) (by first | rfl | omega) (by omega) (by omega) ?_; go_frame))
              | fail)
            unfold Held
            refine wpu_append1 (n := S.hosts.length) (sz := 2) G rfl rfl rfl rfl rfl (by rfl) (by unfold maxLen; omega) (by omega) ?_
            clear G; intro v w G
            obtain ⟨xo, xc, rfl, e1, e2⟩ := G.hdr v
            unfold maxLen at e2
            go_frame
            go_wp2_with (first
              | ((with_reducible refine at_build ?_); refine hold ?_)
              | ((with_reducible refine at_alloc ?_); refine wpu_new G ?_; clear G; intro w G)
              | ((with_reducible refine at_drew ?_); refine wpu_drew G ?_; clear G; intro w G)
              | ((with_reducible refine at_load ?_); first
                | (refine wpu_load G rfl rfl rfl rfl ?_; go_frame)
                | (refine wpu_loadB G rfl rfl rfl (by rfl) ?_; go_frame)
                | (refine wpu_loadS G rfl rfl rfl (by rfl) ?_; simp only [List.drop_succ_cons, List.drop_zero, List.take_succ_cons, List.take_zero]; go_frame))
              | ((with_reducible refine at_store ?_); first
                | (refine wpu_store G rfl rfl rfl rfl (by first | rfl | assumption | simp [*]) rfl ?_; clear G; intro w G; go_frame)
                | (refine wpu_storeB G rfl rfl rfl rfl (by rfl) (by rfl) (by first | rfl | assumption | simp [*]) ?_; clear G; intro w G; go_frame)
                | (refine wpu_storeS G rfl rfl rfl rfl (by rfl) (by rfl) (by first | rfl | assumption | simp [*]) ?_; clear G; intro w G; go_frame))
              | ((with_reducible refine at_convert ?_); refine wpu_str G rfl rfl rfl rfl ?_; go_frame)
              | ((with_reducible refine at_slice ?_); first
                | (refine wpu_sliceLo rfl rfl rfl rfl (by first | rfl | omega) (by omega) (by omega) ?_; go_frame)
                | (refine wpu_sliceLH rfl rfl rfl rfl rfl (by first | rfl | omega) (by first | rfl | omega) (by omega) (by omega) ?_; go_frame))
              | fail)
            unfold Held
            simp only [List.set_cons_succ, List.set_cons_zero] at G
            obtain ⟨NN, hNN⟩ : ∃ N : List Txt, N = [[102, 114, 101, 115, 104, 46, 110, 97, 109, 101, 46, 111, 102, 46, 110, 111, 98, 111, 100, 121, 46, 101, 108, 115, 101]] := ⟨_, rfl⟩
            obtain ⟨RR, hRR⟩ : ∃ r, r = (⟨[], 0, [], [109], [], [⟨c0, one64⟩], 0⟩ : Rt) := ⟨_, rfl⟩
            have HNN := Lib.hid hNN
            have HRR := Lib.hid hRR
            have HBAD : Hid (rightR (moreH S ⟨NN, [RR]⟩) = false) := Lib.hid (spoilH (fun seen => spoilR (spoil6 (by rw [hRR]; exact List.cons_ne_nil _ _) (by rw [hRR]))))
            have HOK : Hid (moreH S ⟨NN, [RR]⟩).ok := Lib.hid (moreH_ok ok2 ⟨(fun x h => by rw [hNN] at h; rw [List.mem_singleton.1 h]; decide), (fun x h => by rw [List.mem_singleton.1 h, hRR]; exact ⟨Nat.zero_le _, Nat.zero_le _, show (1 : Nat) ≤ _ by omega, (fun _ h => by cases h), (fun _ h => by rw [List.mem_singleton.1 h]; exact Nat.le_trans (ok2.clusters _ HCM.out) (by decide))⟩)⟩)
            clear hNN hRR
            replace G := own_nil G 4
            have hn1 : 1 = NN.length := by rw [HNN.out]; rfl
            have hs1 : strs [[102, 114, 101, 115, 104, 46, 110, 97, 109, 101, 46, 111, 102, 46, 110, 111, 98, 111, 100, 121, 46, 101, 108, 115, 101]] = strs NN := by rw [HNN.out]
            have hr1 : [str [], .int .i64 0, str [], (str [109]), .slice none 0 0, (.slice (some ⟨bch, 0, none⟩) 1 1), .int .i64 0] = rtCs RR (.slice none 0 0) (.slice (some ⟨bch, 0, none⟩) 1 1) := by rw [HRR.out] <;> rfl
            have hf1 : 0 = RR.fields.length := by rw [HRR.out] <;> rfl
            have hf2 : [] = mrs RR.fields := by rw [HRR.out] <;> rfl
            have hc1 : 1 = RR.choices.length := by rw [HRR.out] <;> rfl
            have hc2 : (chs [⟨c0, one64⟩]) = chs RR.choices := by rw [HRR.out] <;> rfl
            obtain ⟨HX, hHX⟩ : ∃ X, X = (⟨NN, [RR]⟩ : Hs) := ⟨_, rfl⟩
            replace G := route_end' (N := NN) (r := RR) (vn := .slice (some ⟨bn, 0, none⟩) 1 1) (vr := .slice (some ⟨br, 0, none⟩) 1 1) (vf := .slice none 0 0) (vc := (.slice (some ⟨bch, 0, none⟩) 1 1)) (R := sl 1 (.slice bco S.clusters.length bcc) S.clusters.length (strs S.clusters) * (sl 2 (.slice xo (S.hosts.length + 1) xc) (S.hosts.length + 1) (rows.flatten ++ [.slice (some ⟨bn, 0, none⟩) 1 1, .slice (some ⟨br, 0, none⟩) 1 1]) * (starL hsA rows S.hosts * blk b6 [.int .i64 S.version, .slice bco S.clusters.length bcc, .slice xo (S.hosts.length + 1) xc]))) hn1 hs1 hr1 hf1 hf2 hc1 hc2 (G.sub _)
            rw [← hHX] at G HBAD HOK
            clear hn1 hs1 hr1 hf1 hf2 hc1 hc2
            replace G := hosts_end (h := HX) (R := blk b6 [.int .i64 S.version, .slice bco S.clusters.length bcc, .slice xo (S.hosts.length + 1) xc]) HH2.out (G.sub (hsA [(.slice (some ⟨bn, 0, none⟩) 1 1), (.slice (some ⟨br, 0, none⟩) 1 1)] HX * (sl 1 (.slice bco S.clusters.length bcc) S.clusters.length (strs S.clusters) * (sl 2 (.slice xo (S.hosts.length + 1) xc) (S.hosts.length + 1) (rows.flatten ++ [(.slice (some ⟨bn, 0, none⟩) 1 1), (.slice (some ⟨br, 0, none⟩) 1 1)]) * (starL hsA rows S.hosts * blk b6 [.int .i64 S.version, .slice bco S.clusters.length bcc, .slice xo (S.hosts.length + 1) xc])))))
            refine wpu_val rfl (exec_buildT _ rfl (by kernel_rfl) (buildFF _)) ?_
            go_frame
            replace G := own_new_sl (n := 2) (sz := 3) G (fds FF) 47 rfl (by decide)
            generalize w.heap.size = bf at G ⊢
            generalize w.alloc _ = w at G ⊢
            go_wp2_with fail
            refine Calls.mono (findC (s := (moreH S HX)) (F := FF) (d := 0) (sn_read (G.pull (snA [.int .i64 S.version, .slice bco S.clusters.length bcc, .slice xo (S.hosts.length + 1) xc] (moreH S HX)))) HOK.out (own_rd G) (by decide) (by decide)) ?_
            rintro e w5 ⟨rfl, hb⟩
            replace G := own_kept G hb
            clear hb
            rw [find_not HBAD.out, show findV none = .tuple #[str [], .int .i64 0, .bool false] from rfl]
            go_wp2_with (first
              | ((with_reducible refine at_alloc ?_); refine wpu_new G ?_; clear G; intro w G)
              | ((with_reducible refine at_drew ?_); refine wpu_drew G ?_; clear G; intro w G)
              | ((with_reducible refine at_load ?_); first
                | (refine wpu_load G rfl rfl rfl rfl ?_; go_frame)
                | (refine wpu_loadB G rfl rfl rfl (by rfl) ?_; go_frame)
                | (refine wpu_loadS G rfl rfl rfl (by rfl) ?_; simp only [List.drop_succ_cons, List.drop_zero, List.take_succ_cons, List.take_zero]; go_frame))
              | ((with_reducible refine at_store ?_); first
                | (refine wpu_store G rfl rfl rfl rfl (by first | rfl | assumption | simp [*]) rfl ?_; clear G; intro w G; go_frame)
                | (refine wpu_storeB G rfl rfl rfl rfl (by rfl) (by rfl) (by first | rfl | assumption | simp [*]) ?_; clear G; intro w G; go_frame)
                | (refine wpu_storeS G rfl rfl rfl rfl (by rfl) (by rfl) (by first | rfl | assumption | simp [*]) ?_; clear G; intro w G; go_frame))
              | ((with_reducible refine at_convert ?_); refine wpu_str G rfl rfl rfl rfl ?_; go_frame)
              | ((with_reducible refine at_slice ?_); first
                | (refine wpu_sliceLo rfl rfl rfl rfl (by first | rfl | omega) (by omega) (by omega) ?_; go_frame)
                | (refine wpu_sliceLH rfl rfl rfl rfl rfl (by first | rfl | omega) (by first | rfl | omega) (by omega) (by omega) ?_; go_frame))
              | fail)
            refine Calls.mono (rightC (s := (moreH S HX)) (sn_read (G.pull (snA [.int .i64 S.version, .slice bco S.clusters.length bcc, .slice xo (S.hosts.length + 1) xc] (moreH S HX)))) HOK.out) ?_
            rintro e w6 ⟨rfl, hb⟩
            replace G := own_kept G hb
            clear hb
            rw [HBAD.out]
            go_wp2_with (first
              | ((with_reducible refine at_eqS ?_); refine wpu_eqS (b := true) rfl (by kernel_rfl) rfl rfl (by rfl) ?_; go_frame)
              | fail)
            go_ret
            exact ⟨rfl, own_shift GW G⟩

theorem contract {H : Type} {enc : TypeId × Value → H} {W : World} {vs : List Value} {ds : List (DataW H)}
    (hA : Args enc Tryd.prog W [25, 3] vs ds) (hsz : (DataW.weightsEach Tryd.prog [25, 3] ds).all (· ≤ reachBytes) = true) (hL : laidMetH Tryd.prog Rows.routeSpoilsRow.laid W) :
    Calls Tryd.prog 6 vs.toArray W fun e W' => e = .returned (.bool true) ∧ Below W.heap.size W W' := by
  obtain ⟨v0, _, d0, _, rfl, rfl, h0, hA⟩ := args_cons hA
  obtain ⟨v1, _, d1, _, rfl, rfl, h1, hA⟩ := args_cons hA
  obtain ⟨rfl, rfl⟩ := args_nil hA
  obtain ⟨cs, rfl, hz0⟩ := argz_struct Tryd.underlying25 h0 hsz 0 rfl rfl
  obtain ⟨s, ok, hs, -⟩ := snap_in hz0
  obtain ⟨x1, rfl, hx1, hy1⟩ := arg_i64 Tryd.underlying3 h1
  exact spoilW hs ok






theorem spec {H : Type} : ∀ ds : List (DataW H), ds.length = 2 → Rows.routeSpoilsSpec.fn H ds = { results := [.lit (.bool true)], args := ds }
  | [_, _], _ => rfl
  | [], h => by cases h
  | [_], h => by cases h
  | _ :: _ :: _ :: _, h => by simp at h
theorem door_met (os : Os) (args : Array Value) : laidMetH Tryd.prog Rows.routeSpoilsRow.laid ((World.setRow (World.doorLaid Tryd.prog 19 os) (Tryd.prog.globalNamed "unicode/utf8.first").get! (Go.Pinned.utf8FirstZ.map fun z : Nat => Value.int .u8 (z : Int)).toArray).forCall (fun _ _ => 0) ⟨#[], args, []⟩).memory :=
  laidMetH_of_parts3 (fuel := 8) (laidMet_of_run' 8 (by kernel_rfl) (by kernel_rfl)) (by kernel_rfl) (by kernel_rfl)
set_option maxRecDepth 100000 in
theorem lifted (os : Os) (started : os.Started) (H : Type) (enc : TypeId × Value → H) :
    ReturnsInHanded {} Tryd.checked os 6 .any (fun w args => (Rows.routeSpoilsSpec.pre enc Tryd.prog Tryd.f6 Rows.routeSpoilsRow.domain false w args ∧ laidMetH Tryd.prog Rows.routeSpoilsRow.laid w) ∧ sizedMet enc Tryd.prog Tryd.f6 (OpenSpec.ofChange Rows.routeSpoilsSpec) false w args)
      (Rows.routeSpoilsSpec.post enc Tryd.prog Tryd.f6 false true false false) :=
  lifted_of_law_laid (C := Tryd.checked) (fn := Tryd.f6) (s := Rows.routeSpoilsSpec) (tb := 4) (by kernel_rfl) started (by kernel_rfl) Tryd.func6
    (ChangeSpec.witness_shaped (enc := enc) (C := Tryd.checked) (os := os) (X := fun w _ => laidMetH Tryd.prog Rows.routeSpoilsRow.laid w) false (World.setRow (World.doorLaid Tryd.prog 19 os) (Tryd.prog.globalNamed "unicode/utf8.first").get! (Go.Pinned.utf8FirstZ.map fun z : Nat => Value.int .u8 (z : Int)).toArray) #[.agg #[.int .i64 0, .slice none 0 0, .slice none 0 0], .int .i64 0] 8 rfl (World.shaped_of_RefB (by kernel_rfl) (by kernel_rfl)) (by kernel_rfl) (by kernel_rfl) (by kernel_rfl) (door_met os _))
    rfl spec (by kernel_rfl) Tryd.underlying4 (by kernel_rfl) (by kernel_rfl) (fun _ _ _ h1 h2 h3 => contract h1 h2 h3)

theorem holds : Rows.RouteSpoilsSaid :=
  OpenClaim.holds_of_wide 6 Tryd.f6 rfl rfl rfl rfl rfl rfl rfl ⟨rfl, rfl, rfl, rfl, rfl⟩ rfl rfl rfl rfl rfl (by kernel_rfl) Tryd.func6 (by kernel_rfl)
    (of_decide_eq_true (by kernel_rfl)) (by unfold Func.isWrapper; first | (rw [if_pos (by decide +kernel)]; kernel_rfl) | (rw [if_neg (by decide +kernel)]; exact ⟨rfl, rfl⟩))
    (fun os started H enc _ => lifted os started H enc)

theorem proved : Rows.RouteSpoilsCardSaid :=
  Claim7.holds_tied_plain_at .later [] [.data, .pinned] true (true, "8ad4a4f5b69d3fbbf86e42b9283652f351f0a1c623a0149f61aae9e179e7ce1c") false
    holds (fun _ h => by cases h) (by kernel_rfl) (fun _ h => by cases h) routeSpoils_row_tie rfl ⟨rfl, rfl⟩ (by kernel_rfl) rfl
    (fun f fn hf hfn => by
      obtain rfl : f = 6 := Option.some.inj ((show Tryd.prog.funcNamed "flume/flumelaw16.RouteSpoils" = some 6 by kernel_rfl).symm.trans hf) |>.symm
      obtain rfl : fn = Tryd.f6 := (Option.some.inj (Tryd.func6.symm.trans hfn)).symm
      exact ⟨by kernel_rfl, fun j t ht => by
        rw [Tryd.params6] at ht
        have hm : t ∈ [25, 3] := by simpa using Array.mem_of_getElem? ht
        have hall : ([25, 3].all fun u => !Tryd.prog.wantsStandIn u) = true := by kernel_rfl
        exact (show Tryd.prog.wantsStandIn t = false by simpa using List.all_eq_true.1 hall t hm)⟩)
    (by kernel_rfl)
end Go.Proofs.YtjcpfldobiekbaaDoor.routeSpoils
