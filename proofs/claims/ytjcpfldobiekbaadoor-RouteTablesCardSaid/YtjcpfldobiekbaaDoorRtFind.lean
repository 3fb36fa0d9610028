




/-
  Where a request goes: package route.
-/
import Derived.Test.YtjcpfldobiekbaaDoorRtFit
namespace Go.Proofs.YtjcpfldobiekbaaDoor
open Go.RowKit Go.Sl Go.ChangeShapes Go.Fl

/-- the cells of the host that was found -/
def cellsAt (xs : List Value) : Option Nat → List Value
  | none => [.slice none 0 0, .slice none 0 0]
  | some k => (xs.drop (k * 2)).take 2
theorem near_step {auth : Txt} {i : Nat} {st : Int × Option Nat} {hosts : List Hs} {h : Hs} (hh : hosts[i]? = some h) : nearH auth i st (hosts.drop i) = nearH auth (i + 1) (h.names.foldl (nearN auth i) st) (hosts.drop (i + 1)) := by
  have e : hosts.drop i = h :: hosts.drop (i + 1) := by
    obtain ⟨hj1, hj2⟩ := List.getElem?_eq_some_iff.1 hh
    rw [← hj2, List.getElem_cons_drop]
  rw [e]
  rfl
theorem near_end {auth : Txt} {st : Int × Option Nat} {hosts : List Hs} : nearH auth hosts.length st (hosts.drop hosts.length) = st := by rw [List.drop_length]; rfl
theorem fold_step {auth : Txt} {i k : Nat} {st : Int × Option Nat} {names : List Txt} {x : Txt} (hx : names[k]? = some x) : (names.drop k).foldl (nearN auth i) st = (names.drop (k + 1)).foldl (nearN auth i) (nearN auth i st x) := by
  have e : names.drop k = x :: names.drop (k + 1) := by
    obtain ⟨hj1, hj2⟩ := List.getElem?_eq_some_iff.1 hx
    rw [← hj2, List.getElem_cons_drop]
  rw [e]
  rfl

set_option maxHeartbeats 16000000 in
set_option maxRecDepth 100000 in
theorem hostOfC {w0 : World} {s : Sn} {auth : Txt} {xs : List Value} {x0 vc vh : Value} (hh0 : rd w0 2 vh s.hosts.length xs) (hL : rdL rdHs 2 w0 xs s.hosts) (ok : s.ok) (ha : auth.length ≤ 140737488351232) :
    Calls Tryd.prog 26 #[.agg #[x0, vc, vh], str auth] w0 fun e w' => e = .returned (.agg (cellsAt xs (nearH auth 0 (0, none) s.hosts).2).toArray) ∧ Below w0.heap.size w0 w' := by
  have G := own_begin w0
  obtain ⟨ho, hc, rfl, i3, i4, -⟩ := id hh0
  unfold maxLen at i4
  have hv : ∀ A w, Own w0 A w → rd w 2 (.slice ho s.hosts.length hc) s.hosts.length xs := fun A w h => hh0.old h
  clear hh0
  have okh := ok.hosts
  obtain ⟨hosts, hhs⟩ : ∃ h, s.hosts = h := ⟨_, rfl⟩
  rw [hhs] at hL hv okh i3 ⊢
  clear hhs ok
  go_enter Tryd.func26, Tryd.ntmps26
  go_wp2_with (first
    | ((with_reducible refine at_alloc ?_); refine wpu_new G ?_; clear G; intro w G)
    | ((with_reducible refine at_drew ?_); refine wpu_drew G ?_; clear G; intro w G)
    | ((with_reducible refine at_alloc ?_); refine wpu_new G ?_; clear G; intro w G)
    | ((with_reducible refine at_drew ?_); refine wpu_drew G ?_; clear G; intro w G)
    | ((with_reducible refine at_load ?_); first
      | (refine wpu_load G rfl rfl rfl rfl ?_; go_frame)
      | (refine wpu_loadB G rfl rfl rfl (by rfl) ?_; go_frame)
      | (refine wpu_loadS G rfl rfl rfl (by rfl) ?_; simp only [List.drop_succ_cons, List.drop_zero, List.take_succ_cons, List.take_zero]; go_frame))
    | ((with_reducible refine at_store ?_); first
      | (refine wpu_store G rfl rfl rfl rfl (by first | rfl | assumption | simp [*]) rfl ?_; clear G; intro w G; go_frame)
      | (refine wpu_storeB G rfl rfl rfl rfl (by rfl) (by rfl) (by first | rfl | assumption | simp [*]) ?_; clear G; intro w G; go_frame)
      | (refine wpu_storeS G rfl rfl rfl rfl (by rfl) (by rfl) (by first | rfl | assumption | simp [*]) ?_; clear G; intro w G; go_frame))
    | ((with_reducible refine at_convert ?_); refine wpu_str G rfl rfl rfl rfl ?_; go_frame)
    | ((with_reducible refine at_slice ?_); first
      | (refine wpu_sliceLo rfl rfl rfl rfl (by first | rfl | omega) (by omega) (by omega) ?_; go_frame)
      | (refine wpu_sliceLH rfl rfl rfl rfl rfl (by first | rfl | omega) (by first | rfl | omega) (by omega) (by omega) ?_; go_frame))
    | fail)
  rename_i w4 _ _
  obtain ⟨b4, hb4⟩ : ∃ b, w4.heap.size = b := ⟨_, rfl⟩
  rw [hb4] at G ⊢
  clear hb4
  go_loopw [5, 7, 9, 10, 14] (fun be _ _ _ i wr => ∃ (j : Nat) (st : Int × Option Nat) (c0 c1 : Value), i = .int .i64 j ∧ be = .int .i64 st.1 ∧ j ≤ hosts.length ∧ Hid (nearH auth 0 (0, none) hosts = nearH auth j st (hosts.drop j)) ∧ Hid (cellsAt xs st.2 = [c0, c1]) ∧ c0.oneCell' = true ∧ c1.oneCell' = true ∧ Own w0 (blk b4 [c0, c1]) wr) (fun _ _ _ _ i _ => hosts.length - (intOf i).toNat)
  case atStart => exact ⟨0, (0, none), _, _, rfl, rfl, Nat.zero_le _, Lib.hid rfl, Lib.hid rfl, rfl, rfl, G.drop⟩
  case round =>
    clear G
    obtain ⟨j, st, c0, c1, rfl, rfl, hj, HN, HC, o1, o2, G⟩ := hrel
    by_cases hjn : j < hosts.length
    · obtain ⟨h, hh⟩ : ∃ h, hosts[j]? = some h := ⟨hosts[j], List.getElem?_eq_getElem hjn⟩
      obtain ⟨ad, rfl⟩ := rd_some (hv _ _ G) (by omega)
      obtain ⟨vn, vr, ys, hcs, hn0, hr0, -⟩ := hL.2 j h hh
      have HF := Lib.hid hcs
      have okn := (okh h (List.mem_of_getElem? hh)).names
      have v1 := hn0.one
      have v2 := hr0.one
      obtain ⟨no, nc, rfl, i5, i6, -⟩ := id hn0
      have hnn : ∀ A w, Own w0 A w → rd w 1 (.slice no h.names.length nc) h.names.length (strs h.names) := fun A w g => hn0.old g
      unfold maxLen at i6
      have HS : Hid (nearH auth 0 (0, none) hosts = nearH auth (j + 1) (h.names.foldl (nearN auth j) st) (hosts.drop (j + 1))) := Lib.hid (by rw [HN.out, near_step hh])
      clear hn0 hr0 hh HN
      go_wp2_with (first
        | ((with_reducible refine at_alloc ?_); refine wpu_new G ?_; clear G; intro w G)
        | ((with_reducible refine at_drew ?_); refine wpu_drew G ?_; clear G; intro w G)
        | ((with_reducible refine at_load ?_); first
          | (refine wpu_loadE (k := j) (hv _ _ G) HF.out rfl (by kernel_rfl) rfl rfl ?_; go_frame)
          | (refine wpu_load G rfl rfl rfl rfl ?_; go_frame))
        | ((with_reducible refine at_store ?_); refine wpu_storeB G rfl rfl rfl rfl (by rfl) (by rfl) (by simp [v1, v2]) ?_; clear G; intro w G; go_frame)
        | fail)
      obtain ⟨b7, hb7⟩ : ∃ m, wr.heap.size = m := ⟨_, rfl⟩
      rw [hb7] at G ⊢
      clear hb7
      go_loopw [5, 9, 10, 21] (fun be _ _ i wr => ∃ (k : Nat) (st2 : Int × Option Nat) (c0 c1 : Value), i = .int .i64 k ∧ be = .int .i64 st2.1 ∧ k ≤ h.names.length ∧ Hid (h.names.foldl (nearN auth j) st = (h.names.drop k).foldl (nearN auth j) st2) ∧ Hid (cellsAt xs st2.2 = [c0, c1]) ∧ c0.oneCell' = true ∧ c1.oneCell' = true ∧ Own w0 (blk b7 [.slice no h.names.length nc, vr] * blk b4 [c0, c1]) wr) (fun _ _ _ i _ => h.names.length - (intOf i).toNat)
      case atStart => exact ⟨0, st, _, _, rfl, rfl, Nat.zero_le _, Lib.hid rfl, HC, o1, o2, G⟩
      case round =>
        clear G o1 o2 HC
        obtain ⟨k, st2, c0, c1, rfl, rfl, hk, HN, HC, o1, o2, G⟩ := hrel
        by_cases hkn : k < h.names.length
        · obtain ⟨x, hx⟩ : ∃ x, h.names[k]? = some x := ⟨h.names[k], List.getElem?_eq_getElem hkn⟩
          obtain ⟨nd, rfl⟩ := rd_some (hnn _ _ G) (by omega)
          have HF2 := Lib.hid (strs_at hx)
          have hxl := okn x (List.mem_of_getElem? hx)
          have HN2 := Lib.hid (HN.out.trans (fold_step (auth := auth) (i := j) (st := st2) hx))
          obtain ⟨y, hy⟩ : ∃ y, hostR x auth = y := ⟨_, rfl⟩
          have HY := Lib.hid hy
          obtain ⟨b, hb⟩ : ∃ b, decide (y > st2.1) = b := ⟨_, rfl⟩
          clear hx hy HN
          go_wp2_with (first
            | ((with_reducible refine at_load ?_); refine wpu_loadC (k := k) (hnn _ _ G) HF2.out rfl (by kernel_rfl) rfl ?_; go_frame)
            | fail)
          refine Calls.mono (hostC hxl ha G) ?_
          clear G; rintro e w ⟨rfl, G⟩
          rw [HY.out]
          cases b
          · have HN3 : Hid (h.names.foldl (nearN auth j) st = (h.names.drop (k + 1)).foldl (nearN auth j) st2) := Lib.hid (by
              rw [HN2.out]
              unfold nearN
              rw [HY.out, if_neg (by have := of_decide_eq_false hb; omega)])
            go_wp2_with (first
              | ((with_reducible refine at_lss ?_); refine wpu_lss rfl (by kernel_rfl) rfl rfl (by assumption) ?_; go_frame)
              | ((with_reducible refine at_gtr ?_); refine wpu_gtr rfl (by kernel_rfl) rfl rfl (by assumption) ?_; go_frame)
              | ((with_reducible refine at_leq ?_); refine wpu_leq rfl (by kernel_rfl) rfl rfl (by assumption) ?_; go_frame)
              | ((with_reducible refine at_geq ?_); refine wpu_geq rfl (by kernel_rfl) rfl rfl (by assumption) ?_; go_frame)
              | ((with_reducible refine at_eqS ?_); refine wpu_eqS rfl (by kernel_rfl) rfl rfl (by assumption) ?_; go_frame)
              | ((with_reducible refine at_neS ?_); refine wpu_neS rfl (by kernel_rfl) rfl rfl (by assumption) ?_; go_frame)
              | fail)
            go_roundw
            case rel => exact ⟨k + 1, st2, c0, c1, by go_num, rfl, by omega, HN3, HC, o1, o2, G⟩
            case measure => simp [intOf] <;> omega
          · have HN3 : Hid (h.names.foldl (nearN auth j) st = (h.names.drop (k + 1)).foldl (nearN auth j) (y, some j)) := Lib.hid (by
              rw [HN2.out]
              unfold nearN
              rw [HY.out, if_pos (by have := of_decide_eq_true hb; omega)])
            have HC3 : Hid (cellsAt xs (some j) = [.slice (some nd) h.names.length nc, vr]) := Lib.hid HF.out
            go_wp2_with (first
              | ((with_reducible refine at_lss ?_); refine wpu_lss rfl (by kernel_rfl) rfl rfl (by assumption) ?_; go_frame)
              | ((with_reducible refine at_gtr ?_); refine wpu_gtr rfl (by kernel_rfl) rfl rfl (by assumption) ?_; go_frame)
              | ((with_reducible refine at_leq ?_); refine wpu_leq rfl (by kernel_rfl) rfl rfl (by assumption) ?_; go_frame)
              | ((with_reducible refine at_geq ?_); refine wpu_geq rfl (by kernel_rfl) rfl rfl (by assumption) ?_; go_frame)
              | ((with_reducible refine at_eqS ?_); refine wpu_eqS rfl (by kernel_rfl) rfl rfl (by assumption) ?_; go_frame)
              | ((with_reducible refine at_neS ?_); refine wpu_neS rfl (by kernel_rfl) rfl rfl (by assumption) ?_; go_frame)
              | fail)
            refine wp_region_mix [0, 0, 3, 2] (Own w0 _) (by kernel_rfl) (by kernel_rfl) (own_drew G) ?_
            refine mix_calm 2 ((own_drew G)) (by rfl) (by rfl) ?_
            intro ι W hne hW
            dsimp only [List.take, List.drop]
            repeat (first | ((with_reducible refine atq_load ?_); first | (refine wpq_load hW rfl rfl rfl rfl ?_; go_frame) | (refine wpq_loadB hW rfl rfl rfl (by rfl) ?_; go_frame) | (refine wpq_loadS hW rfl rfl rfl (by rfl) ?_; simp only [List.drop_succ_cons, List.drop_zero, List.take_succ_cons, List.take_zero]; go_frame)) | (fail) | go_big_quiet_step (fail))
            refine wpQuiet_nil ?_
            clear  hW hne W ι
            refine mix_plain 1 (by rfl) (by rfl) ?_
            intro ι W hne
            dsimp only [List.take, List.drop]
            repeat (go_big_quiet_step (fail))
            refine wpQuiet_nil ?_
            clear hne W ι
            refine mix_last rfl (fun K hK => ?_)
            refine wpk_storeB (own_drew G) rfl rfl rfl (by rfl) (by rfl) (by simp [v1, v2]) ?_
            clear G; intro w G
            refine hK _ _ ?_
            clear hK
            try go_frame
            refine mix_nil ?_
            clear hb
            go_wp2_with fail
            go_roundw
            case rel => exact ⟨k + 1, (y, some j), _, _, by go_num, rfl, by omega, HN3, HC3, v1, v2, G⟩
            case measure => simp [intOf] <;> omega
        · obtain rfl : k = h.names.length := by omega
          have HN2 : Hid (nearH auth 0 (0, none) hosts = nearH auth (j + 1) st2 (hosts.drop (j + 1))) := Lib.hid (by
            rw [HS.out, HN.out, List.drop_length]
            rfl)
          have G := G.right
          clear HN HS
          go_wp2_with fail
          go_roundw
          case rel => exact ⟨j + 1, st2, c0, c1, by go_num, rfl, by omega, HN2, HC, o1, o2, G⟩
          case measure => simp [intOf] <;> omega
    · obtain rfl : j = hosts.length := by omega
      have HE : Hid (cellsAt xs (nearH auth 0 (0, none) hosts).2 = [c0, c1]) := Lib.hid (by rw [HN.out, near_end]; exact HC.out)
      go_wp2_with (first
        | ((with_reducible refine at_alloc ?_); refine wpu_new G ?_; clear G; intro w G)
        | ((with_reducible refine at_drew ?_); refine wpu_drew G ?_; clear G; intro w G)
        | ((with_reducible refine at_load ?_); first
          | (refine wpu_load G rfl rfl rfl rfl ?_; go_frame)
          | (refine wpu_loadB G rfl rfl rfl (by rfl) ?_; go_frame)
          | (refine wpu_loadS G rfl rfl rfl (by rfl) ?_; simp only [List.drop_succ_cons, List.drop_zero, List.take_succ_cons, List.take_zero]; go_frame))
        | ((with_reducible refine at_store ?_); first
          | (refine wpu_store G rfl rfl rfl rfl (by first | rfl | assumption | simp [*]) rfl ?_; clear G; intro w G; go_frame)
          | (refine wpu_storeB G rfl rfl rfl rfl (by rfl) (by rfl) (by first | rfl | assumption | simp [*]) ?_; clear G; intro w G; go_frame)
          | (refine wpu_storeS G rfl rfl rfl rfl (by rfl) (by rfl) (by first | rfl | assumption | simp [*]) ?_; clear G; intro w G; go_frame))
        | ((with_reducible refine at_convert ?_); refine wpu_str G rfl rfl rfl rfl ?_; go_frame)
        | ((with_reducible refine at_slice ?_); first
          | (refine wpu_sliceLo rfl rfl rfl rfl (by first | rfl | omega) (by omega) (by omega) ?_; go_frame)
          | (refine wpu_sliceLH rfl rfl rfl rfl rfl (by first | rfl | omega) (by first | rfl | omega) (by omega) (by omega) ?_; go_frame))
        | fail)
      try simp only [Exit.inBlock, Exit.then]
      refine bodyPost_ret (results1 rfl (resB G rfl (by rfl))) rfl ?_
      exact ⟨by rw [HE.out], G.below⟩

theorem near_lt {auth : Txt} : ∀ (l : List Hs) (i : Nat) (st : Int × Option Nat) (k : Nat), (nearH auth i st l).2 = some k → st.2 = some k ∨ (i ≤ k ∧ k < i + l.length)
  | [], i, st, k, h => .inl h
  | x :: l, i, st, k, h => by
    have key : ∀ (ns : List Txt) (st : Int × Option Nat), (ns.foldl (nearN auth i) st).2 = st.2 ∨ (ns.foldl (nearN auth i) st).2 = some i := by
      intro ns
      induction ns with
      | nil => intro st; exact .inl rfl
      | cons n ns ih =>
        intro st
        rw [List.foldl_cons]
        rcases ih (nearN auth i st n) with e | e
        · rw [e]
          unfold nearN
          split
          · exact .inr rfl
          · exact .inl rfl
        · exact .inr e
    rw [List.length_cons]
    have h : (nearH auth (i + 1) (x.names.foldl (nearN auth i) st) l).2 = some k := h
    rcases near_lt l (i + 1) _ k h with e | ⟨e1, e2⟩
    · rcases key x.names st with e3 | e3
      · exact .inl (by rw [← e3]; exact e)
      · rw [e3] at e
        have : i = k := Option.some.inj e
        exact .inr ⟨by omega, by omega⟩
    · exact .inr ⟨by omega, by omega⟩
/-- all routes of a right snapshot may be -/
theorem right_may {s : Sn} (h : rightR s = true) : ∀ x ∈ s.hosts, ∀ r ∈ x.routes, mayR r s.clusters = true := by
  unfold rightR at h
  simp only [Bool.and_eq_true] at h
  have h := h.2
  have key : ∀ (l : List Hs) (seen : List Txt), hostsR s.clusters seen l = true → ∀ x ∈ l, ∀ r ∈ x.routes, mayR r s.clusters = true := by
    intro l
    induction l with
    | nil => intro _ _ x hx; cases hx
    | cons y l ih =>
      intro seen h x hx r hr
      unfold hostsR at h
      rw [Bool.and_eq_true] at h
      have h := h.2
      cases e : newR seen (y.names.map smallL) with
      | none => rw [e] at h; cases h
      | some seen' =>
        rw [e] at h
        simp only [Bool.and_eq_true] at h
        rcases List.mem_cons.1 hx with rfl | hx
        · exact List.all_eq_true.1 h.1 r hr
        · exact ih seen' h.2 x hx r hr
  exact key s.hosts [] h
theorem may_weigh {r : Rt} {cl : List Txt} (h : mayR r cl = true) : weighR (weightsR r.choices) = true ∧ r.choices.length ≤ 16 := by
  rw [mayR_eq] at h
  simp only [Bool.and_eq_true, decide_eq_true_eq] at h
  exact ⟨h.2, h.1.1.1.2⟩
theorem goes_hit {l : List Rt} {path : Txt} {F : List Fd} {d j : Nat} {r : Rt} {c : Ch} (h : l[j]? = some r) (ha : ∀ x ∈ l.take j, fitsR x path F = false) (hf : fitsR r path F = true) (hc : r.choices[pickR (weightsR r.choices) d]? = some c) : goesR l path F d = some (c.cluster, r.ticks) := by
  have hs : l = l.take j ++ r :: l.drop (j + 1) := by
    obtain ⟨hj1, hj2⟩ := List.getElem?_eq_some_iff.1 h
    rw [← hj2, List.getElem_cons_drop, List.take_append_drop]
  unfold goesR
  rw [hs, List.find?_append, List.find?_eq_none.2 (fun g hg => by simpa using ha g hg), Option.none_or, List.find?_cons_of_pos (p := fun r => fitsR r path F) hf]
  simp only
  rw [hc]
  rfl
theorem goes_none {l : List Rt} {path : Txt} {F : List Fd} {d : Nat} (ha : ∀ x ∈ l, fitsR x path F = false) : goesR l path F d = none := by
  unfold goesR
  rw [List.find?_eq_none.2 (fun g hg => by simpa using ha g hg)]

section
variable {P : Program} {w : World} {ops : Array Oper} {a : Act} {x : Operand} {d : Option Tmp} {ty T : TypeId} {pos : String} {after : Array Edge} {g : Option (Nat × Bool)} {o : Oper} {k : Nat} {u v : Value}
theorem fieldHost (a b : Value) (w : World) : (Instr.field 33 (.agg #[a, b]) 1).run Tryd.prog w = .ok b w := by kernel_rfl
theorem exec_field (ho : o.op = .field T x k) (hx : evalO a x = some u) (hr : (Instr.field T u k).run P w = .ok v w) : (execOp a.eval o).run P w = .ok (.value v) w := by
  unfold execOp
  rw [ho]
  simp [evalO_eq hx, hr]
theorem atq_field {C : World → Prop} {q : Act → Prop} {l : List Oper} (h : wpQuiet P ops C q (⟨d, .field T x k, ty, pos, after, g⟩ :: l) a) : wpQuiet P ops C q (⟨d, .field T x k, ty, pos, after, g⟩ :: l) a := h
end

def wentR (hosts : List Hs) (path : Txt) (F : List Fd) (d : Nat) : Option Nat → Option (Txt × Int)
  | none => none
  | some i => match hosts[i]? with
    | none => none
    | some h => goesR h.routes path F d
theorem find_eq (s : Sn) (F : List Fd) (d : Nat) : findR s F d = if rightR s then wentR s.hosts (firstF F [58, 112, 97, 116, 104]) F d (nearH (firstF F [58, 97, 117, 116, 104, 111, 114, 105, 116, 121]) 0 (0, none) s.hosts).2 else none := by
  unfold findR
  split
  · cases (nearH (firstF F [58, 97, 117, 116, 104, 111, 114, 105, 116, 121]) 0 (0, none) s.hosts).2 <;> rfl
  · rfl

set_option maxHeartbeats 16000000 in
set_option maxRecDepth 100000 in
theorem findC {w0 : World} {s : Sn} {cs : List Value} {F : List Fd} {u : Value} {d : Nat} (hs : rdSn w0 cs s) (ok : s.ok) (hF : rd w0 3 u F.length (fds F)) (okF : ∀ f ∈ F, f.2.1.length ≤ 140737488351232) (hd : d < 18446744073709551616) :
    Calls Tryd.prog 12 #[.agg cs.toArray, u, .int .u64 (d : Int)] w0 fun e w' => e = .returned (findV (findR s F d)) ∧ Below w0.heap.size w0 w' := by
  have G := own_begin w0
  have hs0 := hs
  obtain ⟨vc, vh, xs, rfl, hc0, hh0, hL⟩ := hs
  have hu : ∀ A w, Own w0 A w → rd w 3 u F.length (fds F) := fun A w h => hF.old h
  obtain ⟨R, hR⟩ : ∃ R, findR s F d = R := ⟨_, rfl⟩
  obtain ⟨ri, hri⟩ : ∃ b, rightR s = b := ⟨_, rfl⟩
  obtain ⟨path, hp⟩ : ∃ p, firstF F [58, 112, 97, 116, 104] = p := ⟨_, rfl⟩
  obtain ⟨auth, ha⟩ : ∃ p, firstF F [58, 97, 117, 116, 104, 111, 114, 105, 116, 121] = p := ⟨_, rfl⟩
  have hpl : path.length ≤ 140737488351232 := by rw [← hp]; exact first_len okF
  have hal : auth.length ≤ 140737488351232 := by rw [← ha]; exact first_len okF
  obtain ⟨o, ho⟩ : ∃ o, (nearH auth 0 (0, none) s.hosts).2 = o := ⟨_, rfl⟩
  have HM : Hid (R = if ri then wentR s.hosts path F d o else none) := Lib.hid (by rw [← hR, find_eq, hri, hp, ha, ho])
  have HO := Lib.hid ho
  clear ho
  rw [hR]
  have HRI := Lib.hid hri
  have HP := Lib.hid hp
  have HA := Lib.hid ha
  clear hR hri hp ha
  go_enter Tryd.func12, Tryd.ntmps12
  go_wp2_with (first
    | ((with_reducible refine at_alloc ?_); refine wpu_new G ?_; clear G; intro w G)
    | ((with_reducible refine at_drew ?_); refine wpu_drew G ?_; clear G; intro w G)
    | ((with_reducible refine at_alloc ?_); refine wpu_new G ?_; clear G; intro w G)
    | ((with_reducible refine at_drew ?_); refine wpu_drew G ?_; clear G; intro w G)
    | ((with_reducible refine at_load ?_); first
      | (refine wpu_load G rfl rfl rfl rfl ?_; go_frame)
      | (refine wpu_loadB G rfl rfl rfl (by rfl) ?_; go_frame)
      | (refine wpu_loadS G rfl rfl rfl (by rfl) ?_; simp only [List.drop_succ_cons, List.drop_zero, List.take_succ_cons, List.take_zero]; go_frame))
    | ((with_reducible refine at_store ?_); first
      | (refine wpu_store G rfl rfl rfl rfl (by first | rfl | assumption | simp [*]) rfl ?_; clear G; intro w G; go_frame)
      | (refine wpu_storeB G rfl rfl rfl rfl (by rfl) (by rfl) (by first | rfl | assumption | simp [*]) ?_; clear G; intro w G; go_frame)
      | (refine wpu_storeS G rfl rfl rfl rfl (by rfl) (by rfl) (by first | rfl | assumption | simp [*]) ?_; clear G; intro w G; go_frame))
    | ((with_reducible refine at_convert ?_); refine wpu_str G rfl rfl rfl rfl ?_; go_frame)
    | ((with_reducible refine at_slice ?_); first
      | (refine wpu_sliceLo rfl rfl rfl rfl (by first | rfl | omega) (by omega) (by omega) ?_; go_frame)
      | (refine wpu_sliceLH rfl rfl rfl rfl rfl (by first | rfl | omega) (by first | rfl | omega) (by omega) (by omega) ?_; go_frame))
    | fail)
  refine Calls.mono (rightC (hs0.old G) ok) ?_
  rintro e w ⟨rfl, hb⟩
  have G := own_kept G hb
  clear hb
  rw [HRI.out]
  cases ri
  · have e : R = none := HM.out
    subst e
    go_wp2_with fail
    try simp only [Exit.inBlock, Exit.then]
    refine bodyPost_ret (results3 rfl (by first | exact resT rfl | exact resB G rfl (by rfl) | exact resO G rfl rfl) (by first | exact resT rfl | exact resB G rfl (by rfl) | exact resO G rfl rfl) (by first | exact resT rfl | exact resB G rfl (by rfl) | exact resO G rfl rfl)) rfl ?_
    exact ⟨rfl, G.below⟩
  have hmay := right_may HRI.out
  go_wp2_with fail
  refine Calls.mono (firstC (n := [58, 112, 97, 116, 104]) G (hu _)) ?_
  clear G; rintro e w ⟨rfl, G⟩
  rw [HP.out]
  go_wp2_with fail
  refine wp_region_mix [0, 0, 1, 1, 0, 0, 0] (Own w0 _) (by kernel_rfl) (by kernel_rfl) (own_drew G) ?_
  refine mix_calm 2 ((own_drew G)) (by rfl) (by rfl) ?_
  intro ι W hne hW
  dsimp only [List.take, List.drop]
  repeat (first | ((with_reducible refine atq_load ?_); first | (refine wpq_load hW rfl rfl rfl rfl ?_; go_frame) | (refine wpq_loadB hW rfl rfl rfl (by rfl) ?_; go_frame) | (refine wpq_loadS hW rfl rfl rfl (by rfl) ?_; simp only [List.drop_succ_cons, List.drop_zero, List.take_succ_cons, List.take_zero]; go_frame)) | (fail) | go_big_quiet_step (fail))
  refine wpQuiet_nil ?_
  clear  hW hne W ι
  refine mix_loud rfl (fun K hK => ?_)
  go_wp2_with fail
  refine Calls.mono (firstC (n := [58, 97, 117, 116, 104, 111, 114, 105, 116, 121]) (own_drew G) (hu _)) ?_
  clear G; rintro e w ⟨rfl, G⟩
  rw [HA.out]
  refine hK _ _ ⟨G, ?_⟩
  clear hK
  try go_frame
  refine mix_loud rfl (fun K hK => ?_)
  go_wp2_with fail
  refine Calls.mono (hostOfC (s := s) (hh0.old G) (hL.next fun _ _ h => h.old G) ok hal) ?_
  rintro e w ⟨rfl, hb⟩
  have G := own_kept G hb
  clear hb
  refine hK _ _ ⟨G, ?_⟩
  clear hK
  rw [HO.out]
  cases o with
  | none =>
    have e : R = none := HM.out
    subst e
    rw [show cellsAt xs none = [.slice none 0 0, .slice none 0 0] from rfl]
    try go_frame
    refine mix_calm 3 (G) (by rfl) (by rfl) ?_
    intro ι W hne hW
    dsimp only [List.take, List.drop]
    repeat (first | ((with_reducible refine atq_field ?_); refine wpq_val (by kernel_rfl) (fun i => exec_field rfl rfl (fieldHost _ _ _)) ?_; go_frame) | ((with_reducible refine atq_load ?_); first | (refine wpq_load hW rfl rfl rfl rfl ?_; go_frame) | (refine wpq_loadB hW rfl rfl rfl (by rfl) ?_; go_frame)) | go_big_quiet_step (fail))
    refine wpQuiet_nil ?_
    clear  hW hne W ι
    refine mix_nil ?_
    clear HM
    go_wp2_with fail
    go_loopw [11, 23] (fun _ i wr => i = .int .i64 0 ∧ Own w0 emp wr) (fun _ _ _ => 0)
    case atStart => exact ⟨rfl, G.sub emp⟩
    case round =>
      clear G
      obtain ⟨rfl, G⟩ := hrel
      go_wp2_with fail
      try simp only [Exit.inBlock, Exit.then]
      refine bodyPost_ret (results3 rfl (by first | exact resT rfl | exact resB G rfl (by rfl) | exact resO G rfl rfl) (by first | exact resT rfl | exact resB G rfl (by rfl) | exact resO G rfl rfl) (by first | exact resT rfl | exact resB G rfl (by rfl) | exact resO G rfl rfl)) rfl ?_
      exact ⟨rfl, G.below⟩
  | some i =>
  have hi : i < s.hosts.length := by
    rcases near_lt s.hosts 0 (0, none) i HO.out with e | ⟨_, e⟩
    · cases e
    · omega
  obtain ⟨h, hh⟩ : ∃ h, s.hosts[i]? = some h := ⟨s.hosts[i], List.getElem?_eq_getElem hi⟩
  obtain ⟨vn, vr, ys, hcs, -, hr0, hRL⟩ := hL.2 i h hh
  have hm := List.mem_of_getElem? hh
  have okr := (ok.hosts h hm).routes
  have hmr := hmay h hm
  have HM2 : Hid (R = goesR h.routes path F d) := Lib.hid (by
    rw [HM.out]
    show wentR s.hosts path F d (some i) = _
    unfold wentR
    simp only
    rw [hh])
  obtain ⟨ro, rc, rfl, i7, i8, -⟩ := id hr0
  unfold maxLen at i8
  have hrr : ∀ A w, Own w0 A w → rd w 7 (.slice ro h.routes.length rc) h.routes.length ys := fun A w g => hr0.old g
  rw [show cellsAt xs (some i) = [vn, .slice ro h.routes.length rc] from hcs]
  clear HM hh hcs HO hi hm hmay hr0
  try go_frame
  refine mix_calm 3 (G) (by rfl) (by rfl) ?_
  intro ι W hne hW
  dsimp only [List.take, List.drop]
  repeat (first | ((with_reducible refine atq_field ?_); refine wpq_val (by kernel_rfl) (fun i => exec_field rfl rfl (fieldHost _ _ _)) ?_; go_frame) | ((with_reducible refine atq_load ?_); first | (refine wpq_load hW rfl rfl rfl rfl ?_; go_frame) | (refine wpq_loadB hW rfl rfl rfl (by rfl) ?_; go_frame)) | go_big_quiet_step (fail))
  refine wpQuiet_nil ?_
  clear  hW hne W ι
  refine mix_nil ?_
  go_wp2_with fail
  go_loopw [11, 23] (fun _ i wr => ∃ j : Nat, i = .int .i64 j ∧ j ≤ h.routes.length ∧ Hid (∀ x ∈ h.routes.take j, fitsR x path F = false) ∧ Own w0 emp wr) (fun _ i _ => h.routes.length - (intOf i).toNat)
  case atStart => exact ⟨0, rfl, Nat.zero_le _, Lib.hid (by simp), G.sub emp⟩
  case round =>
    clear G
    obtain ⟨j, rfl, hj, HA2, G⟩ := hrel
    by_cases hjn : j < h.routes.length
    · obtain ⟨r, hr⟩ : ∃ r, h.routes[j]? = some r := ⟨h.routes[j], List.getElem?_eq_getElem hjn⟩
      obtain ⟨rd', rfl⟩ := rd_some (hrr _ _ G) (by omega)
      have hrt := hRL.2 j r hr
      have hmem := List.mem_of_getElem? hr
      obtain ⟨hw, h16⟩ := may_weigh (hmr r hmem)
      have okr1 := okr r hmem
      have hrt0 := hrt
      obtain ⟨vf, vk, hcs, hf0, hk0⟩ := hrt
      have v1 := hf0.one
      obtain ⟨ko, kc, rfl, i9, i10, -⟩ := id hk0
      have hkk : ∀ A w, Own w0 A w → rd w 2 (.slice ko r.choices.length kc) r.choices.length (chs r.choices) := fun A w g => hk0.old g
      unfold maxLen at i10
      rw [hcs] at hrt0
      have HF3 := Lib.hid hcs
      have HH := Lib.hid hr
      obtain ⟨b, hb⟩ : ∃ b, fitsR r path F = b := ⟨_, rfl⟩
      have HB := Lib.hid hb
      have HW := Lib.hid hw
      clear hr hb hcs hk0 hmem hw
      go_wp2_with (first
        | ((with_reducible refine at_alloc ?_); refine wpu_new G ?_; clear G; intro w G)
        | ((with_reducible refine at_drew ?_); refine wpu_drew G ?_; clear G; intro w G)
        | ((with_reducible refine at_load ?_); first
          | (refine wpu_loadE (k := j) (hrr _ _ G) HF3.out rfl (by kernel_rfl) rfl rfl ?_; go_frame)
          | (refine wpu_loadB G rfl rfl rfl (by rfl) ?_; go_frame))
        | ((with_reducible refine at_store ?_); refine wpu_storeB G rfl rfl rfl rfl (by rfl) (by rfl) (by simp only [List.all_cons, v1]; rfl) ?_; clear G; intro w G; go_frame)
        | fail)
      refine Calls.mono (fitsC (hrt0.old G) okr1 (hu _ _ G) okF hpl) ?_
      rintro e w ⟨rfl, hb⟩
      have G := own_kept G hb
      clear hb
      rw [HB.out]
      cases b
      · have HN : Hid (∀ x ∈ h.routes.take (j + 1), fitsR x path F = false) := Lib.hid (by
          rw [List.take_add_one, HH.out]
          intro g hg
          rcases List.mem_append.1 hg with hg | hg
          · exact HA2.out g hg
          · rw [List.mem_singleton.1 hg]; exact HB.out)
        go_wp2_with fail
        go_roundw
        case rel => exact ⟨j + 1, by go_num, by omega, HN, G.sub emp⟩
        case measure => simp [intOf] <;> omega
      · have hplt := pick_lt HW.out d
        rw [weights_len] at hplt
        obtain ⟨p, hp⟩ : ∃ p, pickR (weightsR r.choices) d = p := ⟨_, rfl⟩
        rw [hp] at hplt
        obtain ⟨c, hc⟩ : ∃ c, r.choices[p]? = some c := ⟨r.choices[p], List.getElem?_eq_getElem hplt⟩
        have HC := Lib.hid (chs_at hc)
        have e : R = some (c.cluster, r.ticks) := by
          rw [HM2.out, goes_hit HH.out HA2.out HB.out (by rw [hp]; exact hc)]
        subst e
        have HPK := Lib.hid hp
        obtain ⟨kd, rfl⟩ := rd_some (hkk _ _ G) (by omega)
        clear hc hp
        go_wp2_with fail
        refine wp_region_mix [0, 0, 0, 0, 1, 0, 1, 0, 0, 0, 0, 0, 0, 0, 0] (Own w0 _) (by kernel_rfl) (by kernel_rfl) (own_drew G) ?_
        refine mix_calm 4 ((own_drew G)) (by rfl) (by rfl) ?_
        intro ι W hne hW
        dsimp only [List.take, List.drop]
        repeat (first | ((with_reducible refine atq_load ?_); first | (refine wpq_load hW rfl rfl rfl rfl ?_; go_frame) | (refine wpq_loadB hW rfl rfl rfl (by rfl) ?_; go_frame) | (refine wpq_loadS hW rfl rfl rfl (by rfl) ?_; simp only [List.drop_succ_cons, List.drop_zero, List.take_succ_cons, List.take_zero]; go_frame)) | (fail) | go_big_quiet_step (fail))
        refine wpQuiet_nil ?_
        clear  hW hne W ι
        refine mix_loud rfl (fun K hK => ?_)
        go_wp2_with fail
        refine Calls.mono (weightsC (L := r.choices) (by omega) (own_drew G) (hkk _)) ?_
        clear G; rintro e w ⟨v', rfl, G1⟩
        have G := G1.right
        refine hK _ _ ⟨G, ?_⟩
        clear hK
        try go_frame
        refine mix_calm 1 (G) (by rfl) (by rfl) ?_
        intro ι W hne hW
        dsimp only [List.take, List.drop]
        repeat (first | ((with_reducible refine atq_load ?_); first | (refine wpq_load hW rfl rfl rfl rfl ?_; go_frame) | (refine wpq_loadB hW rfl rfl rfl (by rfl) ?_; go_frame) | (refine wpq_loadS hW rfl rfl rfl (by rfl) ?_; simp only [List.drop_succ_cons, List.drop_zero, List.take_succ_cons, List.take_zero]; go_frame)) | (fail) | go_big_quiet_step (fail))
        refine wpQuiet_nil ?_
        clear  hW hne W ι
        refine mix_loud rfl (fun K hK => ?_)
        go_wp2_with fail
        have hwl := weights_len r.choices
        refine Calls.mono (pickC hd HW.out G1 (fun w h => by rw [hwl]; exact own_rd h)) ?_
        clear G G1; rintro e w ⟨rfl, G⟩
        have G := G.right
        rw [HPK.out]
        refine hK _ _ ⟨G, ?_⟩
        clear hK hwl
        try go_frame
        refine mix_calm 8 (G) (by rfl) (by rfl) ?_
        intro ι W hne hW
        dsimp only [List.take, List.drop]
        repeat (first | ((with_reducible refine atq_load ?_); refine wpq_loadF0 (k := p) (fun i => hkk _ _ (hW i)) HC.out rfl (by kernel_rfl) rfl rfl ?_; go_frame) | ((with_reducible refine atq_load ?_); first | (refine wpq_load hW rfl rfl rfl rfl ?_; go_frame) | (refine wpq_loadB hW rfl rfl rfl (by rfl) ?_; go_frame)) | go_big_quiet_step (fail))
        refine wpQuiet_nil ?_
        clear  hW hne W ι
        refine mix_nil ?_
        go_wp2_with fail
        try simp only [Exit.inBlock, Exit.then]
        refine bodyPost_ret (results3 rfl (by first | exact resT rfl | exact resB G rfl (by rfl) | exact resO G rfl rfl) (by first | exact resT rfl | exact resB G rfl (by rfl) | exact resO G rfl rfl) (by first | exact resT rfl | exact resB G rfl (by rfl) | exact resO G rfl rfl)) rfl ?_
        exact ⟨rfl, G.below⟩
    · have e : R = none := by
        have := HA2.out
        rw [List.take_of_length_le (by omega)] at this
        rw [HM2.out, goes_none this]
      subst e
      go_wp2_with fail
      try simp only [Exit.inBlock, Exit.then]
      refine bodyPost_ret (results3 rfl (by first | exact resT rfl | exact resB G rfl (by rfl) | exact resO G rfl rfl) (by first | exact resT rfl | exact resB G rfl (by rfl) | exact resO G rfl rfl) (by first | exact resT rfl | exact resB G rfl (by rfl) | exact resO G rfl rfl)) rfl ?_
      exact ⟨rfl, G.below⟩
end Go.Proofs.YtjcpfldobiekbaaDoor
