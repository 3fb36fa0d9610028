




/-
  flumelaw16.cut: a snapshot of at most so many of each, its own.
-/
import Derived.Test.YtjcpfldobiekbaaDoorRtCopy
namespace Go.Proofs.YtjcpfldobiekbaaDoor
open Go.RowKit Go.Sl Go.ChangeShapes

def cutRt (r : Rt) : Rt := { r with fields := r.fields.take 20, choices := r.choices.take 70 }
def cutHs (h : Hs) : Hs := { names := h.names.take 20, routes := (h.routes.take 40).map cutRt }
def cutSn (s : Sn) : Sn := { s with clusters := s.clusters.take 40, hosts := (s.hosts.take 40).map cutHs }

theorem cut_small (s : Sn) : (cutSn s).small where
  clusters := by simp [cutSn]; omega
  hosts := by simp [cutSn]; omega
  names := by
    intro h hh
    obtain ⟨g, _, rfl⟩ := List.mem_map.1 hh
    simp [cutHs]; omega
  routes := by
    intro h hh
    obtain ⟨g, _, rfl⟩ := List.mem_map.1 hh
    simp [cutHs]; omega
  fields := by
    intro h hh r hr
    obtain ⟨g, _, rfl⟩ := List.mem_map.1 hh
    obtain ⟨q, _, rfl⟩ := List.mem_map.1 hr
    simp [cutRt]; omega
  choices := by
    intro h hh r hr
    obtain ⟨g, _, rfl⟩ := List.mem_map.1 hh
    obtain ⟨q, _, rfl⟩ := List.mem_map.1 hr
    simp [cutRt]; omega
theorem cut_ok {s : Sn} (ok : s.ok) : (cutSn s).ok where
  clusters := fun n h => ok.clusters n (List.mem_of_mem_take h)
  hosts := by
    intro h hh
    obtain ⟨g, hg, rfl⟩ := List.mem_map.1 hh
    have okg := ok.hosts g (List.mem_of_mem_take hg)
    refine ⟨fun n h => okg.names n (List.mem_of_mem_take h), fun r hr => ?_⟩
    obtain ⟨q, hq, rfl⟩ := List.mem_map.1 hr
    have okq := okg.routes q (List.mem_of_mem_take hq)
    exact ⟨okq.path, okq.service, okq.method, fun m h => okq.fields m (List.mem_of_mem_take h), fun c h => okq.choices c (List.mem_of_mem_take h)⟩

theorem chs_take {w : World} {ao : Option Addr} {cap : Nat} {L : List Ch} (h : rd w 2 (.slice ao L.length cap) L.length (chs L)) {k : Nat} (hk : k ≤ L.length) : rd w 2 (.slice ao k cap) (L.take k).length (chs (L.take k)) := by
  have e : (L.take k).length = k := by simp; omega
  have := rd_take h hk
  have e2 : (chs L).take (k * 2) = chs (L.take k) := by
    conv => lhs; rw [← List.take_append_drop k L, ← chs_app]
    rw [List.take_append_of_le_length (by rw [chs_len, e]; omega), List.take_of_length_le (by rw [chs_len, e]; omega)]
  rw [e, ← e2]; exact this
theorem strs_cut {w : World} {ao : Option Addr} {cap : Nat} {L : List Txt} (h : rd w 1 (.slice ao L.length cap) L.length (strs L)) {k : Nat} (hk : k ≤ L.length) : rd w 1 (.slice ao k cap) (L.take k).length (strs (L.take k)) := by
  have e : (L.take k).length = k := by simp; omega
  have := rd_take1 h hk
  have e2 : (strs L).take k = strs (L.take k) := by simp [strs, List.map_take]
  rw [e, ← e2]; exact this
theorem take_of {α : Type} {L : List α} {k n : Nat} (h : k = min n L.length) : L.take k = L.take n := by
  subst h
  rw [← List.take_eq_take_min]

/-! rows of cells, one cell written -/
theorem set_row {Y : List Value} {k q sz : Nat} {v : Value} (hq : q < sz) (i : Nat) : ((Y.set (k * sz + q) v).drop (i * sz)).take sz = if i = k then ((Y.drop (k * sz)).take sz).set q v else (Y.drop (i * sz)).take sz := by
  apply List.ext_getElem?
  intro p
  by_cases hp : p < sz
  · have key : k * sz + q = i * sz + p ↔ (i = k ∧ q = p) := by
      constructor
      · intro e
        have e1 : (k * sz + q) / sz = k := by rw [Nat.mul_comm, Nat.mul_add_div (by omega), Nat.div_eq_of_lt hq]; rfl
        have e2 : (i * sz + p) / sz = i := by rw [Nat.mul_comm, Nat.mul_add_div (by omega), Nat.div_eq_of_lt hp]; rfl
        have : i = k := by rw [← e1, ← e2, e]
        subst this
        exact ⟨rfl, by omega⟩
      · rintro ⟨rfl, rfl⟩; rfl
    rw [List.getElem?_take, if_pos hp, List.getElem?_drop, List.getElem?_set]
    by_cases hik : i = k
    · subst hik
      rw [if_pos rfl, List.getElem?_set, List.getElem?_take, if_pos hp, List.getElem?_drop]
      by_cases hqp : q = p
      · subst hqp
        rw [if_pos rfl, if_pos rfl]
        have : (i * sz + q < Y.length) ↔ (q < ((Y.drop (i * sz)).take sz).length) := by
          rw [List.length_take, List.length_drop]; omega
        by_cases h : i * sz + q < Y.length
        · rw [if_pos h, if_pos (this.1 h)]
        · rw [if_neg h, if_neg (fun h' => h (this.2 h'))]
      · rw [if_neg (fun e => hqp (key.1 e).2), if_neg hqp]
    · rw [if_neg hik, if_neg (fun e => hik (key.1 e).1), List.getElem?_take, if_pos hp, List.getElem?_drop]
  · rw [List.getElem?_eq_none (by rw [List.length_take]; omega)]
    split
    · rw [List.getElem?_eq_none (by rw [List.length_set, List.length_take]; omega)]
    · rw [List.getElem?_eq_none (by rw [List.length_take]; omega)]
theorem rdL_set {α : Type} {f : World → List Value → α → Prop} {sz : Nat} {w : World} {Y : List Value} {L : List α} (h : rdL f sz w Y L) {k q : Nat} {v : Value} {a : α} (hq : q < sz) (hk : k < L.length) (hr : f w (((Y.drop (k * sz)).take sz).set q v) a) : rdL f sz w (Y.set (k * sz + q) v) (L.set k a) := by
  refine ⟨by rw [List.length_set, List.length_set, h.1], fun i b hb => ?_⟩
  rw [set_row hq]
  rw [List.getElem?_set] at hb
  by_cases hik : k = i
  · subst hik
    rw [if_pos rfl, if_pos hk] at hb
    rw [if_pos rfl]
    rw [← Option.some.inj hb]
    exact hr
  · rw [if_neg hik] at hb
    rw [if_neg (fun e => hik e.symm)]
    exact h.2 i b hb
theorem mix_map {α : Type} {g : α → α} {L : List α} {k : Nat} {a : α} (h : L[k]? = some a) : ((L.take k).map g ++ L.drop k)[k]? = some a ∧ ((L.take k).map g ++ L.drop k).set k (g a) = (L.take (k + 1)).map g ++ L.drop (k + 1) := by
  obtain ⟨hk, e⟩ := List.getElem?_eq_some_iff.1 h
  have hl : ((L.take k).map g).length = k := by simp; omega
  have hd : L.drop k = a :: L.drop (k + 1) := by rw [← e, List.getElem_cons_drop]
  rw [hd]
  constructor
  · rw [List.getElem?_append_right (by omega), hl, Nat.sub_self]; rfl
  · rw [List.set_append_right _ _ (by omega), hl, Nat.sub_self, List.set_cons_zero, List.take_add_one, h]
    simp

/-- a host whose routes are a slice of the call's own, that leads to old memory -/
def hsC (w0 : World) (cs : List Value) (h : Hs) : Assn := ex fun vn => ex fun vr => ex fun ys => pur (cs = [vn, vr] ∧ rd w0 1 vn h.names.length (strs h.names) ∧ rdL rdRt 7 w0 ys h.routes) * sl 7 vr h.routes.length ys
theorem hsC_read {w0 w : World} {cs : List Value} {h : Hs} {R : Assn} (g : Own w0 (hsC w0 cs h * R) w) : rdHs w cs h := by
  obtain ⟨vn, g⟩ := own_ex g
  obtain ⟨vr, g⟩ := own_ex g
  obtain ⟨ys, g⟩ := own_ex g
  obtain ⟨⟨e1, e2, e3⟩, g⟩ := own_pur (g.eq (star_assoc _ _ _))
  exact ⟨vn, vr, ys, e1, e2.old g, own_rd g, e3.next fun _ _ h => h.old g⟩
theorem hsC_mk {w0 w : World} {h : Hs} {R : Assn} {vn vr : Value} {ys : List Value} (e2 : rd w0 1 vn h.names.length (strs h.names)) (e3 : rdL rdRt 7 w0 ys h.routes) (g : Own w0 (sl 7 vr h.routes.length ys * R) w) : Own w0 (hsC w0 [vn, vr] h * R) w := by
  refine own_ex_mk vn (own_ex_mk vr (own_ex_mk ys ?_))
  rw [star_assoc]
  exact own_pur_mk ⟨rfl, e2, e3⟩ g

theorem rdL_one {α : Type} {f : World → List Value → α → Prop} {sz : Nat} {w : World} {xs : List Value} {L : List α} (h : rdL f sz w xs L) (hf : ∀ cs a, f w cs a → ∀ y ∈ cs, y.oneCell' = true) : ∀ y ∈ xs, y.oneCell' = true := by
  intro y hy
  obtain ⟨p, hp, rfl⟩ := List.mem_iff_getElem.1 hy
  rw [h.1] at hp
  have hz : 0 < sz := by
    rcases Nat.eq_zero_or_pos sz with e | e
    · subst e; omega
    · exact e
  have hi : p / sz < L.length := by rwa [Nat.div_lt_iff_lt_mul hz]
  have hr := h.2 (p / sz) _ (List.getElem?_eq_getElem hi)
  refine hf _ _ hr _ (List.mem_of_getElem? (i := p % sz) ?_)
  have hm := Nat.mod_lt p hz
  have hd := Nat.div_add_mod p sz
  rw [List.getElem?_take, if_pos hm, List.getElem?_drop, Nat.mul_comm, hd]
  exact List.getElem?_eq_getElem _
theorem rt_one {w : World} {cs : List Value} {r : Rt} (h : rdRt w cs r) : ∀ y ∈ cs, y.oneCell' = true := by
  obtain ⟨vf, vc, rfl, h1, h2⟩ := h
  intro y hy
  simp only [List.mem_cons, List.not_mem_nil, or_false] at hy
  rcases hy with rfl | rfl | rfl | rfl | rfl | rfl | rfl
  · rfl
  · rfl
  · rfl
  · rfl
  · exact h1.one
  · exact h2.one
  · rfl
theorem hs_one {w : World} {cs : List Value} {r : Hs} (h : rdHs w cs r) : ∀ y ∈ cs, y.oneCell' = true := by
  obtain ⟨vn, vr, ys, rfl, h1, h2, _⟩ := h
  intro y hy
  simp only [List.mem_cons, List.not_mem_nil, or_false] at hy
  rcases hy with rfl | rfl
  · exact h1.one
  · exact h2.one
theorem rdL_take {α : Type} {f : World → List Value → α → Prop} {sz : Nat} {w : World} {xs : List Value} {L : List α} (h : rdL f sz w xs L) {k : Nat} (hk : k ≤ L.length) : rdL f sz w (xs.take (k * sz)) (L.take k) := by
  have hle : k * sz ≤ L.length * sz := Nat.mul_le_mul_right _ hk
  refine ⟨by rw [List.length_take, List.length_take, h.1, Nat.min_eq_left hle, Nat.min_eq_left hk], fun i a hi => ?_⟩
  rw [List.getElem?_take] at hi
  split at hi
  · rename_i hik
    have := h.2 i a hi
    have e : ((xs.take (k * sz)).drop (i * sz)).take sz = (xs.drop (i * sz)).take sz := by
      have h1 : (i + 1) * sz ≤ k * sz := Nat.mul_le_mul_right _ hik
      rw [Nat.succ_mul] at h1
      rw [List.drop_take, List.take_take, Nat.min_eq_left (by omega)]
    rw [e]
    exact this
  · cases hi

theorem buildH0 (w : World) : (Instr.buildSlice 23 0 #[]).run Tryd.prog w = .ok (.slice (some ⟨w.heap.size, 0, none⟩) 0 0) (w.alloc (.cells ([] : List Value).toArray 33)) := by kernel_rfl
theorem buildR0 (w : World) : (Instr.buildSlice 31 0 #[]).run Tryd.prog w = .ok (.slice (some ⟨w.heap.size, 0, none⟩) 0 0) (w.alloc (.cells ([] : List Value).toArray 42)) := by kernel_rfl

set_option maxHeartbeats 16000000 in
set_option maxRecDepth 100000 in
theorem cutC {w0 : World} {s : Sn} {cs : List Value} (hs : rdSn w0 cs s) :
    Calls Tryd.prog 10 #[.agg cs.toArray] w0 fun e w' => ∃ vc vh, e = .returned (.agg #[.int .i64 s.version, vc, vh]) ∧ Own w0 (snA [.int .i64 s.version, vc, vh] (cutSn s)) w' := by
  have G := own_begin w0
  obtain ⟨vc, vh, xs0, rfl, hc0, hh0, hL0⟩ := hs
  obtain ⟨ho, hc, rfl, i3, i4, -⟩ := id hh0
  obtain ⟨co, cc, rfl, i1, i2, -⟩ := id hc0
  unfold maxLen at i4 i2
  obtain ⟨version, clusters, hosts⟩ := s
  simp only at hc0 hh0 hL0 i1 i3
  obtain ⟨m, m0, m1, m2⟩ : ∃ k : Nat, min (clusters.length : Int) 40 = (k : Int) ∧ k ≤ clusters.length ∧ Hid (k = min 40 clusters.length) := ⟨min 40 clusters.length, by omega, by omega, Lib.hid rfl⟩
  obtain ⟨n, n0, n1, n2⟩ : ∃ k : Nat, min (hosts.length : Int) 40 = (k : Int) ∧ k ≤ hosts.length ∧ Hid (k = min 40 hosts.length) := ⟨min 40 hosts.length, by omega, by omega, Lib.hid rfl⟩
  have hn40 : n ≤ 40 := by have := n2.out; omega
  have hL := rdL_take hL0 n1
  obtain ⟨xs, hxs⟩ : ∃ xs, xs0.take (n * 2) = xs := ⟨_, rfl⟩
  have hh1 := rd_take hh0 n1
  rw [hxs] at hL hh1
  have hx1 := rdL_one hL (fun _ _ h => hs_one h)
  have hv : ∀ A w, Own w0 A w → rd w 2 (.slice ho n hc) n xs := fun A w h => hh1.old h
  have hc1 := strs_cut hc0 m1
  clear hxs hh0 hh1 hL0 hc0
  go_enter Tryd.func10, Tryd.ntmps10
  go_wp2_with (first
    | ((with_reducible refine at_alloc ?_); refine wpu_new G ?_; clear G; intro w G)
    | ((with_reducible refine at_drew ?_); refine wpu_drew G ?_; clear G; intro w G)
    | ((with_reducible refine at_build ?_); refine hold ?_)
    | ((with_reducible refine at_alloc ?_); refine wpu_new G ?_; clear G; intro w G)
    | ((with_reducible refine at_drew ?_); refine wpu_drew G ?_; clear G; intro w G)
    | ((with_reducible refine at_load ?_); first
      | (refine wpu_load G rfl rfl rfl rfl ?_; go_frame)
      | (refine wpu_loadB G rfl rfl rfl (by rfl) ?_; go_frame)
      | (refine wpu_loadS G rfl rfl rfl (by rfl) ?_; simp only [List.drop_succ_cons, List.drop_zero, List.take_succ_cons, List.take_zero]; go_frame))
    | ((with_reducible refine at_store ?_); first
      | (refine wpu_store G rfl rfl rfl rfl (by first | rfl | assumption | simp [*]) rfl ?_; clear G; intro w G; go_frame)
      | (refine wpu_storeB G rfl rfl rfl rfl (by rfl) (by rfl) (by first | rfl | assumption | simp [*]) ?_; clear G; intro w G; go_frame)
      | (refine wpu_storeS G rfl rfl rfl rfl (by rfl) (by rfl) (by first | rfl | assumption | simp [*]) ?_; clear G; intro w G; go_frame))
    | ((with_reducible refine at_convert ?_); refine wpu_str G rfl rfl rfl rfl ?_; go_frame)
    | ((with_reducible refine at_slice ?_); first
      | (refine wpu_sliceLo rfl rfl rfl rfl (by first | rfl | omega) (by omega) (by omega) ?_; go_frame)
      | (refine wpu_sliceLH rfl rfl rfl rfl rfl (by first | rfl | omega) (by first | rfl | omega) (by omega) (by omega) ?_; go_frame))
    | fail)
  unfold Held
  rename_i w2 _ _ _
  obtain ⟨b2, hb2⟩ : ∃ b, w2.heap.size = b := ⟨_, rfl⟩
  rw [hb2] at G ⊢
  clear hb2
  simp only [List.set_cons_succ, List.set_cons_zero] at G
  refine wpu_val rfl (exec_buildT #[] rfl (by kernel_rfl) (buildH0 _)) ?_
  go_frame
  go_wp2_with (first
    | ((with_reducible refine at_alloc ?_); refine wpu_new G ?_; clear G; intro w G)
    | ((with_reducible refine at_drew ?_); refine wpu_drew G ?_; clear G; intro w G)
    | ((with_reducible refine at_append ?_); refine wpu_append0 G rfl rfl rfl rfl (hv _ _ G) hx1 (by unfold maxLen; omega) (by omega) ?_; clear G; intro v w G; obtain ⟨qo, qc, rfl, q1, q2⟩ := G.hdr v; go_frame)
    | ((with_reducible refine at_alloc ?_); refine wpu_new G ?_; clear G; intro w G)
    | ((with_reducible refine at_drew ?_); refine wpu_drew G ?_; clear G; intro w G)
    | ((with_reducible refine at_load ?_); first
      | (refine wpu_load G rfl rfl rfl rfl ?_; go_frame)
      | (refine wpu_loadB G rfl rfl rfl (by rfl) ?_; go_frame)
      | (refine wpu_loadS G rfl rfl rfl (by rfl) ?_; simp only [List.drop_succ_cons, List.drop_zero, List.take_succ_cons, List.take_zero]; go_frame))
    | ((with_reducible refine at_store ?_); first
      | (refine wpu_store G rfl rfl rfl rfl (by first | rfl | assumption | simp [*]) rfl ?_; clear G; intro w G; go_frame)
      | (refine wpu_storeB G rfl rfl rfl rfl (by rfl) (by rfl) (by first | rfl | assumption | simp [*]) ?_; clear G; intro w G; go_frame)
      | (refine wpu_storeS G rfl rfl rfl rfl (by rfl) (by rfl) (by first | rfl | assumption | simp [*]) ?_; clear G; intro w G; go_frame))
    | ((with_reducible refine at_convert ?_); refine wpu_str G rfl rfl rfl rfl ?_; go_frame)
    | ((with_reducible refine at_slice ?_); first
      | (refine wpu_sliceLo rfl rfl rfl rfl (by first | rfl | omega) (by omega) (by omega) ?_; go_frame)
      | (refine wpu_sliceLH rfl rfl rfl rfl rfl (by first | rfl | omega) (by first | rfl | omega) (by omega) (by omega) ?_; go_frame))
    | fail)
  simp only [List.set_cons_succ, List.set_cons_zero] at G
  unfold maxLen at q2
  have G := G.sub (sl 2 (.slice qo n qc) n xs * (blk b2 [.int .i64 0, .slice none 0 0, .slice none 0 0] * blk w0.heap.size [.int .i64 version, .slice co m cc, .slice qo n qc]))
  obtain ⟨H, hH⟩ : ∃ H, hosts.take n = H := ⟨_, rfl⟩
  rw [hH] at hL
  have hHl : H.length = n := by rw [← hH, List.length_take]; omega
  have HCH : Hid (hosts.take 40 = H) := Lib.hid (by rw [← hH]; exact (take_of n2.out).symm)
  clear hH hv hx1
  have HHL := Lib.hid hHl
  clear hHl
  go_loopw [3, 4, 5] (fun i _ _ wr => ∃ (j : Nat) (X : List Value) (rows : List (List Value)), i = .int .i64 j ∧ j ≤ n ∧ rows.length = j ∧ Hid (∀ c ∈ rows, c.length = 2) ∧ Hid (X.length = n * 2) ∧ Hid (X.take (j * 2) = rows.flatten) ∧ Hid (X.drop (j * 2) = xs.drop (j * 2)) ∧
    Own w0 (sl 2 (.slice qo n qc) n X * (starL (hsC w0) rows ((H.map cutHs).take j) * (blk b2 [.int .i64 0, .slice none 0 0, .slice none 0 0] * blk w0.heap.size [.int .i64 version, .slice co m cc, .slice qo n qc]))) wr) (fun i _ _ _ => n - (intOf i).toNat)
  case atStart => exact ⟨0, xs, [], rfl, Nat.zero_le _, rfl, Lib.hid (by simp), Lib.hid (by rw [hL.1, HHL.out]), Lib.hid (by simp), Lib.hid rfl, G.eq (by rw [List.take_zero]; show _ = _ * (emp * _); rw [emp_star])⟩
  case round =>
    clear G
    obtain ⟨j, X, rows, rfl, hj, q3, HR, HXL, HX1, HX2, G⟩ := hrel
    by_cases hjn : j < n
    · obtain ⟨h, hh⟩ : ∃ h, H[j]? = some h := ⟨H[j]'(by rw [HHL.out]; exact hjn), List.getElem?_eq_getElem _⟩
      obtain ⟨ad, rfl⟩ := rd_some (own_rd G) (by omega)
      obtain ⟨vn, vr, ys0, hcs, hn0, hr0, hRL0⟩ := hL.2 j h hh
      have HF : Hid ((X.drop (j * 2)).take 2 = [vn, vr]) := Lib.hid (by rw [HX2.out]; exact hcs)
      have HH := Lib.hid hh
      obtain ⟨no, nc, rfl, n3, n4, -⟩ := id hn0
      obtain ⟨ro, rc, rfl, r3, r4, -⟩ := id hr0
      unfold maxLen at n4 r4
      obtain ⟨a, a0, a1, a2⟩ : ∃ k : Nat, min (h.names.length : Int) 20 = (k : Int) ∧ k ≤ h.names.length ∧ Hid (k = min 20 h.names.length) := ⟨min 20 h.names.length, by omega, by omega, Lib.hid rfl⟩
      obtain ⟨b, b0, b1, b3⟩ : ∃ k : Nat, min (h.routes.length : Int) 40 = (k : Int) ∧ k ≤ h.routes.length ∧ Hid (k = min 40 h.routes.length) := ⟨min 40 h.routes.length, by omega, by omega, Lib.hid rfl⟩
      have hb40 : b ≤ 40 := by have := b3.out; omega
      have hn1 := strs_cut hn0 a1
      rw [take_of a2.out] at hn1
      have hRL := rdL_take hRL0 b1
      have hr1 := rd_take hr0 b1
      obtain ⟨ys, hys⟩ : ∃ ys, ys0.take (b * 7) = ys := ⟨_, rfl⟩
      rw [hys] at hRL hr1
      have hy1 := rdL_one hRL (fun _ _ h => rt_one h)
      have hrr : ∀ A w, Own w0 A w → rd w 7 (.slice ro b rc) b ys := fun A w h => hr1.old h
      clear hh hcs hn0 hr0 hRL0 hys hr1
      go_wp2_with (first
        | ((with_reducible refine at_alloc ?_); refine wpu_new G ?_; clear G; intro w G)
        | ((with_reducible refine at_drew ?_); refine wpu_drew G ?_; clear G; intro w G)
        | ((with_reducible refine at_load ?_); first
          | (refine wpu_load G rfl rfl rfl rfl ?_; go_frame)
          | (refine wpu_loadE (k := j) (own_rd (G.pull (sl 2 (.slice (some ad) n qc) n X))) HF.out rfl (by kernel_rfl) rfl rfl ?_; go_frame))
        | ((with_reducible refine at_build ?_); refine wpu_val rfl (exec_buildT #[] rfl (by kernel_rfl) (buildR0 _)) ?_; go_frame)
        | ((with_reducible refine at_append ?_); refine hold ?_)
        | ((with_reducible refine at_alloc ?_); refine wpu_new G ?_; clear G; intro w G)
        | ((with_reducible refine at_drew ?_); refine wpu_drew G ?_; clear G; intro w G)
        | ((with_reducible refine at_load ?_); first
          | (refine wpu_load G rfl rfl rfl rfl ?_; go_frame)
          | (refine wpu_loadB G rfl rfl rfl (by rfl) ?_; go_frame)
          | (refine wpu_loadS G rfl rfl rfl (by rfl) ?_; simp only [List.drop_succ_cons, List.drop_zero, List.take_succ_cons, List.take_zero]; go_frame))
        | ((with_reducible refine at_store ?_); first
          | (refine wpu_store G rfl rfl rfl rfl (by first | rfl | assumption | simp [*]) rfl ?_; clear G; intro w G; go_frame)
          | (refine wpu_storeB G rfl rfl rfl rfl (by rfl) (by rfl) (by first | rfl | assumption | simp [*]) ?_; clear G; intro w G; go_frame)
          | (refine wpu_storeS G rfl rfl rfl rfl (by rfl) (by rfl) (by first | rfl | assumption | simp [*]) ?_; clear G; intro w G; go_frame))
        | ((with_reducible refine at_convert ?_); refine wpu_str G rfl rfl rfl rfl ?_; go_frame)
        | ((with_reducible refine at_slice ?_); first
          | (refine wpu_sliceLo rfl rfl rfl rfl (by first | rfl | omega) (by omega) (by omega) ?_; go_frame)
          | (refine wpu_sliceLH rfl rfl rfl rfl rfl (by first | rfl | omega) (by first | rfl | omega) (by omega) (by omega) ?_; go_frame))
        | fail)
      unfold Held
      obtain ⟨b4, hb4⟩ : ∃ b, wr.heap.size = b := ⟨_, rfl⟩
      rw [hb4] at G ⊢
      clear hb4
      refine wpu_append0 G rfl rfl rfl rfl (hrr _ _ G) hy1 (by unfold maxLen; omega) (by omega) ?_
      clear G; intro v w G
      obtain ⟨po, pc, rfl, p1, p2⟩ := G.hdr v
      go_frame
      simp only [List.set_cons_succ, List.set_cons_zero] at G
      go_wp2_with (first
        | ((with_reducible refine at_alloc ?_); refine wpu_new G ?_; clear G; intro w G)
        | ((with_reducible refine at_drew ?_); refine wpu_drew G ?_; clear G; intro w G)
        | ((with_reducible refine at_load ?_); first
          | (refine wpu_load G rfl rfl rfl rfl ?_; go_frame)
          | (refine wpu_loadB G rfl rfl rfl (by rfl) ?_; go_frame)
          | (refine wpu_loadS G rfl rfl rfl (by rfl) ?_; simp only [List.drop_succ_cons, List.drop_zero, List.take_succ_cons, List.take_zero]; go_frame))
        | ((with_reducible refine at_store ?_); first
          | (refine wpu_store G rfl rfl rfl rfl (by first | rfl | assumption | simp [*]) rfl ?_; clear G; intro w G; go_frame)
          | (refine wpu_storeB G rfl rfl rfl rfl (by rfl) (by rfl) (by first | rfl | assumption | simp [*]) ?_; clear G; intro w G; go_frame)
          | (refine wpu_storeS G rfl rfl rfl rfl (by rfl) (by rfl) (by first | rfl | assumption | simp [*]) ?_; clear G; intro w G; go_frame))
        | ((with_reducible refine at_convert ?_); refine wpu_str G rfl rfl rfl rfl ?_; go_frame)
        | ((with_reducible refine at_slice ?_); first
          | (refine wpu_sliceLo rfl rfl rfl rfl (by first | rfl | omega) (by omega) (by omega) ?_; go_frame)
          | (refine wpu_sliceLH rfl rfl rfl rfl rfl (by first | rfl | omega) (by first | rfl | omega) (by omega) (by omega) ?_; go_frame))
        | fail)
      simp only [List.set_cons_succ, List.set_cons_zero] at G
      unfold maxLen at p2
      have G := G.sub (sl 7 (.slice po b pc) b ys * (blk b4 [.slice no a nc, .slice po b pc] * (sl 2 (.slice (some ad) n qc) n X * (starL (hsC w0) rows ((H.map cutHs).take j) * (blk b2 [.int .i64 0, .slice none 0 0, .slice none 0 0] * blk w0.heap.size [.int .i64 version, .slice co m cc, .slice (some ad) n qc])))))
      obtain ⟨RR, hRR⟩ : ∃ RR, h.routes.take b = RR := ⟨_, rfl⟩
      rw [hRR] at hRL
      have HRL2 : Hid (RR.length = b) := Lib.hid (by rw [← hRR, List.length_take]; omega)
      have HCR : Hid (cutHs h = { names := h.names.take 20, routes := RR.map cutRt }) := Lib.hid (by
        unfold cutHs
        rw [← hRR, take_of b3.out])
      clear hRR hrr hy1
      go_loopw [5] (fun i wr => ∃ (k : Nat) (Y : List Value), i = .int .i64 k ∧ k ≤ b ∧ Hid (rdL rdRt 7 w0 Y ((RR.take k).map cutRt ++ RR.drop k)) ∧
        Own w0 (sl 7 (.slice po b pc) b Y * (blk b4 [.slice no a nc, .slice po b pc] * (sl 2 (.slice (some ad) n qc) n X * (starL (hsC w0) rows ((H.map cutHs).take j) * (blk b2 [.int .i64 0, .slice none 0 0, .slice none 0 0] * blk w0.heap.size [.int .i64 version, .slice co m cc, .slice (some ad) n qc]))))) wr) (fun i _ => b - (intOf i).toNat)
      case atStart => exact ⟨0, ys, rfl, Nat.zero_le _, Lib.hid (by simpa using hRL), G⟩
      case round =>
        clear G
        obtain ⟨k, Y, rfl, hk, HY, G⟩ := hrel
        by_cases hkn : k < b
        · obtain ⟨r, hr⟩ : ∃ r, RR[k]? = some r := ⟨RR[k]'(by rw [HRL2.out]; exact hkn), List.getElem?_eq_getElem _⟩
          obtain ⟨pd, rfl⟩ := rd_some (own_rd G) (by omega)
          obtain ⟨mm1, mm2⟩ := mix_map (g := cutRt) hr
          obtain ⟨vf, vk, hcs, hf0, hk0⟩ := HY.out.2 k r mm1
          have hlk : k < ((RR.take k).map cutRt ++ RR.drop k).length := (List.getElem?_eq_some_iff.1 mm1).1
          have HF : Hid ((Y.drop (k * 7)).take 7 = [str r.path, .int .i64 r.how, str r.service, str r.method, vf, vk, .int .i64 r.ticks]) := Lib.hid hcs
          obtain ⟨fo, fc, rfl, f3, f4, -⟩ := id hf0
          obtain ⟨ko, kc, rfl, k3, k4, -⟩ := id hk0
          unfold maxLen at f4 k4
          obtain ⟨x, x0, x1, x2⟩ : ∃ k : Nat, min (r.fields.length : Int) 20 = (k : Int) ∧ k ≤ r.fields.length ∧ Hid (k = min 20 r.fields.length) := ⟨min 20 r.fields.length, by omega, by omega, Lib.hid rfl⟩
          obtain ⟨y, y0, y1, y2⟩ : ∃ k : Nat, min (r.choices.length : Int) 70 = (k : Int) ∧ k ≤ r.choices.length ∧ Hid (k = min 70 r.choices.length) := ⟨min 70 r.choices.length, by omega, by omega, Lib.hid rfl⟩
          have hf1 := mrs_take hf0 rfl x1
          rw [take_of x2.out] at hf1
          have hk1 := chs_take hk0 y1
          rw [take_of y2.out] at hk1
          have e1 : x = (r.fields.take 20).length := by rw [List.length_take, x2.out]
          have e2 : y = (r.choices.take 70).length := by rw [List.length_take, y2.out]
          have HF1 : Hid (((Y.set (k * 7 + 4) (.slice fo x fc)).drop (k * 7)).take 7 = [str r.path, .int .i64 r.how, str r.service, str r.method, .slice fo x fc, .slice ko r.choices.length kc, .int .i64 r.ticks]) := Lib.hid (by
            rw [set_row (by decide), if_pos rfl, HF.out]
            rfl)
          have HRD : Hid (rdL rdRt 7 w0 ((Y.set (k * 7 + 4) (.slice fo x fc)).set (k * 7 + 5) (.slice ko y kc)) ((RR.take (k + 1)).map cutRt ++ RR.drop (k + 1))) := Lib.hid (by
            have h1 := rdL_set (a := { r with fields := r.fields.take 20 }) (q := 4) (v := .slice fo x fc) HY.out (by decide) hlk (by
              rw [HF.out]
              exact ⟨_, _, rfl, hf1, hk0⟩)
            have h2 := rdL_set (a := cutRt r) (q := 5) (v := .slice ko y kc) (k := k) h1 (by decide) (by rw [List.length_set]; exact hlk) (by
              rw [HF1.out]
              exact ⟨_, _, rfl, hf1, hk1⟩)
            rw [List.set_set, mm2] at h2
            exact h2)
          have hp4 : k * 7 + 4 < b * 7 := by omega
          have hp5 : k * 7 + 5 < b * 7 := by omega
          clear hr mm1 mm2 hcs hf0 hk0 hf1 hk1 hlk e1 e2
          go_wp2_with (first
            | ((with_reducible refine at_alloc ?_); refine wpu_new G ?_; clear G; intro w G)
            | ((with_reducible refine at_drew ?_); refine wpu_drew G ?_; clear G; intro w G)
            | ((with_reducible refine at_load ?_); first
              | (refine wpu_load G rfl rfl rfl rfl ?_; go_frame)
              | (refine wpu_loadB G rfl rfl rfl (by rfl) ?_; go_frame)
              | (refine wpu_loadS G rfl rfl rfl (by rfl) ?_; simp only [List.drop_succ_cons, List.drop_zero, List.take_succ_cons, List.take_zero]; go_frame))
            | ((with_reducible refine at_store ?_); first
              | (refine wpu_store G rfl rfl rfl rfl (by first | rfl | assumption | simp [*]) rfl ?_; clear G; intro w G; go_frame)
              | (refine wpu_storeB G rfl rfl rfl rfl (by rfl) (by rfl) (by first | rfl | assumption | simp [*]) ?_; clear G; intro w G; go_frame)
              | (refine wpu_storeS G rfl rfl rfl rfl (by rfl) (by rfl) (by first | rfl | assumption | simp [*]) ?_; clear G; intro w G; go_frame))
            | ((with_reducible refine at_convert ?_); refine wpu_str G rfl rfl rfl rfl ?_; go_frame)
            | ((with_reducible refine at_slice ?_); first
              | (refine wpu_sliceLo rfl rfl rfl rfl (by first | rfl | omega) (by omega) (by omega) ?_; go_frame)
              | (refine wpu_sliceLH rfl rfl rfl rfl rfl (by first | rfl | omega) (by first | rfl | omega) (by omega) (by omega) ?_; go_frame))
            | fail)
          refine wp_region_mix [0, 0, 0, 0, 0, 0, 0, 0, 0, 0, 0, 0, 0, 0, 0, 0, 0, 0, 0, 0, 2] (Own w0 _) (by kernel_rfl) (by kernel_rfl) (own_drew G) ?_
          refine mix_calm 20 ((own_drew G)) (by rfl) (by rfl) ?_
          intro ι W hne hW
          dsimp only [List.take, List.drop]
          repeat (first | ((with_reducible refine atq_load ?_); first | (refine wpq_load hW rfl rfl rfl rfl ?_; go_frame) | (refine wpq_loadF (k := k) (j := 3) (fun i => own_rd (hW i)) HF.out rfl (by kernel_rfl) rfl rfl ?_; go_frame)) | ((with_reducible refine atq_load ?_); first | (refine wpq_load hW rfl rfl rfl rfl ?_; go_frame) | (refine wpq_loadB hW rfl rfl rfl (by rfl) ?_; go_frame)) | go_big_quiet_step (fail))
          refine wpQuiet_nil ?_
          clear  hW hne W ι
          refine mix_last rfl (fun K hK => ?_)
          refine wpk_storeF (k := k) (j := 3) (cap := pc) (own_drew G) rfl rfl rfl rfl hp4 ?_
          clear G; intro w G
          refine hK _ _ ?_
          clear hK
          try go_frame
          refine mix_nil ?_
          go_wp2_with fail
          refine wp_region_mix [0, 0, 0, 0, 0, 0, 0, 0, 0, 0, 0, 0, 0, 0, 0, 0, 0, 0, 0, 0, 2] (Own w0 _) (by kernel_rfl) (by kernel_rfl) (own_drew G) ?_
          refine mix_calm 20 ((own_drew G)) (by rfl) (by rfl) ?_
          intro ι W hne hW
          dsimp only [List.take, List.drop]
          repeat (first | ((with_reducible refine atq_load ?_); first | (refine wpq_load hW rfl rfl rfl rfl ?_; go_frame) | (refine wpq_loadF (k := k) (j := 4) (fun i => own_rd (hW i)) HF1.out rfl (by kernel_rfl) rfl rfl ?_; go_frame)) | ((with_reducible refine atq_load ?_); first | (refine wpq_load hW rfl rfl rfl rfl ?_; go_frame) | (refine wpq_loadB hW rfl rfl rfl (by rfl) ?_; go_frame)) | go_big_quiet_step (fail))
          refine wpQuiet_nil ?_
          clear  hW hne W ι
          refine mix_last rfl (fun K hK => ?_)
          refine wpk_storeF (k := k) (j := 4) (cap := pc) (own_drew G) rfl rfl rfl rfl hp5 ?_
          clear G; intro w G
          refine hK _ _ ?_
          clear hK
          try go_frame
          refine mix_nil ?_
          go_wp2_with fail
          go_roundw
          case rel => exact ⟨k + 1, _, by go_num, by omega, HRD, G⟩
          case measure => simp [intOf] <;> omega
        · obtain rfl : k = b := by omega
          have hRC : rdL rdRt 7 w0 Y (RR.map cutRt) := by
            have := HY.out
            rwa [List.take_of_length_le (by rw [HRL2.out]; omega), List.drop_eq_nil_of_le (by rw [HRL2.out]; omega), List.append_nil] at this
          have hjX : j * 2 + 2 ≤ n * 2 := by omega
          have hn1' : rd w0 1 (.slice no a nc) (cutHs h).names.length (strs (cutHs h).names) := by rw [HCR.out]; exact hn1
          have hRC' : rdL rdRt 7 w0 Y (cutHs h).routes := by rw [HCR.out]; exact hRC
          have hlen' : k = (cutHs h).routes.length := by rw [HCR.out]; simp; exact HRL2.out.symm
          go_wp2_with (first
            | ((with_reducible refine at_store ?_); refine wpu_storeE (k := j) (cap := qc) (vs := [.slice no a nc, .slice po k pc]) G rfl rfl rfl rfl rfl (by rfl) hjn ?_; clear G; intro w G; go_frame)
            | ((with_reducible refine at_alloc ?_); refine wpu_new G ?_; clear G; intro w G)
            | ((with_reducible refine at_drew ?_); refine wpu_drew G ?_; clear G; intro w G)
            | ((with_reducible refine at_load ?_); first
              | (refine wpu_load G rfl rfl rfl rfl ?_; go_frame)
              | (refine wpu_loadB G rfl rfl rfl (by rfl) ?_; go_frame)
              | (refine wpu_loadS G rfl rfl rfl (by rfl) ?_; simp only [List.drop_succ_cons, List.drop_zero, List.take_succ_cons, List.take_zero]; go_frame))
            | ((with_reducible refine at_store ?_); first
              | (refine wpu_store G rfl rfl rfl rfl (by first | rfl | assumption | simp [*]) rfl ?_; clear G; intro w G; go_frame)
              | (refine wpu_storeB G rfl rfl rfl rfl (by rfl) (by rfl) (by first | rfl | assumption | simp [*]) ?_; clear G; intro w G; go_frame)
              | (refine wpu_storeS G rfl rfl rfl rfl (by rfl) (by rfl) (by first | rfl | assumption | simp [*]) ?_; clear G; intro w G; go_frame))
            | ((with_reducible refine at_convert ?_); refine wpu_str G rfl rfl rfl rfl ?_; go_frame)
            | ((with_reducible refine at_slice ?_); first
              | (refine wpu_sliceLo rfl rfl rfl rfl (by first | rfl | omega) (by omega) (by omega) ?_; go_frame)
              | (refine wpu_sliceLH rfl rfl rfl rfl rfl (by first | rfl | omega) (by first | rfl | omega) (by omega) (by omega) ?_; go_frame))
            | fail)
          have G := G.sub (sl 7 (.slice po k pc) k Y * (sl 2 (.slice (some ad) n qc) n (X.take (j * 2) ++ [.slice no a nc, .slice po k pc] ++ X.drop (j * 2 + 2)) * (starL (hsC w0) rows ((H.map cutHs).take j) * (blk b2 [.int .i64 0, .slice none 0 0, .slice none 0 0] * blk w0.heap.size [.int .i64 version, .slice co m cc, .slice (some ad) n qc]))))
          have HT : Hid ((H.map cutHs).take (j + 1) = (H.map cutHs).take j ++ [cutHs h]) := Lib.hid (by rw [List.take_add_one, List.getElem?_map, HH.out]; rfl)
          have G := hsC_mk (h := cutHs h) (vr := .slice po k pc) (ys := Y) (R := sl 2 (.slice (some ad) n qc) n (X.take (j * 2) ++ [.slice no a nc, .slice po k pc] ++ X.drop (j * 2 + 2)) * (starL (hsC w0) rows ((H.map cutHs).take j) * (blk b2 [.int .i64 0, .slice none 0 0, .slice none 0 0] * blk w0.heap.size [.int .i64 version, .slice co m cc, .slice (some ad) n qc]))) hn1' hRC' (by rw [← hlen']; exact G)
          obtain ⟨row, hrow⟩ : ∃ row, [Value.slice no a nc, .slice po k pc] = row := ⟨_, rfl⟩
          have hrl : row.length = 2 := by rw [← hrow]; rfl
          rw [hrow] at G
          have HR2 : Hid (∀ c ∈ rows ++ [row], c.length = 2) := Lib.hid (fun c hc => by
            rcases List.mem_append.1 hc with hc | hc
            · exact HR.out c hc
            · rw [List.mem_singleton.1 hc]; exact hrl)
          have hXt : (X.take (j * 2)).length = j * 2 := by rw [List.length_take, HXL.out]; omega
          have HXL2 : Hid ((X.take (j * 2) ++ row ++ X.drop (j * 2 + 2)).length = n * 2) := Lib.hid (by
            rw [List.length_append, List.length_append, hXt, hrl, List.length_drop, HXL.out]; omega)
          have HXA : Hid ((X.take (j * 2) ++ row ++ X.drop (j * 2 + 2)).take ((j + 1) * 2) = (rows ++ [row]).flatten) := Lib.hid (by
            rw [List.take_left' (by rw [List.length_append, hXt, hrl]; omega), HX1.out, List.flatten_append, List.flatten_singleton])
          have HXB : Hid ((X.take (j * 2) ++ row ++ X.drop (j * 2 + 2)).drop ((j + 1) * 2) = xs.drop ((j + 1) * 2)) := Lib.hid (by
            rw [List.drop_left' (by rw [List.length_append, hXt, hrl]; omega)]
            have := congrArg (List.drop 2) HX2.out
            rw [List.drop_drop, List.drop_drop] at this
            rw [show (j + 1) * 2 = j * 2 + 2 by omega]
            exact this)
          have G : Own w0 (sl 2 (.slice (some ad) n qc) n (X.take (j * 2) ++ row ++ X.drop (j * 2 + 2)) * (starL (hsC w0) (rows ++ [row]) ((H.map cutHs).take (j + 1)) * (blk b2 [.int .i64 0, .slice none 0 0, .slice none 0 0] * blk w0.heap.size [.int .i64 version, .slice co m cc, .slice (some ad) n qc]))) w := G.eq (by
            rw [HT.out, starL_snoc (by rw [q3, List.length_take, List.length_map, HHL.out]; omega)]
            ac_rfl)
          have q3' : (rows ++ [row]).length = j + 1 := by rw [List.length_append, q3]; rfl
          clear hrow hn1' hRC' hlen'
          go_roundw
          case rel => exact ⟨j + 1, _, rows ++ [row], by go_num, by omega, q3', HR2, HXL2, HXA, HXB, G⟩
          case measure => simp [intOf] <;> omega
    · obtain rfl : j = n := by omega
      rw [List.take_of_length_le (by rw [List.length_map, HHL.out]; omega)] at G
      have hX : X = rows.flatten := by
        have := HX1.out
        rwa [List.take_of_length_le (by rw [HXL.out]; omega)] at this
      subst hX
      go_wp2_with (first
        | ((with_reducible refine at_alloc ?_); refine wpu_new G ?_; clear G; intro w G)
        | ((with_reducible refine at_drew ?_); refine wpu_drew G ?_; clear G; intro w G)
        | ((with_reducible refine at_load ?_); first
          | (refine wpu_load G rfl rfl rfl rfl ?_; go_frame)
          | (refine wpu_loadB G rfl rfl rfl (by rfl) ?_; go_frame)
          | (refine wpu_loadS G rfl rfl rfl (by rfl) ?_; simp only [List.drop_succ_cons, List.drop_zero, List.take_succ_cons, List.take_zero]; go_frame))
        | ((with_reducible refine at_store ?_); first
          | (refine wpu_store G rfl rfl rfl rfl (by first | rfl | assumption | simp [*]) rfl ?_; clear G; intro w G; go_frame)
          | (refine wpu_storeB G rfl rfl rfl rfl (by rfl) (by rfl) (by first | rfl | assumption | simp [*]) ?_; clear G; intro w G; go_frame)
          | (refine wpu_storeS G rfl rfl rfl rfl (by rfl) (by rfl) (by first | rfl | assumption | simp [*]) ?_; clear G; intro w G; go_frame))
        | ((with_reducible refine at_convert ?_); refine wpu_str G rfl rfl rfl rfl ?_; go_frame)
        | ((with_reducible refine at_slice ?_); first
          | (refine wpu_sliceLo rfl rfl rfl rfl (by first | rfl | omega) (by omega) (by omega) ?_; go_frame)
          | (refine wpu_sliceLH rfl rfl rfl rfl rfl (by first | rfl | omega) (by first | rfl | omega) (by omega) (by omega) ?_; go_frame))
        | fail)
      have HCS : Hid (cutSn ⟨version, clusters, hosts⟩ = ⟨version, clusters.take 40, H.map cutHs⟩) := Lib.hid (by
        unfold cutSn
        simp only
        rw [HCH.out])
      have hrd : rdSn wr [.int .i64 version, .slice co m cc, .slice qo j qc] (cutSn ⟨version, clusters, hosts⟩) := by
        rw [HCS.out]
        refine ⟨_, _, rows.flatten, rfl, ?_, ?_, ?_⟩
        · have := hc1.old G
          rwa [take_of m2.out] at this
        · have := own_rd G
          rw [show ((⟨version, clusters.take 40, H.map cutHs⟩ : Sn).hosts.length) = j by simp; exact HHL.out]
          exact this
        · exact list_read G.right (fun _ _ _ h => hsC_read h) HR.out
      refine Calls.mono (copyC hrd (cut_small _)) ?_
      rintro e w ⟨cs', rfl, G'⟩
      have G := own_join G G'
      obtain ⟨vc, vh, rows', rfl, h2, g2⟩ := own_snA G
      have o1 := (own_rd g2).one
      have o2 := (own_rd g2.right).one
      clear g2 h2
      replace G := show Own w0 (snA [.int .i64 version, vc, vh] (cutSn ⟨version, clusters, hosts⟩) * _) w from G
      have G := G.sub (snA [.int .i64 version, vc, vh] (cutSn ⟨version, clusters, hosts⟩) * (blk b2 [.int .i64 0, .slice none 0 0, .slice none 0 0]))
      go_wp2_with (first
        | ((with_reducible refine at_store ?_); refine wpu_storeB G rfl rfl rfl rfl (by rfl) (by rfl) (by simp only [List.all_cons, o1, o2]; rfl) ?_; clear G; intro w G; go_frame)
        | fail)
      try simp only [Exit.inBlock, Exit.then]
      refine bodyPost_ret (results1 rfl (resB G rfl (by rfl))) rfl ?_
      exact ⟨vc, vh, rfl, G.sub (snA [.int .i64 version, vc, vh] (cutSn ⟨version, clusters, hosts⟩))⟩
end Go.Proofs.YtjcpfldobiekbaaDoor
