
/-
  StreamCounts: no more are active than may be, and none that was not opened.
-/
import Derived.Test.YtadbpekkmlblmaaStOps
import Derived.Test.YtadbpekkmlblmaaIdsRef4
import Derived.Test.YtadbpekkmlblmaaLaw
namespace Go.Proofs.Ytadbpekkmlblmaa.streamCounts
open Go.RowKit Go.Sl Go.ChangeShapes



theorem rd_drop1 {w : World} {ao : Option Addr} {cap n : Nat} {xs : List Value} (hr : rd w 1 (.slice ao n cap) n xs) {N : Nat} (hN : N ≤ n) : rd w 1 (.slice (cutA ao cap N 1) (n - N) (cap - N)) (n - N) (xs.drop N) := by
  have := rd_cut1 hr N n hN (Nat.le_refl _)
  have hl := hr.len
  rw [List.take_of_length_le (by simp; omega)] at this
  rwa [cutA, Nat.mul_one]

/-- what is so behind k rounds -/
structure Inv (k : Nat) (s : IdS) (L : List Int) (most lim th : Int) : Prop where
  inn : s.In k
  perm : L.Perm s.act
  hmost : s.most = max most 0
  hlim : s.limit = max lim 0
  hth : s.theirs = th
  m1 : -9223372036854775808 ≤ most
  m2 : most ≤ 9223372036854775807
  l1 : -9223372036854775808 ≤ lim
  l2 : lim ≤ 9223372036854775807

theorem Inv.len {k : Nat} {s : IdS} {L : List Int} {most lim th : Int} (h : Inv k s L most lim th) : L.length = s.act.length ∧ L.length ≤ k ∧ 0 ≤ th ∧ th ≤ L.length := by
  have := h.perm.length_eq
  have := h.inn.len
  have := h.inn.cnt
  have := List.countP_le_length (p := s.their) (l := s.act)
  have := h.hth
  omega

theorem Inv.step {k : Nat} {s : IdS} {L : List Int} {most lim th : Int} (h : Inv k s L most lim th) : Inv (k + 1) s L most lim th := { h with inn := h.inn.mono (Nat.le_succ k) }

theorem Inv.setMost {k : Nat} {s : IdS} {L : List Int} {most lim th id : Int} (h : Inv k s L most lim th) (i1 : -9223372036854775808 ≤ id) (i2 : id ≤ 9223372036854775807) : Inv (k + 1) { s with most := max id 0 } L id lim th :=
  { h with inn := (h.inn.setMost i1 i2).mono (Nat.le_succ k), hmost := rfl, m1 := i1, m2 := i2 }
theorem Inv.setLimit {k : Nat} {s : IdS} {L : List Int} {most lim th id : Int} (h : Inv k s L most lim th) (i1 : -9223372036854775808 ≤ id) (i2 : id ≤ 9223372036854775807) : Inv (k + 1) { s with limit := max id 0 } L most id th :=
  { h with inn := (h.inn.setLimit i1 i2).mono (Nat.le_succ k), hlim := rfl, l1 := i1, l2 := i2 }

/-- an opening: a fault without a number, a refusal, or a new one -/
theorem Inv.open {k : Nat} {s : IdS} {L : List Int} {most lim th : Int} (h : Inv k s L most lim th) (id : Int) :
    (∃ s', s.opened id = (s', [.bool true, .int .u32 1, .int .i64 0]) ∧ Inv (k + 1) s' L most lim th) ∨
    (∃ s', s.opened id = (s', [.bool true, .int .u32 7, .int .i64 id]) ∧ Inv (k + 1) s' L most lim th ∧ most ≤ th) ∨
    (∃ s', s.opened id = (s', [.bool false, .int .u32 0, .int .i64 0]) ∧ Inv (k + 1) s' (L ++ [id]) most lim (th + 1) ∧ th + 1 ≤ most) := by
  have hin := h.inn.open id
  have hl := h.len
  have h1 := h.hmost
  have h2 := h.hth
  by_cases hc : s.cls id = 1
  · by_cases hm : s.most ≤ s.theirs
    · have e := IdS.opened_full hc hm
      rw [e] at hin
      exact .inr (.inl ⟨_, e, { h with inn := hin }, by omega⟩)
    · obtain ⟨a1, a2, a3, a4⟩ := (IdS.cls_one s id).1 hc
      have e := IdS.opened_yes hc hm (h.inn.fresh a4 a3)
      rw [e] at hin
      exact .inr (.inr ⟨_, e, { h with inn := hin, perm := (List.perm_append_comm).trans (h.perm.cons id), hth := by show s.theirs + 1 = _; omega }, by omega⟩)
  · have e := IdS.opened_no hc
    exact .inl ⟨_, e, h.step⟩

theorem Inv.next {k : Nat} {s : IdS} {L : List Int} {most lim th : Int} (h : Inv k s L most lim th) :
    (∃ s', s.nexted = (s', 0, 5) ∧ Inv (k + 1) s' L most lim th ∧ lim ≤ L.length - th) ∨
    (∃ s', s.nexted = (s', 0, 8) ∧ Inv (k + 1) s' L most lim th) ∨
    (∃ s' id, s.nexted = (s', id, 0) ∧ Inv (k + 1) s' (L ++ [id]) most lim th ∧ (L.length : Int) - th < lim) := by
  have hin := h.inn.next
  have hl := h.len
  have h1 := h.hlim
  have h2 := h.hth
  by_cases hc : s.limit ≤ s.act.length - s.theirs
  · exact .inl ⟨_, IdS.nexted_full hc, h.step, by omega⟩
  · by_cases hn : 2147483647 < s.next
    · exact .inr (.inl ⟨_, IdS.nexted_out hc hn, h.step⟩)
    · have e := IdS.nexted_yes hc hn h.inn.freshN
      rw [e] at hin
      exact .inr (.inr ⟨_, _, e, { h with inn := hin, perm := (List.perm_append_comm).trans (h.perm.cons s.next) }, by omega⟩)

theorem cut_perm {L S : List Int} (hp : L.Perm S) {p : Nat} (hlt : p < L.length) : (L.take p ++ L.drop (p + 1)).Perm (S.erase L[p]) := by
  have h1 : L.Perm (L[p] :: (L.take p ++ L.drop (p + 1))) := by
    have := List.take_append_drop p L
    rw [List.drop_eq_getElem_cons hlt] at this
    exact (this ▸ List.perm_middle : L.Perm _)
  have h2 : S.Perm (L[p] :: S.erase L[p]) := List.perm_cons_erase (hp.mem_iff.1 (List.getElem_mem hlt))
  exact (List.Perm.cons_inv ((h1.symm.trans hp).trans h2))

theorem Inv.close {k : Nat} {s : IdS} {L : List Int} {most lim th id : Int} (h : Inv k s L most lim th) {p : Nat} (hlt : p < L.length) (hx : L[p] = id) :
    ∃ s', s.closed id = (s', 0) ∧ Inv (k + 1) s' (L.take p ++ L.drop (p + 1)) most lim (if (id % 2 == 1) = s.server then th - 1 else th) := by
  have hm : id ∈ s.act := h.perm.mem_iff.1 (hx ▸ List.getElem_mem hlt)
  have hin := (h.inn.close id).mono (Nat.le_succ k)
  have h2 := h.hth
  unfold IdS.closed at hin ⊢
  rw [if_pos hm] at hin ⊢
  refine ⟨_, rfl, { h with inn := hin, perm := hx ▸ cut_perm h.perm hlt, hth := ?_ }⟩
  show (if (id % 2 == 1) = s.server then s.theirs - 1 else s.theirs) = _
  rw [h2]

theorem Inv.gone {k : Nat} {s : IdS} {L : List Int} {most lim th id : Int} (h : Inv k s L most lim th) (hx : id ∉ L) : s.closed id = (s, 6) := by
  unfold IdS.closed
  rw [if_neg fun hm => hx (h.perm.mem_iff.2 hm)]

theorem ints_one (l : List Int) {k : List Value} (h : ∀ y ∈ k, y ∈ ints l) : ∀ y ∈ k, y.oneCell' = true := by
  intro y hy
  obtain ⟨x, _, rfl⟩ := List.mem_map.1 (h y hy)
  rfl

/-- what a search has found behind j elements -/
def Found (L : List Int) (id : Int) (j : Nat) (q : Int) : Prop := (q = -1 ∧ id ∉ L.take j) ∨ (0 ≤ q ∧ q < j ∧ L[q.toNat]? = some id)
theorem Found.step {L : List Int} {id : Int} {j : Nat} {q : Int} (h : Found L id j q) (hj : j < L.length) : (L[j] = id → Found L id (j + 1) j) ∧ (¬ L[j] = id → Found L id (j + 1) q) := by
  refine ⟨fun e => .inr ⟨by omega, by omega, ?_⟩, fun e => ?_⟩
  · simp [← e, hj]
  · rcases h with ⟨h1, h2⟩ | ⟨h1, h2, h3⟩
    · refine .inl ⟨h1, ?_⟩
      rw [List.take_succ_eq_append_getElem hj]
      simp only [List.mem_append, List.mem_singleton, not_or]
      exact ⟨h2, fun h => e h.symm⟩
    · exact .inr ⟨h1, by omega, h3⟩





set_option maxHeartbeats 40000000 in
set_option maxRecDepth 100000 in
theorem countsW {w0 : World} {sv : Bool} {m : Int} {v : Value} {n : Nat} {xs : List Value} (m1 : -9223372036854775808 ≤ m) (m2 : m ≤ 9223372036854775807) (hr : rd w0 2 v n xs)
    (hel : ∀ i, i < n → ∃ a b : Int, (xs.drop (i * 2)).take 2 = [.int .i64 a, .int .i64 b] ∧ (-9223372036854775808 ≤ a ∧ a ≤ 9223372036854775807) ∧ (-9223372036854775808 ≤ b ∧ b ≤ 9223372036854775807)) :
    Calls Try.prog 8 #[.bool sv, .int .i64 m, v] w0 fun e w' => e = .returned (.bool true) ∧ Below w0.heap.size w0 w' := by
  have G := own_begin w0
  obtain ⟨ao, cap, rfl, j1, j2, -⟩ := id hr
  unfold maxLen at j2
  have HR := Lib.hid hr
  clear hr
  go_enter Try.func8, Try.ntmps8
  go_wp2_with fail
  refine Calls.mono (shownSt G) ?_
  clear G; rintro e w ⟨rfl, G⟩
  go_wp2_with fail
  refine Calls.mono (newIds G) ?_
  clear G; rintro e w ⟨a, rfl, G⟩
  obtain ⟨s0, hs0⟩ : ∃ s, newIdS sv m = s := ⟨_, rfl⟩
  have hI0 : Inv 0 s0 [] m 2147483647 0 := ⟨hs0 ▸ IdS.new_in sv m m1 m2, hs0 ▸ List.Perm.refl _, hs0 ▸ rfl, hs0 ▸ rfl, hs0 ▸ rfl, m1, m2, by decide, by decide⟩
  have hsv0 : s0.server = sv := hs0 ▸ rfl
  rw [hs0] at G
  clear hs0
  go_wp2_with fail
  go_loopw [1, 9, 10, 11, 12] (fun mv lv av tv i wr => ∃ (k : Nat) (s : IdS) (L : List Int) (most lim th : Int), k ≤ n ∧ k ≤ 100 ∧ i = .int .i64 k ∧ mv = .int .i64 most ∧ lv = .int .i64 lim ∧ tv = .int .i64 th ∧ Inv k s L most lim th ∧ s.server = sv ∧ Own w0 (idsA a s * (sl 1 av L.length (ints L) * emp)) wr) (fun _ _ _ _ i _ => n - (intOf i).toNat)
  case atStart => exact ⟨0, s0, [], m, 2147483647, 0, Nat.zero_le _, by decide, rfl, rfl, rfl, rfl, hI0, hsv0, (own_nil G 1).eq (by ac_rfl)⟩
  case round =>
    clear G hI0 hsv0 s0
    obtain ⟨k, s, L, most, lim, th, hk, hk2, rfl, rfl, rfl, rfl, hI, hsv, G⟩ := hrel
    obtain ⟨po, pc, rfl, i1, i2⟩ := G.hdr u10
    unfold maxLen at i2
    have hL2 : L.length ≤ k := hI.len.2.1
    have ht0 : 0 ≤ th := hI.len.2.2.1
    have ht1 : th ≤ L.length := hI.len.2.2.2
    have z1 := hI.m1
    have z2 := hI.m2
    have z3 := hI.l1
    have z4 := hI.l2
    by_cases hlt : k < n ∧ k < 100
    · obtain ⟨hlt, hlt2⟩ := hlt
      obtain ⟨kd, id, hx, ⟨b1, b2⟩, b3, b4⟩ := hel k hlt
      obtain ⟨ad, rfl⟩ := rd_some HR.out (by omega)
      have HX := Lib.hid hx
      clear hx
      by_cases h1 : kd = 1
      · subst h1
        have hsv' := (IdS.opened_fst s id).1.trans hsv
        rcases hI.open id with ⟨s', e, hI'⟩ | ⟨s', e, hI', hm⟩ | ⟨s', e, hI', hm⟩
        · as_aux_lemma =>
          have HE := Lib.hid e
          rw [e] at hsv'
          clear e
          go_wp2_with (first
            | ((with_reducible refine at_alloc ?_); refine wpu_new G ?_; clear G; intro w G)
            | ((with_reducible refine at_drew ?_); refine wpu_drew G ?_; clear G; intro w G)
            | ((with_reducible refine at_load ?_); first
              | (refine wpu_load G rfl rfl rfl rfl ?_; go_frame)
              | (refine wpu_loadB G rfl rfl rfl (by rfl) ?_; go_frame)
              | (refine wpu_loadS G rfl rfl rfl (by rfl) ?_; simp only [List.drop_succ_cons, List.drop_zero, List.take_succ_cons, List.take_zero]; go_frame))
            | ((with_reducible refine at_store ?_); first
              | (refine wpu_store G rfl rfl rfl rfl (by first | rfl | assumption | simp [*]) rfl ?_; clear G; intro w G; go_frame)
              | (refine wpu_storeB G rfl rfl rfl rfl (by rfl) (by rfl) (by first | rfl | assumption | simp [*]) ?_; clear G; intro w G; go_frame)
              | (refine wpu_storeS G rfl rfl rfl rfl (by rfl) (by rfl) (by first | rfl | assumption | simp [*]) ?_; clear G; intro w G; go_frame))
            | ((with_reducible refine at_convert ?_); refine wpu_str G rfl rfl rfl rfl ?_; go_frame)
            | ((with_reducible refine at_slice ?_); first
              | (refine wpu_sliceLo rfl rfl rfl rfl (by first | rfl | omega) (by omega) (by omega) ?_; go_frame)
              | (refine wpu_sliceLH rfl rfl rfl rfl rfl (by first | rfl | omega) (by first | rfl | omega) (by omega) (by omega) ?_; go_frame))
            | ((with_reducible refine at_load ?_); refine wpu_loadF (HR.out.old G) HX.out rfl rfl rfl rfl ?_; go_frame)
            | ((with_reducible refine at_load ?_); refine wpu_loadF0 (HR.out.old G) HX.out rfl rfl rfl rfl ?_; go_frame)
            | ((with_reducible refine at_append ?_); refine wpu_append1 G rfl rfl rfl rfl (by rfl) (by rfl) (by unfold maxLen; omega) (by omega) ?_; clear G; intro v w G; obtain ⟨qo, qc, rfl, i3, i4⟩ := G.hdr v; go_frame)
            | fail)
          refine Calls.mono (openE (G.pullF (idsA a)) hI.inn.ok (by omega) b3 b4 HE.out) ?_
          clear hI hsv
          have hI := hI'
          have hsv := hsv'
          clear hI' hsv'
          clear G; rintro e w ⟨rfl, G⟩
          go_wp2_with (first
            | ((with_reducible refine at_alloc ?_); refine wpu_new G ?_; clear G; intro w G)
            | ((with_reducible refine at_drew ?_); refine wpu_drew G ?_; clear G; intro w G)
            | ((with_reducible refine at_load ?_); first
              | (refine wpu_load G rfl rfl rfl rfl ?_; go_frame)
              | (refine wpu_loadB G rfl rfl rfl (by rfl) ?_; go_frame)
              | (refine wpu_loadS G rfl rfl rfl (by rfl) ?_; simp only [List.drop_succ_cons, List.drop_zero, List.take_succ_cons, List.take_zero]; go_frame))
            | ((with_reducible refine at_store ?_); first
              | (refine wpu_store G rfl rfl rfl rfl (by first | rfl | assumption | simp [*]) rfl ?_; clear G; intro w G; go_frame)
              | (refine wpu_storeB G rfl rfl rfl rfl (by rfl) (by rfl) (by first | rfl | assumption | simp [*]) ?_; clear G; intro w G; go_frame)
              | (refine wpu_storeS G rfl rfl rfl rfl (by rfl) (by rfl) (by first | rfl | assumption | simp [*]) ?_; clear G; intro w G; go_frame))
            | ((with_reducible refine at_convert ?_); refine wpu_str G rfl rfl rfl rfl ?_; go_frame)
            | ((with_reducible refine at_slice ?_); first
              | (refine wpu_sliceLo rfl rfl rfl rfl (by first | rfl | omega) (by omega) (by omega) ?_; go_frame)
              | (refine wpu_sliceLH rfl rfl rfl rfl rfl (by first | rfl | omega) (by first | rfl | omega) (by omega) (by omega) ?_; go_frame))
            | ((with_reducible refine at_load ?_); refine wpu_loadF (HR.out.old G) HX.out rfl rfl rfl rfl ?_; go_frame)
            | ((with_reducible refine at_load ?_); refine wpu_loadF0 (HR.out.old G) HX.out rfl rfl rfl rfl ?_; go_frame)
            | ((with_reducible refine at_append ?_); refine wpu_append1 G rfl rfl rfl rfl (by rfl) (by rfl) (by unfold maxLen; omega) (by omega) ?_; clear G; intro v w G; obtain ⟨qo, qc, rfl, i3, i4⟩ := G.hdr v; go_frame)
            | fail)
          have hln := hI.len
          have hN : (s'.act.length : Int) = L.length := by have := hln.1; (try simp only [List.length_append, List.length_cons, List.length_nil] at this); omega
          have hln2 := hln.2.1
          have hln3 := hln.2.2.1
          have hln4 := hln.2.2.2
          clear hln
          refine Calls.mono (activeI (n := k + 1) (G.pullF (idsA a)) hI.inn.ok (by omega)) ?_
          clear G; rintro e w ⟨rfl, G⟩
          rw [hI.hth, hN]
          clear hN
          go_wp2_with (first
            | ((with_reducible refine at_alloc ?_); refine wpu_new G ?_; clear G; intro w G)
            | ((with_reducible refine at_drew ?_); refine wpu_drew G ?_; clear G; intro w G)
            | ((with_reducible refine at_load ?_); first
              | (refine wpu_load G rfl rfl rfl rfl ?_; go_frame)
              | (refine wpu_loadB G rfl rfl rfl (by rfl) ?_; go_frame)
              | (refine wpu_loadS G rfl rfl rfl (by rfl) ?_; simp only [List.drop_succ_cons, List.drop_zero, List.take_succ_cons, List.take_zero]; go_frame))
            | ((with_reducible refine at_store ?_); first
              | (refine wpu_store G rfl rfl rfl rfl (by first | rfl | assumption | simp [*]) rfl ?_; clear G; intro w G; go_frame)
              | (refine wpu_storeB G rfl rfl rfl rfl (by rfl) (by rfl) (by first | rfl | assumption | simp [*]) ?_; clear G; intro w G; go_frame)
              | (refine wpu_storeS G rfl rfl rfl rfl (by rfl) (by rfl) (by first | rfl | assumption | simp [*]) ?_; clear G; intro w G; go_frame))
            | ((with_reducible refine at_convert ?_); refine wpu_str G rfl rfl rfl rfl ?_; go_frame)
            | ((with_reducible refine at_slice ?_); first
              | (refine wpu_sliceLo rfl rfl rfl rfl (by first | rfl | omega) (by omega) (by omega) ?_; go_frame)
              | (refine wpu_sliceLH rfl rfl rfl rfl rfl (by first | rfl | omega) (by first | rfl | omega) (by omega) (by omega) ?_; go_frame))
            | ((with_reducible refine at_load ?_); refine wpu_loadF (HR.out.old G) HX.out rfl rfl rfl rfl ?_; go_frame)
            | ((with_reducible refine at_load ?_); refine wpu_loadF0 (HR.out.old G) HX.out rfl rfl rfl rfl ?_; go_frame)
            | ((with_reducible refine at_append ?_); refine wpu_append1 G rfl rfl rfl rfl (by rfl) (by rfl) (by unfold maxLen; omega) (by omega) ?_; clear G; intro v w G; obtain ⟨qo, qc, rfl, i3, i4⟩ := G.hdr v; go_frame)
            | fail)
          go_roundw
          case rel => exact ⟨k + 1, s', _, _, _, _, by omega, by omega, by go_num, rfl, rfl, rfl, hI, hsv, G.give⟩
          case measure => simp [intOf] <;> omega
        · as_aux_lemma =>
          have HE := Lib.hid e
          rw [e] at hsv'
          clear e
          by_cases hz : id = 0
          · subst hz
            go_wp2_with (first
              | ((with_reducible refine at_alloc ?_); refine wpu_new G ?_; clear G; intro w G)
              | ((with_reducible refine at_drew ?_); refine wpu_drew G ?_; clear G; intro w G)
              | ((with_reducible refine at_load ?_); first
                | (refine wpu_load G rfl rfl rfl rfl ?_; go_frame)
                | (refine wpu_loadB G rfl rfl rfl (by rfl) ?_; go_frame)
                | (refine wpu_loadS G rfl rfl rfl (by rfl) ?_; simp only [List.drop_succ_cons, List.drop_zero, List.take_succ_cons, List.take_zero]; go_frame))
              | ((with_reducible refine at_store ?_); first
                | (refine wpu_store G rfl rfl rfl rfl (by first | rfl | assumption | simp [*]) rfl ?_; clear G; intro w G; go_frame)
                | (refine wpu_storeB G rfl rfl rfl rfl (by rfl) (by rfl) (by first | rfl | assumption | simp [*]) ?_; clear G; intro w G; go_frame)
                | (refine wpu_storeS G rfl rfl rfl rfl (by rfl) (by rfl) (by first | rfl | assumption | simp [*]) ?_; clear G; intro w G; go_frame))
              | ((with_reducible refine at_convert ?_); refine wpu_str G rfl rfl rfl rfl ?_; go_frame)
              | ((with_reducible refine at_slice ?_); first
                | (refine wpu_sliceLo rfl rfl rfl rfl (by first | rfl | omega) (by omega) (by omega) ?_; go_frame)
                | (refine wpu_sliceLH rfl rfl rfl rfl rfl (by first | rfl | omega) (by first | rfl | omega) (by omega) (by omega) ?_; go_frame))
              | ((with_reducible refine at_load ?_); refine wpu_loadF (HR.out.old G) HX.out rfl rfl rfl rfl ?_; go_frame)
              | ((with_reducible refine at_load ?_); refine wpu_loadF0 (HR.out.old G) HX.out rfl rfl rfl rfl ?_; go_frame)
              | ((with_reducible refine at_append ?_); refine wpu_append1 G rfl rfl rfl rfl (by rfl) (by rfl) (by unfold maxLen; omega) (by omega) ?_; clear G; intro v w G; obtain ⟨qo, qc, rfl, i3, i4⟩ := G.hdr v; go_frame)
              | fail)
            refine Calls.mono (openE (G.pullF (idsA a)) hI.inn.ok (by omega) b3 b4 HE.out) ?_
            clear hI hsv
            have hI := hI'
            have hsv := hsv'
            clear hI' hsv'
            clear G; rintro e w ⟨rfl, G⟩
            go_wp2_with (first
              | ((with_reducible refine at_alloc ?_); refine wpu_new G ?_; clear G; intro w G)
              | ((with_reducible refine at_drew ?_); refine wpu_drew G ?_; clear G; intro w G)
              | ((with_reducible refine at_load ?_); first
                | (refine wpu_load G rfl rfl rfl rfl ?_; go_frame)
                | (refine wpu_loadB G rfl rfl rfl (by rfl) ?_; go_frame)
                | (refine wpu_loadS G rfl rfl rfl (by rfl) ?_; simp only [List.drop_succ_cons, List.drop_zero, List.take_succ_cons, List.take_zero]; go_frame))
              | ((with_reducible refine at_store ?_); first
                | (refine wpu_store G rfl rfl rfl rfl (by first | rfl | assumption | simp [*]) rfl ?_; clear G; intro w G; go_frame)
                | (refine wpu_storeB G rfl rfl rfl rfl (by rfl) (by rfl) (by first | rfl | assumption | simp [*]) ?_; clear G; intro w G; go_frame)
                | (refine wpu_storeS G rfl rfl rfl rfl (by rfl) (by rfl) (by first | rfl | assumption | simp [*]) ?_; clear G; intro w G; go_frame))
              | ((with_reducible refine at_convert ?_); refine wpu_str G rfl rfl rfl rfl ?_; go_frame)
              | ((with_reducible refine at_slice ?_); first
                | (refine wpu_sliceLo rfl rfl rfl rfl (by first | rfl | omega) (by omega) (by omega) ?_; go_frame)
                | (refine wpu_sliceLH rfl rfl rfl rfl rfl (by first | rfl | omega) (by first | rfl | omega) (by omega) (by omega) ?_; go_frame))
              | ((with_reducible refine at_load ?_); refine wpu_loadF (HR.out.old G) HX.out rfl rfl rfl rfl ?_; go_frame)
              | ((with_reducible refine at_load ?_); refine wpu_loadF0 (HR.out.old G) HX.out rfl rfl rfl rfl ?_; go_frame)
              | ((with_reducible refine at_append ?_); refine wpu_append1 G rfl rfl rfl rfl (by rfl) (by rfl) (by unfold maxLen; omega) (by omega) ?_; clear G; intro v w G; obtain ⟨qo, qc, rfl, i3, i4⟩ := G.hdr v; go_frame)
              | fail)
            have hln := hI.len
            have hN : (s'.act.length : Int) = L.length := by have := hln.1; (try simp only [List.length_append, List.length_cons, List.length_nil] at this); omega
            have hln2 := hln.2.1
            have hln3 := hln.2.2.1
            have hln4 := hln.2.2.2
            clear hln
            refine Calls.mono (activeI (n := k + 1) (G.pullF (idsA a)) hI.inn.ok (by omega)) ?_
            clear G; rintro e w ⟨rfl, G⟩
            rw [hI.hth, hN]
            clear hN
            go_wp2_with (first
              | ((with_reducible refine at_alloc ?_); refine wpu_new G ?_; clear G; intro w G)
              | ((with_reducible refine at_drew ?_); refine wpu_drew G ?_; clear G; intro w G)
              | ((with_reducible refine at_load ?_); first
                | (refine wpu_load G rfl rfl rfl rfl ?_; go_frame)
                | (refine wpu_loadB G rfl rfl rfl (by rfl) ?_; go_frame)
                | (refine wpu_loadS G rfl rfl rfl (by rfl) ?_; simp only [List.drop_succ_cons, List.drop_zero, List.take_succ_cons, List.take_zero]; go_frame))
              | ((with_reducible refine at_store ?_); first
                | (refine wpu_store G rfl rfl rfl rfl (by first | rfl | assumption | simp [*]) rfl ?_; clear G; intro w G; go_frame)
                | (refine wpu_storeB G rfl rfl rfl rfl (by rfl) (by rfl) (by first | rfl | assumption | simp [*]) ?_; clear G; intro w G; go_frame)
                | (refine wpu_storeS G rfl rfl rfl rfl (by rfl) (by rfl) (by first | rfl | assumption | simp [*]) ?_; clear G; intro w G; go_frame))
              | ((with_reducible refine at_convert ?_); refine wpu_str G rfl rfl rfl rfl ?_; go_frame)
              | ((with_reducible refine at_slice ?_); first
                | (refine wpu_sliceLo rfl rfl rfl rfl (by first | rfl | omega) (by omega) (by omega) ?_; go_frame)
                | (refine wpu_sliceLH rfl rfl rfl rfl rfl (by first | rfl | omega) (by first | rfl | omega) (by omega) (by omega) ?_; go_frame))
              | ((with_reducible refine at_load ?_); refine wpu_loadF (HR.out.old G) HX.out rfl rfl rfl rfl ?_; go_frame)
              | ((with_reducible refine at_load ?_); refine wpu_loadF0 (HR.out.old G) HX.out rfl rfl rfl rfl ?_; go_frame)
              | ((with_reducible refine at_append ?_); refine wpu_append1 G rfl rfl rfl rfl (by rfl) (by rfl) (by unfold maxLen; omega) (by omega) ?_; clear G; intro v w G; obtain ⟨qo, qc, rfl, i3, i4⟩ := G.hdr v; go_frame)
              | fail)
            go_roundw
            case rel => exact ⟨k + 1, s', _, _, _, _, by omega, by omega, by go_num, rfl, rfl, rfl, hI, hsv, G.give⟩
            case measure => simp [intOf] <;> omega
          · have hz1 : (id == 0) = false := by simp [hz]
            have hz2 : decide (id = 0) = false := by simp [hz]
            have hz3 : (id != 0) = true := by simp [hz]
            have HZ := Lib.hid hz
            clear hz
            go_wp2_with (first
              | ((with_reducible refine at_alloc ?_); refine wpu_new G ?_; clear G; intro w G)
              | ((with_reducible refine at_drew ?_); refine wpu_drew G ?_; clear G; intro w G)
              | ((with_reducible refine at_load ?_); first
                | (refine wpu_load G rfl rfl rfl rfl ?_; go_frame)
                | (refine wpu_loadB G rfl rfl rfl (by rfl) ?_; go_frame)
                | (refine wpu_loadS G rfl rfl rfl (by rfl) ?_; simp only [List.drop_succ_cons, List.drop_zero, List.take_succ_cons, List.take_zero]; go_frame))
              | ((with_reducible refine at_store ?_); first
                | (refine wpu_store G rfl rfl rfl rfl (by first | rfl | assumption | simp [*]) rfl ?_; clear G; intro w G; go_frame)
                | (refine wpu_storeB G rfl rfl rfl rfl (by rfl) (by rfl) (by first | rfl | assumption | simp [*]) ?_; clear G; intro w G; go_frame)
                | (refine wpu_storeS G rfl rfl rfl rfl (by rfl) (by rfl) (by first | rfl | assumption | simp [*]) ?_; clear G; intro w G; go_frame))
              | ((with_reducible refine at_convert ?_); refine wpu_str G rfl rfl rfl rfl ?_; go_frame)
              | ((with_reducible refine at_slice ?_); first
                | (refine wpu_sliceLo rfl rfl rfl rfl (by first | rfl | omega) (by omega) (by omega) ?_; go_frame)
                | (refine wpu_sliceLH rfl rfl rfl rfl rfl (by first | rfl | omega) (by first | rfl | omega) (by omega) (by omega) ?_; go_frame))
              | ((with_reducible refine at_load ?_); refine wpu_loadF (HR.out.old G) HX.out rfl rfl rfl rfl ?_; go_frame)
              | ((with_reducible refine at_load ?_); refine wpu_loadF0 (HR.out.old G) HX.out rfl rfl rfl rfl ?_; go_frame)
              | ((with_reducible refine at_append ?_); refine wpu_append1 G rfl rfl rfl rfl (by rfl) (by rfl) (by unfold maxLen; omega) (by omega) ?_; clear G; intro v w G; obtain ⟨qo, qc, rfl, i3, i4⟩ := G.hdr v; go_frame)
              | fail)
            refine Calls.mono (openE (G.pullF (idsA a)) hI.inn.ok (by omega) b3 b4 HE.out) ?_
            clear hI hsv
            have hI := hI'
            have hsv := hsv'
            clear hI' hsv'
            clear G; rintro e w ⟨rfl, G⟩
            go_wp2_with (first
              | ((with_reducible refine at_alloc ?_); refine wpu_new G ?_; clear G; intro w G)
              | ((with_reducible refine at_drew ?_); refine wpu_drew G ?_; clear G; intro w G)
              | ((with_reducible refine at_load ?_); first
                | (refine wpu_load G rfl rfl rfl rfl ?_; go_frame)
                | (refine wpu_loadB G rfl rfl rfl (by rfl) ?_; go_frame)
                | (refine wpu_loadS G rfl rfl rfl (by rfl) ?_; simp only [List.drop_succ_cons, List.drop_zero, List.take_succ_cons, List.take_zero]; go_frame))
              | ((with_reducible refine at_store ?_); first
                | (refine wpu_store G rfl rfl rfl rfl (by first | rfl | assumption | simp [*]) rfl ?_; clear G; intro w G; go_frame)
                | (refine wpu_storeB G rfl rfl rfl rfl (by rfl) (by rfl) (by first | rfl | assumption | simp [*]) ?_; clear G; intro w G; go_frame)
                | (refine wpu_storeS G rfl rfl rfl rfl (by rfl) (by rfl) (by first | rfl | assumption | simp [*]) ?_; clear G; intro w G; go_frame))
              | ((with_reducible refine at_convert ?_); refine wpu_str G rfl rfl rfl rfl ?_; go_frame)
              | ((with_reducible refine at_slice ?_); first
                | (refine wpu_sliceLo rfl rfl rfl rfl (by first | rfl | omega) (by omega) (by omega) ?_; go_frame)
                | (refine wpu_sliceLH rfl rfl rfl rfl rfl (by first | rfl | omega) (by first | rfl | omega) (by omega) (by omega) ?_; go_frame))
              | ((with_reducible refine at_load ?_); refine wpu_loadF (HR.out.old G) HX.out rfl rfl rfl rfl ?_; go_frame)
              | ((with_reducible refine at_load ?_); refine wpu_loadF0 (HR.out.old G) HX.out rfl rfl rfl rfl ?_; go_frame)
              | ((with_reducible refine at_append ?_); refine wpu_append1 G rfl rfl rfl rfl (by rfl) (by rfl) (by unfold maxLen; omega) (by omega) ?_; clear G; intro v w G; obtain ⟨qo, qc, rfl, i3, i4⟩ := G.hdr v; go_frame)
              | fail)
            have hln := hI.len
            have hN : (s'.act.length : Int) = L.length := by have := hln.1; (try simp only [List.length_append, List.length_cons, List.length_nil] at this); omega
            have hln2 := hln.2.1
            have hln3 := hln.2.2.1
            have hln4 := hln.2.2.2
            clear hln
            refine Calls.mono (activeI (n := k + 1) (G.pullF (idsA a)) hI.inn.ok (by omega)) ?_
            clear G; rintro e w ⟨rfl, G⟩
            rw [hI.hth, hN]
            clear hN
            go_wp2_with (first
              | ((with_reducible refine at_alloc ?_); refine wpu_new G ?_; clear G; intro w G)
              | ((with_reducible refine at_drew ?_); refine wpu_drew G ?_; clear G; intro w G)
              | ((with_reducible refine at_load ?_); first
                | (refine wpu_load G rfl rfl rfl rfl ?_; go_frame)
                | (refine wpu_loadB G rfl rfl rfl (by rfl) ?_; go_frame)
                | (refine wpu_loadS G rfl rfl rfl (by rfl) ?_; simp only [List.drop_succ_cons, List.drop_zero, List.take_succ_cons, List.take_zero]; go_frame))
              | ((with_reducible refine at_store ?_); first
                | (refine wpu_store G rfl rfl rfl rfl (by first | rfl | assumption | simp [*]) rfl ?_; clear G; intro w G; go_frame)
                | (refine wpu_storeB G rfl rfl rfl rfl (by rfl) (by rfl) (by first | rfl | assumption | simp [*]) ?_; clear G; intro w G; go_frame)
                | (refine wpu_storeS G rfl rfl rfl rfl (by rfl) (by rfl) (by first | rfl | assumption | simp [*]) ?_; clear G; intro w G; go_frame))
              | ((with_reducible refine at_convert ?_); refine wpu_str G rfl rfl rfl rfl ?_; go_frame)
              | ((with_reducible refine at_slice ?_); first
                | (refine wpu_sliceLo rfl rfl rfl rfl (by first | rfl | omega) (by omega) (by omega) ?_; go_frame)
                | (refine wpu_sliceLH rfl rfl rfl rfl rfl (by first | rfl | omega) (by first | rfl | omega) (by omega) (by omega) ?_; go_frame))
              | ((with_reducible refine at_load ?_); refine wpu_loadF (HR.out.old G) HX.out rfl rfl rfl rfl ?_; go_frame)
              | ((with_reducible refine at_load ?_); refine wpu_loadF0 (HR.out.old G) HX.out rfl rfl rfl rfl ?_; go_frame)
              | ((with_reducible refine at_append ?_); refine wpu_append1 G rfl rfl rfl rfl (by rfl) (by rfl) (by unfold maxLen; omega) (by omega) ?_; clear G; intro v w G; obtain ⟨qo, qc, rfl, i3, i4⟩ := G.hdr v; go_frame)
              | fail)
            go_roundw
            case rel => exact ⟨k + 1, s', _, _, _, _, by omega, by omega, by go_num, rfl, rfl, rfl, hI, hsv, G.give⟩
            case measure => simp [intOf] <;> omega
        · as_aux_lemma =>
          have HE := Lib.hid e
          rw [e] at hsv'
          clear e
          go_wp2_with (first
            | ((with_reducible refine at_alloc ?_); refine wpu_new G ?_; clear G; intro w G)
            | ((with_reducible refine at_drew ?_); refine wpu_drew G ?_; clear G; intro w G)
            | ((with_reducible refine at_load ?_); first
              | (refine wpu_load G rfl rfl rfl rfl ?_; go_frame)
              | (refine wpu_loadB G rfl rfl rfl (by rfl) ?_; go_frame)
              | (refine wpu_loadS G rfl rfl rfl (by rfl) ?_; simp only [List.drop_succ_cons, List.drop_zero, List.take_succ_cons, List.take_zero]; go_frame))
            | ((with_reducible refine at_store ?_); first
              | (refine wpu_store G rfl rfl rfl rfl (by first | rfl | assumption | simp [*]) rfl ?_; clear G; intro w G; go_frame)
              | (refine wpu_storeB G rfl rfl rfl rfl (by rfl) (by rfl) (by first | rfl | assumption | simp [*]) ?_; clear G; intro w G; go_frame)
              | (refine wpu_storeS G rfl rfl rfl rfl (by rfl) (by rfl) (by first | rfl | assumption | simp [*]) ?_; clear G; intro w G; go_frame))
            | ((with_reducible refine at_convert ?_); refine wpu_str G rfl rfl rfl rfl ?_; go_frame)
            | ((with_reducible refine at_slice ?_); first
              | (refine wpu_sliceLo rfl rfl rfl rfl (by first | rfl | omega) (by omega) (by omega) ?_; go_frame)
              | (refine wpu_sliceLH rfl rfl rfl rfl rfl (by first | rfl | omega) (by first | rfl | omega) (by omega) (by omega) ?_; go_frame))
            | ((with_reducible refine at_load ?_); refine wpu_loadF (HR.out.old G) HX.out rfl rfl rfl rfl ?_; go_frame)
            | ((with_reducible refine at_load ?_); refine wpu_loadF0 (HR.out.old G) HX.out rfl rfl rfl rfl ?_; go_frame)
            | ((with_reducible refine at_append ?_); refine wpu_append1 G rfl rfl rfl rfl (by rfl) (by rfl) (by unfold maxLen; omega) (by omega) ?_; clear G; intro v w G; obtain ⟨qo, qc, rfl, i3, i4⟩ := G.hdr v; go_frame)
            | fail)
          refine Calls.mono (openE (G.pullF (idsA a)) hI.inn.ok (by omega) b3 b4 HE.out) ?_
          clear hI hsv
          have hI := hI'
          have hsv := hsv'
          clear hI' hsv'
          clear G; rintro e w ⟨rfl, G⟩
          go_wp2_with (first
            | ((with_reducible refine at_alloc ?_); refine wpu_new G ?_; clear G; intro w G)
            | ((with_reducible refine at_drew ?_); refine wpu_drew G ?_; clear G; intro w G)
            | ((with_reducible refine at_load ?_); first
              | (refine wpu_load G rfl rfl rfl rfl ?_; go_frame)
              | (refine wpu_loadB G rfl rfl rfl (by rfl) ?_; go_frame)
              | (refine wpu_loadS G rfl rfl rfl (by rfl) ?_; simp only [List.drop_succ_cons, List.drop_zero, List.take_succ_cons, List.take_zero]; go_frame))
            | ((with_reducible refine at_store ?_); first
              | (refine wpu_store G rfl rfl rfl rfl (by first | rfl | assumption | simp [*]) rfl ?_; clear G; intro w G; go_frame)
              | (refine wpu_storeB G rfl rfl rfl rfl (by rfl) (by rfl) (by first | rfl | assumption | simp [*]) ?_; clear G; intro w G; go_frame)
              | (refine wpu_storeS G rfl rfl rfl rfl (by rfl) (by rfl) (by first | rfl | assumption | simp [*]) ?_; clear G; intro w G; go_frame))
            | ((with_reducible refine at_convert ?_); refine wpu_str G rfl rfl rfl rfl ?_; go_frame)
            | ((with_reducible refine at_slice ?_); first
              | (refine wpu_sliceLo rfl rfl rfl rfl (by first | rfl | omega) (by omega) (by omega) ?_; go_frame)
              | (refine wpu_sliceLH rfl rfl rfl rfl rfl (by first | rfl | omega) (by first | rfl | omega) (by omega) (by omega) ?_; go_frame))
            | ((with_reducible refine at_load ?_); refine wpu_loadF (HR.out.old G) HX.out rfl rfl rfl rfl ?_; go_frame)
            | ((with_reducible refine at_load ?_); refine wpu_loadF0 (HR.out.old G) HX.out rfl rfl rfl rfl ?_; go_frame)
            | ((with_reducible refine at_append ?_); refine wpu_append1 G rfl rfl rfl rfl (by rfl) (by rfl) (by unfold maxLen; omega) (by omega) ?_; clear G; intro v w G; obtain ⟨qo, qc, rfl, i3, i4⟩ := G.hdr v; go_frame)
            | fail)
          have e1 : L.length + 1 = (L ++ [id]).length := by simp
          have e2 : ints L ++ [.int .i64 id] = ints (L ++ [id]) := ints_app L [id]
          obtain ⟨L', hL'⟩ : ∃ L', L' = L ++ [id] := ⟨_, rfl⟩
          have e3 : L'.length = L.length + 1 := by rw [hL']; simp
          rw [← hL'] at hI e1 e2
          have G1 := (G.eq (show _ = sl 1 (.slice qo (L.length + 1) qc) L'.length (ints L') * _ by rw [← e1, ← e2]))
          clear G e1 e2 hL'
          have G := G1
          clear G1
          have hln := hI.len
          have hN : (s'.act.length : Int) = (L.length : Int) + 1 := by have := hln.1; (try simp only [List.length_append, List.length_cons, List.length_nil] at this); omega
          have hln2 := hln.2.1
          have hln3 := hln.2.2.1
          have hln4 := hln.2.2.2
          clear hln
          refine Calls.mono (activeI (n := k + 1) (G.pullF (idsA a)) hI.inn.ok (by omega)) ?_
          clear G; rintro e w ⟨rfl, G⟩
          rw [hI.hth, hN]
          clear hN
          go_wp2_with (first
            | ((with_reducible refine at_alloc ?_); refine wpu_new G ?_; clear G; intro w G)
            | ((with_reducible refine at_drew ?_); refine wpu_drew G ?_; clear G; intro w G)
            | ((with_reducible refine at_load ?_); first
              | (refine wpu_load G rfl rfl rfl rfl ?_; go_frame)
              | (refine wpu_loadB G rfl rfl rfl (by rfl) ?_; go_frame)
              | (refine wpu_loadS G rfl rfl rfl (by rfl) ?_; simp only [List.drop_succ_cons, List.drop_zero, List.take_succ_cons, List.take_zero]; go_frame))
            | ((with_reducible refine at_store ?_); first
              | (refine wpu_store G rfl rfl rfl rfl (by first | rfl | assumption | simp [*]) rfl ?_; clear G; intro w G; go_frame)
              | (refine wpu_storeB G rfl rfl rfl rfl (by rfl) (by rfl) (by first | rfl | assumption | simp [*]) ?_; clear G; intro w G; go_frame)
              | (refine wpu_storeS G rfl rfl rfl rfl (by rfl) (by rfl) (by first | rfl | assumption | simp [*]) ?_; clear G; intro w G; go_frame))
            | ((with_reducible refine at_convert ?_); refine wpu_str G rfl rfl rfl rfl ?_; go_frame)
            | ((with_reducible refine at_slice ?_); first
              | (refine wpu_sliceLo rfl rfl rfl rfl (by first | rfl | omega) (by omega) (by omega) ?_; go_frame)
              | (refine wpu_sliceLH rfl rfl rfl rfl rfl (by first | rfl | omega) (by first | rfl | omega) (by omega) (by omega) ?_; go_frame))
            | ((with_reducible refine at_load ?_); refine wpu_loadF (HR.out.old G) HX.out rfl rfl rfl rfl ?_; go_frame)
            | ((with_reducible refine at_load ?_); refine wpu_loadF0 (HR.out.old G) HX.out rfl rfl rfl rfl ?_; go_frame)
            | ((with_reducible refine at_append ?_); refine wpu_append1 G rfl rfl rfl rfl (by rfl) (by rfl) (by unfold maxLen; omega) (by omega) ?_; clear G; intro v w G; obtain ⟨qo, qc, rfl, i3, i4⟩ := G.hdr v; go_frame)
            | fail)
          go_roundw
          case rel => exact ⟨k + 1, s', _, _, _, _, by omega, by omega, by go_num, rfl, rfl, rfl, hI, hsv, G.give⟩
          case measure => simp [intOf] <;> omega
      · have h1b : (kd == 1) = false := by simpa using h1
        have h1d : decide (kd = 1) = false := by simpa using h1
        by_cases h2 : kd = 2
        · subst h2
          have hsv' : s.nexted.1.server = sv := by
            rw [← hsv]
            unfold IdS.nexted
            split
            · rfl
            · split <;> rfl
          rcases hI.next with ⟨s', e, hI', hm⟩ | ⟨s', e, hI'⟩ | ⟨s', x, e, hI', hm⟩
          · as_aux_lemma =>
            have HE := Lib.hid e
            rw [e] at hsv'
            clear e
            go_wp2_with (first
              | ((with_reducible refine at_alloc ?_); refine wpu_new G ?_; clear G; intro w G)
              | ((with_reducible refine at_drew ?_); refine wpu_drew G ?_; clear G; intro w G)
              | ((with_reducible refine at_load ?_); first
                | (refine wpu_load G rfl rfl rfl rfl ?_; go_frame)
                | (refine wpu_loadB G rfl rfl rfl (by rfl) ?_; go_frame)
                | (refine wpu_loadS G rfl rfl rfl (by rfl) ?_; simp only [List.drop_succ_cons, List.drop_zero, List.take_succ_cons, List.take_zero]; go_frame))
              | ((with_reducible refine at_store ?_); first
                | (refine wpu_store G rfl rfl rfl rfl (by first | rfl | assumption | simp [*]) rfl ?_; clear G; intro w G; go_frame)
                | (refine wpu_storeB G rfl rfl rfl rfl (by rfl) (by rfl) (by first | rfl | assumption | simp [*]) ?_; clear G; intro w G; go_frame)
                | (refine wpu_storeS G rfl rfl rfl rfl (by rfl) (by rfl) (by first | rfl | assumption | simp [*]) ?_; clear G; intro w G; go_frame))
              | ((with_reducible refine at_convert ?_); refine wpu_str G rfl rfl rfl rfl ?_; go_frame)
              | ((with_reducible refine at_slice ?_); first
                | (refine wpu_sliceLo rfl rfl rfl rfl (by first | rfl | omega) (by omega) (by omega) ?_; go_frame)
                | (refine wpu_sliceLH rfl rfl rfl rfl rfl (by first | rfl | omega) (by first | rfl | omega) (by omega) (by omega) ?_; go_frame))
              | ((with_reducible refine at_load ?_); refine wpu_loadF (HR.out.old G) HX.out rfl rfl rfl rfl ?_; go_frame)
              | ((with_reducible refine at_load ?_); refine wpu_loadF0 (HR.out.old G) HX.out rfl rfl rfl rfl ?_; go_frame)
              | ((with_reducible refine at_append ?_); refine wpu_append1 G rfl rfl rfl rfl (by rfl) (by rfl) (by unfold maxLen; omega) (by omega) ?_; clear G; intro v w G; obtain ⟨qo, qc, rfl, i3, i4⟩ := G.hdr v; go_frame)
              | fail)
            refine Calls.mono (nextE (G.pullF (idsA a)) hI.inn.ok (by omega) HE.out) ?_
            clear hI hsv
            have hI := hI'
            have hsv := hsv'
            clear hI' hsv'
            clear G; rintro e w ⟨rfl, G⟩
            go_wp2_with (first
              | ((with_reducible refine at_alloc ?_); refine wpu_new G ?_; clear G; intro w G)
              | ((with_reducible refine at_drew ?_); refine wpu_drew G ?_; clear G; intro w G)
              | ((with_reducible refine at_load ?_); first
                | (refine wpu_load G rfl rfl rfl rfl ?_; go_frame)
                | (refine wpu_loadB G rfl rfl rfl (by rfl) ?_; go_frame)
                | (refine wpu_loadS G rfl rfl rfl (by rfl) ?_; simp only [List.drop_succ_cons, List.drop_zero, List.take_succ_cons, List.take_zero]; go_frame))
              | ((with_reducible refine at_store ?_); first
                | (refine wpu_store G rfl rfl rfl rfl (by first | rfl | assumption | simp [*]) rfl ?_; clear G; intro w G; go_frame)
                | (refine wpu_storeB G rfl rfl rfl rfl (by rfl) (by rfl) (by first | rfl | assumption | simp [*]) ?_; clear G; intro w G; go_frame)
                | (refine wpu_storeS G rfl rfl rfl rfl (by rfl) (by rfl) (by first | rfl | assumption | simp [*]) ?_; clear G; intro w G; go_frame))
              | ((with_reducible refine at_convert ?_); refine wpu_str G rfl rfl rfl rfl ?_; go_frame)
              | ((with_reducible refine at_slice ?_); first
                | (refine wpu_sliceLo rfl rfl rfl rfl (by first | rfl | omega) (by omega) (by omega) ?_; go_frame)
                | (refine wpu_sliceLH rfl rfl rfl rfl rfl (by first | rfl | omega) (by first | rfl | omega) (by omega) (by omega) ?_; go_frame))
              | ((with_reducible refine at_load ?_); refine wpu_loadF (HR.out.old G) HX.out rfl rfl rfl rfl ?_; go_frame)
              | ((with_reducible refine at_load ?_); refine wpu_loadF0 (HR.out.old G) HX.out rfl rfl rfl rfl ?_; go_frame)
              | ((with_reducible refine at_append ?_); refine wpu_append1 G rfl rfl rfl rfl (by rfl) (by rfl) (by unfold maxLen; omega) (by omega) ?_; clear G; intro v w G; obtain ⟨qo, qc, rfl, i3, i4⟩ := G.hdr v; go_frame)
              | fail)
            have hln := hI.len
            have hN : (s'.act.length : Int) = L.length := by have := hln.1; (try simp only [List.length_append, List.length_cons, List.length_nil] at this); omega
            have hln2 := hln.2.1
            have hln3 := hln.2.2.1
            have hln4 := hln.2.2.2
            clear hln
            refine Calls.mono (activeI (n := k + 1) (G.pullF (idsA a)) hI.inn.ok (by omega)) ?_
            clear G; rintro e w ⟨rfl, G⟩
            rw [hI.hth, hN]
            clear hN
            go_wp2_with (first
              | ((with_reducible refine at_alloc ?_); refine wpu_new G ?_; clear G; intro w G)
              | ((with_reducible refine at_drew ?_); refine wpu_drew G ?_; clear G; intro w G)
              | ((with_reducible refine at_load ?_); first
                | (refine wpu_load G rfl rfl rfl rfl ?_; go_frame)
                | (refine wpu_loadB G rfl rfl rfl (by rfl) ?_; go_frame)
                | (refine wpu_loadS G rfl rfl rfl (by rfl) ?_; simp only [List.drop_succ_cons, List.drop_zero, List.take_succ_cons, List.take_zero]; go_frame))
              | ((with_reducible refine at_store ?_); first
                | (refine wpu_store G rfl rfl rfl rfl (by first | rfl | assumption | simp [*]) rfl ?_; clear G; intro w G; go_frame)
                | (refine wpu_storeB G rfl rfl rfl rfl (by rfl) (by rfl) (by first | rfl | assumption | simp [*]) ?_; clear G; intro w G; go_frame)
                | (refine wpu_storeS G rfl rfl rfl rfl (by rfl) (by rfl) (by first | rfl | assumption | simp [*]) ?_; clear G; intro w G; go_frame))
              | ((with_reducible refine at_convert ?_); refine wpu_str G rfl rfl rfl rfl ?_; go_frame)
              | ((with_reducible refine at_slice ?_); first
                | (refine wpu_sliceLo rfl rfl rfl rfl (by first | rfl | omega) (by omega) (by omega) ?_; go_frame)
                | (refine wpu_sliceLH rfl rfl rfl rfl rfl (by first | rfl | omega) (by first | rfl | omega) (by omega) (by omega) ?_; go_frame))
              | ((with_reducible refine at_load ?_); refine wpu_loadF (HR.out.old G) HX.out rfl rfl rfl rfl ?_; go_frame)
              | ((with_reducible refine at_load ?_); refine wpu_loadF0 (HR.out.old G) HX.out rfl rfl rfl rfl ?_; go_frame)
              | ((with_reducible refine at_append ?_); refine wpu_append1 G rfl rfl rfl rfl (by rfl) (by rfl) (by unfold maxLen; omega) (by omega) ?_; clear G; intro v w G; obtain ⟨qo, qc, rfl, i3, i4⟩ := G.hdr v; go_frame)
              | fail)
            go_roundw
            case rel => exact ⟨k + 1, s', _, _, _, _, by omega, by omega, by go_num, rfl, rfl, rfl, hI, hsv, G.give⟩
            case measure => simp [intOf] <;> omega
          · as_aux_lemma =>
            have HE := Lib.hid e
            rw [e] at hsv'
            clear e
            go_wp2_with (first
              | ((with_reducible refine at_alloc ?_); refine wpu_new G ?_; clear G; intro w G)
              | ((with_reducible refine at_drew ?_); refine wpu_drew G ?_; clear G; intro w G)
              | ((with_reducible refine at_load ?_); first
                | (refine wpu_load G rfl rfl rfl rfl ?_; go_frame)
                | (refine wpu_loadB G rfl rfl rfl (by rfl) ?_; go_frame)
                | (refine wpu_loadS G rfl rfl rfl (by rfl) ?_; simp only [List.drop_succ_cons, List.drop_zero, List.take_succ_cons, List.take_zero]; go_frame))
              | ((with_reducible refine at_store ?_); first
                | (refine wpu_store G rfl rfl rfl rfl (by first | rfl | assumption | simp [*]) rfl ?_; clear G; intro w G; go_frame)
                | (refine wpu_storeB G rfl rfl rfl rfl (by rfl) (by rfl) (by first | rfl | assumption | simp [*]) ?_; clear G; intro w G; go_frame)
                | (refine wpu_storeS G rfl rfl rfl rfl (by rfl) (by rfl) (by first | rfl | assumption | simp [*]) ?_; clear G; intro w G; go_frame))
              | ((with_reducible refine at_convert ?_); refine wpu_str G rfl rfl rfl rfl ?_; go_frame)
              | ((with_reducible refine at_slice ?_); first
                | (refine wpu_sliceLo rfl rfl rfl rfl (by first | rfl | omega) (by omega) (by omega) ?_; go_frame)
                | (refine wpu_sliceLH rfl rfl rfl rfl rfl (by first | rfl | omega) (by first | rfl | omega) (by omega) (by omega) ?_; go_frame))
              | ((with_reducible refine at_load ?_); refine wpu_loadF (HR.out.old G) HX.out rfl rfl rfl rfl ?_; go_frame)
              | ((with_reducible refine at_load ?_); refine wpu_loadF0 (HR.out.old G) HX.out rfl rfl rfl rfl ?_; go_frame)
              | ((with_reducible refine at_append ?_); refine wpu_append1 G rfl rfl rfl rfl (by rfl) (by rfl) (by unfold maxLen; omega) (by omega) ?_; clear G; intro v w G; obtain ⟨qo, qc, rfl, i3, i4⟩ := G.hdr v; go_frame)
              | fail)
            refine Calls.mono (nextE (G.pullF (idsA a)) hI.inn.ok (by omega) HE.out) ?_
            clear hI hsv
            have hI := hI'
            have hsv := hsv'
            clear hI' hsv'
            clear G; rintro e w ⟨rfl, G⟩
            go_wp2_with (first
              | ((with_reducible refine at_alloc ?_); refine wpu_new G ?_; clear G; intro w G)
              | ((with_reducible refine at_drew ?_); refine wpu_drew G ?_; clear G; intro w G)
              | ((with_reducible refine at_load ?_); first
                | (refine wpu_load G rfl rfl rfl rfl ?_; go_frame)
                | (refine wpu_loadB G rfl rfl rfl (by rfl) ?_; go_frame)
                | (refine wpu_loadS G rfl rfl rfl (by rfl) ?_; simp only [List.drop_succ_cons, List.drop_zero, List.take_succ_cons, List.take_zero]; go_frame))
              | ((with_reducible refine at_store ?_); first
                | (refine wpu_store G rfl rfl rfl rfl (by first | rfl | assumption | simp [*]) rfl ?_; clear G; intro w G; go_frame)
                | (refine wpu_storeB G rfl rfl rfl rfl (by rfl) (by rfl) (by first | rfl | assumption | simp [*]) ?_; clear G; intro w G; go_frame)
                | (refine wpu_storeS G rfl rfl rfl rfl (by rfl) (by rfl) (by first | rfl | assumption | simp [*]) ?_; clear G; intro w G; go_frame))
              | ((with_reducible refine at_convert ?_); refine wpu_str G rfl rfl rfl rfl ?_; go_frame)
              | ((with_reducible refine at_slice ?_); first
                | (refine wpu_sliceLo rfl rfl rfl rfl (by first | rfl | omega) (by omega) (by omega) ?_; go_frame)
                | (refine wpu_sliceLH rfl rfl rfl rfl rfl (by first | rfl | omega) (by first | rfl | omega) (by omega) (by omega) ?_; go_frame))
              | ((with_reducible refine at_load ?_); refine wpu_loadF (HR.out.old G) HX.out rfl rfl rfl rfl ?_; go_frame)
              | ((with_reducible refine at_load ?_); refine wpu_loadF0 (HR.out.old G) HX.out rfl rfl rfl rfl ?_; go_frame)
              | ((with_reducible refine at_append ?_); refine wpu_append1 G rfl rfl rfl rfl (by rfl) (by rfl) (by unfold maxLen; omega) (by omega) ?_; clear G; intro v w G; obtain ⟨qo, qc, rfl, i3, i4⟩ := G.hdr v; go_frame)
              | fail)
            have hln := hI.len
            have hN : (s'.act.length : Int) = L.length := by have := hln.1; (try simp only [List.length_append, List.length_cons, List.length_nil] at this); omega
            have hln2 := hln.2.1
            have hln3 := hln.2.2.1
            have hln4 := hln.2.2.2
            clear hln
            refine Calls.mono (activeI (n := k + 1) (G.pullF (idsA a)) hI.inn.ok (by omega)) ?_
            clear G; rintro e w ⟨rfl, G⟩
            rw [hI.hth, hN]
            clear hN
            go_wp2_with (first
              | ((with_reducible refine at_alloc ?_); refine wpu_new G ?_; clear G; intro w G)
              | ((with_reducible refine at_drew ?_); refine wpu_drew G ?_; clear G; intro w G)
              | ((with_reducible refine at_load ?_); first
                | (refine wpu_load G rfl rfl rfl rfl ?_; go_frame)
                | (refine wpu_loadB G rfl rfl rfl (by rfl) ?_; go_frame)
                | (refine wpu_loadS G rfl rfl rfl (by rfl) ?_; simp only [List.drop_succ_cons, List.drop_zero, List.take_succ_cons, List.take_zero]; go_frame))
              | ((with_reducible refine at_store ?_); first
                | (refine wpu_store G rfl rfl rfl rfl (by first | rfl | assumption | simp [*]) rfl ?_; clear G; intro w G; go_frame)
                | (refine wpu_storeB G rfl rfl rfl rfl (by rfl) (by rfl) (by first | rfl | assumption | simp [*]) ?_; clear G; intro w G; go_frame)
                | (refine wpu_storeS G rfl rfl rfl rfl (by rfl) (by rfl) (by first | rfl | assumption | simp [*]) ?_; clear G; intro w G; go_frame))
              | ((with_reducible refine at_convert ?_); refine wpu_str G rfl rfl rfl rfl ?_; go_frame)
              | ((with_reducible refine at_slice ?_); first
                | (refine wpu_sliceLo rfl rfl rfl rfl (by first | rfl | omega) (by omega) (by omega) ?_; go_frame)
                | (refine wpu_sliceLH rfl rfl rfl rfl rfl (by first | rfl | omega) (by first | rfl | omega) (by omega) (by omega) ?_; go_frame))
              | ((with_reducible refine at_load ?_); refine wpu_loadF (HR.out.old G) HX.out rfl rfl rfl rfl ?_; go_frame)
              | ((with_reducible refine at_load ?_); refine wpu_loadF0 (HR.out.old G) HX.out rfl rfl rfl rfl ?_; go_frame)
              | ((with_reducible refine at_append ?_); refine wpu_append1 G rfl rfl rfl rfl (by rfl) (by rfl) (by unfold maxLen; omega) (by omega) ?_; clear G; intro v w G; obtain ⟨qo, qc, rfl, i3, i4⟩ := G.hdr v; go_frame)
              | fail)
            go_roundw
            case rel => exact ⟨k + 1, s', _, _, _, _, by omega, by omega, by go_num, rfl, rfl, rfl, hI, hsv, G.give⟩
            case measure => simp [intOf] <;> omega
          · as_aux_lemma =>
            have HE := Lib.hid e
            rw [e] at hsv'
            clear e
            go_wp2_with (first
              | ((with_reducible refine at_alloc ?_); refine wpu_new G ?_; clear G; intro w G)
              | ((with_reducible refine at_drew ?_); refine wpu_drew G ?_; clear G; intro w G)
              | ((with_reducible refine at_load ?_); first
                | (refine wpu_load G rfl rfl rfl rfl ?_; go_frame)
                | (refine wpu_loadB G rfl rfl rfl (by rfl) ?_; go_frame)
                | (refine wpu_loadS G rfl rfl rfl (by rfl) ?_; simp only [List.drop_succ_cons, List.drop_zero, List.take_succ_cons, List.take_zero]; go_frame))
              | ((with_reducible refine at_store ?_); first
                | (refine wpu_store G rfl rfl rfl rfl (by first | rfl | assumption | simp [*]) rfl ?_; clear G; intro w G; go_frame)
                | (refine wpu_storeB G rfl rfl rfl rfl (by rfl) (by rfl) (by first | rfl | assumption | simp [*]) ?_; clear G; intro w G; go_frame)
                | (refine wpu_storeS G rfl rfl rfl rfl (by rfl) (by rfl) (by first | rfl | assumption | simp [*]) ?_; clear G; intro w G; go_frame))
              | ((with_reducible refine at_convert ?_); refine wpu_str G rfl rfl rfl rfl ?_; go_frame)
              | ((with_reducible refine at_slice ?_); first
                | (refine wpu_sliceLo rfl rfl rfl rfl (by first | rfl | omega) (by omega) (by omega) ?_; go_frame)
                | (refine wpu_sliceLH rfl rfl rfl rfl rfl (by first | rfl | omega) (by first | rfl | omega) (by omega) (by omega) ?_; go_frame))
              | ((with_reducible refine at_load ?_); refine wpu_loadF (HR.out.old G) HX.out rfl rfl rfl rfl ?_; go_frame)
              | ((with_reducible refine at_load ?_); refine wpu_loadF0 (HR.out.old G) HX.out rfl rfl rfl rfl ?_; go_frame)
              | ((with_reducible refine at_append ?_); refine wpu_append1 G rfl rfl rfl rfl (by rfl) (by rfl) (by unfold maxLen; omega) (by omega) ?_; clear G; intro v w G; obtain ⟨qo, qc, rfl, i3, i4⟩ := G.hdr v; go_frame)
              | fail)
            refine Calls.mono (nextE (G.pullF (idsA a)) hI.inn.ok (by omega) HE.out) ?_
            clear hI hsv
            have hI := hI'
            have hsv := hsv'
            clear hI' hsv'
            clear G; rintro e w ⟨rfl, G⟩
            go_wp2_with (first
              | ((with_reducible refine at_alloc ?_); refine wpu_new G ?_; clear G; intro w G)
              | ((with_reducible refine at_drew ?_); refine wpu_drew G ?_; clear G; intro w G)
              | ((with_reducible refine at_load ?_); first
                | (refine wpu_load G rfl rfl rfl rfl ?_; go_frame)
                | (refine wpu_loadB G rfl rfl rfl (by rfl) ?_; go_frame)
                | (refine wpu_loadS G rfl rfl rfl (by rfl) ?_; simp only [List.drop_succ_cons, List.drop_zero, List.take_succ_cons, List.take_zero]; go_frame))
              | ((with_reducible refine at_store ?_); first
                | (refine wpu_store G rfl rfl rfl rfl (by first | rfl | assumption | simp [*]) rfl ?_; clear G; intro w G; go_frame)
                | (refine wpu_storeB G rfl rfl rfl rfl (by rfl) (by rfl) (by first | rfl | assumption | simp [*]) ?_; clear G; intro w G; go_frame)
                | (refine wpu_storeS G rfl rfl rfl rfl (by rfl) (by rfl) (by first | rfl | assumption | simp [*]) ?_; clear G; intro w G; go_frame))
              | ((with_reducible refine at_convert ?_); refine wpu_str G rfl rfl rfl rfl ?_; go_frame)
              | ((with_reducible refine at_slice ?_); first
                | (refine wpu_sliceLo rfl rfl rfl rfl (by first | rfl | omega) (by omega) (by omega) ?_; go_frame)
                | (refine wpu_sliceLH rfl rfl rfl rfl rfl (by first | rfl | omega) (by first | rfl | omega) (by omega) (by omega) ?_; go_frame))
              | ((with_reducible refine at_load ?_); refine wpu_loadF (HR.out.old G) HX.out rfl rfl rfl rfl ?_; go_frame)
              | ((with_reducible refine at_load ?_); refine wpu_loadF0 (HR.out.old G) HX.out rfl rfl rfl rfl ?_; go_frame)
              | ((with_reducible refine at_append ?_); refine wpu_append1 G rfl rfl rfl rfl (by rfl) (by rfl) (by unfold maxLen; omega) (by omega) ?_; clear G; intro v w G; obtain ⟨qo, qc, rfl, i3, i4⟩ := G.hdr v; go_frame)
              | fail)
            have e1 : L.length + 1 = (L ++ [x]).length := by simp
            have e2 : ints L ++ [.int .i64 x] = ints (L ++ [x]) := ints_app L [x]
            obtain ⟨L', hL'⟩ : ∃ L', L' = L ++ [x] := ⟨_, rfl⟩
            have e3 : L'.length = L.length + 1 := by rw [hL']; simp
            rw [← hL'] at hI e1 e2
            have G1 := (G.eq (show _ = sl 1 (.slice qo (L.length + 1) qc) L'.length (ints L') * _ by rw [← e1, ← e2]))
            clear G e1 e2 hL'
            have G := G1
            clear G1
            have hln := hI.len
            have hN : (s'.act.length : Int) = (L.length : Int) + 1 := by have := hln.1; (try simp only [List.length_append, List.length_cons, List.length_nil] at this); omega
            have hln2 := hln.2.1
            have hln3 := hln.2.2.1
            have hln4 := hln.2.2.2
            clear hln
            refine Calls.mono (activeI (n := k + 1) (G.pullF (idsA a)) hI.inn.ok (by omega)) ?_
            clear G; rintro e w ⟨rfl, G⟩
            rw [hI.hth, hN]
            clear hN
            go_wp2_with (first
              | ((with_reducible refine at_alloc ?_); refine wpu_new G ?_; clear G; intro w G)
              | ((with_reducible refine at_drew ?_); refine wpu_drew G ?_; clear G; intro w G)
              | ((with_reducible refine at_load ?_); first
                | (refine wpu_load G rfl rfl rfl rfl ?_; go_frame)
                | (refine wpu_loadB G rfl rfl rfl (by rfl) ?_; go_frame)
                | (refine wpu_loadS G rfl rfl rfl (by rfl) ?_; simp only [List.drop_succ_cons, List.drop_zero, List.take_succ_cons, List.take_zero]; go_frame))
              | ((with_reducible refine at_store ?_); first
                | (refine wpu_store G rfl rfl rfl rfl (by first | rfl | assumption | simp [*]) rfl ?_; clear G; intro w G; go_frame)
                | (refine wpu_storeB G rfl rfl rfl rfl (by rfl) (by rfl) (by first | rfl | assumption | simp [*]) ?_; clear G; intro w G; go_frame)
                | (refine wpu_storeS G rfl rfl rfl rfl (by rfl) (by rfl) (by first | rfl | assumption | simp [*]) ?_; clear G; intro w G; go_frame))
              | ((with_reducible refine at_convert ?_); refine wpu_str G rfl rfl rfl rfl ?_; go_frame)
              | ((with_reducible refine at_slice ?_); first
                | (refine wpu_sliceLo rfl rfl rfl rfl (by first | rfl | omega) (by omega) (by omega) ?_; go_frame)
                | (refine wpu_sliceLH rfl rfl rfl rfl rfl (by first | rfl | omega) (by first | rfl | omega) (by omega) (by omega) ?_; go_frame))
              | ((with_reducible refine at_load ?_); refine wpu_loadF (HR.out.old G) HX.out rfl rfl rfl rfl ?_; go_frame)
              | ((with_reducible refine at_load ?_); refine wpu_loadF0 (HR.out.old G) HX.out rfl rfl rfl rfl ?_; go_frame)
              | ((with_reducible refine at_append ?_); refine wpu_append1 G rfl rfl rfl rfl (by rfl) (by rfl) (by unfold maxLen; omega) (by omega) ?_; clear G; intro v w G; obtain ⟨qo, qc, rfl, i3, i4⟩ := G.hdr v; go_frame)
              | fail)
            go_roundw
            case rel => exact ⟨k + 1, s', _, _, _, _, by omega, by omega, by go_num, rfl, rfl, rfl, hI, hsv, G.give⟩
            case measure => simp [intOf] <;> omega
        · have h2b : (kd == 2) = false := by simpa using h2
          have h2d : decide (kd = 2) = false := by simpa using h2
          by_cases h3 : kd = 3
          · as_aux_lemma =>
            subst h3
            go_wp2_with (first
              | ((with_reducible refine at_alloc ?_); refine wpu_new G ?_; clear G; intro w G)
              | ((with_reducible refine at_drew ?_); refine wpu_drew G ?_; clear G; intro w G)
              | ((with_reducible refine at_load ?_); first
                | (refine wpu_load G rfl rfl rfl rfl ?_; go_frame)
                | (refine wpu_loadB G rfl rfl rfl (by rfl) ?_; go_frame)
                | (refine wpu_loadS G rfl rfl rfl (by rfl) ?_; simp only [List.drop_succ_cons, List.drop_zero, List.take_succ_cons, List.take_zero]; go_frame))
              | ((with_reducible refine at_store ?_); first
                | (refine wpu_store G rfl rfl rfl rfl (by first | rfl | assumption | simp [*]) rfl ?_; clear G; intro w G; go_frame)
                | (refine wpu_storeB G rfl rfl rfl rfl (by rfl) (by rfl) (by first | rfl | assumption | simp [*]) ?_; clear G; intro w G; go_frame)
                | (refine wpu_storeS G rfl rfl rfl rfl (by rfl) (by rfl) (by first | rfl | assumption | simp [*]) ?_; clear G; intro w G; go_frame))
              | ((with_reducible refine at_convert ?_); refine wpu_str G rfl rfl rfl rfl ?_; go_frame)
              | ((with_reducible refine at_slice ?_); first
                | (refine wpu_sliceLo rfl rfl rfl rfl (by first | rfl | omega) (by omega) (by omega) ?_; go_frame)
                | (refine wpu_sliceLH rfl rfl rfl rfl rfl (by first | rfl | omega) (by first | rfl | omega) (by omega) (by omega) ?_; go_frame))
              | ((with_reducible refine at_load ?_); refine wpu_loadF (HR.out.old G) HX.out rfl rfl rfl rfl ?_; go_frame)
              | ((with_reducible refine at_load ?_); refine wpu_loadF0 (HR.out.old G) HX.out rfl rfl rfl rfl ?_; go_frame)
              | fail)
            go_loopw [17, 18] (fun av jv wr => ∃ (j : Nat) (q : Int), j ≤ L.length ∧ jv = .int .i64 j ∧ av = .int .i64 q ∧ Found L id j q ∧ Own w0 (idsA a s * (sl 1 (.slice po L.length pc) L.length (ints L) * emp)) wr) (fun _ jv _ => L.length - (intOf jv).toNat)
            case atStart => exact ⟨0, -1, Nat.zero_le _, rfl, rfl, .inl ⟨rfl, by simp⟩, G.give⟩
            case round =>
              clear G
              obtain ⟨j, q, hj, rfl, rfl, hF, G⟩ := hrel
              have hF' := Lib.hid hF
              by_cases hjl : j < L.length
              · as_aux_lemma =>
                obtain ⟨pd, rfl⟩ := rd_some (G.rd (.slice po L.length pc) _ G) (by omega)
                have hy := ints_at hjl
                obtain ⟨f1, f2⟩ := hF.step hjl
                generalize L[j] = y at hy f1 f2
                have HY := Lib.hid hy
                have F1 := Lib.hid f1
                have F2 := Lib.hid f2
                clear hy f1 f2 hF
                cases hq : (y == id)
                all_goals
                  have hq2 : decide (y = id) = (y == id) := rfl
                  rw [hq] at hq2
                  go_wp2_with (first
                    | ((with_reducible refine at_alloc ?_); refine wpu_new G ?_; clear G; intro w G)
                    | ((with_reducible refine at_drew ?_); refine wpu_drew G ?_; clear G; intro w G)
                    | ((with_reducible refine at_load ?_); first
                      | (refine wpu_load G rfl rfl rfl rfl ?_; go_frame)
                      | (refine wpu_loadB G rfl rfl rfl (by rfl) ?_; go_frame)
                      | (refine wpu_loadS G rfl rfl rfl (by rfl) ?_; simp only [List.drop_succ_cons, List.drop_zero, List.take_succ_cons, List.take_zero]; go_frame))
                    | ((with_reducible refine at_store ?_); first
                      | (refine wpu_store G rfl rfl rfl rfl (by first | rfl | assumption | simp [*]) rfl ?_; clear G; intro w G; go_frame)
                      | (refine wpu_storeB G rfl rfl rfl rfl (by rfl) (by rfl) (by first | rfl | assumption | simp [*]) ?_; clear G; intro w G; go_frame)
                      | (refine wpu_storeS G rfl rfl rfl rfl (by rfl) (by rfl) (by first | rfl | assumption | simp [*]) ?_; clear G; intro w G; go_frame))
                    | ((with_reducible refine at_convert ?_); refine wpu_str G rfl rfl rfl rfl ?_; go_frame)
                    | ((with_reducible refine at_slice ?_); first
                      | (refine wpu_sliceLo rfl rfl rfl rfl (by first | rfl | omega) (by omega) (by omega) ?_; go_frame)
                      | (refine wpu_sliceLH rfl rfl rfl rfl rfl (by first | rfl | omega) (by first | rfl | omega) (by omega) (by omega) ?_; go_frame))
                    | ((with_reducible refine at_load ?_); refine wpu_loadC (G.rd (.slice (some pd) L.length pc) _ G) HY.out rfl rfl rfl ?_; go_frame))
                · go_roundw
                  case rel => exact ⟨j + 1, q, by omega, by go_num, rfl, F2.out (by simpa using hq), G.give⟩
                  case measure => simp [intOf] <;> omega
                · go_roundw
                  case rel => exact ⟨j + 1, j, by omega, by go_num, rfl, F1.out (by simpa using hq), G.give⟩
                  case measure => simp [intOf] <;> omega
              · obtain rfl : j = L.length := by omega
                clear hF'
                rcases hF with ⟨rfl, hF⟩ | ⟨hF1, hF2, hF3⟩
                · as_aux_lemma =>
                  rw [List.take_length] at hF
                  have HE := Lib.hid (hI.gone hF)
                  have hps : id ∈ s.act → 1 ≤ id := hI.inn.pos id
                  clear hF
                  go_wp2_with (first
                    | ((with_reducible refine at_alloc ?_); refine wpu_new G ?_; clear G; intro w G)
                    | ((with_reducible refine at_drew ?_); refine wpu_drew G ?_; clear G; intro w G)
                    | ((with_reducible refine at_load ?_); first
                      | (refine wpu_load G rfl rfl rfl rfl ?_; go_frame)
                      | (refine wpu_loadB G rfl rfl rfl (by rfl) ?_; go_frame)
                      | (refine wpu_loadS G rfl rfl rfl (by rfl) ?_; simp only [List.drop_succ_cons, List.drop_zero, List.take_succ_cons, List.take_zero]; go_frame))
                    | ((with_reducible refine at_store ?_); first
                      | (refine wpu_store G rfl rfl rfl rfl (by first | rfl | assumption | simp [*]) rfl ?_; clear G; intro w G; go_frame)
                      | (refine wpu_storeB G rfl rfl rfl rfl (by rfl) (by rfl) (by first | rfl | assumption | simp [*]) ?_; clear G; intro w G; go_frame)
                      | (refine wpu_storeS G rfl rfl rfl rfl (by rfl) (by rfl) (by first | rfl | assumption | simp [*]) ?_; clear G; intro w G; go_frame))
                    | ((with_reducible refine at_convert ?_); refine wpu_str G rfl rfl rfl rfl ?_; go_frame)
                    | ((with_reducible refine at_slice ?_); first
                      | (refine wpu_sliceLo rfl rfl rfl rfl (by first | rfl | omega) (by omega) (by omega) ?_; go_frame)
                      | (refine wpu_sliceLH rfl rfl rfl rfl rfl (by first | rfl | omega) (by first | rfl | omega) (by omega) (by omega) ?_; go_frame))
                    | fail)
                  refine Calls.mono (closeE (G.pullF (idsA a)) hI.inn.ok (by omega) hps b3 b4 HE.out) ?_
                  clear hps
                  obtain ⟨s', hs'⟩ : ∃ s', s = s' := ⟨_, rfl⟩
                  have hI' := hI.step
                  clear hI
                  have hI := hI'
                  clear hI'
                  clear G; rintro e w ⟨rfl, G⟩
                  rw [hs'] at G hI hsv
                  clear hs' HE
                  go_wp2_with (first
                    | ((with_reducible refine at_alloc ?_); refine wpu_new G ?_; clear G; intro w G)
                    | ((with_reducible refine at_drew ?_); refine wpu_drew G ?_; clear G; intro w G)
                    | ((with_reducible refine at_load ?_); first
                      | (refine wpu_load G rfl rfl rfl rfl ?_; go_frame)
                      | (refine wpu_loadB G rfl rfl rfl (by rfl) ?_; go_frame)
                      | (refine wpu_loadS G rfl rfl rfl (by rfl) ?_; simp only [List.drop_succ_cons, List.drop_zero, List.take_succ_cons, List.take_zero]; go_frame))
                    | ((with_reducible refine at_store ?_); first
                      | (refine wpu_store G rfl rfl rfl rfl (by first | rfl | assumption | simp [*]) rfl ?_; clear G; intro w G; go_frame)
                      | (refine wpu_storeB G rfl rfl rfl rfl (by rfl) (by rfl) (by first | rfl | assumption | simp [*]) ?_; clear G; intro w G; go_frame)
                      | (refine wpu_storeS G rfl rfl rfl rfl (by rfl) (by rfl) (by first | rfl | assumption | simp [*]) ?_; clear G; intro w G; go_frame))
                    | ((with_reducible refine at_convert ?_); refine wpu_str G rfl rfl rfl rfl ?_; go_frame)
                    | ((with_reducible refine at_slice ?_); first
                      | (refine wpu_sliceLo rfl rfl rfl rfl (by first | rfl | omega) (by omega) (by omega) ?_; go_frame)
                      | (refine wpu_sliceLH rfl rfl rfl rfl rfl (by first | rfl | omega) (by first | rfl | omega) (by omega) (by omega) ?_; go_frame))
                    | ((with_reducible refine at_load ?_); refine wpu_loadF (HR.out.old G) HX.out rfl rfl rfl rfl ?_; go_frame)
                    | ((with_reducible refine at_load ?_); refine wpu_loadF0 (HR.out.old G) HX.out rfl rfl rfl rfl ?_; go_frame)
                    | ((with_reducible refine at_append ?_); refine wpu_append1 G rfl rfl rfl rfl (by rfl) (by rfl) (by unfold maxLen; omega) (by omega) ?_; clear G; intro v w G; obtain ⟨qo, qc, rfl, i3, i4⟩ := G.hdr v; go_frame)
                    | fail)
                  have hln := hI.len
                  have hN : (s'.act.length : Int) = L.length := by have := hln.1; (try simp only [List.length_append, List.length_cons, List.length_nil] at this); omega
                  have hln2 := hln.2.1
                  have hln3 := hln.2.2.1
                  have hln4 := hln.2.2.2
                  clear hln
                  refine Calls.mono (activeI (n := k + 1) (G.pullF (idsA a)) hI.inn.ok (by omega)) ?_
                  clear G; rintro e w ⟨rfl, G⟩
                  rw [hI.hth, hN]
                  clear hN
                  go_wp2_with (first
                    | ((with_reducible refine at_alloc ?_); refine wpu_new G ?_; clear G; intro w G)
                    | ((with_reducible refine at_drew ?_); refine wpu_drew G ?_; clear G; intro w G)
                    | ((with_reducible refine at_load ?_); first
                      | (refine wpu_load G rfl rfl rfl rfl ?_; go_frame)
                      | (refine wpu_loadB G rfl rfl rfl (by rfl) ?_; go_frame)
                      | (refine wpu_loadS G rfl rfl rfl (by rfl) ?_; simp only [List.drop_succ_cons, List.drop_zero, List.take_succ_cons, List.take_zero]; go_frame))
                    | ((with_reducible refine at_store ?_); first
                      | (refine wpu_store G rfl rfl rfl rfl (by first | rfl | assumption | simp [*]) rfl ?_; clear G; intro w G; go_frame)
                      | (refine wpu_storeB G rfl rfl rfl rfl (by rfl) (by rfl) (by first | rfl | assumption | simp [*]) ?_; clear G; intro w G; go_frame)
                      | (refine wpu_storeS G rfl rfl rfl rfl (by rfl) (by rfl) (by first | rfl | assumption | simp [*]) ?_; clear G; intro w G; go_frame))
                    | ((with_reducible refine at_convert ?_); refine wpu_str G rfl rfl rfl rfl ?_; go_frame)
                    | ((with_reducible refine at_slice ?_); first
                      | (refine wpu_sliceLo rfl rfl rfl rfl (by first | rfl | omega) (by omega) (by omega) ?_; go_frame)
                      | (refine wpu_sliceLH rfl rfl rfl rfl rfl (by first | rfl | omega) (by first | rfl | omega) (by omega) (by omega) ?_; go_frame))
                    | ((with_reducible refine at_load ?_); refine wpu_loadF (HR.out.old G) HX.out rfl rfl rfl rfl ?_; go_frame)
                    | ((with_reducible refine at_load ?_); refine wpu_loadF0 (HR.out.old G) HX.out rfl rfl rfl rfl ?_; go_frame)
                    | ((with_reducible refine at_append ?_); refine wpu_append1 G rfl rfl rfl rfl (by rfl) (by rfl) (by unfold maxLen; omega) (by omega) ?_; clear G; intro v w G; obtain ⟨qo, qc, rfl, i3, i4⟩ := G.hdr v; go_frame)
                    | fail)
                  go_roundw
                  case rel => exact ⟨k + 1, s', _, _, _, _, by omega, by omega, by go_num, rfl, rfl, rfl, hI, hsv, G.give⟩
                  case measure => simp [intOf] <;> omega
                · obtain ⟨p, rfl⟩ : ∃ p : Nat, q = p := ⟨q.toNat, by omega⟩
                  have hpl : p < L.length := by omega
                  obtain ⟨s', e, hI'⟩ := hI.close (p := p) (id := id) hpl (by
                    rw [Int.toNat_natCast, List.getElem?_eq_getElem hpl] at hF3
                    exact Option.some.inj hF3)
                  have hps : id ∈ s.act → 1 ≤ id := hI.inn.pos id
                  have hid : 1 ≤ id := by
                    refine hps (hI.perm.mem_iff.1 ?_)
                    rw [Int.toNat_natCast, List.getElem?_eq_getElem hpl] at hF3
                    exact Option.some.inj hF3 ▸ List.getElem_mem hpl
                  have hsv' : s'.server = sv := by have := (IdS.closed_fst s id).1; rw [e] at this; exact this.trans hsv
                  have HE := Lib.hid e
                  clear e hF1 hF2 hF3
                  rw [hsv] at hI'
                  cases hq : (id % 2 == 1)
                  all_goals
                    have hq2 : decide (id % 2 = 1) = (id % 2 == 1) := rfl
                    rw [hq] at hq2
                    rw [hq] at hI'
                    cases sv
                    all_goals
                      as_aux_lemma =>
                      simp only [if_true, if_false, reduceCtorEq] at hI'
                      go_wp2_with (first
                        | ((with_reducible refine at_alloc ?_); refine wpu_new G ?_; clear G; intro w G)
                        | ((with_reducible refine at_drew ?_); refine wpu_drew G ?_; clear G; intro w G)
                        | ((with_reducible refine at_load ?_); first
                          | (refine wpu_load G rfl rfl rfl rfl ?_; go_frame)
                          | (refine wpu_loadB G rfl rfl rfl (by rfl) ?_; go_frame)
                          | (refine wpu_loadS G rfl rfl rfl (by rfl) ?_; simp only [List.drop_succ_cons, List.drop_zero, List.take_succ_cons, List.take_zero]; go_frame))
                        | ((with_reducible refine at_store ?_); first
                          | (refine wpu_store G rfl rfl rfl rfl (by first | rfl | assumption | simp [*]) rfl ?_; clear G; intro w G; go_frame)
                          | (refine wpu_storeB G rfl rfl rfl rfl (by rfl) (by rfl) (by first | rfl | assumption | simp [*]) ?_; clear G; intro w G; go_frame)
                          | (refine wpu_storeS G rfl rfl rfl rfl (by rfl) (by rfl) (by first | rfl | assumption | simp [*]) ?_; clear G; intro w G; go_frame))
                        | ((with_reducible refine at_convert ?_); refine wpu_str G rfl rfl rfl rfl ?_; go_frame)
                        | ((with_reducible refine at_slice ?_); first
                          | (refine wpu_sliceLo rfl rfl rfl rfl (by first | rfl | omega) (by omega) (by omega) ?_; go_frame)
                          | (refine wpu_sliceLH rfl rfl rfl rfl rfl (by first | rfl | omega) (by first | rfl | omega) (by omega) (by omega) ?_; go_frame))
                        | fail)
                      refine Calls.mono (closeE (G.pullF (idsA a)) hI.inn.ok (by omega) hps b3 b4 HE.out) ?_
                      clear hI hsv
                      have hI := hI'
                      have hsv := hsv'
                      clear hI' hsv'
                      clear hps
                      clear G; rintro e w ⟨rfl, G⟩
                      go_wp2_with (first
                        | ((with_reducible refine at_slice ?_); refine wpu_sliceLo (N := p + 1) rfl rfl rfl rfl (by omega) (by omega) (by omega) ?_; go_frame)
                        | ((with_reducible refine at_alloc ?_); refine wpu_new G ?_; clear G; intro w G)
                        | ((with_reducible refine at_drew ?_); refine wpu_drew G ?_; clear G; intro w G)
                        | ((with_reducible refine at_load ?_); first
                          | (refine wpu_load G rfl rfl rfl rfl ?_; go_frame)
                          | (refine wpu_loadB G rfl rfl rfl (by rfl) ?_; go_frame)
                          | (refine wpu_loadS G rfl rfl rfl (by rfl) ?_; simp only [List.drop_succ_cons, List.drop_zero, List.take_succ_cons, List.take_zero]; go_frame))
                        | ((with_reducible refine at_store ?_); first
                          | (refine wpu_store G rfl rfl rfl rfl (by first | rfl | assumption | simp [*]) rfl ?_; clear G; intro w G; go_frame)
                          | (refine wpu_storeB G rfl rfl rfl rfl (by rfl) (by rfl) (by first | rfl | assumption | simp [*]) ?_; clear G; intro w G; go_frame)
                          | (refine wpu_storeS G rfl rfl rfl rfl (by rfl) (by rfl) (by first | rfl | assumption | simp [*]) ?_; clear G; intro w G; go_frame))
                        | ((with_reducible refine at_convert ?_); refine wpu_str G rfl rfl rfl rfl ?_; go_frame)
                        | ((with_reducible refine at_slice ?_); first
                          | (refine wpu_sliceLo rfl rfl rfl rfl (by first | rfl | omega) (by omega) (by omega) ?_; go_frame)
                          | (refine wpu_sliceLH rfl rfl rfl rfl rfl (by first | rfl | omega) (by first | rfl | omega) (by omega) (by omega) ?_; go_frame))
                        | ((with_reducible refine at_append ?_); refine wpu_append0 G rfl rfl rfl rfl (rd_take1 (G.rd (.slice po L.length pc) _ G) (Nat.le_of_lt hpl)) (ints_one _ (fun y hy => List.mem_of_mem_take hy)) (by unfold maxLen; omega) (by omega) ?_; clear G; intro v w G; obtain ⟨ro, rc, rfl, i5, i6⟩ := G.hdr v; go_frame)
                        | ((with_reducible refine at_append ?_); refine wpu_append G rfl rfl rfl rfl (rd_drop1 (G.rd (.slice po L.length pc) _ G) hpl) (ints_one _ (fun y hy => List.mem_of_mem_drop hy)) (by unfold maxLen; omega) (by omega) ?_; clear G; intro v w G; obtain ⟨qo, qc, rfl, i3, i4⟩ := G.hdr v; go_frame)
                        | fail)
                      obtain ⟨L', hL'⟩ : ∃ L', L' = L.take p ++ L.drop (p + 1) := ⟨_, rfl⟩
                      have e3 : L'.length = p + (L.length - (p + 1)) := by rw [hL']; simp; omega
                      have e4 : (ints L).take p ++ (ints L).drop (p + 1) = ints L' := by rw [hL']; simp [ints]
                      rw [← hL'] at hI
                      have G1 := G.eq (show _ = sl 1 (.slice qo (p + (L.length - (p + 1))) qc) L'.length (ints L') * _ by rw [e3, ← e4])
                      clear hL' e4 G
                      have G := G1
                      clear G1
                      have hln := hI.len
                      have hN : (s'.act.length : Int) = (p + (L.length - (p + 1)) : Nat) := by have := hln.1; (try simp only [List.length_append, List.length_cons, List.length_nil] at this); omega
                      have hln2 := hln.2.1
                      have hln3 := hln.2.2.1
                      have hln4 := hln.2.2.2
                      clear hln
                      refine Calls.mono (activeI (n := k + 1) (G.pullF (idsA a)) hI.inn.ok (by omega)) ?_
                      clear G; rintro e w ⟨rfl, G⟩
                      rw [hI.hth, hN]
                      clear hN
                      go_wp2_with (first
                        | ((with_reducible refine at_alloc ?_); refine wpu_new G ?_; clear G; intro w G)
                        | ((with_reducible refine at_drew ?_); refine wpu_drew G ?_; clear G; intro w G)
                        | ((with_reducible refine at_load ?_); first
                          | (refine wpu_load G rfl rfl rfl rfl ?_; go_frame)
                          | (refine wpu_loadB G rfl rfl rfl (by rfl) ?_; go_frame)
                          | (refine wpu_loadS G rfl rfl rfl (by rfl) ?_; simp only [List.drop_succ_cons, List.drop_zero, List.take_succ_cons, List.take_zero]; go_frame))
                        | ((with_reducible refine at_store ?_); first
                          | (refine wpu_store G rfl rfl rfl rfl (by first | rfl | assumption | simp [*]) rfl ?_; clear G; intro w G; go_frame)
                          | (refine wpu_storeB G rfl rfl rfl rfl (by rfl) (by rfl) (by first | rfl | assumption | simp [*]) ?_; clear G; intro w G; go_frame)
                          | (refine wpu_storeS G rfl rfl rfl rfl (by rfl) (by rfl) (by first | rfl | assumption | simp [*]) ?_; clear G; intro w G; go_frame))
                        | ((with_reducible refine at_convert ?_); refine wpu_str G rfl rfl rfl rfl ?_; go_frame)
                        | ((with_reducible refine at_slice ?_); first
                          | (refine wpu_sliceLo rfl rfl rfl rfl (by first | rfl | omega) (by omega) (by omega) ?_; go_frame)
                          | (refine wpu_sliceLH rfl rfl rfl rfl rfl (by first | rfl | omega) (by first | rfl | omega) (by omega) (by omega) ?_; go_frame))
                        | ((with_reducible refine at_load ?_); refine wpu_loadF (HR.out.old G) HX.out rfl rfl rfl rfl ?_; go_frame)
                        | ((with_reducible refine at_load ?_); refine wpu_loadF0 (HR.out.old G) HX.out rfl rfl rfl rfl ?_; go_frame)
                        | ((with_reducible refine at_append ?_); refine wpu_append1 G rfl rfl rfl rfl (by rfl) (by rfl) (by unfold maxLen; omega) (by omega) ?_; clear G; intro v w G; obtain ⟨qo, qc, rfl, i3, i4⟩ := G.hdr v; go_frame)
                        | fail)
                      go_roundw
                      case rel => exact ⟨k + 1, s', _, _, _, _, by omega, by omega, by go_num, rfl, rfl, rfl, hI, hsv, G.give⟩
                      case measure => simp [intOf] <;> omega
          · have h3b : (kd == 3) = false := by simpa using h3
            have h3d : decide (kd = 3) = false := by simpa using h3
            by_cases h4 : kd = 4
            · as_aux_lemma =>
              subst h4
              have hI' := hI.setMost (id := id) b3 b4
              go_wp2_with (first
                | ((with_reducible refine at_alloc ?_); refine wpu_new G ?_; clear G; intro w G)
                | ((with_reducible refine at_drew ?_); refine wpu_drew G ?_; clear G; intro w G)
                | ((with_reducible refine at_load ?_); first
                  | (refine wpu_load G rfl rfl rfl rfl ?_; go_frame)
                  | (refine wpu_loadB G rfl rfl rfl (by rfl) ?_; go_frame)
                  | (refine wpu_loadS G rfl rfl rfl (by rfl) ?_; simp only [List.drop_succ_cons, List.drop_zero, List.take_succ_cons, List.take_zero]; go_frame))
                | ((with_reducible refine at_store ?_); first
                  | (refine wpu_store G rfl rfl rfl rfl (by first | rfl | assumption | simp [*]) rfl ?_; clear G; intro w G; go_frame)
                  | (refine wpu_storeB G rfl rfl rfl rfl (by rfl) (by rfl) (by first | rfl | assumption | simp [*]) ?_; clear G; intro w G; go_frame)
                  | (refine wpu_storeS G rfl rfl rfl rfl (by rfl) (by rfl) (by first | rfl | assumption | simp [*]) ?_; clear G; intro w G; go_frame))
                | ((with_reducible refine at_convert ?_); refine wpu_str G rfl rfl rfl rfl ?_; go_frame)
                | ((with_reducible refine at_slice ?_); first
                  | (refine wpu_sliceLo rfl rfl rfl rfl (by first | rfl | omega) (by omega) (by omega) ?_; go_frame)
                  | (refine wpu_sliceLH rfl rfl rfl rfl rfl (by first | rfl | omega) (by first | rfl | omega) (by omega) (by omega) ?_; go_frame))
                | ((with_reducible refine at_load ?_); refine wpu_loadF (HR.out.old G) HX.out rfl rfl rfl rfl ?_; go_frame)
                | ((with_reducible refine at_load ?_); refine wpu_loadF0 (HR.out.old G) HX.out rfl rfl rfl rfl ?_; go_frame)
                | ((with_reducible refine at_append ?_); refine wpu_append1 G rfl rfl rfl rfl (by rfl) (by rfl) (by unfold maxLen; omega) (by omega) ?_; clear G; intro v w G; obtain ⟨qo, qc, rfl, i3, i4⟩ := G.hdr v; go_frame)
                | fail)
              refine Calls.mono (setMost (n := id) (G.pullF (idsA a))) ?_
              clear hI
              have hI := hI'
              clear hI'
              clear G; rintro e w ⟨rfl, G⟩
              obtain ⟨s', hs'⟩ : ∃ s', ({ s with most := max id 0 } : IdS) = s' := ⟨_, rfl⟩
              have hsv' : s'.server = sv := by rw [← hs']; exact hsv
              clear hsv
              have hsv := hsv'
              clear hsv'
              rw [hs'] at G hI
              clear hs'
              go_wp2_with (first
                | ((with_reducible refine at_alloc ?_); refine wpu_new G ?_; clear G; intro w G)
                | ((with_reducible refine at_drew ?_); refine wpu_drew G ?_; clear G; intro w G)
                | ((with_reducible refine at_load ?_); first
                  | (refine wpu_load G rfl rfl rfl rfl ?_; go_frame)
                  | (refine wpu_loadB G rfl rfl rfl (by rfl) ?_; go_frame)
                  | (refine wpu_loadS G rfl rfl rfl (by rfl) ?_; simp only [List.drop_succ_cons, List.drop_zero, List.take_succ_cons, List.take_zero]; go_frame))
                | ((with_reducible refine at_store ?_); first
                  | (refine wpu_store G rfl rfl rfl rfl (by first | rfl | assumption | simp [*]) rfl ?_; clear G; intro w G; go_frame)
                  | (refine wpu_storeB G rfl rfl rfl rfl (by rfl) (by rfl) (by first | rfl | assumption | simp [*]) ?_; clear G; intro w G; go_frame)
                  | (refine wpu_storeS G rfl rfl rfl rfl (by rfl) (by rfl) (by first | rfl | assumption | simp [*]) ?_; clear G; intro w G; go_frame))
                | ((with_reducible refine at_convert ?_); refine wpu_str G rfl rfl rfl rfl ?_; go_frame)
                | ((with_reducible refine at_slice ?_); first
                  | (refine wpu_sliceLo rfl rfl rfl rfl (by first | rfl | omega) (by omega) (by omega) ?_; go_frame)
                  | (refine wpu_sliceLH rfl rfl rfl rfl rfl (by first | rfl | omega) (by first | rfl | omega) (by omega) (by omega) ?_; go_frame))
                | ((with_reducible refine at_load ?_); refine wpu_loadF (HR.out.old G) HX.out rfl rfl rfl rfl ?_; go_frame)
                | ((with_reducible refine at_load ?_); refine wpu_loadF0 (HR.out.old G) HX.out rfl rfl rfl rfl ?_; go_frame)
                | ((with_reducible refine at_append ?_); refine wpu_append1 G rfl rfl rfl rfl (by rfl) (by rfl) (by unfold maxLen; omega) (by omega) ?_; clear G; intro v w G; obtain ⟨qo, qc, rfl, i3, i4⟩ := G.hdr v; go_frame)
                | fail)
              have hln := hI.len
              have hN : (s'.act.length : Int) = L.length := by have := hln.1; (try simp only [List.length_append, List.length_cons, List.length_nil] at this); omega
              have hln2 := hln.2.1
              have hln3 := hln.2.2.1
              have hln4 := hln.2.2.2
              clear hln
              refine Calls.mono (activeI (n := k + 1) (G.pullF (idsA a)) hI.inn.ok (by omega)) ?_
              clear G; rintro e w ⟨rfl, G⟩
              rw [hI.hth, hN]
              clear hN
              go_wp2_with (first
                | ((with_reducible refine at_alloc ?_); refine wpu_new G ?_; clear G; intro w G)
                | ((with_reducible refine at_drew ?_); refine wpu_drew G ?_; clear G; intro w G)
                | ((with_reducible refine at_load ?_); first
                  | (refine wpu_load G rfl rfl rfl rfl ?_; go_frame)
                  | (refine wpu_loadB G rfl rfl rfl (by rfl) ?_; go_frame)
                  | (refine wpu_loadS G rfl rfl rfl (by rfl) ?_; simp only [List.drop_succ_cons, List.drop_zero, List.take_succ_cons, List.take_zero]; go_frame))
                | ((with_reducible refine at_store ?_); first
                  | (refine wpu_store G rfl rfl rfl rfl (by first | rfl | assumption | simp [*]) rfl ?_; clear G; intro w G; go_frame)
                  | (refine wpu_storeB G rfl rfl rfl rfl (by rfl) (by rfl) (by first | rfl | assumption | simp [*]) ?_; clear G; intro w G; go_frame)
                  | (refine wpu_storeS G rfl rfl rfl rfl (by rfl) (by rfl) (by first | rfl | assumption | simp [*]) ?_; clear G; intro w G; go_frame))
                | ((with_reducible refine at_convert ?_); refine wpu_str G rfl rfl rfl rfl ?_; go_frame)
                | ((with_reducible refine at_slice ?_); first
                  | (refine wpu_sliceLo rfl rfl rfl rfl (by first | rfl | omega) (by omega) (by omega) ?_; go_frame)
                  | (refine wpu_sliceLH rfl rfl rfl rfl rfl (by first | rfl | omega) (by first | rfl | omega) (by omega) (by omega) ?_; go_frame))
                | ((with_reducible refine at_load ?_); refine wpu_loadF (HR.out.old G) HX.out rfl rfl rfl rfl ?_; go_frame)
                | ((with_reducible refine at_load ?_); refine wpu_loadF0 (HR.out.old G) HX.out rfl rfl rfl rfl ?_; go_frame)
                | ((with_reducible refine at_append ?_); refine wpu_append1 G rfl rfl rfl rfl (by rfl) (by rfl) (by unfold maxLen; omega) (by omega) ?_; clear G; intro v w G; obtain ⟨qo, qc, rfl, i3, i4⟩ := G.hdr v; go_frame)
                | fail)
              go_roundw
              case rel => exact ⟨k + 1, s', _, _, _, _, by omega, by omega, by go_num, rfl, rfl, rfl, hI, hsv, G.give⟩
              case measure => simp [intOf] <;> omega
            · have h4b : (kd == 4) = false := by simpa using h4
              have h4d : decide (kd = 4) = false := by simpa using h4
              by_cases h5 : kd = 5
              · as_aux_lemma =>
                subst h5
                have hI' := hI.setLimit (id := id) b3 b4
                go_wp2_with (first
                  | ((with_reducible refine at_alloc ?_); refine wpu_new G ?_; clear G; intro w G)
                  | ((with_reducible refine at_drew ?_); refine wpu_drew G ?_; clear G; intro w G)
                  | ((with_reducible refine at_load ?_); first
                    | (refine wpu_load G rfl rfl rfl rfl ?_; go_frame)
                    | (refine wpu_loadB G rfl rfl rfl (by rfl) ?_; go_frame)
                    | (refine wpu_loadS G rfl rfl rfl (by rfl) ?_; simp only [List.drop_succ_cons, List.drop_zero, List.take_succ_cons, List.take_zero]; go_frame))
                  | ((with_reducible refine at_store ?_); first
                    | (refine wpu_store G rfl rfl rfl rfl (by first | rfl | assumption | simp [*]) rfl ?_; clear G; intro w G; go_frame)
                    | (refine wpu_storeB G rfl rfl rfl rfl (by rfl) (by rfl) (by first | rfl | assumption | simp [*]) ?_; clear G; intro w G; go_frame)
                    | (refine wpu_storeS G rfl rfl rfl rfl (by rfl) (by rfl) (by first | rfl | assumption | simp [*]) ?_; clear G; intro w G; go_frame))
                  | ((with_reducible refine at_convert ?_); refine wpu_str G rfl rfl rfl rfl ?_; go_frame)
                  | ((with_reducible refine at_slice ?_); first
                    | (refine wpu_sliceLo rfl rfl rfl rfl (by first | rfl | omega) (by omega) (by omega) ?_; go_frame)
                    | (refine wpu_sliceLH rfl rfl rfl rfl rfl (by first | rfl | omega) (by first | rfl | omega) (by omega) (by omega) ?_; go_frame))
                  | ((with_reducible refine at_load ?_); refine wpu_loadF (HR.out.old G) HX.out rfl rfl rfl rfl ?_; go_frame)
                  | ((with_reducible refine at_load ?_); refine wpu_loadF0 (HR.out.old G) HX.out rfl rfl rfl rfl ?_; go_frame)
                  | ((with_reducible refine at_append ?_); refine wpu_append1 G rfl rfl rfl rfl (by rfl) (by rfl) (by unfold maxLen; omega) (by omega) ?_; clear G; intro v w G; obtain ⟨qo, qc, rfl, i3, i4⟩ := G.hdr v; go_frame)
                  | fail)
                refine Calls.mono (setLimit (n := id) (G.pullF (idsA a))) ?_
                clear hI
                have hI := hI'
                clear hI'
                clear G; rintro e w ⟨rfl, G⟩
                obtain ⟨s', hs'⟩ : ∃ s', ({ s with limit := max id 0 } : IdS) = s' := ⟨_, rfl⟩
                have hsv' : s'.server = sv := by rw [← hs']; exact hsv
                clear hsv
                have hsv := hsv'
                clear hsv'
                rw [hs'] at G hI
                clear hs'
                go_wp2_with (first
                  | ((with_reducible refine at_alloc ?_); refine wpu_new G ?_; clear G; intro w G)
                  | ((with_reducible refine at_drew ?_); refine wpu_drew G ?_; clear G; intro w G)
                  | ((with_reducible refine at_load ?_); first
                    | (refine wpu_load G rfl rfl rfl rfl ?_; go_frame)
                    | (refine wpu_loadB G rfl rfl rfl (by rfl) ?_; go_frame)
                    | (refine wpu_loadS G rfl rfl rfl (by rfl) ?_; simp only [List.drop_succ_cons, List.drop_zero, List.take_succ_cons, List.take_zero]; go_frame))
                  | ((with_reducible refine at_store ?_); first
                    | (refine wpu_store G rfl rfl rfl rfl (by first | rfl | assumption | simp [*]) rfl ?_; clear G; intro w G; go_frame)
                    | (refine wpu_storeB G rfl rfl rfl rfl (by rfl) (by rfl) (by first | rfl | assumption | simp [*]) ?_; clear G; intro w G; go_frame)
                    | (refine wpu_storeS G rfl rfl rfl rfl (by rfl) (by rfl) (by first | rfl | assumption | simp [*]) ?_; clear G; intro w G; go_frame))
                  | ((with_reducible refine at_convert ?_); refine wpu_str G rfl rfl rfl rfl ?_; go_frame)
                  | ((with_reducible refine at_slice ?_); first
                    | (refine wpu_sliceLo rfl rfl rfl rfl (by first | rfl | omega) (by omega) (by omega) ?_; go_frame)
                    | (refine wpu_sliceLH rfl rfl rfl rfl rfl (by first | rfl | omega) (by first | rfl | omega) (by omega) (by omega) ?_; go_frame))
                  | ((with_reducible refine at_load ?_); refine wpu_loadF (HR.out.old G) HX.out rfl rfl rfl rfl ?_; go_frame)
                  | ((with_reducible refine at_load ?_); refine wpu_loadF0 (HR.out.old G) HX.out rfl rfl rfl rfl ?_; go_frame)
                  | ((with_reducible refine at_append ?_); refine wpu_append1 G rfl rfl rfl rfl (by rfl) (by rfl) (by unfold maxLen; omega) (by omega) ?_; clear G; intro v w G; obtain ⟨qo, qc, rfl, i3, i4⟩ := G.hdr v; go_frame)
                  | fail)
                have hln := hI.len
                have hN : (s'.act.length : Int) = L.length := by have := hln.1; (try simp only [List.length_append, List.length_cons, List.length_nil] at this); omega
                have hln2 := hln.2.1
                have hln3 := hln.2.2.1
                have hln4 := hln.2.2.2
                clear hln
                refine Calls.mono (activeI (n := k + 1) (G.pullF (idsA a)) hI.inn.ok (by omega)) ?_
                clear G; rintro e w ⟨rfl, G⟩
                rw [hI.hth, hN]
                clear hN
                go_wp2_with (first
                  | ((with_reducible refine at_alloc ?_); refine wpu_new G ?_; clear G; intro w G)
                  | ((with_reducible refine at_drew ?_); refine wpu_drew G ?_; clear G; intro w G)
                  | ((with_reducible refine at_load ?_); first
                    | (refine wpu_load G rfl rfl rfl rfl ?_; go_frame)
                    | (refine wpu_loadB G rfl rfl rfl (by rfl) ?_; go_frame)
                    | (refine wpu_loadS G rfl rfl rfl (by rfl) ?_; simp only [List.drop_succ_cons, List.drop_zero, List.take_succ_cons, List.take_zero]; go_frame))
                  | ((with_reducible refine at_store ?_); first
                    | (refine wpu_store G rfl rfl rfl rfl (by first | rfl | assumption | simp [*]) rfl ?_; clear G; intro w G; go_frame)
                    | (refine wpu_storeB G rfl rfl rfl rfl (by rfl) (by rfl) (by first | rfl | assumption | simp [*]) ?_; clear G; intro w G; go_frame)
                    | (refine wpu_storeS G rfl rfl rfl rfl (by rfl) (by rfl) (by first | rfl | assumption | simp [*]) ?_; clear G; intro w G; go_frame))
                  | ((with_reducible refine at_convert ?_); refine wpu_str G rfl rfl rfl rfl ?_; go_frame)
                  | ((with_reducible refine at_slice ?_); first
                    | (refine wpu_sliceLo rfl rfl rfl rfl (by first | rfl | omega) (by omega) (by omega) ?_; go_frame)
                    | (refine wpu_sliceLH rfl rfl rfl rfl rfl (by first | rfl | omega) (by first | rfl | omega) (by omega) (by omega) ?_; go_frame))
                  | ((with_reducible refine at_load ?_); refine wpu_loadF (HR.out.old G) HX.out rfl rfl rfl rfl ?_; go_frame)
                  | ((with_reducible refine at_load ?_); refine wpu_loadF0 (HR.out.old G) HX.out rfl rfl rfl rfl ?_; go_frame)
                  | ((with_reducible refine at_append ?_); refine wpu_append1 G rfl rfl rfl rfl (by rfl) (by rfl) (by unfold maxLen; omega) (by omega) ?_; clear G; intro v w G; obtain ⟨qo, qc, rfl, i3, i4⟩ := G.hdr v; go_frame)
                  | fail)
                go_roundw
                case rel => exact ⟨k + 1, s', _, _, _, _, by omega, by omega, by go_num, rfl, rfl, rfl, hI, hsv, G.give⟩
                case measure => simp [intOf] <;> omega
              · as_aux_lemma =>
                have h5b : (kd == 5) = false := by simpa using h5
                have h5d : decide (kd = 5) = false := by simpa using h5
                obtain ⟨s', hs'⟩ : ∃ s', s = s' := ⟨_, rfl⟩
                subst hs'
                have hI' := hI.step
                clear hI
                have hI := hI'
                clear hI'
                obtain ⟨s', hs'⟩ : ∃ s', s = s' := ⟨_, rfl⟩
                rw [hs'] at G hI hsv
                clear hs'
                go_wp2_with (first
                  | ((with_reducible refine at_alloc ?_); refine wpu_new G ?_; clear G; intro w G)
                  | ((with_reducible refine at_drew ?_); refine wpu_drew G ?_; clear G; intro w G)
                  | ((with_reducible refine at_load ?_); first
                    | (refine wpu_load G rfl rfl rfl rfl ?_; go_frame)
                    | (refine wpu_loadB G rfl rfl rfl (by rfl) ?_; go_frame)
                    | (refine wpu_loadS G rfl rfl rfl (by rfl) ?_; simp only [List.drop_succ_cons, List.drop_zero, List.take_succ_cons, List.take_zero]; go_frame))
                  | ((with_reducible refine at_store ?_); first
                    | (refine wpu_store G rfl rfl rfl rfl (by first | rfl | assumption | simp [*]) rfl ?_; clear G; intro w G; go_frame)
                    | (refine wpu_storeB G rfl rfl rfl rfl (by rfl) (by rfl) (by first | rfl | assumption | simp [*]) ?_; clear G; intro w G; go_frame)
                    | (refine wpu_storeS G rfl rfl rfl rfl (by rfl) (by rfl) (by first | rfl | assumption | simp [*]) ?_; clear G; intro w G; go_frame))
                  | ((with_reducible refine at_convert ?_); refine wpu_str G rfl rfl rfl rfl ?_; go_frame)
                  | ((with_reducible refine at_slice ?_); first
                    | (refine wpu_sliceLo rfl rfl rfl rfl (by first | rfl | omega) (by omega) (by omega) ?_; go_frame)
                    | (refine wpu_sliceLH rfl rfl rfl rfl rfl (by first | rfl | omega) (by first | rfl | omega) (by omega) (by omega) ?_; go_frame))
                  | ((with_reducible refine at_load ?_); refine wpu_loadF (HR.out.old G) HX.out rfl rfl rfl rfl ?_; go_frame)
                  | ((with_reducible refine at_load ?_); refine wpu_loadF0 (HR.out.old G) HX.out rfl rfl rfl rfl ?_; go_frame)
                  | ((with_reducible refine at_append ?_); refine wpu_append1 G rfl rfl rfl rfl (by rfl) (by rfl) (by unfold maxLen; omega) (by omega) ?_; clear G; intro v w G; obtain ⟨qo, qc, rfl, i3, i4⟩ := G.hdr v; go_frame)
                  | fail)
                have hln := hI.len
                have hN : (s'.act.length : Int) = L.length := by have := hln.1; (try simp only [List.length_append, List.length_cons, List.length_nil] at this); omega
                have hln2 := hln.2.1
                have hln3 := hln.2.2.1
                have hln4 := hln.2.2.2
                clear hln
                refine Calls.mono (activeI (n := k + 1) (G.pullF (idsA a)) hI.inn.ok (by omega)) ?_
                clear G; rintro e w ⟨rfl, G⟩
                rw [hI.hth, hN]
                clear hN
                go_wp2_with (first
                  | ((with_reducible refine at_alloc ?_); refine wpu_new G ?_; clear G; intro w G)
                  | ((with_reducible refine at_drew ?_); refine wpu_drew G ?_; clear G; intro w G)
                  | ((with_reducible refine at_load ?_); first
                    | (refine wpu_load G rfl rfl rfl rfl ?_; go_frame)
                    | (refine wpu_loadB G rfl rfl rfl (by rfl) ?_; go_frame)
                    | (refine wpu_loadS G rfl rfl rfl (by rfl) ?_; simp only [List.drop_succ_cons, List.drop_zero, List.take_succ_cons, List.take_zero]; go_frame))
                  | ((with_reducible refine at_store ?_); first
                    | (refine wpu_store G rfl rfl rfl rfl (by first | rfl | assumption | simp [*]) rfl ?_; clear G; intro w G; go_frame)
                    | (refine wpu_storeB G rfl rfl rfl rfl (by rfl) (by rfl) (by first | rfl | assumption | simp [*]) ?_; clear G; intro w G; go_frame)
                    | (refine wpu_storeS G rfl rfl rfl rfl (by rfl) (by rfl) (by first | rfl | assumption | simp [*]) ?_; clear G; intro w G; go_frame))
                  | ((with_reducible refine at_convert ?_); refine wpu_str G rfl rfl rfl rfl ?_; go_frame)
                  | ((with_reducible refine at_slice ?_); first
                    | (refine wpu_sliceLo rfl rfl rfl rfl (by first | rfl | omega) (by omega) (by omega) ?_; go_frame)
                    | (refine wpu_sliceLH rfl rfl rfl rfl rfl (by first | rfl | omega) (by first | rfl | omega) (by omega) (by omega) ?_; go_frame))
                  | ((with_reducible refine at_load ?_); refine wpu_loadF (HR.out.old G) HX.out rfl rfl rfl rfl ?_; go_frame)
                  | ((with_reducible refine at_load ?_); refine wpu_loadF0 (HR.out.old G) HX.out rfl rfl rfl rfl ?_; go_frame)
                  | ((with_reducible refine at_append ?_); refine wpu_append1 G rfl rfl rfl rfl (by rfl) (by rfl) (by unfold maxLen; omega) (by omega) ?_; clear G; intro v w G; obtain ⟨qo, qc, rfl, i3, i4⟩ := G.hdr v; go_frame)
                  | fail)
                go_roundw
                case rel => exact ⟨k + 1, s', _, _, _, _, by omega, by omega, by go_num, rfl, rfl, rfl, hI, hsv, G.give⟩
                case measure => simp [intOf] <;> omega
    · skip
      go_wp2_with (first
        | ((with_reducible refine at_alloc ?_); refine wpu_new G ?_; clear G; intro w G)
        | ((with_reducible refine at_drew ?_); refine wpu_drew G ?_; clear G; intro w G)
        | ((with_reducible refine at_load ?_); first
          | (refine wpu_load G rfl rfl rfl rfl ?_; go_frame)
          | (refine wpu_loadB G rfl rfl rfl (by rfl) ?_; go_frame)
          | (refine wpu_loadS G rfl rfl rfl (by rfl) ?_; simp only [List.drop_succ_cons, List.drop_zero, List.take_succ_cons, List.take_zero]; go_frame))
        | ((with_reducible refine at_store ?_); first
          | (refine wpu_store G rfl rfl rfl rfl (by first | rfl | assumption | simp [*]) rfl ?_; clear G; intro w G; go_frame)
          | (refine wpu_storeB G rfl rfl rfl rfl (by rfl) (by rfl) (by first | rfl | assumption | simp [*]) ?_; clear G; intro w G; go_frame)
          | (refine wpu_storeS G rfl rfl rfl rfl (by rfl) (by rfl) (by first | rfl | assumption | simp [*]) ?_; clear G; intro w G; go_frame))
        | ((with_reducible refine at_convert ?_); refine wpu_str G rfl rfl rfl rfl ?_; go_frame)
        | ((with_reducible refine at_slice ?_); first
          | (refine wpu_sliceLo rfl rfl rfl rfl (by first | rfl | omega) (by omega) (by omega) ?_; go_frame)
          | (refine wpu_sliceLH rfl rfl rfl rfl rfl (by first | rfl | omega) (by first | rfl | omega) (by omega) (by omega) ?_; go_frame))
        | ((with_reducible refine at_load ?_); refine wpu_loadF (HR.out.old G) HX.out rfl rfl rfl rfl ?_; go_frame)
        | ((with_reducible refine at_load ?_); refine wpu_loadF0 (HR.out.old G) HX.out rfl rfl rfl rfl ?_; go_frame)
        | ((with_reducible refine at_append ?_); refine wpu_append1 G rfl rfl rfl rfl (by rfl) (by rfl) (by unfold maxLen; omega) (by omega) ?_; clear G; intro v w G; obtain ⟨qo, qc, rfl, i3, i4⟩ := G.hdr v; go_frame)
        | fail)
      all_goals
        go_ret
        exact ⟨rfl, G.below⟩

theorem contract {H : Type} {enc : TypeId × Value → H} {W : World} {vs : List Value} {ds : List (DataW H)}
    (hA : Args enc Try.prog W [4, 3, 42] vs ds) (hsz : (DataW.weightsEach Try.prog [4, 3, 42] ds).all (· ≤ reachBytes) = true) :
    Calls Try.prog 8 vs.toArray W fun e W' => e = .returned (.bool true) ∧ Below W.heap.size W W' := by
  obtain ⟨v0, _, d0, _, rfl, rfl, h0, hA⟩ := args_cons hA
  obtain ⟨v1, _, d1, _, rfl, rfl, h1, hA⟩ := args_cons hA
  obtain ⟨v2, _, d2, _, rfl, rfl, h2, hA⟩ := args_cons hA
  obtain ⟨rfl, rfl⟩ := args_nil hA
  obtain ⟨sv, rfl⟩ := arg_bool Try.underlying4 h0
  obtain ⟨m, rfl, m1, m2⟩ := arg_i64 Try.underlying3 h1
  obtain ⟨n, xs, hr, hel⟩ := ops_in h2
  exact countsW m1 m2 hr hel


theorem spec {H : Type} : ∀ ds : List (DataW H), ds.length = 3 → Rows.streamCountsSpec.fn H ds = { results := [.lit (.bool true)], args := ds }
  | [_, _, _], _ => rfl
  | [], h => by cases h
  | [_], h => by cases h
  | [_, _], h => by cases h
  | _ :: _ :: _ :: _ :: _, h => by simp at h
set_option maxRecDepth 100000 in
theorem lifted (os : Os) (started : os.Started) (H : Type) (enc : TypeId × Value → H) :
    ReturnsInHanded {} Try.checked os 8 .any (Rows.streamCountsSpec.pre6 enc Try.prog Try.f8 Rows.streamCountsRow.domain false) (Rows.streamCountsSpec.post enc Try.prog Try.f8 false true false false) :=
  lifted_of_law (C := Try.checked) (fn := Try.f8) (s := Rows.streamCountsSpec) (tb := 4) (by kernel_rfl) started (by kernel_rfl) Try.func8
    (ChangeSpec.witness6 (enc := enc) (C := Try.checked) false ⟨#[], #[.bool false, .int .i64 0, .slice none 0 0], []⟩ 8 (by kernel_rfl) (by kernel_rfl) (by kernel_rfl) (by kernel_rfl))
    rfl spec (by kernel_rfl) Try.underlying4 (by kernel_rfl) (by kernel_rfl) (fun _ _ _ h1 h2 => contract h1 h2)

theorem proved : Rows.StreamCountsSaid :=
  OpenClaim.holds_of_wide 8 Try.f8 rfl rfl rfl rfl rfl rfl rfl ⟨rfl, rfl, rfl, rfl, rfl⟩ rfl rfl rfl rfl rfl (by kernel_rfl) Try.func8 (by kernel_rfl)
    (of_decide_eq_true (by kernel_rfl)) (by unfold Func.isWrapper; first | (rw [if_pos (by decide +kernel)]; kernel_rfl) | (rw [if_neg (by decide +kernel)]; exact ⟨rfl, rfl⟩))
    (fun os started H enc _ => lifted os started H enc)
end Go.Proofs.Ytadbpekkmlblmaa.streamCounts
