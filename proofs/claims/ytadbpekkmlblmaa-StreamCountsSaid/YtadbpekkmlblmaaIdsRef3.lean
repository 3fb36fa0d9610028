
/-
  The document's streams of a connection, on: Open, Next, Close.
-/
import Derived.Test.YtadbpekkmlblmaaIdsRef2
namespace Go.Proofs.Ytadbpekkmlblmaa
open Go.RowKit Go.Sl


section
variable {B w : World} {A R : Assn} {a : Nat} {s : IdS}

set_option maxRecDepth 100000 in
theorem openR {id : Int} {k : Nat} (h : Own B (idsR a s * R) w) (hin : s.In k) (hk : k ≤ 1000) (i1 : -9223372036854775808 ≤ id) (i2 : id ≤ 9223372036854775807) :
    Calls Try.prog 20 #[.pointer (some ⟨a, 0, none⟩), .int .i64 id] w fun e w' => e = .returned (.agg (s.opened id).2.toArray) ∧ Own B (idsR a (s.opened id).1 * R) w' := by
  obtain ⟨v, L, hp, G⟩ := idsR_open h
  clear h
  have hl := hp.length_eq
  have hlen := hin.len
  have hpos := hin.posL hp
  have hcnt := hin.cntL hp
  have hP := Lib.hid hp
  have h1 := (G.rd v _ G).one
  obtain ⟨po, pc, rfl, i3, i4⟩ := G.hdr v
  unfold maxLen at i4
  clear hp
  by_cases hc : s.cls id = 1
  · by_cases hm : s.most ≤ s.theirs
    · have HE := Lib.hid (IdS.opened_full hc hm)
      have HC := Lib.hid hc
      rw [HE.out]
      clear hc
      go_enter Try.func20, Try.ntmps20
      go_wp2_with (first
        | ((with_reducible refine at_alloc ?_); refine wpu_new G ?_; clear G; intro w G)
        | ((with_reducible refine at_drew ?_); refine wpu_drew G ?_; clear G; intro w G)
        | ((with_reducible refine at_load ?_); first
          | (refine wpu_load G rfl rfl rfl rfl ?_; go_frame)
          | (refine wpu_loadB G rfl rfl rfl (by rfl) ?_; go_frame)
          | (refine wpu_loadS G rfl rfl rfl (by rfl) ?_; simp only [List.drop_succ_cons, List.drop_zero, List.take_succ_cons, List.take_zero]; go_frame))
        | ((with_reducible refine at_store ?_); first
          | (refine wpu_store G rfl rfl rfl rfl (by first | rfl | assumption | simp [*]) rfl ?_; clear G; intro w G; go_frame)
          | (refine wpu_storeB G rfl rfl rfl rfl (by rfl) (by rfl) (by first | rfl | assumption | simp [*]) ?_; clear G; intro w G; go_frame)
          | (refine wpu_storeS G rfl rfl rfl rfl (by rfl) (by rfl) (by first | rfl | assumption | simp [*]) ?_; clear G; intro w G; go_frame))
        | ((with_reducible refine at_convert ?_); refine wpu_str G rfl rfl rfl rfl ?_; go_frame)
        | ((with_reducible refine at_slice ?_); first
          | (refine wpu_sliceLo rfl rfl rfl rfl (by first | rfl | omega) (by omega) (by omega) ?_; go_frame)
          | (refine wpu_sliceLH rfl rfl rfl rfl rfl (by first | rfl | omega) (by first | rfl | omega) (by omega) (by omega) ?_; go_frame))
        | ((with_reducible refine at_append ?_); refine wpu_append1 G rfl rfl rfl rfl (by rfl) (by rfl) (by unfold maxLen; omega) (by omega) ?_; clear G; intro v w G; obtain ⟨qo, qc, rfl, i3, i4⟩ := G.hdr v; go_frame)
        | fail)
      refine Calls.mono (classR (s := s) (v := .slice po L.length pc) (G.at1 a) i1 i2) ?_
      clear G; rintro e w ⟨rfl, G⟩
      rw [HC.out]
      simp only [IdS.rcs] at G
      go_wp2_with (first
        | ((with_reducible refine at_alloc ?_); refine wpu_new G ?_; clear G; intro w G)
        | ((with_reducible refine at_drew ?_); refine wpu_drew G ?_; clear G; intro w G)
        | ((with_reducible refine at_load ?_); first
          | (refine wpu_load G rfl rfl rfl rfl ?_; go_frame)
          | (refine wpu_loadB G rfl rfl rfl (by rfl) ?_; go_frame)
          | (refine wpu_loadS G rfl rfl rfl (by rfl) ?_; simp only [List.drop_succ_cons, List.drop_zero, List.take_succ_cons, List.take_zero]; go_frame))
        | ((with_reducible refine at_store ?_); first
          | (refine wpu_store G rfl rfl rfl rfl (by first | rfl | assumption | simp [*]) rfl ?_; clear G; intro w G; go_frame)
          | (refine wpu_storeB G rfl rfl rfl rfl (by rfl) (by rfl) (by first | rfl | assumption | simp [*]) ?_; clear G; intro w G; go_frame)
          | (refine wpu_storeS G rfl rfl rfl rfl (by rfl) (by rfl) (by first | rfl | assumption | simp [*]) ?_; clear G; intro w G; go_frame))
        | ((with_reducible refine at_convert ?_); refine wpu_str G rfl rfl rfl rfl ?_; go_frame)
        | ((with_reducible refine at_slice ?_); first
          | (refine wpu_sliceLo rfl rfl rfl rfl (by first | rfl | omega) (by omega) (by omega) ?_; go_frame)
          | (refine wpu_sliceLH rfl rfl rfl rfl rfl (by first | rfl | omega) (by first | rfl | omega) (by omega) (by omega) ?_; go_frame))
        | ((with_reducible refine at_append ?_); refine wpu_append1 G rfl rfl rfl rfl (by rfl) (by rfl) (by unfold maxLen; omega) (by omega) ?_; clear G; intro v w G; obtain ⟨qo, qc, rfl, i3, i4⟩ := G.hdr v; go_frame)
        | fail)
      refine Calls.mono (activeL (s := { s with last := id }) (v := .slice po L.length pc) (L := L) (G.bs a (.slice po L.length pc)) hpos (by omega)) ?_
      clear G; rintro e w ⟨rfl, G⟩
      simp only [IdS.rcs] at G
      rw [show ({ s with last := id } : IdS).their = s.their from rfl, hcnt]
      go_wp2_with (first
        | ((with_reducible refine at_alloc ?_); refine wpu_new G ?_; clear G; intro w G)
        | ((with_reducible refine at_drew ?_); refine wpu_drew G ?_; clear G; intro w G)
        | ((with_reducible refine at_load ?_); first
          | (refine wpu_load G rfl rfl rfl rfl ?_; go_frame)
          | (refine wpu_loadB G rfl rfl rfl (by rfl) ?_; go_frame)
          | (refine wpu_loadS G rfl rfl rfl (by rfl) ?_; simp only [List.drop_succ_cons, List.drop_zero, List.take_succ_cons, List.take_zero]; go_frame))
        | ((with_reducible refine at_store ?_); first
          | (refine wpu_store G rfl rfl rfl rfl (by first | rfl | assumption | simp [*]) rfl ?_; clear G; intro w G; go_frame)
          | (refine wpu_storeB G rfl rfl rfl rfl (by rfl) (by rfl) (by first | rfl | assumption | simp [*]) ?_; clear G; intro w G; go_frame)
          | (refine wpu_storeS G rfl rfl rfl rfl (by rfl) (by rfl) (by first | rfl | assumption | simp [*]) ?_; clear G; intro w G; go_frame))
        | ((with_reducible refine at_convert ?_); refine wpu_str G rfl rfl rfl rfl ?_; go_frame)
        | ((with_reducible refine at_slice ?_); first
          | (refine wpu_sliceLo rfl rfl rfl rfl (by first | rfl | omega) (by omega) (by omega) ?_; go_frame)
          | (refine wpu_sliceLH rfl rfl rfl rfl rfl (by first | rfl | omega) (by first | rfl | omega) (by omega) (by omega) ?_; go_frame))
        | ((with_reducible refine at_append ?_); refine wpu_append1 G rfl rfl rfl rfl (by rfl) (by rfl) (by unfold maxLen; omega) (by omega) ?_; clear G; intro v w G; obtain ⟨qo, qc, rfl, i3, i4⟩ := G.hdr v; go_frame)
        | fail)
      try simp only [Exit.inBlock, Exit.then]
      refine bodyPost_ret (results1 rfl (by first | exact resT rfl | exact resB G rfl (by rfl) | exact resO G rfl rfl)) rfl ?_
      exact ⟨rfl, (idsR_close (v := .slice po L.length pc) (L := L) (G.bs a (.slice po L.length pc)) { s with last := id } (by rfl) hP.out).give⟩
    · have HE := Lib.hid (IdS.opened_yes hc hm (by obtain ⟨a1, a2, a3, a4⟩ := (IdS.cls_one s id).1 hc; exact hin.fresh a4 a3))
      have HC := Lib.hid hc
      rw [HE.out]
      clear hc
      go_enter Try.func20, Try.ntmps20
      go_wp2_with (first
        | ((with_reducible refine at_alloc ?_); refine wpu_new G ?_; clear G; intro w G)
        | ((with_reducible refine at_drew ?_); refine wpu_drew G ?_; clear G; intro w G)
        | ((with_reducible refine at_load ?_); first
          | (refine wpu_load G rfl rfl rfl rfl ?_; go_frame)
          | (refine wpu_loadB G rfl rfl rfl (by rfl) ?_; go_frame)
          | (refine wpu_loadS G rfl rfl rfl (by rfl) ?_; simp only [List.drop_succ_cons, List.drop_zero, List.take_succ_cons, List.take_zero]; go_frame))
        | ((with_reducible refine at_store ?_); first
          | (refine wpu_store G rfl rfl rfl rfl (by first | rfl | assumption | simp [*]) rfl ?_; clear G; intro w G; go_frame)
          | (refine wpu_storeB G rfl rfl rfl rfl (by rfl) (by rfl) (by first | rfl | assumption | simp [*]) ?_; clear G; intro w G; go_frame)
          | (refine wpu_storeS G rfl rfl rfl rfl (by rfl) (by rfl) (by first | rfl | assumption | simp [*]) ?_; clear G; intro w G; go_frame))
        | ((with_reducible refine at_convert ?_); refine wpu_str G rfl rfl rfl rfl ?_; go_frame)
        | ((with_reducible refine at_slice ?_); first
          | (refine wpu_sliceLo rfl rfl rfl rfl (by first | rfl | omega) (by omega) (by omega) ?_; go_frame)
          | (refine wpu_sliceLH rfl rfl rfl rfl rfl (by first | rfl | omega) (by first | rfl | omega) (by omega) (by omega) ?_; go_frame))
        | ((with_reducible refine at_append ?_); refine wpu_append1 G rfl rfl rfl rfl (by rfl) (by rfl) (by unfold maxLen; omega) (by omega) ?_; clear G; intro v w G; obtain ⟨qo, qc, rfl, i3, i4⟩ := G.hdr v; go_frame)
        | fail)
      refine Calls.mono (classR (s := s) (v := .slice po L.length pc) (G.at1 a) i1 i2) ?_
      clear G; rintro e w ⟨rfl, G⟩
      rw [HC.out]
      simp only [IdS.rcs] at G
      go_wp2_with (first
        | ((with_reducible refine at_alloc ?_); refine wpu_new G ?_; clear G; intro w G)
        | ((with_reducible refine at_drew ?_); refine wpu_drew G ?_; clear G; intro w G)
        | ((with_reducible refine at_load ?_); first
          | (refine wpu_load G rfl rfl rfl rfl ?_; go_frame)
          | (refine wpu_loadB G rfl rfl rfl (by rfl) ?_; go_frame)
          | (refine wpu_loadS G rfl rfl rfl (by rfl) ?_; simp only [List.drop_succ_cons, List.drop_zero, List.take_succ_cons, List.take_zero]; go_frame))
        | ((with_reducible refine at_store ?_); first
          | (refine wpu_store G rfl rfl rfl rfl (by first | rfl | assumption | simp [*]) rfl ?_; clear G; intro w G; go_frame)
          | (refine wpu_storeB G rfl rfl rfl rfl (by rfl) (by rfl) (by first | rfl | assumption | simp [*]) ?_; clear G; intro w G; go_frame)
          | (refine wpu_storeS G rfl rfl rfl rfl (by rfl) (by rfl) (by first | rfl | assumption | simp [*]) ?_; clear G; intro w G; go_frame))
        | ((with_reducible refine at_convert ?_); refine wpu_str G rfl rfl rfl rfl ?_; go_frame)
        | ((with_reducible refine at_slice ?_); first
          | (refine wpu_sliceLo rfl rfl rfl rfl (by first | rfl | omega) (by omega) (by omega) ?_; go_frame)
          | (refine wpu_sliceLH rfl rfl rfl rfl rfl (by first | rfl | omega) (by first | rfl | omega) (by omega) (by omega) ?_; go_frame))
        | ((with_reducible refine at_append ?_); refine wpu_append1 G rfl rfl rfl rfl (by rfl) (by rfl) (by unfold maxLen; omega) (by omega) ?_; clear G; intro v w G; obtain ⟨qo, qc, rfl, i3, i4⟩ := G.hdr v; go_frame)
        | fail)
      refine Calls.mono (activeL (s := { s with last := id }) (v := .slice po L.length pc) (L := L) (G.bs a (.slice po L.length pc)) hpos (by omega)) ?_
      clear G; rintro e w ⟨rfl, G⟩
      simp only [IdS.rcs] at G
      rw [show ({ s with last := id } : IdS).their = s.their from rfl, hcnt]
      go_wp2_with (first
        | ((with_reducible refine at_alloc ?_); refine wpu_new G ?_; clear G; intro w G)
        | ((with_reducible refine at_drew ?_); refine wpu_drew G ?_; clear G; intro w G)
        | ((with_reducible refine at_load ?_); first
          | (refine wpu_load G rfl rfl rfl rfl ?_; go_frame)
          | (refine wpu_loadB G rfl rfl rfl (by rfl) ?_; go_frame)
          | (refine wpu_loadS G rfl rfl rfl (by rfl) ?_; simp only [List.drop_succ_cons, List.drop_zero, List.take_succ_cons, List.take_zero]; go_frame))
        | ((with_reducible refine at_store ?_); first
          | (refine wpu_store G rfl rfl rfl rfl (by first | rfl | assumption | simp [*]) rfl ?_; clear G; intro w G; go_frame)
          | (refine wpu_storeB G rfl rfl rfl rfl (by rfl) (by rfl) (by first | rfl | assumption | simp [*]) ?_; clear G; intro w G; go_frame)
          | (refine wpu_storeS G rfl rfl rfl rfl (by rfl) (by rfl) (by first | rfl | assumption | simp [*]) ?_; clear G; intro w G; go_frame))
        | ((with_reducible refine at_convert ?_); refine wpu_str G rfl rfl rfl rfl ?_; go_frame)
        | ((with_reducible refine at_slice ?_); first
          | (refine wpu_sliceLo rfl rfl rfl rfl (by first | rfl | omega) (by omega) (by omega) ?_; go_frame)
          | (refine wpu_sliceLH rfl rfl rfl rfl rfl (by first | rfl | omega) (by first | rfl | omega) (by omega) (by omega) ?_; go_frame))
        | ((with_reducible refine at_append ?_); refine wpu_append1 G rfl rfl rfl rfl (by rfl) (by rfl) (by unfold maxLen; omega) (by omega) ?_; clear G; intro v w G; obtain ⟨qo, qc, rfl, i3, i4⟩ := G.hdr v; go_frame)
        | fail)
      try simp only [Exit.inBlock, Exit.then]
      refine bodyPost_ret (results1 rfl (by first | exact resT rfl | exact resB G rfl (by rfl) | exact resO G rfl rfl)) rfl ?_
      have e1 : L.length + 1 = (L ++ [id]).length := by simp
      have e2 : ints L ++ [.int .i64 id] = ints (L ++ [id]) := ints_app L [id]
      refine ⟨rfl, (idsR_close (v := .slice qo (L.length + 1) qc) (L := L ++ [id]) ((G.bs a (.slice qo (L.length + 1) qc)).eq (by rw [← e1, ← e2])) { s with last := id, act := id :: s.act, theirs := s.theirs + 1 } (by rfl) ?_).give⟩
      exact (List.perm_append_comm).trans (hP.out.cons id)
  · have HE := Lib.hid (IdS.opened_no hc)
    rw [HE.out]
    have hcb : (s.cls id == 1) = false := by simpa using hc
    have hcd : decide (s.cls id = 1) = false := by simpa using hc
    go_enter Try.func20, Try.ntmps20
    go_wp2_with (first
      | ((with_reducible refine at_alloc ?_); refine wpu_new G ?_; clear G; intro w G)
      | ((with_reducible refine at_drew ?_); refine wpu_drew G ?_; clear G; intro w G)
      | ((with_reducible refine at_load ?_); first
        | (refine wpu_load G rfl rfl rfl rfl ?_; go_frame)
        | (refine wpu_loadB G rfl rfl rfl (by rfl) ?_; go_frame)
        | (refine wpu_loadS G rfl rfl rfl (by rfl) ?_; simp only [List.drop_succ_cons, List.drop_zero, List.take_succ_cons, List.take_zero]; go_frame))
      | ((with_reducible refine at_store ?_); first
        | (refine wpu_store G rfl rfl rfl rfl (by first | rfl | assumption | simp [*]) rfl ?_; clear G; intro w G; go_frame)
        | (refine wpu_storeB G rfl rfl rfl rfl (by rfl) (by rfl) (by first | rfl | assumption | simp [*]) ?_; clear G; intro w G; go_frame)
        | (refine wpu_storeS G rfl rfl rfl rfl (by rfl) (by rfl) (by first | rfl | assumption | simp [*]) ?_; clear G; intro w G; go_frame))
      | ((with_reducible refine at_convert ?_); refine wpu_str G rfl rfl rfl rfl ?_; go_frame)
      | ((with_reducible refine at_slice ?_); first
        | (refine wpu_sliceLo rfl rfl rfl rfl (by first | rfl | omega) (by omega) (by omega) ?_; go_frame)
        | (refine wpu_sliceLH rfl rfl rfl rfl rfl (by first | rfl | omega) (by first | rfl | omega) (by omega) (by omega) ?_; go_frame))
      | ((with_reducible refine at_append ?_); refine wpu_append1 G rfl rfl rfl rfl (by rfl) (by rfl) (by unfold maxLen; omega) (by omega) ?_; clear G; intro v w G; obtain ⟨qo, qc, rfl, i3, i4⟩ := G.hdr v; go_frame)
      | fail)
    refine Calls.mono (classR (s := s) (v := .slice po L.length pc) (G.at1 a) i1 i2) ?_
    clear G; rintro e w ⟨rfl, G⟩
    simp only [IdS.rcs] at G
    go_wp2_with (first
      | ((with_reducible refine at_alloc ?_); refine wpu_new G ?_; clear G; intro w G)
      | ((with_reducible refine at_drew ?_); refine wpu_drew G ?_; clear G; intro w G)
      | ((with_reducible refine at_load ?_); first
        | (refine wpu_load G rfl rfl rfl rfl ?_; go_frame)
        | (refine wpu_loadB G rfl rfl rfl (by rfl) ?_; go_frame)
        | (refine wpu_loadS G rfl rfl rfl (by rfl) ?_; simp only [List.drop_succ_cons, List.drop_zero, List.take_succ_cons, List.take_zero]; go_frame))
      | ((with_reducible refine at_store ?_); first
        | (refine wpu_store G rfl rfl rfl rfl (by first | rfl | assumption | simp [*]) rfl ?_; clear G; intro w G; go_frame)
        | (refine wpu_storeB G rfl rfl rfl rfl (by rfl) (by rfl) (by first | rfl | assumption | simp [*]) ?_; clear G; intro w G; go_frame)
        | (refine wpu_storeS G rfl rfl rfl rfl (by rfl) (by rfl) (by first | rfl | assumption | simp [*]) ?_; clear G; intro w G; go_frame))
      | ((with_reducible refine at_convert ?_); refine wpu_str G rfl rfl rfl rfl ?_; go_frame)
      | ((with_reducible refine at_slice ?_); first
        | (refine wpu_sliceLo rfl rfl rfl rfl (by first | rfl | omega) (by omega) (by omega) ?_; go_frame)
        | (refine wpu_sliceLH rfl rfl rfl rfl rfl (by first | rfl | omega) (by first | rfl | omega) (by omega) (by omega) ?_; go_frame))
      | ((with_reducible refine at_append ?_); refine wpu_append1 G rfl rfl rfl rfl (by rfl) (by rfl) (by unfold maxLen; omega) (by omega) ?_; clear G; intro v w G; obtain ⟨qo, qc, rfl, i3, i4⟩ := G.hdr v; go_frame)
      | fail)
    try simp only [Exit.inBlock, Exit.then]
    refine bodyPost_ret (results1 rfl (by first | exact resT rfl | exact resB G rfl (by rfl) | exact resO G rfl rfl)) rfl ?_
    exact ⟨rfl, (idsR_close (v := .slice po L.length pc) (L := L) (G.bs a (.slice po L.length pc)) s (by rfl) hP.out).give⟩

set_option maxRecDepth 100000 in
theorem nextR {k : Nat} (h : Own B (idsR a s * R) w) (hin : s.In k) (hk : k ≤ 1000) :
    Calls Try.prog 21 #[.pointer (some ⟨a, 0, none⟩)] w fun e w' => e = .returned (.tuple #[.int .i64 s.nexted.2.1, .int .i64 s.nexted.2.2]) ∧ Own B (idsR a s.nexted.1 * R) w' := by
  obtain ⟨v, L, hp, G⟩ := idsR_open h
  clear h
  have hl := hp.length_eq
  have hlen := hin.len
  have hpos := hin.posL hp
  have hcnt := hin.cntL hp
  have hn0 := hin.next0
  have hn1 := hin.next1
  have hP := Lib.hid hp
  have h1 := (G.rd v _ G).one
  obtain ⟨po, pc, rfl, i3, i4⟩ := G.hdr v
  unfold maxLen at i4
  clear hp
  by_cases hc : s.limit ≤ s.act.length - s.theirs
  · have HE := Lib.hid (IdS.nexted_full hc)
    rw [HE.out]
    have hcd : decide (s.limit ≤ s.act.length - s.theirs) = true := by simpa using hc
    have HC := Lib.hid hc
    clear hc
    go_enter Try.func21, Try.ntmps21
    go_wp2_with (first
      | ((with_reducible refine at_alloc ?_); refine wpu_new G ?_; clear G; intro w G)
      | ((with_reducible refine at_drew ?_); refine wpu_drew G ?_; clear G; intro w G)
      | ((with_reducible refine at_load ?_); first
        | (refine wpu_load G rfl rfl rfl rfl ?_; go_frame)
        | (refine wpu_loadB G rfl rfl rfl (by rfl) ?_; go_frame)
        | (refine wpu_loadS G rfl rfl rfl (by rfl) ?_; simp only [List.drop_succ_cons, List.drop_zero, List.take_succ_cons, List.take_zero]; go_frame))
      | ((with_reducible refine at_store ?_); first
        | (refine wpu_store G rfl rfl rfl rfl (by first | rfl | assumption | simp [*]) rfl ?_; clear G; intro w G; go_frame)
        | (refine wpu_storeB G rfl rfl rfl rfl (by rfl) (by rfl) (by first | rfl | assumption | simp [*]) ?_; clear G; intro w G; go_frame)
        | (refine wpu_storeS G rfl rfl rfl rfl (by rfl) (by rfl) (by first | rfl | assumption | simp [*]) ?_; clear G; intro w G; go_frame))
      | ((with_reducible refine at_convert ?_); refine wpu_str G rfl rfl rfl rfl ?_; go_frame)
      | ((with_reducible refine at_slice ?_); first
        | (refine wpu_sliceLo rfl rfl rfl rfl (by first | rfl | omega) (by omega) (by omega) ?_; go_frame)
        | (refine wpu_sliceLH rfl rfl rfl rfl rfl (by first | rfl | omega) (by first | rfl | omega) (by omega) (by omega) ?_; go_frame))
      | ((with_reducible refine at_append ?_); refine wpu_append1 G rfl rfl rfl rfl (by rfl) (by rfl) (by unfold maxLen; omega) (by omega) ?_; clear G; intro v w G; obtain ⟨qo, qc, rfl, i3, i4⟩ := G.hdr v; go_frame)
      | fail)
    refine Calls.mono (activeL (s := s) (v := .slice po L.length pc) (L := L) (G.bs a (.slice po L.length pc)) hpos (by omega)) ?_
    clear G; rintro e w ⟨rfl, G⟩
    simp only [IdS.rcs] at G
    rw [hcnt, hl]
    rw [hl] at G
    go_wp2_with (first
      | ((with_reducible refine at_alloc ?_); refine wpu_new G ?_; clear G; intro w G)
      | ((with_reducible refine at_drew ?_); refine wpu_drew G ?_; clear G; intro w G)
      | ((with_reducible refine at_load ?_); first
        | (refine wpu_load G rfl rfl rfl rfl ?_; go_frame)
        | (refine wpu_loadB G rfl rfl rfl (by rfl) ?_; go_frame)
        | (refine wpu_loadS G rfl rfl rfl (by rfl) ?_; simp only [List.drop_succ_cons, List.drop_zero, List.take_succ_cons, List.take_zero]; go_frame))
      | ((with_reducible refine at_store ?_); first
        | (refine wpu_store G rfl rfl rfl rfl (by first | rfl | assumption | simp [*]) rfl ?_; clear G; intro w G; go_frame)
        | (refine wpu_storeB G rfl rfl rfl rfl (by rfl) (by rfl) (by first | rfl | assumption | simp [*]) ?_; clear G; intro w G; go_frame)
        | (refine wpu_storeS G rfl rfl rfl rfl (by rfl) (by rfl) (by first | rfl | assumption | simp [*]) ?_; clear G; intro w G; go_frame))
      | ((with_reducible refine at_convert ?_); refine wpu_str G rfl rfl rfl rfl ?_; go_frame)
      | ((with_reducible refine at_slice ?_); first
        | (refine wpu_sliceLo rfl rfl rfl rfl (by first | rfl | omega) (by omega) (by omega) ?_; go_frame)
        | (refine wpu_sliceLH rfl rfl rfl rfl rfl (by first | rfl | omega) (by first | rfl | omega) (by omega) (by omega) ?_; go_frame))
      | ((with_reducible refine at_append ?_); refine wpu_append1 G rfl rfl rfl rfl (by rfl) (by rfl) (by unfold maxLen; omega) (by omega) ?_; clear G; intro v w G; obtain ⟨qo, qc, rfl, i3, i4⟩ := G.hdr v; go_frame)
      | fail)
    try simp only [Exit.inBlock, Exit.then]
    refine bodyPost_ret (results2 rfl (by first | exact resT rfl | exact resB G rfl (by rfl) | exact resO G rfl rfl) (by first | exact resT rfl | exact resB G rfl (by rfl) | exact resO G rfl rfl)) rfl ?_
    rw [← hl] at G
    exact ⟨rfl, (idsR_close (v := .slice po L.length pc) (L := L) (G.bs a (.slice po L.length pc)) s (by rfl) hP.out).give⟩
  · have hcd : decide (s.limit ≤ s.act.length - s.theirs) = false := by simpa using hc
    by_cases hn : 2147483647 < s.next
    · have HE := Lib.hid (IdS.nexted_out hc hn)
      rw [HE.out]
      have HC := Lib.hid hc
      clear hc
      go_enter Try.func21, Try.ntmps21
      go_wp2_with (first
        | ((with_reducible refine at_alloc ?_); refine wpu_new G ?_; clear G; intro w G)
        | ((with_reducible refine at_drew ?_); refine wpu_drew G ?_; clear G; intro w G)
        | ((with_reducible refine at_load ?_); first
          | (refine wpu_load G rfl rfl rfl rfl ?_; go_frame)
          | (refine wpu_loadB G rfl rfl rfl (by rfl) ?_; go_frame)
          | (refine wpu_loadS G rfl rfl rfl (by rfl) ?_; simp only [List.drop_succ_cons, List.drop_zero, List.take_succ_cons, List.take_zero]; go_frame))
        | ((with_reducible refine at_store ?_); first
          | (refine wpu_store G rfl rfl rfl rfl (by first | rfl | assumption | simp [*]) rfl ?_; clear G; intro w G; go_frame)
          | (refine wpu_storeB G rfl rfl rfl rfl (by rfl) (by rfl) (by first | rfl | assumption | simp [*]) ?_; clear G; intro w G; go_frame)
          | (refine wpu_storeS G rfl rfl rfl rfl (by rfl) (by rfl) (by first | rfl | assumption | simp [*]) ?_; clear G; intro w G; go_frame))
        | ((with_reducible refine at_convert ?_); refine wpu_str G rfl rfl rfl rfl ?_; go_frame)
        | ((with_reducible refine at_slice ?_); first
          | (refine wpu_sliceLo rfl rfl rfl rfl (by first | rfl | omega) (by omega) (by omega) ?_; go_frame)
          | (refine wpu_sliceLH rfl rfl rfl rfl rfl (by first | rfl | omega) (by first | rfl | omega) (by omega) (by omega) ?_; go_frame))
        | ((with_reducible refine at_append ?_); refine wpu_append1 G rfl rfl rfl rfl (by rfl) (by rfl) (by unfold maxLen; omega) (by omega) ?_; clear G; intro v w G; obtain ⟨qo, qc, rfl, i3, i4⟩ := G.hdr v; go_frame)
        | fail)
      refine Calls.mono (activeL (s := s) (v := .slice po L.length pc) (L := L) (G.bs a (.slice po L.length pc)) hpos (by omega)) ?_
      clear G; rintro e w ⟨rfl, G⟩
      simp only [IdS.rcs] at G
      rw [hcnt, hl]
      rw [hl] at G
      go_wp2_with (first
        | ((with_reducible refine at_alloc ?_); refine wpu_new G ?_; clear G; intro w G)
        | ((with_reducible refine at_drew ?_); refine wpu_drew G ?_; clear G; intro w G)
        | ((with_reducible refine at_load ?_); first
          | (refine wpu_load G rfl rfl rfl rfl ?_; go_frame)
          | (refine wpu_loadB G rfl rfl rfl (by rfl) ?_; go_frame)
          | (refine wpu_loadS G rfl rfl rfl (by rfl) ?_; simp only [List.drop_succ_cons, List.drop_zero, List.take_succ_cons, List.take_zero]; go_frame))
        | ((with_reducible refine at_store ?_); first
          | (refine wpu_store G rfl rfl rfl rfl (by first | rfl | assumption | simp [*]) rfl ?_; clear G; intro w G; go_frame)
          | (refine wpu_storeB G rfl rfl rfl rfl (by rfl) (by rfl) (by first | rfl | assumption | simp [*]) ?_; clear G; intro w G; go_frame)
          | (refine wpu_storeS G rfl rfl rfl rfl (by rfl) (by rfl) (by first | rfl | assumption | simp [*]) ?_; clear G; intro w G; go_frame))
        | ((with_reducible refine at_convert ?_); refine wpu_str G rfl rfl rfl rfl ?_; go_frame)
        | ((with_reducible refine at_slice ?_); first
          | (refine wpu_sliceLo rfl rfl rfl rfl (by first | rfl | omega) (by omega) (by omega) ?_; go_frame)
          | (refine wpu_sliceLH rfl rfl rfl rfl rfl (by first | rfl | omega) (by first | rfl | omega) (by omega) (by omega) ?_; go_frame))
        | ((with_reducible refine at_append ?_); refine wpu_append1 G rfl rfl rfl rfl (by rfl) (by rfl) (by unfold maxLen; omega) (by omega) ?_; clear G; intro v w G; obtain ⟨qo, qc, rfl, i3, i4⟩ := G.hdr v; go_frame)
        | fail)
      try simp only [Exit.inBlock, Exit.then]
      refine bodyPost_ret (results2 rfl (by first | exact resT rfl | exact resB G rfl (by rfl) | exact resO G rfl rfl) (by first | exact resT rfl | exact resB G rfl (by rfl) | exact resO G rfl rfl)) rfl ?_
      rw [← hl] at G
      exact ⟨rfl, (idsR_close (v := .slice po L.length pc) (L := L) (G.bs a (.slice po L.length pc)) s (by rfl) hP.out).give⟩
    · have HE := Lib.hid (IdS.nexted_yes hc hn hin.freshN)
      rw [HE.out]
      have HC := Lib.hid hc
      clear hc
      go_enter Try.func21, Try.ntmps21
      go_wp2_with (first
        | ((with_reducible refine at_alloc ?_); refine wpu_new G ?_; clear G; intro w G)
        | ((with_reducible refine at_drew ?_); refine wpu_drew G ?_; clear G; intro w G)
        | ((with_reducible refine at_load ?_); first
          | (refine wpu_load G rfl rfl rfl rfl ?_; go_frame)
          | (refine wpu_loadB G rfl rfl rfl (by rfl) ?_; go_frame)
          | (refine wpu_loadS G rfl rfl rfl (by rfl) ?_; simp only [List.drop_succ_cons, List.drop_zero, List.take_succ_cons, List.take_zero]; go_frame))
        | ((with_reducible refine at_store ?_); first
          | (refine wpu_store G rfl rfl rfl rfl (by first | rfl | assumption | simp [*]) rfl ?_; clear G; intro w G; go_frame)
          | (refine wpu_storeB G rfl rfl rfl rfl (by rfl) (by rfl) (by first | rfl | assumption | simp [*]) ?_; clear G; intro w G; go_frame)
          | (refine wpu_storeS G rfl rfl rfl rfl (by rfl) (by rfl) (by first | rfl | assumption | simp [*]) ?_; clear G; intro w G; go_frame))
        | ((with_reducible refine at_convert ?_); refine wpu_str G rfl rfl rfl rfl ?_; go_frame)
        | ((with_reducible refine at_slice ?_); first
          | (refine wpu_sliceLo rfl rfl rfl rfl (by first | rfl | omega) (by omega) (by omega) ?_; go_frame)
          | (refine wpu_sliceLH rfl rfl rfl rfl rfl (by first | rfl | omega) (by first | rfl | omega) (by omega) (by omega) ?_; go_frame))
        | ((with_reducible refine at_append ?_); refine wpu_append1 G rfl rfl rfl rfl (by rfl) (by rfl) (by unfold maxLen; omega) (by omega) ?_; clear G; intro v w G; obtain ⟨qo, qc, rfl, i3, i4⟩ := G.hdr v; go_frame)
        | fail)
      refine Calls.mono (activeL (s := s) (v := .slice po L.length pc) (L := L) (G.bs a (.slice po L.length pc)) hpos (by omega)) ?_
      clear G; rintro e w ⟨rfl, G⟩
      simp only [IdS.rcs] at G
      rw [hcnt, hl]
      rw [hl] at G
      go_wp2_with (first
        | ((with_reducible refine at_alloc ?_); refine wpu_new G ?_; clear G; intro w G)
        | ((with_reducible refine at_drew ?_); refine wpu_drew G ?_; clear G; intro w G)
        | ((with_reducible refine at_load ?_); first
          | (refine wpu_load G rfl rfl rfl rfl ?_; go_frame)
          | (refine wpu_loadB G rfl rfl rfl (by rfl) ?_; go_frame)
          | (refine wpu_loadS G rfl rfl rfl (by rfl) ?_; simp only [List.drop_succ_cons, List.drop_zero, List.take_succ_cons, List.take_zero]; go_frame))
        | ((with_reducible refine at_store ?_); first
          | (refine wpu_store G rfl rfl rfl rfl (by first | rfl | assumption | simp [*]) rfl ?_; clear G; intro w G; go_frame)
          | (refine wpu_storeB G rfl rfl rfl rfl (by rfl) (by rfl) (by first | rfl | assumption | simp [*]) ?_; clear G; intro w G; go_frame)
          | (refine wpu_storeS G rfl rfl rfl rfl (by rfl) (by rfl) (by first | rfl | assumption | simp [*]) ?_; clear G; intro w G; go_frame))
        | ((with_reducible refine at_convert ?_); refine wpu_str G rfl rfl rfl rfl ?_; go_frame)
        | ((with_reducible refine at_slice ?_); first
          | (refine wpu_sliceLo rfl rfl rfl rfl (by first | rfl | omega) (by omega) (by omega) ?_; go_frame)
          | (refine wpu_sliceLH rfl rfl rfl rfl rfl (by first | rfl | omega) (by first | rfl | omega) (by omega) (by omega) ?_; go_frame))
        | ((with_reducible refine at_append ?_); refine wpu_append1 G rfl rfl rfl rfl (by rfl) (by rfl) (by unfold maxLen; omega) (by omega) ?_; clear G; intro v w G; obtain ⟨qo, qc, rfl, i3, i4⟩ := G.hdr v; go_frame)
        | fail)
      try simp only [Exit.inBlock, Exit.then]
      refine bodyPost_ret (results2 rfl (by first | exact resT rfl | exact resB G rfl (by rfl) | exact resO G rfl rfl) (by first | exact resT rfl | exact resB G rfl (by rfl) | exact resO G rfl rfl)) rfl ?_
      have e1 : s.act.length + 1 = (L ++ [s.next]).length := by simp [hl]
      have e2 : ints L ++ [.int .i64 s.next] = ints (L ++ [s.next]) := ints_app L [s.next]
      refine ⟨rfl, (idsR_close (v := .slice qo (s.act.length + 1) qc) (L := L ++ [s.next]) ((G.bs a (.slice qo (s.act.length + 1) qc)).eq (by rw [← e1, ← e2])) { s with next := s.next + 2, act := s.next :: s.act } (by rfl) ?_).give⟩
      exact (List.perm_append_comm).trans (hP.out.cons s.next)
end
end Go.Proofs.Ytadbpekkmlblmaa
