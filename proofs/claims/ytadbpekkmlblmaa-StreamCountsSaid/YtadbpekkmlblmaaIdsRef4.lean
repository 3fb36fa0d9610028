
/-
  The document's streams of a connection, on: Close.
-/
import Derived.Test.YtadbpekkmlblmaaIdsRef3
namespace Go.Proofs.Ytadbpekkmlblmaa
open Go.RowKit Go.Sl


section
variable {B w : World} {A R : Assn} {a : Nat} {s : IdS}

theorem filter_take_succ (p : Int → Bool) {L : List Int} {k : Nat} (h : k < L.length) : (L.take (k + 1)).filter p = (L.take k).filter p ++ if p L[k] then [L[k]] else [] := by
  rw [List.take_succ_eq_append_getElem h, List.filter_append]
  congr 1
  simp [List.filter_cons]

theorem perm_filter {L S : List Int} (hp : L.Perm S) (hd : S.Nodup) (id : Int) : (L.filter (· != id)).Perm (S.erase id) := by
  rw [hd.erase_eq_filter]
  exact hp.filter _

theorem filter_len {L S : List Int} (hp : L.Perm S) (hd : S.Nodup) (id : Int) : (L.filter (· != id)).length = if id ∈ S then S.length - 1 else S.length := by
  rw [(perm_filter hp hd id).length_eq]
  split
  · rename_i h; exact List.length_erase_of_mem h
  · rename_i h; rw [List.erase_of_not_mem h]

set_option maxRecDepth 100000 in
theorem closeR {k0 : Nat} {id : Int} (h : Own B (idsR a s * R) w) (hin : s.In k0) (hk0 : k0 ≤ 1000) (i1 : -9223372036854775808 ≤ id) (i2 : id ≤ 9223372036854775807) :
    Calls Try.prog 22 #[.pointer (some ⟨a, 0, none⟩), .int .i64 id] w fun e w' => e = .returned (.int .i64 (s.closed id).2) ∧ Own B (idsR a (s.closed id).1 * R) w' := by
  obtain ⟨v, L, hp, G⟩ := idsR_open h
  clear h
  have hl := hp.length_eq
  have hlen := hin.len
  have hP := Lib.hid hp
  have hF := Lib.hid (filter_len hp hin.nodup id)
  have hD := Lib.hid hin.nodup
  have h1 := (G.rd v _ G).one
  obtain ⟨po, pc, rfl, i3, i4⟩ := G.hdr v
  unfold maxLen at i4
  have hlen' : L.length ≤ 1000 := by omega
  clear hp hl hlen
  obtain ⟨r, hr⟩ : ∃ r, s.closed id = r := ⟨_, rfl⟩
  rw [hr]
  have HR := Lib.hid hr
  clear hr
  go_enter Try.func22, Try.ntmps22
  go_wp2_with (first
    | ((with_reducible refine at_alloc ?_); refine wpu_new G ?_; clear G; intro w G)
    | ((with_reducible refine at_drew ?_); refine wpu_drew G ?_; clear G; intro w G)
    | ((with_reducible refine at_load ?_); first
      | (refine wpu_load G rfl rfl rfl rfl ?_; go_frame)
      | (refine wpu_loadB G rfl rfl rfl (by rfl) ?_; go_frame)
      | (refine wpu_loadS G rfl rfl rfl (by rfl) ?_; simp only [List.drop_succ_cons, List.drop_zero, List.take_succ_cons, List.take_zero]; go_frame))
    | ((with_reducible refine at_store ?_); first
      | (refine wpu_store G rfl rfl rfl rfl (by first | rfl | assumption | simp [*]) rfl ?_; clear G; intro w G; go_frame)
      | (refine wpu_storeB G rfl rfl rfl rfl (by rfl) (by rfl) (by first | rfl | assumption | simp [*]) ?_; clear G; intro w G; go_frame)
      | (refine wpu_storeS G rfl rfl rfl rfl (by rfl) (by rfl) (by first | rfl | assumption | simp [*]) ?_; clear G; intro w G; go_frame))
    | ((with_reducible refine at_convert ?_); refine wpu_str G rfl rfl rfl rfl ?_; go_frame)
    | ((with_reducible refine at_slice ?_); first
      | (refine wpu_sliceLo rfl rfl rfl rfl (by first | rfl | omega) (by omega) (by omega) ?_; go_frame)
      | (refine wpu_sliceLH rfl rfl rfl rfl rfl (by first | rfl | omega) (by first | rfl | omega) (by omega) (by omega) ?_; go_frame))
    | fail)
  go_loopw [5, 6] (fun u i wr => ∃ (k : Nat) (F : List Int), k ≤ L.length ∧ i = .int .i64 k ∧ F = (L.take k).filter (· != id) ∧ Own B (blk a (s.rcs (.slice po L.length pc)) * (sl 1 (.slice po L.length pc) L.length (ints L) * (sl 1 u F.length (ints F) * R))) wr) (fun _ i _ => L.length - (intOf i).toNat)
  case atStart =>
    refine ⟨0, [], Nat.zero_le _, rfl, rfl, ?_⟩
    exact (own_sl_mk (sz := 1) (n := 0) (cap := 0) (off := 0) (xs := []) (Nat.le_refl _) (Nat.zero_le _) (by simp) (by simp) (by simp) (own_new G [] _)).eq (by show sl 1 _ 0 [] * _ = blk a _ * (sl 1 _ _ _ * (sl 1 _ 0 [] * R)); ac_rfl)
  case round =>
    clear G
    obtain ⟨k, F, hk, rfl, hf, G⟩ := hrel
    have HF := Lib.hid hf
    have hfl : F.length ≤ k := by rw [hf]; exact Nat.le_trans (List.length_filter_le _ _) (by simp; omega)
    clear hf
    rename_i u5 _
    obtain ⟨fo, fc, rfl, i5, i6⟩ := G.hdr u5
    simp only [IdS.rcs] at G
    by_cases hlt : k < L.length
    · obtain ⟨ad, rfl⟩ := rd_some (G.rd (.slice po L.length pc) _ G) (by omega)
      have hx := ints_at hlt
      have hs := filter_take_succ (· != id) hlt
      rw [← HF.out] at hs
      generalize L[k] = x at hx hs
      have HX := Lib.hid hx
      have HS := Lib.hid hs
      clear hx hs
      cases hq : (x == id)
      · skip
        have hq2 : decide (x = id) = (x == id) := rfl
        rw [hq] at hq2
        have hs2 := HS.out
        have hq3 : (x != id) = !(x == id) := rfl
        rw [hq3, hq] at hs2
        simp at hs2
        have HS2 := Lib.hid hs2
        clear hs2 hq3
        go_wp2_with (first
          | ((with_reducible refine at_alloc ?_); refine wpu_new G ?_; clear G; intro w G)
          | ((with_reducible refine at_drew ?_); refine wpu_drew G ?_; clear G; intro w G)
          | ((with_reducible refine at_load ?_); first
            | (refine wpu_load G rfl rfl rfl rfl ?_; go_frame)
            | (refine wpu_loadB G rfl rfl rfl (by rfl) ?_; go_frame)
            | (refine wpu_loadS G rfl rfl rfl (by rfl) ?_; simp only [List.drop_succ_cons, List.drop_zero, List.take_succ_cons, List.take_zero]; go_frame))
          | ((with_reducible refine at_store ?_); first
            | (refine wpu_store G rfl rfl rfl rfl (by first | rfl | assumption | simp [*]) rfl ?_; clear G; intro w G; go_frame)
            | (refine wpu_storeB G rfl rfl rfl rfl (by rfl) (by rfl) (by first | rfl | assumption | simp [*]) ?_; clear G; intro w G; go_frame)
            | (refine wpu_storeS G rfl rfl rfl rfl (by rfl) (by rfl) (by first | rfl | assumption | simp [*]) ?_; clear G; intro w G; go_frame))
          | ((with_reducible refine at_convert ?_); refine wpu_str G rfl rfl rfl rfl ?_; go_frame)
          | ((with_reducible refine at_slice ?_); first
            | (refine wpu_sliceLo rfl rfl rfl rfl (by first | rfl | omega) (by omega) (by omega) ?_; go_frame)
            | (refine wpu_sliceLH rfl rfl rfl rfl rfl (by first | rfl | omega) (by first | rfl | omega) (by omega) (by omega) ?_; go_frame))
          | ((with_reducible refine at_load ?_); refine wpu_loadC (G.rd (.slice (some ad) L.length pc) _ G) HX.out rfl rfl rfl ?_; go_frame)
          | ((with_reducible refine at_append ?_); refine wpu_append1 G rfl rfl rfl rfl (by rfl) (by rfl) (by unfold maxLen; omega) (by omega) ?_; clear G; intro v w G; go_frame))
        have e1 : F.length + 1 = (F ++ [x]).length := by simp
        have e2 : ints F ++ [.int .i64 x] = ints (F ++ [x]) := ints_app F [x]
        go_roundw
        case rel => exact ⟨k + 1, F ++ [x], by omega, by go_num, HS2.out.symm, (G.eq (by rw [e1, e2]; show sl 1 _ _ _ * (blk a _ * (sl 1 _ _ _ * R)) = _; ac_rfl))⟩
        case measure => simp [intOf] <;> omega
      · skip
        have hq2 : decide (x = id) = (x == id) := rfl
        rw [hq] at hq2
        have hs2 := HS.out
        have hq3 : (x != id) = !(x == id) := rfl
        rw [hq3, hq] at hs2
        simp at hs2
        have HS2 := Lib.hid hs2
        clear hs2 hq3
        go_wp2_with (first
          | ((with_reducible refine at_alloc ?_); refine wpu_new G ?_; clear G; intro w G)
          | ((with_reducible refine at_drew ?_); refine wpu_drew G ?_; clear G; intro w G)
          | ((with_reducible refine at_load ?_); first
            | (refine wpu_load G rfl rfl rfl rfl ?_; go_frame)
            | (refine wpu_loadB G rfl rfl rfl (by rfl) ?_; go_frame)
            | (refine wpu_loadS G rfl rfl rfl (by rfl) ?_; simp only [List.drop_succ_cons, List.drop_zero, List.take_succ_cons, List.take_zero]; go_frame))
          | ((with_reducible refine at_store ?_); first
            | (refine wpu_store G rfl rfl rfl rfl (by first | rfl | assumption | simp [*]) rfl ?_; clear G; intro w G; go_frame)
            | (refine wpu_storeB G rfl rfl rfl rfl (by rfl) (by rfl) (by first | rfl | assumption | simp [*]) ?_; clear G; intro w G; go_frame)
            | (refine wpu_storeS G rfl rfl rfl rfl (by rfl) (by rfl) (by first | rfl | assumption | simp [*]) ?_; clear G; intro w G; go_frame))
          | ((with_reducible refine at_convert ?_); refine wpu_str G rfl rfl rfl rfl ?_; go_frame)
          | ((with_reducible refine at_slice ?_); first
            | (refine wpu_sliceLo rfl rfl rfl rfl (by first | rfl | omega) (by omega) (by omega) ?_; go_frame)
            | (refine wpu_sliceLH rfl rfl rfl rfl rfl (by first | rfl | omega) (by first | rfl | omega) (by omega) (by omega) ?_; go_frame))
          | ((with_reducible refine at_load ?_); refine wpu_loadC (G.rd (.slice (some ad) L.length pc) _ G) HX.out rfl rfl rfl ?_; go_frame)
          | ((with_reducible refine at_append ?_); refine wpu_append1 G rfl rfl rfl rfl (by rfl) (by rfl) (by unfold maxLen; omega) (by omega) ?_; clear G; intro v w G; go_frame))
        go_roundw
        case rel => exact ⟨k + 1, F, by omega, by go_num, HS2.out.symm, G⟩
        case measure => simp [intOf] <;> omega
    · have hkl : k = L.length := by omega
      subst hkl
      have hf := HF.out
      rw [List.take_length] at hf
      have HFF := Lib.hid hf
      have hff := hF.out
      rw [← hf] at hff
      have hl := hP.out.length_eq
      have HL := Lib.hid hl
      clear hf HF hF
      by_cases hm : id ∈ s.act
      · rw [if_pos hm] at hff
        have hpos := List.length_pos_of_mem hm
        have hfl2 : F.length + 1 = L.length := by omega
        clear hff hpos hl
        have HM := Lib.hid hm
        clear hm
        go_wp2_with (first
          | ((with_reducible refine at_alloc ?_); refine wpu_new G ?_; clear G; intro w G)
          | ((with_reducible refine at_drew ?_); refine wpu_drew G ?_; clear G; intro w G)
          | ((with_reducible refine at_load ?_); first
            | (refine wpu_load G rfl rfl rfl rfl ?_; go_frame)
            | (refine wpu_loadB G rfl rfl rfl (by rfl) ?_; go_frame)
            | (refine wpu_loadS G rfl rfl rfl (by rfl) ?_; simp only [List.drop_succ_cons, List.drop_zero, List.take_succ_cons, List.take_zero]; go_frame))
          | ((with_reducible refine at_store ?_); first
            | (refine wpu_store G rfl rfl rfl rfl (by first | rfl | assumption | simp [*]) rfl ?_; clear G; intro w G; go_frame)
            | (refine wpu_storeB G rfl rfl rfl rfl (by rfl) (by rfl) (by first | rfl | assumption | simp [*]) ?_; clear G; intro w G; go_frame)
            | (refine wpu_storeS G rfl rfl rfl rfl (by rfl) (by rfl) (by first | rfl | assumption | simp [*]) ?_; clear G; intro w G; go_frame))
          | ((with_reducible refine at_convert ?_); refine wpu_str G rfl rfl rfl rfl ?_; go_frame)
          | ((with_reducible refine at_slice ?_); first
            | (refine wpu_sliceLo rfl rfl rfl rfl (by first | rfl | omega) (by omega) (by omega) ?_; go_frame)
            | (refine wpu_sliceLH rfl rfl rfl rfl rfl (by first | rfl | omega) (by first | rfl | omega) (by omega) (by omega) ?_; go_frame))
          | fail)
        go_ret
        rw [← HR.out]
        unfold IdS.closed
        rw [if_pos HM.out]
        exact ⟨rfl, (idsR_close (v := .slice fo F.length fc) (L := F) (G.bs a (.slice fo F.length fc)) { s with act := s.act.erase id, theirs := if (id % 2 == 1) = s.server then s.theirs - 1 else s.theirs } (by rfl) (HFF.out ▸ perm_filter hP.out hD.out id)).give⟩
      · rw [if_neg hm] at hff
        have hfl2 : F.length = L.length := by omega
        clear hff hl
        have HM := Lib.hid hm
        clear hm
        go_wp2_with (first
          | ((with_reducible refine at_alloc ?_); refine wpu_new G ?_; clear G; intro w G)
          | ((with_reducible refine at_drew ?_); refine wpu_drew G ?_; clear G; intro w G)
          | ((with_reducible refine at_load ?_); first
            | (refine wpu_load G rfl rfl rfl rfl ?_; go_frame)
            | (refine wpu_loadB G rfl rfl rfl (by rfl) ?_; go_frame)
            | (refine wpu_loadS G rfl rfl rfl (by rfl) ?_; simp only [List.drop_succ_cons, List.drop_zero, List.take_succ_cons, List.take_zero]; go_frame))
          | ((with_reducible refine at_store ?_); first
            | (refine wpu_store G rfl rfl rfl rfl (by first | rfl | assumption | simp [*]) rfl ?_; clear G; intro w G; go_frame)
            | (refine wpu_storeB G rfl rfl rfl rfl (by rfl) (by rfl) (by first | rfl | assumption | simp [*]) ?_; clear G; intro w G; go_frame)
            | (refine wpu_storeS G rfl rfl rfl rfl (by rfl) (by rfl) (by first | rfl | assumption | simp [*]) ?_; clear G; intro w G; go_frame))
          | ((with_reducible refine at_convert ?_); refine wpu_str G rfl rfl rfl rfl ?_; go_frame)
          | ((with_reducible refine at_slice ?_); first
            | (refine wpu_sliceLo rfl rfl rfl rfl (by first | rfl | omega) (by omega) (by omega) ?_; go_frame)
            | (refine wpu_sliceLH rfl rfl rfl rfl rfl (by first | rfl | omega) (by first | rfl | omega) (by omega) (by omega) ?_; go_frame))
          | fail)
        go_ret
        rw [← HR.out]
        unfold IdS.closed
        rw [if_neg HM.out]
        exact ⟨rfl, (idsR_close (v := .slice po L.length pc) (L := L) (G.bs a (.slice po L.length pc)) s (by rfl) hP.out).give⟩
end
end Go.Proofs.Ytadbpekkmlblmaa
