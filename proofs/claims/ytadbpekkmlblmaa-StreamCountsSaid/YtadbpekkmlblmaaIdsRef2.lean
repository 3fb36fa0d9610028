
/-
  The document's streams of a connection, on: Active, Open, Next, Close.
-/
import Derived.Test.YtadbpekkmlblmaaIdsRef
namespace Go.Proofs.Ytadbpekkmlblmaa
open Go.RowKit Go.Sl


section
variable {B w : World} {A R : Assn} {a : Nat} {s : IdS}

theorem ints_at {L : List Int} {k : Nat} (h : k < L.length) : (ints L)[k]? = some (.int .i64 L[k]) := by simp [ints, h]
theorem countP_take_succ (p : Int → Bool) {L : List Int} {k : Nat} (h : k < L.length) : (L.take (k + 1)).countP p = (L.take k).countP p + if p L[k] then 1 else 0 := by
  rw [List.take_succ_eq_append_getElem h, List.countP_append]
  simp [List.countP_cons]

set_option maxRecDepth 100000 in
theorem activeL {v : Value} {L : List Int} (h : Own B (blk a (s.rcs v) * (sl 1 v L.length (ints L) * R)) w) (hpos : ∀ x ∈ L, 1 ≤ x ∧ x ≤ 2147483649) (hlen : L.length ≤ 1000000) :
    Calls Try.prog 29 #[.pointer (some ⟨a, 0, none⟩)] w fun e w' =>
      e = .returned (.tuple #[.int .i64 (L.countP s.their : Nat), .int .i64 (L.length - (L.countP s.their : Nat))]) ∧ Own B (blk a (s.rcs v) * (sl 1 v L.length (ints L) * R)) w' := by
  have G := h
  obtain ⟨po, pc, rfl, i1, i2⟩ := G.hdr v
  unfold maxLen at i2
  clear h
  go_enter Try.func29, Try.ntmps29
  go_wp2_with fail
  go_loopw [4, 5] (fun c i wr => ∃ k : Nat, k ≤ L.length ∧ i = .int .i64 k ∧ c = .int .i64 ((L.take k).countP s.their : Nat) ∧ Own B (blk a (s.rcs (.slice po L.length pc)) * (sl 1 (.slice po L.length pc) L.length (ints L) * R)) wr) (fun _ i _ => L.length - (intOf i).toNat)
  case atStart => exact ⟨0, Nat.zero_le _, rfl, rfl, G⟩
  case round =>
    clear G
    obtain ⟨k, hk, rfl, rfl, G⟩ := hrel
    have hc : (L.take k).countP s.their ≤ k := Nat.le_trans List.countP_le_length (by simp; omega)
    simp only [IdS.rcs] at G
    by_cases hlt : k < L.length
    · obtain ⟨ad, rfl⟩ := rd_some (G.rd (.slice po L.length pc) _ G) (by omega)
      have hx := ints_at hlt
      have hs := countP_take_succ s.their hlt
      obtain ⟨b1, b2⟩ := hpos _ (List.getElem_mem hlt)
      generalize L[k] = x at hx hs b1 b2
      have HX := Lib.hid hx
      have HS := Lib.hid hs
      clear hx hs
      obtain ⟨c, hcc⟩ : ∃ c, (L.take k).countP s.their = c := ⟨_, rfl⟩
      rw [hcc] at hc
      go_wp2_with (first
        | ((with_reducible refine at_alloc ?_); refine wpu_new G ?_; clear G; intro w G)
        | ((with_reducible refine at_drew ?_); refine wpu_drew G ?_; clear G; intro w G)
        | ((with_reducible refine at_load ?_); first
          | (refine wpu_load G rfl rfl rfl rfl ?_; go_frame)
          | (refine wpu_loadB G rfl rfl rfl (by rfl) ?_; go_frame)
          | (refine wpu_loadS G rfl rfl rfl (by rfl) ?_; simp only [List.drop_succ_cons, List.drop_zero, List.take_succ_cons, List.take_zero]; go_frame))
        | ((with_reducible refine at_store ?_); first
          | (refine wpu_store G rfl rfl rfl rfl (by first | rfl | assumption | simp [*]) rfl ?_; clear G; intro w G; go_frame)
          | (refine wpu_storeB G rfl rfl rfl rfl (by rfl) (by rfl) (by first | rfl | assumption | simp [*]) ?_; clear G; intro w G; go_frame)
          | (refine wpu_storeS G rfl rfl rfl rfl (by rfl) (by rfl) (by first | rfl | assumption | simp [*]) ?_; clear G; intro w G; go_frame))
        | ((with_reducible refine at_convert ?_); refine wpu_str G rfl rfl rfl rfl ?_; go_frame)
        | ((with_reducible refine at_slice ?_); first
          | (refine wpu_sliceLo rfl rfl rfl rfl (by first | rfl | omega) (by omega) (by omega) ?_; go_frame)
          | (refine wpu_sliceLH rfl rfl rfl rfl rfl (by first | rfl | omega) (by first | rfl | omega) (by omega) (by omega) ?_; go_frame))
        | ((with_reducible refine at_load ?_); refine wpu_loadC (G.rd (.slice (some ad) L.length pc) _ G) HX.out rfl rfl rfl ?_; go_frame))
      refine Calls.mono (theirsR (s := s) (v := .slice (some ad) L.length pc) (G.at1 a) b1 (by omega)) ?_
      clear G; rintro e w ⟨rfl, G⟩
      simp only [IdS.rcs] at G
      cases hq : s.their x
      · have hs2 := HS.out
        rw [hq, hcc] at hs2
        simp at hs2
        go_wp2_with fail
        go_roundw
        case rel => exact ⟨k + 1, by omega, by go_num, by rw [hs2], G⟩
        case measure => simp [intOf] <;> omega
      · have hs2 := HS.out
        rw [hq, hcc] at hs2
        simp at hs2
        go_wp2_with fail
        go_roundw
        case rel => exact ⟨k + 1, by omega, by go_num, by rw [hs2]; go_num, G⟩
        case measure => simp [intOf] <;> omega
    · have hkl : k = L.length := by omega
      subst hkl
      rw [List.take_length] at hc ⊢
      obtain ⟨c, hcc⟩ : ∃ c, L.countP s.their = c := ⟨_, rfl⟩
      rw [hcc] at hc ⊢
      have HCC := Lib.hid hcc
      clear hcc
      go_wp2_with (first
        | ((with_reducible refine at_alloc ?_); refine wpu_new G ?_; clear G; intro w G)
        | ((with_reducible refine at_drew ?_); refine wpu_drew G ?_; clear G; intro w G)
        | ((with_reducible refine at_load ?_); first
          | (refine wpu_load G rfl rfl rfl rfl ?_; go_frame)
          | (refine wpu_loadB G rfl rfl rfl (by rfl) ?_; go_frame)
          | (refine wpu_loadS G rfl rfl rfl (by rfl) ?_; simp only [List.drop_succ_cons, List.drop_zero, List.take_succ_cons, List.take_zero]; go_frame))
        | ((with_reducible refine at_store ?_); first
          | (refine wpu_store G rfl rfl rfl rfl (by first | rfl | assumption | simp [*]) rfl ?_; clear G; intro w G; go_frame)
          | (refine wpu_storeB G rfl rfl rfl rfl (by rfl) (by rfl) (by first | rfl | assumption | simp [*]) ?_; clear G; intro w G; go_frame)
          | (refine wpu_storeS G rfl rfl rfl rfl (by rfl) (by rfl) (by first | rfl | assumption | simp [*]) ?_; clear G; intro w G; go_frame))
        | ((with_reducible refine at_convert ?_); refine wpu_str G rfl rfl rfl rfl ?_; go_frame)
        | ((with_reducible refine at_slice ?_); first
          | (refine wpu_sliceLo rfl rfl rfl rfl (by first | rfl | omega) (by omega) (by omega) ?_; go_frame)
          | (refine wpu_sliceLH rfl rfl rfl rfl rfl (by first | rfl | omega) (by first | rfl | omega) (by omega) (by omega) ?_; go_frame))
        | fail)
      refine wp_region_calm (C := Own _ _) (by kernel_rfl) (by kernel_rfl) (own_drew G) ?_
      intro ι W hne hW hs
      repeat (first | ((with_reducible refine atq_load ?_); first | (refine wpq_load hW rfl rfl rfl rfl ?_; go_frame) | (refine wpq_loadB hW rfl rfl rfl (by rfl) ?_; go_frame) | (refine wpq_loadS hW rfl rfl rfl (by rfl) ?_; simp only [List.drop_succ_cons, List.drop_zero, List.take_succ_cons, List.take_zero]; go_frame)) | (fail) | go_big_quiet_step (fail))
      refine wpQuiet_nil ?_
      intro i
      have g := hW i
      generalize W i = wg at g ⊢
      clear  hs hW hne
      have G := g
      clear g
      go_wp2_with fail
      go_ret2
      exact ⟨by rw [HCC.out]; rfl, G⟩

theorem IdS.In.posL {k : Nat} {L : List Int} (h : s.In k) (hp : L.Perm s.act) : ∀ x ∈ L, 1 ≤ x ∧ x ≤ 2147483649 := by
  intro x hx
  have hx := hp.mem_iff.1 hx
  refine ⟨h.pos x hx, ?_⟩
  have := h.next1
  have := h.last1
  cases hq : s.their x
  · have := h.ours x hx hq; omega
  · have := h.their x hx hq; omega
theorem IdS.In.cntL {k : Nat} {L : List Int} (h : s.In k) (hp : L.Perm s.act) : ((L.countP s.their : Nat) : Int) = s.theirs := by rw [hp.countP_eq, h.cnt]

theorem activeR {k : Nat} (h : Own B (idsR a s * R) w) (hin : s.In k) (hk : k ≤ 1000000) :
    Calls Try.prog 29 #[.pointer (some ⟨a, 0, none⟩)] w fun e w' => e = .returned (.tuple #[.int .i64 s.theirs, .int .i64 (s.act.length - s.theirs)]) ∧ Own B (idsR a s * R) w' := by
  obtain ⟨v, L, hp, G⟩ := idsR_open h
  have hl := hp.length_eq
  have := hin.len
  refine Calls.mono (activeL G (hin.posL hp) (by omega)) ?_
  rintro e w ⟨rfl, G⟩
  refine ⟨by rw [hin.cntL hp, hl], idsR_close G s rfl hp⟩
end
end Go.Proofs.Ytadbpekkmlblmaa
