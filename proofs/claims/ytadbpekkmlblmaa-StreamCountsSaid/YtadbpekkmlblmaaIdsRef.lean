
/-
  The document's streams of a connection: what each of their methods does.
-/
import Derived.Test.YtadbpekkmlblmaaIdsIn
import Derived.Test.YtadbpekkmlblmaaAuto2
namespace Go.Proofs.Ytadbpekkmlblmaa
open Go.RowKit Go.Sl

def ints (l : List Int) : List Value := l.map (.int .i64 ·)
theorem ints_len (l : List Int) : (ints l).length = l.length := by simp [ints]
theorem ints_app (l k : List Int) : ints l ++ ints k = ints (l ++ k) := by simp [ints]

def IdS.rcs (s : IdS) (v : Value) : List Value := [.bool s.server, .int .i64 s.most, .int .i64 s.limit, .int .i64 s.last, .int .i64 s.next, v]
/-- the same streams, the active ones in a list -/
def idsR (a : Nat) (s : IdS) : Assn := ex fun p : Value × { L : List Int // L.Perm s.act } => blk a (s.rcs p.1) * sl 1 p.1 p.2.1.length (ints p.2.1)


section
variable {B w : World} {A R : Assn} {a : Nat} {s : IdS}

theorem idsR_open (h : Own B (idsR a s * R) w) : ∃ (v : Value) (L : List Int), L.Perm s.act ∧ Own B (blk a (s.rcs v) * (sl 1 v L.length (ints L) * R)) w := by
  obtain ⟨⟨v, L, hp⟩, g⟩ := own_ex h
  exact ⟨v, L, hp, g.eq (star_assoc _ _ _)⟩
theorem idsR_close {v : Value} {cs : List Value} {L : List Int} (h : Own B (blk a cs * (sl 1 v L.length (ints L) * R)) w) (s : IdS) (hc : cs = s.rcs v) (hp : L.Perm s.act) : Own B (idsR a s * R) w := by
  subst hc
  exact own_ex_mk (f := fun p : Value × { L : List Int // L.Perm s.act } => blk a (s.rcs p.1) * sl 1 p.1 p.2.1.length (ints p.2.1)) ⟨v, L, hp⟩ (h.eq (star_assoc _ _ _).symm)

theorem theirsR {v : Value} {id : Int} (h : Own B (blk a (s.rcs v) * R) w) (i1 : 1 ≤ id) (i2 : id ≤ 9223372036854775807) :
    Calls Try.prog 35 #[.pointer (some ⟨a, 0, none⟩), .int .i64 id] w fun e w' => e = .returned (.bool (s.their id)) ∧ Own B (blk a (s.rcs v) * R) w' := by
  have G := h
  obtain ⟨sv, mo, li, la, ne, ac, th⟩ := s
  obtain ⟨r, hr⟩ : ∃ r, IdS.their ⟨sv, mo, li, la, ne, ac, th⟩ id = r := ⟨_, rfl⟩
  rw [hr]
  have HR := Lib.hid hr
  clear hr
  cases hq : (id % 2 == 1)
  all_goals
    have hp2 : decide (id % 2 = 1) = (id % 2 == 1) := rfl
    rw [hq] at hp2
    have hz : decide (id % 2 = 0) = !(id % 2 == 1) := by
      simp only [beq_eq_false_iff_ne, ne_eq, beq_iff_eq] at hq
      have : id % 2 = 0 ∨ id % 2 = 1 := by omega
      rcases this with h | h <;> simp [h]
    rw [hq] at hz
    have hz2 : (id % 2 == 0) = decide (id % 2 = 0) := rfl
    rw [hz] at hz2
    have HP := Lib.hid hq
    cases sv
    all_goals
      go_enter Try.func35, Try.ntmps35
      go_wp2_with (first
        | ((with_reducible refine at_alloc ?_); refine wpu_new G ?_; clear G; intro w G)
        | ((with_reducible refine at_drew ?_); refine wpu_drew G ?_; clear G; intro w G)
        | ((with_reducible refine at_load ?_); first
          | (refine wpu_load G rfl rfl rfl rfl ?_; go_frame)
          | (refine wpu_loadB G rfl rfl rfl (by rfl) ?_; go_frame)
          | (refine wpu_loadS G rfl rfl rfl (by rfl) ?_; simp only [List.drop_succ_cons, List.drop_zero, List.take_succ_cons, List.take_zero]; go_frame))
        | ((with_reducible refine at_store ?_); first
          | (refine wpu_store G rfl rfl rfl rfl (by first | rfl | assumption | simp [*]) rfl ?_; clear G; intro w G; go_frame)
          | (refine wpu_storeB G rfl rfl rfl rfl (by rfl) (by rfl) (by first | rfl | assumption | simp [*]) ?_; clear G; intro w G; go_frame)
          | (refine wpu_storeS G rfl rfl rfl rfl (by rfl) (by rfl) (by first | rfl | assumption | simp [*]) ?_; clear G; intro w G; go_frame))
        | ((with_reducible refine at_convert ?_); refine wpu_str G rfl rfl rfl rfl ?_; go_frame)
        | ((with_reducible refine at_slice ?_); first
          | (refine wpu_sliceLo rfl rfl rfl rfl (by first | rfl | omega) (by omega) (by omega) ?_; go_frame)
          | (refine wpu_sliceLH rfl rfl rfl rfl rfl (by first | rfl | omega) (by first | rfl | omega) (by omega) (by omega) ?_; go_frame))
        | fail)
      go_ret
      refine ⟨?_, h⟩
      rw [← HR.out]
      simp [IdS.their, HP.out]

theorem classR {v : Value} {id : Int} (h : Own B (blk a (s.rcs v) * R) w) (i1 : -9223372036854775808 ≤ id) (i2 : id ≤ 9223372036854775807) :
    Calls Try.prog 27 #[.pointer (some ⟨a, 0, none⟩), .int .i64 id] w fun e w' => e = .returned (.int .i64 (s.cls id)) ∧ Own B (blk a (s.rcs v) * R) w' := by
  have G := h
  by_cases h1 : id < 1
  · go_enter Try.func27, Try.ntmps27
    go_wp2_with (first
      | ((with_reducible refine at_alloc ?_); refine wpu_new G ?_; clear G; intro w G)
      | ((with_reducible refine at_drew ?_); refine wpu_drew G ?_; clear G; intro w G)
      | ((with_reducible refine at_load ?_); first
        | (refine wpu_load G rfl rfl rfl rfl ?_; go_frame)
        | (refine wpu_loadB G rfl rfl rfl (by rfl) ?_; go_frame)
        | (refine wpu_loadS G rfl rfl rfl (by rfl) ?_; simp only [List.drop_succ_cons, List.drop_zero, List.take_succ_cons, List.take_zero]; go_frame))
      | ((with_reducible refine at_store ?_); first
        | (refine wpu_store G rfl rfl rfl rfl (by first | rfl | assumption | simp [*]) rfl ?_; clear G; intro w G; go_frame)
        | (refine wpu_storeB G rfl rfl rfl rfl (by rfl) (by rfl) (by first | rfl | assumption | simp [*]) ?_; clear G; intro w G; go_frame)
        | (refine wpu_storeS G rfl rfl rfl rfl (by rfl) (by rfl) (by first | rfl | assumption | simp [*]) ?_; clear G; intro w G; go_frame))
      | ((with_reducible refine at_convert ?_); refine wpu_str G rfl rfl rfl rfl ?_; go_frame)
      | ((with_reducible refine at_slice ?_); first
        | (refine wpu_sliceLo rfl rfl rfl rfl (by first | rfl | omega) (by omega) (by omega) ?_; go_frame)
        | (refine wpu_sliceLH rfl rfl rfl rfl rfl (by first | rfl | omega) (by first | rfl | omega) (by omega) (by omega) ?_; go_frame))
      | fail)
    go_ret
    exact ⟨by simp [IdS.cls, h1], h⟩
  · by_cases h2 : 2147483647 < id
    · go_enter Try.func27, Try.ntmps27
      go_wp2_with (first
        | ((with_reducible refine at_alloc ?_); refine wpu_new G ?_; clear G; intro w G)
        | ((with_reducible refine at_drew ?_); refine wpu_drew G ?_; clear G; intro w G)
        | ((with_reducible refine at_load ?_); first
          | (refine wpu_load G rfl rfl rfl rfl ?_; go_frame)
          | (refine wpu_loadB G rfl rfl rfl (by rfl) ?_; go_frame)
          | (refine wpu_loadS G rfl rfl rfl (by rfl) ?_; simp only [List.drop_succ_cons, List.drop_zero, List.take_succ_cons, List.take_zero]; go_frame))
        | ((with_reducible refine at_store ?_); first
          | (refine wpu_store G rfl rfl rfl rfl (by first | rfl | assumption | simp [*]) rfl ?_; clear G; intro w G; go_frame)
          | (refine wpu_storeB G rfl rfl rfl rfl (by rfl) (by rfl) (by first | rfl | assumption | simp [*]) ?_; clear G; intro w G; go_frame)
          | (refine wpu_storeS G rfl rfl rfl rfl (by rfl) (by rfl) (by first | rfl | assumption | simp [*]) ?_; clear G; intro w G; go_frame))
        | ((with_reducible refine at_convert ?_); refine wpu_str G rfl rfl rfl rfl ?_; go_frame)
        | ((with_reducible refine at_slice ?_); first
          | (refine wpu_sliceLo rfl rfl rfl rfl (by first | rfl | omega) (by omega) (by omega) ?_; go_frame)
          | (refine wpu_sliceLH rfl rfl rfl rfl rfl (by first | rfl | omega) (by first | rfl | omega) (by omega) (by omega) ?_; go_frame))
        | fail)
      go_ret
      exact ⟨by simp [IdS.cls, h2], h⟩
    · have h1' : 1 ≤ id := by omega
      have h2' : id ≤ 2147483647 := by omega
      obtain ⟨r, hr⟩ : ∃ r, s.cls id = r := ⟨_, rfl⟩
      rw [hr]
      have HR := Lib.hid hr
      clear hr
      cases hp : s.their id
      · have HP := Lib.hid hp
        by_cases hn : s.next ≤ id
        all_goals
          go_enter Try.func27, Try.ntmps27
          go_wp2_with (first
            | ((with_reducible refine at_alloc ?_); refine wpu_new G ?_; clear G; intro w G)
            | ((with_reducible refine at_drew ?_); refine wpu_drew G ?_; clear G; intro w G)
            | ((with_reducible refine at_load ?_); first
              | (refine wpu_load G rfl rfl rfl rfl ?_; go_frame)
              | (refine wpu_loadB G rfl rfl rfl (by rfl) ?_; go_frame)
              | (refine wpu_loadS G rfl rfl rfl (by rfl) ?_; simp only [List.drop_succ_cons, List.drop_zero, List.take_succ_cons, List.take_zero]; go_frame))
            | ((with_reducible refine at_store ?_); first
              | (refine wpu_store G rfl rfl rfl rfl (by first | rfl | assumption | simp [*]) rfl ?_; clear G; intro w G; go_frame)
              | (refine wpu_storeB G rfl rfl rfl rfl (by rfl) (by rfl) (by first | rfl | assumption | simp [*]) ?_; clear G; intro w G; go_frame)
              | (refine wpu_storeS G rfl rfl rfl rfl (by rfl) (by rfl) (by first | rfl | assumption | simp [*]) ?_; clear G; intro w G; go_frame))
            | ((with_reducible refine at_convert ?_); refine wpu_str G rfl rfl rfl rfl ?_; go_frame)
            | ((with_reducible refine at_slice ?_); first
              | (refine wpu_sliceLo rfl rfl rfl rfl (by first | rfl | omega) (by omega) (by omega) ?_; go_frame)
              | (refine wpu_sliceLH rfl rfl rfl rfl rfl (by first | rfl | omega) (by first | rfl | omega) (by omega) (by omega) ?_; go_frame))
            | fail)
          refine Calls.mono (theirsR G h1' i2) ?_
          clear G; rintro e w ⟨rfl, G⟩
          rw [HP.out]
          simp only [IdS.rcs] at G
          go_wp2_with (first
            | ((with_reducible refine at_alloc ?_); refine wpu_new G ?_; clear G; intro w G)
            | ((with_reducible refine at_drew ?_); refine wpu_drew G ?_; clear G; intro w G)
            | ((with_reducible refine at_load ?_); first
              | (refine wpu_load G rfl rfl rfl rfl ?_; go_frame)
              | (refine wpu_loadB G rfl rfl rfl (by rfl) ?_; go_frame)
              | (refine wpu_loadS G rfl rfl rfl (by rfl) ?_; simp only [List.drop_succ_cons, List.drop_zero, List.take_succ_cons, List.take_zero]; go_frame))
            | ((with_reducible refine at_store ?_); first
              | (refine wpu_store G rfl rfl rfl rfl (by first | rfl | assumption | simp [*]) rfl ?_; clear G; intro w G; go_frame)
              | (refine wpu_storeB G rfl rfl rfl rfl (by rfl) (by rfl) (by first | rfl | assumption | simp [*]) ?_; clear G; intro w G; go_frame)
              | (refine wpu_storeS G rfl rfl rfl rfl (by rfl) (by rfl) (by first | rfl | assumption | simp [*]) ?_; clear G; intro w G; go_frame))
            | ((with_reducible refine at_convert ?_); refine wpu_str G rfl rfl rfl rfl ?_; go_frame)
            | ((with_reducible refine at_slice ?_); first
              | (refine wpu_sliceLo rfl rfl rfl rfl (by first | rfl | omega) (by omega) (by omega) ?_; go_frame)
              | (refine wpu_sliceLH rfl rfl rfl rfl rfl (by first | rfl | omega) (by first | rfl | omega) (by omega) (by omega) ?_; go_frame))
            | fail)
          go_ret
          refine ⟨?_, G⟩
          rw [← HR.out, IdS.cls_ours h1' h2' HP.out]
          simp <;> omega
      · have HP := Lib.hid hp
        by_cases hn : s.last < id
        all_goals
          go_enter Try.func27, Try.ntmps27
          go_wp2_with (first
            | ((with_reducible refine at_alloc ?_); refine wpu_new G ?_; clear G; intro w G)
            | ((with_reducible refine at_drew ?_); refine wpu_drew G ?_; clear G; intro w G)
            | ((with_reducible refine at_load ?_); first
              | (refine wpu_load G rfl rfl rfl rfl ?_; go_frame)
              | (refine wpu_loadB G rfl rfl rfl (by rfl) ?_; go_frame)
              | (refine wpu_loadS G rfl rfl rfl (by rfl) ?_; simp only [List.drop_succ_cons, List.drop_zero, List.take_succ_cons, List.take_zero]; go_frame))
            | ((with_reducible refine at_store ?_); first
              | (refine wpu_store G rfl rfl rfl rfl (by first | rfl | assumption | simp [*]) rfl ?_; clear G; intro w G; go_frame)
              | (refine wpu_storeB G rfl rfl rfl rfl (by rfl) (by rfl) (by first | rfl | assumption | simp [*]) ?_; clear G; intro w G; go_frame)
              | (refine wpu_storeS G rfl rfl rfl rfl (by rfl) (by rfl) (by first | rfl | assumption | simp [*]) ?_; clear G; intro w G; go_frame))
            | ((with_reducible refine at_convert ?_); refine wpu_str G rfl rfl rfl rfl ?_; go_frame)
            | ((with_reducible refine at_slice ?_); first
              | (refine wpu_sliceLo rfl rfl rfl rfl (by first | rfl | omega) (by omega) (by omega) ?_; go_frame)
              | (refine wpu_sliceLH rfl rfl rfl rfl rfl (by first | rfl | omega) (by first | rfl | omega) (by omega) (by omega) ?_; go_frame))
            | fail)
          refine Calls.mono (theirsR G h1' i2) ?_
          clear G; rintro e w ⟨rfl, G⟩
          rw [HP.out]
          simp only [IdS.rcs] at G
          go_wp2_with (first
            | ((with_reducible refine at_alloc ?_); refine wpu_new G ?_; clear G; intro w G)
            | ((with_reducible refine at_drew ?_); refine wpu_drew G ?_; clear G; intro w G)
            | ((with_reducible refine at_load ?_); first
              | (refine wpu_load G rfl rfl rfl rfl ?_; go_frame)
              | (refine wpu_loadB G rfl rfl rfl (by rfl) ?_; go_frame)
              | (refine wpu_loadS G rfl rfl rfl (by rfl) ?_; simp only [List.drop_succ_cons, List.drop_zero, List.take_succ_cons, List.take_zero]; go_frame))
            | ((with_reducible refine at_store ?_); first
              | (refine wpu_store G rfl rfl rfl rfl (by first | rfl | assumption | simp [*]) rfl ?_; clear G; intro w G; go_frame)
              | (refine wpu_storeB G rfl rfl rfl rfl (by rfl) (by rfl) (by first | rfl | assumption | simp [*]) ?_; clear G; intro w G; go_frame)
              | (refine wpu_storeS G rfl rfl rfl rfl (by rfl) (by rfl) (by first | rfl | assumption | simp [*]) ?_; clear G; intro w G; go_frame))
            | ((with_reducible refine at_convert ?_); refine wpu_str G rfl rfl rfl rfl ?_; go_frame)
            | ((with_reducible refine at_slice ?_); first
              | (refine wpu_sliceLo rfl rfl rfl rfl (by first | rfl | omega) (by omega) (by omega) ?_; go_frame)
              | (refine wpu_sliceLH rfl rfl rfl rfl rfl (by first | rfl | omega) (by first | rfl | omega) (by omega) (by omega) ?_; go_frame))
            | fail)
          go_ret
          refine ⟨?_, G⟩
          rw [← HR.out]
        · rw [(IdS.cls_one s id).2 ⟨h1', h2', HP.out, hn⟩]
          rfl
        · have ht' : (id % 2 == 1) = s.server := by simpa [IdS.their] using HP.out
          unfold IdS.cls
          rw [if_neg (by omega), if_pos ht', if_neg (by omega)]
          rfl

theorem setMostR {n : Int} (h : Own B (idsR a s * R) w) : Calls Try.prog 24 #[.pointer (some ⟨a, 0, none⟩), .int .i64 n] w fun e w' => e = .returned (.tuple #[]) ∧ Own B (idsR a { s with most := max n 0 } * R) w' := by
  obtain ⟨v, L, hp, G⟩ := idsR_open h
  have h1 := (G.rd v _ G).one
  simp only [IdS.rcs] at G
  by_cases hn : n < 0
  all_goals
    go_enter Try.func24, Try.ntmps24
    go_wp2_with (first
      | ((with_reducible refine at_alloc ?_); refine wpu_new G ?_; clear G; intro w G)
      | ((with_reducible refine at_drew ?_); refine wpu_drew G ?_; clear G; intro w G)
      | ((with_reducible refine at_load ?_); first
        | (refine wpu_load G rfl rfl rfl rfl ?_; go_frame)
        | (refine wpu_loadB G rfl rfl rfl (by rfl) ?_; go_frame)
        | (refine wpu_loadS G rfl rfl rfl (by rfl) ?_; simp only [List.drop_succ_cons, List.drop_zero, List.take_succ_cons, List.take_zero]; go_frame))
      | ((with_reducible refine at_store ?_); first
        | (refine wpu_store G rfl rfl rfl rfl (by first | rfl | assumption | simp [*]) rfl ?_; clear G; intro w G; go_frame)
        | (refine wpu_storeB G rfl rfl rfl rfl (by rfl) (by rfl) (by first | rfl | assumption | simp [*]) ?_; clear G; intro w G; go_frame)
        | (refine wpu_storeS G rfl rfl rfl rfl (by rfl) (by rfl) (by first | rfl | assumption | simp [*]) ?_; clear G; intro w G; go_frame))
      | ((with_reducible refine at_convert ?_); refine wpu_str G rfl rfl rfl rfl ?_; go_frame)
      | ((with_reducible refine at_slice ?_); first
        | (refine wpu_sliceLo rfl rfl rfl rfl (by first | rfl | omega) (by omega) (by omega) ?_; go_frame)
        | (refine wpu_sliceLH rfl rfl rfl rfl rfl (by first | rfl | omega) (by first | rfl | omega) (by omega) (by omega) ?_; go_frame))
      | fail)
    go_end0
  · exact ⟨rfl, idsR_close (v := v) (L := L) G { s with most := max n 0 } (by simp [IdS.rcs]; omega) hp⟩
  · exact ⟨rfl, idsR_close (v := v) (L := L) G { s with most := max n 0 } (by simp [IdS.rcs]; omega) hp⟩

theorem setLimitR {n : Int} (h : Own B (idsR a s * R) w) : Calls Try.prog 26 #[.pointer (some ⟨a, 0, none⟩), .int .i64 n] w fun e w' => e = .returned (.tuple #[]) ∧ Own B (idsR a { s with limit := max n 0 } * R) w' := by
  obtain ⟨v, L, hp, G⟩ := idsR_open h
  have h1 := (G.rd v _ G).one
  simp only [IdS.rcs] at G
  by_cases hn : n < 0
  all_goals
    go_enter Try.func26, Try.ntmps26
    go_wp2_with (first
      | ((with_reducible refine at_alloc ?_); refine wpu_new G ?_; clear G; intro w G)
      | ((with_reducible refine at_drew ?_); refine wpu_drew G ?_; clear G; intro w G)
      | ((with_reducible refine at_load ?_); first
        | (refine wpu_load G rfl rfl rfl rfl ?_; go_frame)
        | (refine wpu_loadB G rfl rfl rfl (by rfl) ?_; go_frame)
        | (refine wpu_loadS G rfl rfl rfl (by rfl) ?_; simp only [List.drop_succ_cons, List.drop_zero, List.take_succ_cons, List.take_zero]; go_frame))
      | ((with_reducible refine at_store ?_); first
        | (refine wpu_store G rfl rfl rfl rfl (by first | rfl | assumption | simp [*]) rfl ?_; clear G; intro w G; go_frame)
        | (refine wpu_storeB G rfl rfl rfl rfl (by rfl) (by rfl) (by first | rfl | assumption | simp [*]) ?_; clear G; intro w G; go_frame)
        | (refine wpu_storeS G rfl rfl rfl rfl (by rfl) (by rfl) (by first | rfl | assumption | simp [*]) ?_; clear G; intro w G; go_frame))
      | ((with_reducible refine at_convert ?_); refine wpu_str G rfl rfl rfl rfl ?_; go_frame)
      | ((with_reducible refine at_slice ?_); first
        | (refine wpu_sliceLo rfl rfl rfl rfl (by first | rfl | omega) (by omega) (by omega) ?_; go_frame)
        | (refine wpu_sliceLH rfl rfl rfl rfl rfl (by first | rfl | omega) (by first | rfl | omega) (by omega) (by omega) ?_; go_frame))
      | fail)
    go_end0
  · exact ⟨rfl, idsR_close (v := v) (L := L) G { s with limit := max n 0 } (by simp [IdS.rcs]; omega) hp⟩
  · exact ⟨rfl, idsR_close (v := v) (L := L) G { s with limit := max n 0 } (by simp [IdS.rcs]; omega) hp⟩

theorem lastR (h : Own B (idsR a s * R) w) : Calls Try.prog 30 #[.pointer (some ⟨a, 0, none⟩)] w fun e w' => e = .returned (.int .i64 s.last) ∧ Own B (idsR a s * R) w' := by
  obtain ⟨v, L, hp, G⟩ := idsR_open h
  simp only [IdS.rcs] at G
  go_enter Try.func30, Try.ntmps30
  go_wp2_with (first
    | ((with_reducible refine at_alloc ?_); refine wpu_new G ?_; clear G; intro w G)
    | ((with_reducible refine at_drew ?_); refine wpu_drew G ?_; clear G; intro w G)
    | ((with_reducible refine at_load ?_); first
      | (refine wpu_load G rfl rfl rfl rfl ?_; go_frame)
      | (refine wpu_loadB G rfl rfl rfl (by rfl) ?_; go_frame)
      | (refine wpu_loadS G rfl rfl rfl (by rfl) ?_; simp only [List.drop_succ_cons, List.drop_zero, List.take_succ_cons, List.take_zero]; go_frame))
    | ((with_reducible refine at_store ?_); first
      | (refine wpu_store G rfl rfl rfl rfl (by first | rfl | assumption | simp [*]) rfl ?_; clear G; intro w G; go_frame)
      | (refine wpu_storeB G rfl rfl rfl rfl (by rfl) (by rfl) (by first | rfl | assumption | simp [*]) ?_; clear G; intro w G; go_frame)
      | (refine wpu_storeS G rfl rfl rfl rfl (by rfl) (by rfl) (by first | rfl | assumption | simp [*]) ?_; clear G; intro w G; go_frame))
    | ((with_reducible refine at_convert ?_); refine wpu_str G rfl rfl rfl rfl ?_; go_frame)
    | ((with_reducible refine at_slice ?_); first
      | (refine wpu_sliceLo rfl rfl rfl rfl (by first | rfl | omega) (by omega) (by omega) ?_; go_frame)
      | (refine wpu_sliceLH rfl rfl rfl rfl rfl (by first | rfl | omega) (by first | rfl | omega) (by omega) (by omega) ?_; go_frame))
    | fail)
  go_ret
  exact ⟨rfl, h⟩


theorem newIdsR {server : Bool} {n : Int} (h : Own B R w) : Calls Try.prog 19 #[.bool server, .int .i64 n] w fun e w' => ∃ a, e = .returned (.pointer (some ⟨a, 0, none⟩)) ∧ Own B (idsR a (newIdS server n) * R) w' := by
  have G := h
  cases server
  · skip
    go_enter Try.func19, Try.ntmps19
    go_wp2_with (first
      | ((with_reducible refine at_alloc ?_); refine wpu_new G ?_; clear G; intro w G)
      | ((with_reducible refine at_drew ?_); refine wpu_drew G ?_; clear G; intro w G)
      | ((with_reducible refine at_load ?_); first
        | (refine wpu_load G rfl rfl rfl rfl ?_; go_frame)
        | (refine wpu_loadB G rfl rfl rfl (by rfl) ?_; go_frame)
        | (refine wpu_loadS G rfl rfl rfl (by rfl) ?_; simp only [List.drop_succ_cons, List.drop_zero, List.take_succ_cons, List.take_zero]; go_frame))
      | ((with_reducible refine at_store ?_); first
        | (refine wpu_store G rfl rfl rfl rfl (by first | rfl | assumption | simp [*]) rfl ?_; clear G; intro w G; go_frame)
        | (refine wpu_storeB G rfl rfl rfl rfl (by rfl) (by rfl) (by first | rfl | assumption | simp [*]) ?_; clear G; intro w G; go_frame)
        | (refine wpu_storeS G rfl rfl rfl rfl (by rfl) (by rfl) (by first | rfl | assumption | simp [*]) ?_; clear G; intro w G; go_frame))
      | ((with_reducible refine at_convert ?_); refine wpu_str G rfl rfl rfl rfl ?_; go_frame)
      | ((with_reducible refine at_slice ?_); first
        | (refine wpu_sliceLo rfl rfl rfl rfl (by first | rfl | omega) (by omega) (by omega) ?_; go_frame)
        | (refine wpu_sliceLH rfl rfl rfl rfl rfl (by first | rfl | omega) (by first | rfl | omega) (by omega) (by omega) ?_; go_frame))
      | fail)
    refine Calls.mono (setMostR (s := ⟨false, 0, 2147483647, 0, 1, [], 0⟩) (idsR_close (v := .slice none 0 0) (L := []) ((own_nil G 1).eq (star_left_comm _ _ _)) _ (by rfl) (List.Perm.refl _))) ?_
    clear G; rintro e w ⟨rfl, G⟩
    go_wp2_with (first
      | ((with_reducible refine at_alloc ?_); refine wpu_new G ?_; clear G; intro w G)
      | ((with_reducible refine at_drew ?_); refine wpu_drew G ?_; clear G; intro w G)
      | ((with_reducible refine at_load ?_); first
        | (refine wpu_load G rfl rfl rfl rfl ?_; go_frame)
        | (refine wpu_loadB G rfl rfl rfl (by rfl) ?_; go_frame)
        | (refine wpu_loadS G rfl rfl rfl (by rfl) ?_; simp only [List.drop_succ_cons, List.drop_zero, List.take_succ_cons, List.take_zero]; go_frame))
      | ((with_reducible refine at_store ?_); first
        | (refine wpu_store G rfl rfl rfl rfl (by first | rfl | assumption | simp [*]) rfl ?_; clear G; intro w G; go_frame)
        | (refine wpu_storeB G rfl rfl rfl rfl (by rfl) (by rfl) (by first | rfl | assumption | simp [*]) ?_; clear G; intro w G; go_frame)
        | (refine wpu_storeS G rfl rfl rfl rfl (by rfl) (by rfl) (by first | rfl | assumption | simp [*]) ?_; clear G; intro w G; go_frame))
      | ((with_reducible refine at_convert ?_); refine wpu_str G rfl rfl rfl rfl ?_; go_frame)
      | ((with_reducible refine at_slice ?_); first
        | (refine wpu_sliceLo rfl rfl rfl rfl (by first | rfl | omega) (by omega) (by omega) ?_; go_frame)
        | (refine wpu_sliceLH rfl rfl rfl rfl rfl (by first | rfl | omega) (by first | rfl | omega) (by omega) (by omega) ?_; go_frame))
      | fail)
    go_ret
    exact ⟨_, rfl, G⟩
  · skip
    go_enter Try.func19, Try.ntmps19
    go_wp2_with (first
      | ((with_reducible refine at_alloc ?_); refine wpu_new G ?_; clear G; intro w G)
      | ((with_reducible refine at_drew ?_); refine wpu_drew G ?_; clear G; intro w G)
      | ((with_reducible refine at_load ?_); first
        | (refine wpu_load G rfl rfl rfl rfl ?_; go_frame)
        | (refine wpu_loadB G rfl rfl rfl (by rfl) ?_; go_frame)
        | (refine wpu_loadS G rfl rfl rfl (by rfl) ?_; simp only [List.drop_succ_cons, List.drop_zero, List.take_succ_cons, List.take_zero]; go_frame))
      | ((with_reducible refine at_store ?_); first
        | (refine wpu_store G rfl rfl rfl rfl (by first | rfl | assumption | simp [*]) rfl ?_; clear G; intro w G; go_frame)
        | (refine wpu_storeB G rfl rfl rfl rfl (by rfl) (by rfl) (by first | rfl | assumption | simp [*]) ?_; clear G; intro w G; go_frame)
        | (refine wpu_storeS G rfl rfl rfl rfl (by rfl) (by rfl) (by first | rfl | assumption | simp [*]) ?_; clear G; intro w G; go_frame))
      | ((with_reducible refine at_convert ?_); refine wpu_str G rfl rfl rfl rfl ?_; go_frame)
      | ((with_reducible refine at_slice ?_); first
        | (refine wpu_sliceLo rfl rfl rfl rfl (by first | rfl | omega) (by omega) (by omega) ?_; go_frame)
        | (refine wpu_sliceLH rfl rfl rfl rfl rfl (by first | rfl | omega) (by first | rfl | omega) (by omega) (by omega) ?_; go_frame))
      | fail)
    refine Calls.mono (setMostR (s := ⟨true, 0, 2147483647, 0, 2, [], 0⟩) (idsR_close (v := .slice none 0 0) (L := []) ((own_nil G 1).eq (star_left_comm _ _ _)) _ (by rfl) (List.Perm.refl _))) ?_
    clear G; rintro e w ⟨rfl, G⟩
    go_wp2_with (first
      | ((with_reducible refine at_alloc ?_); refine wpu_new G ?_; clear G; intro w G)
      | ((with_reducible refine at_drew ?_); refine wpu_drew G ?_; clear G; intro w G)
      | ((with_reducible refine at_load ?_); first
        | (refine wpu_load G rfl rfl rfl rfl ?_; go_frame)
        | (refine wpu_loadB G rfl rfl rfl (by rfl) ?_; go_frame)
        | (refine wpu_loadS G rfl rfl rfl (by rfl) ?_; simp only [List.drop_succ_cons, List.drop_zero, List.take_succ_cons, List.take_zero]; go_frame))
      | ((with_reducible refine at_store ?_); first
        | (refine wpu_store G rfl rfl rfl rfl (by first | rfl | assumption | simp [*]) rfl ?_; clear G; intro w G; go_frame)
        | (refine wpu_storeB G rfl rfl rfl rfl (by rfl) (by rfl) (by first | rfl | assumption | simp [*]) ?_; clear G; intro w G; go_frame)
        | (refine wpu_storeS G rfl rfl rfl rfl (by rfl) (by rfl) (by first | rfl | assumption | simp [*]) ?_; clear G; intro w G; go_frame))
      | ((with_reducible refine at_convert ?_); refine wpu_str G rfl rfl rfl rfl ?_; go_frame)
      | ((with_reducible refine at_slice ?_); first
        | (refine wpu_sliceLo rfl rfl rfl rfl (by first | rfl | omega) (by omega) (by omega) ?_; go_frame)
        | (refine wpu_sliceLH rfl rfl rfl rfl rfl (by first | rfl | omega) (by first | rfl | omega) (by omega) (by omega) ?_; go_frame))
      | fail)
    go_ret
    exact ⟨_, rfl, G⟩
end
end Go.Proofs.Ytadbpekkmlblmaa
