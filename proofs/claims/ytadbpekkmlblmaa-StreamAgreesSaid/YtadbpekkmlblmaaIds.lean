
/-
  The streams of a connection: what each of their methods does.
-/
import Derived.Test.YtadbpekkmlblmaaTy
namespace Go.Proofs.Ytadbpekkmlblmaa
open Go.RowKit Go.Sl

/-- the streams of a connection: whose end, bounds, last and next numbers, the active ones, how many of these are theirs -/
structure IdS where
  server : Bool
  most : Int
  limit : Int
  last : Int
  next : Int
  act : List Int
  theirs : Int

abbrev actA (b : Nat) (S : List Int) : Assn := setA Try.prog 3 4 b S

def IdS.cs (s : IdS) (b : Nat) : List Value := [.bool s.server, .int .i64 s.most, .int .i64 s.limit, .int .i64 s.last, .int .i64 s.next, .map (some b), .int .i64 s.theirs]
def idsA (a : Nat) (s : IdS) : Assn := ex fun b => blk a (s.cs b) * actA b s.act



section
variable {B w : World} {A R : Assn} {a : Nat} {s : IdS}

theorem ids_open (h : Own B (idsA a s * R) w) : ∃ b, Own B (blk a (s.cs b) * (actA b s.act * R)) w := by
  obtain ⟨b, g⟩ := own_ex h
  exact ⟨b, g.eq (star_assoc _ _ _)⟩
theorem ids_close {b : Nat} {cs : List Value} {S : List Int} (h : Own B (blk a cs * (actA b S * R)) w) (s : IdS) (hc : cs = s.cs b) (hS : S = s.act) : Own B (idsA a s * R) w := by
  subst hc hS
  exact own_ex_mk b (h.eq (star_assoc _ _ _).symm)

theorem setMost {n : Int} (h : Own B (idsA a s * R) w) : Calls Try.prog 23 #[.pointer (some ⟨a, 0, none⟩), .int .i64 n] w fun e w' => e = .returned (.tuple #[]) ∧ Own B (idsA a { s with most := max n 0 } * R) w' := by
  obtain ⟨b, G⟩ := ids_open h
  go_enter Try.func23, Try.ntmps23
  go_wp2_with (first
    | ((with_reducible refine at_alloc ?_); refine wpu_new G ?_; clear G; intro w G)
    | ((with_reducible refine at_drew ?_); refine wpu_drew G ?_; clear G; intro w G)
    | ((with_reducible refine at_load ?_); first
      | (refine wpu_load G rfl rfl rfl rfl ?_; go_frame)
      | (refine wpu_loadB G rfl rfl rfl (by rfl) ?_; go_frame)
      | (refine wpu_loadS G rfl rfl rfl (by rfl) ?_; simp only [List.drop_succ_cons, List.drop_zero, List.take_succ_cons, List.take_zero]; go_frame))
    | ((with_reducible refine at_store ?_); first
      | (refine wpu_store G rfl rfl rfl rfl (by first | rfl | assumption | simp [*]) rfl ?_; clear G; intro w G; go_frame)
      | (refine wpu_storeB G rfl rfl rfl rfl (by rfl) (by rfl) (by first | rfl | assumption | simp [*]) ?_; clear G; intro w G; go_frame)
      | (refine wpu_storeS G rfl rfl rfl rfl (by rfl) (by rfl) (by first | rfl | assumption | simp [*]) ?_; clear G; intro w G; go_frame))
    | ((with_reducible refine at_convert ?_); refine wpu_str G rfl rfl rfl rfl ?_; go_frame)
    | ((with_reducible refine at_slice ?_); first
      | (refine wpu_sliceLo rfl rfl rfl rfl (by first | rfl | omega) (by omega) (by omega) ?_; go_frame)
      | (refine wpu_sliceLH rfl rfl rfl rfl rfl (by first | rfl | omega) (by first | rfl | omega) (by omega) (by omega) ?_; go_frame))
    | ((with_reducible refine at_makeMap ?_); refine wpu_makeSet G rfl rfl ?_; clear G; intro w G; go_frame)
    | ((with_reducible refine at_update ?_); refine wpu_setPut G rfl rfl rfl rfl rfl (by omega) (by omega) (by unfold maxLen; omega) ?_; clear G; intro w G; go_frame)
    | ((with_reducible refine at_lookup ?_); refine wpu_setLook G rfl rfl rfl rfl (by omega) (by omega) ?_; go_frame)
    | ((with_reducible refine at_len ?_); refine wpu_setLen G rfl rfl rfl ?_; go_frame)
    | fail)
  go_end0
  exact ⟨rfl, ids_close ((G.pullF (actA b)).at1 a) { s with most := max n 0 } (by rfl) (by rfl)⟩

theorem setLimit {n : Int} (h : Own B (idsA a s * R) w) : Calls Try.prog 25 #[.pointer (some ⟨a, 0, none⟩), .int .i64 n] w fun e w' => e = .returned (.tuple #[]) ∧ Own B (idsA a { s with limit := max n 0 } * R) w' := by
  obtain ⟨b, G⟩ := ids_open h
  go_enter Try.func25, Try.ntmps25
  go_wp2_with (first
    | ((with_reducible refine at_alloc ?_); refine wpu_new G ?_; clear G; intro w G)
    | ((with_reducible refine at_drew ?_); refine wpu_drew G ?_; clear G; intro w G)
    | ((with_reducible refine at_load ?_); first
      | (refine wpu_load G rfl rfl rfl rfl ?_; go_frame)
      | (refine wpu_loadB G rfl rfl rfl (by rfl) ?_; go_frame)
      | (refine wpu_loadS G rfl rfl rfl (by rfl) ?_; simp only [List.drop_succ_cons, List.drop_zero, List.take_succ_cons, List.take_zero]; go_frame))
    | ((with_reducible refine at_store ?_); first
      | (refine wpu_store G rfl rfl rfl rfl (by first | rfl | assumption | simp [*]) rfl ?_; clear G; intro w G; go_frame)
      | (refine wpu_storeB G rfl rfl rfl rfl (by rfl) (by rfl) (by first | rfl | assumption | simp [*]) ?_; clear G; intro w G; go_frame)
      | (refine wpu_storeS G rfl rfl rfl rfl (by rfl) (by rfl) (by first | rfl | assumption | simp [*]) ?_; clear G; intro w G; go_frame))
    | ((with_reducible refine at_convert ?_); refine wpu_str G rfl rfl rfl rfl ?_; go_frame)
    | ((with_reducible refine at_slice ?_); first
      | (refine wpu_sliceLo rfl rfl rfl rfl (by first | rfl | omega) (by omega) (by omega) ?_; go_frame)
      | (refine wpu_sliceLH rfl rfl rfl rfl rfl (by first | rfl | omega) (by first | rfl | omega) (by omega) (by omega) ?_; go_frame))
    | ((with_reducible refine at_makeMap ?_); refine wpu_makeSet G rfl rfl ?_; clear G; intro w G; go_frame)
    | ((with_reducible refine at_update ?_); refine wpu_setPut G rfl rfl rfl rfl rfl (by omega) (by omega) (by unfold maxLen; omega) ?_; clear G; intro w G; go_frame)
    | ((with_reducible refine at_lookup ?_); refine wpu_setLook G rfl rfl rfl rfl (by omega) (by omega) ?_; go_frame)
    | ((with_reducible refine at_len ?_); refine wpu_setLen G rfl rfl rfl ?_; go_frame)
    | fail)
  go_end0
  exact ⟨rfl, ids_close ((G.pullF (actA b)).at1 a) { s with limit := max n 0 } (by rfl) (by rfl)⟩

theorem lastI (h : Own B (idsA a s * R) w) : Calls Try.prog 18 #[.pointer (some ⟨a, 0, none⟩)] w fun e w' => e = .returned (.int .i64 s.last) ∧ Own B (idsA a s * R) w' := by
  obtain ⟨b, G⟩ := ids_open h
  go_enter Try.func18, Try.ntmps18
  go_wp2_with (first
    | ((with_reducible refine at_alloc ?_); refine wpu_new G ?_; clear G; intro w G)
    | ((with_reducible refine at_drew ?_); refine wpu_drew G ?_; clear G; intro w G)
    | ((with_reducible refine at_load ?_); first
      | (refine wpu_load G rfl rfl rfl rfl ?_; go_frame)
      | (refine wpu_loadB G rfl rfl rfl (by rfl) ?_; go_frame)
      | (refine wpu_loadS G rfl rfl rfl (by rfl) ?_; simp only [List.drop_succ_cons, List.drop_zero, List.take_succ_cons, List.take_zero]; go_frame))
    | ((with_reducible refine at_store ?_); first
      | (refine wpu_store G rfl rfl rfl rfl (by first | rfl | assumption | simp [*]) rfl ?_; clear G; intro w G; go_frame)
      | (refine wpu_storeB G rfl rfl rfl rfl (by rfl) (by rfl) (by first | rfl | assumption | simp [*]) ?_; clear G; intro w G; go_frame)
      | (refine wpu_storeS G rfl rfl rfl rfl (by rfl) (by rfl) (by first | rfl | assumption | simp [*]) ?_; clear G; intro w G; go_frame))
    | ((with_reducible refine at_convert ?_); refine wpu_str G rfl rfl rfl rfl ?_; go_frame)
    | ((with_reducible refine at_slice ?_); first
      | (refine wpu_sliceLo rfl rfl rfl rfl (by first | rfl | omega) (by omega) (by omega) ?_; go_frame)
      | (refine wpu_sliceLH rfl rfl rfl rfl rfl (by first | rfl | omega) (by first | rfl | omega) (by omega) (by omega) ?_; go_frame))
    | ((with_reducible refine at_makeMap ?_); refine wpu_makeSet G rfl rfl ?_; clear G; intro w G; go_frame)
    | ((with_reducible refine at_update ?_); refine wpu_setPut G rfl rfl rfl rfl rfl (by omega) (by omega) (by unfold maxLen; omega) ?_; clear G; intro w G; go_frame)
    | ((with_reducible refine at_lookup ?_); refine wpu_setLook G rfl rfl rfl rfl (by omega) (by omega) ?_; go_frame)
    | ((with_reducible refine at_len ?_); refine wpu_setLen G rfl rfl rfl ?_; go_frame)
    | fail)
  go_ret
  exact ⟨rfl, h⟩

/-- a new one -/
def newIdS (server : Bool) (most : Int) : IdS := ⟨server, max most 0, 2147483647, 0, if server then 2 else 1, [], 0⟩

theorem newIds {server : Bool} {n : Int} (h : Own B R w) : Calls Try.prog 13 #[.bool server, .int .i64 n] w fun e w' => ∃ a, e = .returned (.pointer (some ⟨a, 0, none⟩)) ∧ Own B (idsA a (newIdS server n) * R) w' := by
  have G := h
  cases server
  · skip
    go_enter Try.func13, Try.ntmps13
    go_wp2_with (first
      | ((with_reducible refine at_alloc ?_); refine wpu_new G ?_; clear G; intro w G)
      | ((with_reducible refine at_drew ?_); refine wpu_drew G ?_; clear G; intro w G)
      | ((with_reducible refine at_load ?_); first
        | (refine wpu_load G rfl rfl rfl rfl ?_; go_frame)
        | (refine wpu_loadB G rfl rfl rfl (by rfl) ?_; go_frame)
        | (refine wpu_loadS G rfl rfl rfl (by rfl) ?_; simp only [List.drop_succ_cons, List.drop_zero, List.take_succ_cons, List.take_zero]; go_frame))
      | ((with_reducible refine at_store ?_); first
        | (refine wpu_store G rfl rfl rfl rfl (by first | rfl | assumption | simp [*]) rfl ?_; clear G; intro w G; go_frame)
        | (refine wpu_storeB G rfl rfl rfl rfl (by rfl) (by rfl) (by first | rfl | assumption | simp [*]) ?_; clear G; intro w G; go_frame)
        | (refine wpu_storeS G rfl rfl rfl rfl (by rfl) (by rfl) (by first | rfl | assumption | simp [*]) ?_; clear G; intro w G; go_frame))
      | ((with_reducible refine at_convert ?_); refine wpu_str G rfl rfl rfl rfl ?_; go_frame)
      | ((with_reducible refine at_slice ?_); first
        | (refine wpu_sliceLo rfl rfl rfl rfl (by first | rfl | omega) (by omega) (by omega) ?_; go_frame)
        | (refine wpu_sliceLH rfl rfl rfl rfl rfl (by first | rfl | omega) (by first | rfl | omega) (by omega) (by omega) ?_; go_frame))
      | ((with_reducible refine at_makeMap ?_); refine wpu_makeSet G rfl rfl ?_; clear G; intro w G; go_frame)
      | ((with_reducible refine at_update ?_); refine wpu_setPut G rfl rfl rfl rfl rfl (by omega) (by omega) (by unfold maxLen; omega) ?_; clear G; intro w G; go_frame)
      | ((with_reducible refine at_lookup ?_); refine wpu_setLook G rfl rfl rfl rfl (by omega) (by omega) ?_; go_frame)
      | ((with_reducible refine at_len ?_); refine wpu_setLen G rfl rfl rfl ?_; go_frame)
      | fail)
    refine Calls.mono (setMost (s := ⟨false, 0, 2147483647, 0, 1, [], 0⟩) (ids_close G _ (by rfl) rfl)) ?_
    clear G; rintro e w ⟨rfl, G⟩
    go_wp2_with (first
      | ((with_reducible refine at_alloc ?_); refine wpu_new G ?_; clear G; intro w G)
      | ((with_reducible refine at_drew ?_); refine wpu_drew G ?_; clear G; intro w G)
      | ((with_reducible refine at_load ?_); first
        | (refine wpu_load G rfl rfl rfl rfl ?_; go_frame)
        | (refine wpu_loadB G rfl rfl rfl (by rfl) ?_; go_frame)
        | (refine wpu_loadS G rfl rfl rfl (by rfl) ?_; simp only [List.drop_succ_cons, List.drop_zero, List.take_succ_cons, List.take_zero]; go_frame))
      | ((with_reducible refine at_store ?_); first
        | (refine wpu_store G rfl rfl rfl rfl (by first | rfl | assumption | simp [*]) rfl ?_; clear G; intro w G; go_frame)
        | (refine wpu_storeB G rfl rfl rfl rfl (by rfl) (by rfl) (by first | rfl | assumption | simp [*]) ?_; clear G; intro w G; go_frame)
        | (refine wpu_storeS G rfl rfl rfl rfl (by rfl) (by rfl) (by first | rfl | assumption | simp [*]) ?_; clear G; intro w G; go_frame))
      | ((with_reducible refine at_convert ?_); refine wpu_str G rfl rfl rfl rfl ?_; go_frame)
      | ((with_reducible refine at_slice ?_); first
        | (refine wpu_sliceLo rfl rfl rfl rfl (by first | rfl | omega) (by omega) (by omega) ?_; go_frame)
        | (refine wpu_sliceLH rfl rfl rfl rfl rfl (by first | rfl | omega) (by first | rfl | omega) (by omega) (by omega) ?_; go_frame))
      | ((with_reducible refine at_makeMap ?_); refine wpu_makeSet G rfl rfl ?_; clear G; intro w G; go_frame)
      | ((with_reducible refine at_update ?_); refine wpu_setPut G rfl rfl rfl rfl rfl (by omega) (by omega) (by unfold maxLen; omega) ?_; clear G; intro w G; go_frame)
      | ((with_reducible refine at_lookup ?_); refine wpu_setLook G rfl rfl rfl rfl (by omega) (by omega) ?_; go_frame)
      | ((with_reducible refine at_len ?_); refine wpu_setLen G rfl rfl rfl ?_; go_frame)
      | fail)
    go_ret
    exact ⟨_, rfl, G⟩
  · skip
    go_enter Try.func13, Try.ntmps13
    go_wp2_with (first
      | ((with_reducible refine at_alloc ?_); refine wpu_new G ?_; clear G; intro w G)
      | ((with_reducible refine at_drew ?_); refine wpu_drew G ?_; clear G; intro w G)
      | ((with_reducible refine at_load ?_); first
        | (refine wpu_load G rfl rfl rfl rfl ?_; go_frame)
        | (refine wpu_loadB G rfl rfl rfl (by rfl) ?_; go_frame)
        | (refine wpu_loadS G rfl rfl rfl (by rfl) ?_; simp only [List.drop_succ_cons, List.drop_zero, List.take_succ_cons, List.take_zero]; go_frame))
      | ((with_reducible refine at_store ?_); first
        | (refine wpu_store G rfl rfl rfl rfl (by first | rfl | assumption | simp [*]) rfl ?_; clear G; intro w G; go_frame)
        | (refine wpu_storeB G rfl rfl rfl rfl (by rfl) (by rfl) (by first | rfl | assumption | simp [*]) ?_; clear G; intro w G; go_frame)
        | (refine wpu_storeS G rfl rfl rfl rfl (by rfl) (by rfl) (by first | rfl | assumption | simp [*]) ?_; clear G; intro w G; go_frame))
      | ((with_reducible refine at_convert ?_); refine wpu_str G rfl rfl rfl rfl ?_; go_frame)
      | ((with_reducible refine at_slice ?_); first
        | (refine wpu_sliceLo rfl rfl rfl rfl (by first | rfl | omega) (by omega) (by omega) ?_; go_frame)
        | (refine wpu_sliceLH rfl rfl rfl rfl rfl (by first | rfl | omega) (by first | rfl | omega) (by omega) (by omega) ?_; go_frame))
      | ((with_reducible refine at_makeMap ?_); refine wpu_makeSet G rfl rfl ?_; clear G; intro w G; go_frame)
      | ((with_reducible refine at_update ?_); refine wpu_setPut G rfl rfl rfl rfl rfl (by omega) (by omega) (by unfold maxLen; omega) ?_; clear G; intro w G; go_frame)
      | ((with_reducible refine at_lookup ?_); refine wpu_setLook G rfl rfl rfl rfl (by omega) (by omega) ?_; go_frame)
      | ((with_reducible refine at_len ?_); refine wpu_setLen G rfl rfl rfl ?_; go_frame)
      | fail)
    refine Calls.mono (setMost (s := ⟨true, 0, 2147483647, 0, 2, [], 0⟩) (ids_close G _ (by rfl) rfl)) ?_
    clear G; rintro e w ⟨rfl, G⟩
    go_wp2_with (first
      | ((with_reducible refine at_alloc ?_); refine wpu_new G ?_; clear G; intro w G)
      | ((with_reducible refine at_drew ?_); refine wpu_drew G ?_; clear G; intro w G)
      | ((with_reducible refine at_load ?_); first
        | (refine wpu_load G rfl rfl rfl rfl ?_; go_frame)
        | (refine wpu_loadB G rfl rfl rfl (by rfl) ?_; go_frame)
        | (refine wpu_loadS G rfl rfl rfl (by rfl) ?_; simp only [List.drop_succ_cons, List.drop_zero, List.take_succ_cons, List.take_zero]; go_frame))
      | ((with_reducible refine at_store ?_); first
        | (refine wpu_store G rfl rfl rfl rfl (by first | rfl | assumption | simp [*]) rfl ?_; clear G; intro w G; go_frame)
        | (refine wpu_storeB G rfl rfl rfl rfl (by rfl) (by rfl) (by first | rfl | assumption | simp [*]) ?_; clear G; intro w G; go_frame)
        | (refine wpu_storeS G rfl rfl rfl rfl (by rfl) (by rfl) (by first | rfl | assumption | simp [*]) ?_; clear G; intro w G; go_frame))
      | ((with_reducible refine at_convert ?_); refine wpu_str G rfl rfl rfl rfl ?_; go_frame)
      | ((with_reducible refine at_slice ?_); first
        | (refine wpu_sliceLo rfl rfl rfl rfl (by first | rfl | omega) (by omega) (by omega) ?_; go_frame)
        | (refine wpu_sliceLH rfl rfl rfl rfl rfl (by first | rfl | omega) (by first | rfl | omega) (by omega) (by omega) ?_; go_frame))
      | ((with_reducible refine at_makeMap ?_); refine wpu_makeSet G rfl rfl ?_; clear G; intro w G; go_frame)
      | ((with_reducible refine at_update ?_); refine wpu_setPut G rfl rfl rfl rfl rfl (by omega) (by omega) (by unfold maxLen; omega) ?_; clear G; intro w G; go_frame)
      | ((with_reducible refine at_lookup ?_); refine wpu_setLook G rfl rfl rfl rfl (by omega) (by omega) ?_; go_frame)
      | ((with_reducible refine at_len ?_); refine wpu_setLen G rfl rfl rfl ?_; go_frame)
      | fail)
    go_ret
    exact ⟨_, rfl, G⟩

/-- a number's class -/
def IdS.cls (s : IdS) (id : Int) : Int :=
  if id < 1 ∨ 2147483647 < id then 0
  else if (id % 2 == 1) = s.server then (if s.last < id then 1 else 2)
  else if s.next ≤ id then 3 else 4

theorem classI {id : Int} (h : Own B (idsA a s * R) w) (i1 : -9223372036854775808 ≤ id) (i2 : id ≤ 9223372036854775807) :
    Calls Try.prog 14 #[.pointer (some ⟨a, 0, none⟩), .int .i64 id] w fun e w' => e = .returned (.int .i64 (s.cls id)) ∧ Own B (idsA a s * R) w' := by
  obtain ⟨b, G⟩ := ids_open h
  by_cases h1 : id < 1
  · go_enter Try.func14, Try.ntmps14
    go_wp2_with (first
      | ((with_reducible refine at_alloc ?_); refine wpu_new G ?_; clear G; intro w G)
      | ((with_reducible refine at_drew ?_); refine wpu_drew G ?_; clear G; intro w G)
      | ((with_reducible refine at_load ?_); first
        | (refine wpu_load G rfl rfl rfl rfl ?_; go_frame)
        | (refine wpu_loadB G rfl rfl rfl (by rfl) ?_; go_frame)
        | (refine wpu_loadS G rfl rfl rfl (by rfl) ?_; simp only [List.drop_succ_cons, List.drop_zero, List.take_succ_cons, List.take_zero]; go_frame))
      | ((with_reducible refine at_store ?_); first
        | (refine wpu_store G rfl rfl rfl rfl (by first | rfl | assumption | simp [*]) rfl ?_; clear G; intro w G; go_frame)
        | (refine wpu_storeB G rfl rfl rfl rfl (by rfl) (by rfl) (by first | rfl | assumption | simp [*]) ?_; clear G; intro w G; go_frame)
        | (refine wpu_storeS G rfl rfl rfl rfl (by rfl) (by rfl) (by first | rfl | assumption | simp [*]) ?_; clear G; intro w G; go_frame))
      | ((with_reducible refine at_convert ?_); refine wpu_str G rfl rfl rfl rfl ?_; go_frame)
      | ((with_reducible refine at_slice ?_); first
        | (refine wpu_sliceLo rfl rfl rfl rfl (by first | rfl | omega) (by omega) (by omega) ?_; go_frame)
        | (refine wpu_sliceLH rfl rfl rfl rfl rfl (by first | rfl | omega) (by first | rfl | omega) (by omega) (by omega) ?_; go_frame))
      | ((with_reducible refine at_makeMap ?_); refine wpu_makeSet G rfl rfl ?_; clear G; intro w G; go_frame)
      | ((with_reducible refine at_update ?_); refine wpu_setPut G rfl rfl rfl rfl rfl (by omega) (by omega) (by unfold maxLen; omega) ?_; clear G; intro w G; go_frame)
      | ((with_reducible refine at_lookup ?_); refine wpu_setLook G rfl rfl rfl rfl (by omega) (by omega) ?_; go_frame)
      | ((with_reducible refine at_len ?_); refine wpu_setLen G rfl rfl rfl ?_; go_frame)
      | fail)
    go_ret
    exact ⟨by simp [IdS.cls, h1], h⟩
  · by_cases h2 : 2147483647 < id
    · go_enter Try.func14, Try.ntmps14
      go_wp2_with (first
        | ((with_reducible refine at_alloc ?_); refine wpu_new G ?_; clear G; intro w G)
        | ((with_reducible refine at_drew ?_); refine wpu_drew G ?_; clear G; intro w G)
        | ((with_reducible refine at_load ?_); first
          | (refine wpu_load G rfl rfl rfl rfl ?_; go_frame)
          | (refine wpu_loadB G rfl rfl rfl (by rfl) ?_; go_frame)
          | (refine wpu_loadS G rfl rfl rfl (by rfl) ?_; simp only [List.drop_succ_cons, List.drop_zero, List.take_succ_cons, List.take_zero]; go_frame))
        | ((with_reducible refine at_store ?_); first
          | (refine wpu_store G rfl rfl rfl rfl (by first | rfl | assumption | simp [*]) rfl ?_; clear G; intro w G; go_frame)
          | (refine wpu_storeB G rfl rfl rfl rfl (by rfl) (by rfl) (by first | rfl | assumption | simp [*]) ?_; clear G; intro w G; go_frame)
          | (refine wpu_storeS G rfl rfl rfl rfl (by rfl) (by rfl) (by first | rfl | assumption | simp [*]) ?_; clear G; intro w G; go_frame))
        | ((with_reducible refine at_convert ?_); refine wpu_str G rfl rfl rfl rfl ?_; go_frame)
        | ((with_reducible refine at_slice ?_); first
          | (refine wpu_sliceLo rfl rfl rfl rfl (by first | rfl | omega) (by omega) (by omega) ?_; go_frame)
          | (refine wpu_sliceLH rfl rfl rfl rfl rfl (by first | rfl | omega) (by first | rfl | omega) (by omega) (by omega) ?_; go_frame))
        | ((with_reducible refine at_makeMap ?_); refine wpu_makeSet G rfl rfl ?_; clear G; intro w G; go_frame)
        | ((with_reducible refine at_update ?_); refine wpu_setPut G rfl rfl rfl rfl rfl (by omega) (by omega) (by unfold maxLen; omega) ?_; clear G; intro w G; go_frame)
        | ((with_reducible refine at_lookup ?_); refine wpu_setLook G rfl rfl rfl rfl (by omega) (by omega) ?_; go_frame)
        | ((with_reducible refine at_len ?_); refine wpu_setLen G rfl rfl rfl ?_; go_frame)
        | fail)
      go_ret
      exact ⟨by simp [IdS.cls, h2], h⟩
    · have h1' : 1 ≤ id := by omega
      have h2' : id ≤ 2147483647 := by omega
      obtain ⟨sv, mo, li, la, ne, ac, th⟩ := s
      obtain ⟨r, hr⟩ : ∃ r, IdS.cls ⟨sv, mo, li, la, ne, ac, th⟩ id = r := ⟨_, rfl⟩
      rw [hr]
      have HR := Lib.hid hr
      clear hr
      cases hp : (id % 2 == 1)
      all_goals
        have hp2 : decide (id % 2 = 1) = (id % 2 == 1) := rfl
        rw [hp] at hp2
        have HP := Lib.hid hp
        cases sv
        all_goals
          by_cases hl : la < id
          all_goals
            by_cases hn : ne ≤ id
            all_goals
              have hld : decide (la < id) = decide (la < id) := rfl
              clear hld
              go_enter Try.func14, Try.ntmps14
              go_wp2_with (first
                | ((with_reducible refine at_alloc ?_); refine wpu_new G ?_; clear G; intro w G)
                | ((with_reducible refine at_drew ?_); refine wpu_drew G ?_; clear G; intro w G)
                | ((with_reducible refine at_load ?_); first
                  | (refine wpu_load G rfl rfl rfl rfl ?_; go_frame)
                  | (refine wpu_loadB G rfl rfl rfl (by rfl) ?_; go_frame)
                  | (refine wpu_loadS G rfl rfl rfl (by rfl) ?_; simp only [List.drop_succ_cons, List.drop_zero, List.take_succ_cons, List.take_zero]; go_frame))
                | ((with_reducible refine at_store ?_); first
                  | (refine wpu_store G rfl rfl rfl rfl (by first | rfl | assumption | simp [*]) rfl ?_; clear G; intro w G; go_frame)
                  | (refine wpu_storeB G rfl rfl rfl rfl (by rfl) (by rfl) (by first | rfl | assumption | simp [*]) ?_; clear G; intro w G; go_frame)
                  | (refine wpu_storeS G rfl rfl rfl rfl (by rfl) (by rfl) (by first | rfl | assumption | simp [*]) ?_; clear G; intro w G; go_frame))
                | ((with_reducible refine at_convert ?_); refine wpu_str G rfl rfl rfl rfl ?_; go_frame)
                | ((with_reducible refine at_slice ?_); first
                  | (refine wpu_sliceLo rfl rfl rfl rfl (by first | rfl | omega) (by omega) (by omega) ?_; go_frame)
                  | (refine wpu_sliceLH rfl rfl rfl rfl rfl (by first | rfl | omega) (by first | rfl | omega) (by omega) (by omega) ?_; go_frame))
                | ((with_reducible refine at_makeMap ?_); refine wpu_makeSet G rfl rfl ?_; clear G; intro w G; go_frame)
                | ((with_reducible refine at_update ?_); refine wpu_setPut G rfl rfl rfl rfl rfl (by omega) (by omega) (by unfold maxLen; omega) ?_; clear G; intro w G; go_frame)
                | ((with_reducible refine at_lookup ?_); refine wpu_setLook G rfl rfl rfl rfl (by omega) (by omega) ?_; go_frame)
                | ((with_reducible refine at_len ?_); refine wpu_setLen G rfl rfl rfl ?_; go_frame)
                | fail)
              go_ret
              refine ⟨?_, h⟩
              rw [← HR.out]
              unfold IdS.cls
              rw [if_neg (by omega)]
              simp [HP.out] <;> omega

/-- what Open leaves, and the fault's cells -/
def IdS.opened (s : IdS) (id : Int) : IdS × List Value :=
  if s.cls id = 1 then
    (if s.most ≤ s.theirs then ({ s with last := id }, [.bool true, .int .u32 7, .int .i64 id])
     else ({ s with last := id, act := if id ∈ s.act then s.act else id :: s.act, theirs := s.theirs + 1 }, [.bool false, .int .u32 0, .int .i64 0]))
  else (s, [.bool true, .int .u32 1, .int .i64 0])

/-- what is so of any -/
structure IdS.Ok (s : IdS) (n : Nat) : Prop where
  len : s.act.length ≤ n
  th0 : 0 ≤ s.theirs
  th1 : s.theirs ≤ n
  most0 : 0 ≤ s.most
  most1 : s.most ≤ 9223372036854775807
  lim0 : 0 ≤ s.limit
  lim1 : s.limit ≤ 9223372036854775807
  next0 : 1 ≤ s.next
  next1 : s.next ≤ 2147483649
  last0 : 0 ≤ s.last
  last1 : s.last ≤ 2147483647
  nodup : s.act.Nodup

theorem openI {id : Int} {n : Nat} (h : Own B (idsA a s * R) w) (ok : s.Ok n) (hn : n ≤ 1000000) (i1 : -9223372036854775808 ≤ id) (i2 : id ≤ 9223372036854775807) :
    Calls Try.prog 15 #[.pointer (some ⟨a, 0, none⟩), .int .i64 id] w fun e w' => e = .returned (.agg (s.opened id).2.toArray) ∧ Own B (idsA a (s.opened id).1 * R) w' := by
  have G := h
  have ht0 := ok.th0
  have ht1 := ok.th1
  have hl := ok.len
  clear ok
  by_cases hc : s.cls id = 1
  · have hcb : (s.cls id == 1) = true := by simpa using hc
    obtain ⟨r, hr⟩ : ∃ r, s.opened id = r := ⟨_, rfl⟩
    rw [hr]
    have HR := Lib.hid hr
    have HC := Lib.hid hc
    clear hr hc
    by_cases hm : s.most ≤ s.theirs
    all_goals
      have hmd : decide (s.most ≤ s.theirs) = decide (s.most ≤ s.theirs) := rfl
      clear hmd
      go_enter Try.func15, Try.ntmps15
      go_wp2_with (first
        | ((with_reducible refine at_alloc ?_); refine wpu_new G ?_; clear G; intro w G)
        | ((with_reducible refine at_drew ?_); refine wpu_drew G ?_; clear G; intro w G)
        | ((with_reducible refine at_load ?_); first
          | (refine wpu_load G rfl rfl rfl rfl ?_; go_frame)
          | (refine wpu_loadB G rfl rfl rfl (by rfl) ?_; go_frame)
          | (refine wpu_loadS G rfl rfl rfl (by rfl) ?_; simp only [List.drop_succ_cons, List.drop_zero, List.take_succ_cons, List.take_zero]; go_frame))
        | ((with_reducible refine at_store ?_); first
          | (refine wpu_store G rfl rfl rfl rfl (by first | rfl | assumption | simp [*]) rfl ?_; clear G; intro w G; go_frame)
          | (refine wpu_storeB G rfl rfl rfl rfl (by rfl) (by rfl) (by first | rfl | assumption | simp [*]) ?_; clear G; intro w G; go_frame)
          | (refine wpu_storeS G rfl rfl rfl rfl (by rfl) (by rfl) (by first | rfl | assumption | simp [*]) ?_; clear G; intro w G; go_frame))
        | ((with_reducible refine at_convert ?_); refine wpu_str G rfl rfl rfl rfl ?_; go_frame)
        | ((with_reducible refine at_slice ?_); first
          | (refine wpu_sliceLo rfl rfl rfl rfl (by first | rfl | omega) (by omega) (by omega) ?_; go_frame)
          | (refine wpu_sliceLH rfl rfl rfl rfl rfl (by first | rfl | omega) (by first | rfl | omega) (by omega) (by omega) ?_; go_frame))
        | ((with_reducible refine at_makeMap ?_); refine wpu_makeSet G rfl rfl ?_; clear G; intro w G; go_frame)
        | ((with_reducible refine at_update ?_); refine wpu_setPut G rfl rfl rfl rfl rfl (by omega) (by omega) (by unfold maxLen; omega) ?_; clear G; intro w G; go_frame)
        | ((with_reducible refine at_lookup ?_); refine wpu_setLook G rfl rfl rfl rfl (by omega) (by omega) ?_; go_frame)
        | ((with_reducible refine at_len ?_); refine wpu_setLen G rfl rfl rfl ?_; go_frame)
        | fail)
      refine Calls.mono (classI (G.pullF (idsA a)) i1 i2) ?_
      clear G; rintro e w ⟨rfl, G⟩
      obtain ⟨b, G⟩ := ids_open G
      go_wp2_with (first
        | ((with_reducible refine at_alloc ?_); refine wpu_new G ?_; clear G; intro w G)
        | ((with_reducible refine at_drew ?_); refine wpu_drew G ?_; clear G; intro w G)
        | ((with_reducible refine at_load ?_); first
          | (refine wpu_load G rfl rfl rfl rfl ?_; go_frame)
          | (refine wpu_loadB G rfl rfl rfl (by rfl) ?_; go_frame)
          | (refine wpu_loadS G rfl rfl rfl (by rfl) ?_; simp only [List.drop_succ_cons, List.drop_zero, List.take_succ_cons, List.take_zero]; go_frame))
        | ((with_reducible refine at_store ?_); first
          | (refine wpu_store G rfl rfl rfl rfl (by first | rfl | assumption | simp [*]) rfl ?_; clear G; intro w G; go_frame)
          | (refine wpu_storeB G rfl rfl rfl rfl (by rfl) (by rfl) (by first | rfl | assumption | simp [*]) ?_; clear G; intro w G; go_frame)
          | (refine wpu_storeS G rfl rfl rfl rfl (by rfl) (by rfl) (by first | rfl | assumption | simp [*]) ?_; clear G; intro w G; go_frame))
        | ((with_reducible refine at_convert ?_); refine wpu_str G rfl rfl rfl rfl ?_; go_frame)
        | ((with_reducible refine at_slice ?_); first
          | (refine wpu_sliceLo rfl rfl rfl rfl (by first | rfl | omega) (by omega) (by omega) ?_; go_frame)
          | (refine wpu_sliceLH rfl rfl rfl rfl rfl (by first | rfl | omega) (by first | rfl | omega) (by omega) (by omega) ?_; go_frame))
        | ((with_reducible refine at_makeMap ?_); refine wpu_makeSet G rfl rfl ?_; clear G; intro w G; go_frame)
        | ((with_reducible refine at_update ?_); refine wpu_setPut G rfl rfl rfl rfl rfl (by omega) (by omega) (by unfold maxLen; omega) ?_; clear G; intro w G; go_frame)
        | ((with_reducible refine at_lookup ?_); refine wpu_setLook G rfl rfl rfl rfl (by omega) (by omega) ?_; go_frame)
        | ((with_reducible refine at_len ?_); refine wpu_setLen G rfl rfl rfl ?_; go_frame)
        | fail)
      refine wp_region_calm (C := Own _ _) (by kernel_rfl) (by kernel_rfl) (own_drew G) ?_
      intro ι W hne hW hs
      repeat (first | ((with_reducible refine atq_load ?_); first | (refine wpq_load hW rfl rfl rfl rfl ?_; go_frame) | (refine wpq_loadB hW rfl rfl rfl (by rfl) ?_; go_frame) | (refine wpq_loadS hW rfl rfl rfl (by rfl) ?_; simp only [List.drop_succ_cons, List.drop_zero, List.take_succ_cons, List.take_zero]; go_frame)) | (fail) | go_big_quiet_step (fail))
      refine wpQuiet_nil ?_
      intro i
      have g := hW i
      generalize W i = wg at g ⊢
      clear  hs hW hne
      have G := g
      clear g
      go_wp2_with (first
        | ((with_reducible refine at_alloc ?_); refine wpu_new G ?_; clear G; intro w G)
        | ((with_reducible refine at_drew ?_); refine wpu_drew G ?_; clear G; intro w G)
        | ((with_reducible refine at_load ?_); first
          | (refine wpu_load G rfl rfl rfl rfl ?_; go_frame)
          | (refine wpu_loadB G rfl rfl rfl (by rfl) ?_; go_frame)
          | (refine wpu_loadS G rfl rfl rfl (by rfl) ?_; simp only [List.drop_succ_cons, List.drop_zero, List.take_succ_cons, List.take_zero]; go_frame))
        | ((with_reducible refine at_store ?_); first
          | (refine wpu_store G rfl rfl rfl rfl (by first | rfl | assumption | simp [*]) rfl ?_; clear G; intro w G; go_frame)
          | (refine wpu_storeB G rfl rfl rfl rfl (by rfl) (by rfl) (by first | rfl | assumption | simp [*]) ?_; clear G; intro w G; go_frame)
          | (refine wpu_storeS G rfl rfl rfl rfl (by rfl) (by rfl) (by first | rfl | assumption | simp [*]) ?_; clear G; intro w G; go_frame))
        | ((with_reducible refine at_convert ?_); refine wpu_str G rfl rfl rfl rfl ?_; go_frame)
        | ((with_reducible refine at_slice ?_); first
          | (refine wpu_sliceLo rfl rfl rfl rfl (by first | rfl | omega) (by omega) (by omega) ?_; go_frame)
          | (refine wpu_sliceLH rfl rfl rfl rfl rfl (by first | rfl | omega) (by first | rfl | omega) (by omega) (by omega) ?_; go_frame))
        | ((with_reducible refine at_makeMap ?_); refine wpu_makeSet G rfl rfl ?_; clear G; intro w G; go_frame)
        | ((with_reducible refine at_update ?_); refine wpu_setPut G rfl rfl rfl rfl rfl (by omega) (by omega) (by unfold maxLen; omega) ?_; clear G; intro w G; go_frame)
        | ((with_reducible refine at_lookup ?_); refine wpu_setLook G rfl rfl rfl rfl (by omega) (by omega) ?_; go_frame)
        | ((with_reducible refine at_len ?_); refine wpu_setLen G rfl rfl rfl ?_; go_frame)
        | fail)
      try simp only [Exit.inBlock, Exit.then]
      refine bodyPost_ret (results1 rfl (by first | exact resT rfl | exact resB G rfl (by rfl) | exact resO G rfl rfl)) rfl ?_
      rw [← HR.out]
      unfold IdS.opened
      rw [if_pos HC.out]
    · rw [if_pos hm]
      exact ⟨rfl, (ids_close ((G.pullF (actA b)).at1 a) { s with last := id } (by rfl) (by rfl)).give⟩
    · rw [if_neg (by omega)]
      exact ⟨rfl, (ids_close ((G.pullF (actA b)).at1 a) { s with last := id, act := if id ∈ s.act then s.act else id :: s.act, theirs := s.theirs + 1 } (by rfl) (by rfl)).give⟩
  · go_enter Try.func15, Try.ntmps15
    have hcb : (s.cls id == 1) = false := by simpa using hc
    go_wp2_with (first
      | ((with_reducible refine at_alloc ?_); refine wpu_new G ?_; clear G; intro w G)
      | ((with_reducible refine at_drew ?_); refine wpu_drew G ?_; clear G; intro w G)
      | ((with_reducible refine at_load ?_); first
        | (refine wpu_load G rfl rfl rfl rfl ?_; go_frame)
        | (refine wpu_loadB G rfl rfl rfl (by rfl) ?_; go_frame)
        | (refine wpu_loadS G rfl rfl rfl (by rfl) ?_; simp only [List.drop_succ_cons, List.drop_zero, List.take_succ_cons, List.take_zero]; go_frame))
      | ((with_reducible refine at_store ?_); first
        | (refine wpu_store G rfl rfl rfl rfl (by first | rfl | assumption | simp [*]) rfl ?_; clear G; intro w G; go_frame)
        | (refine wpu_storeB G rfl rfl rfl rfl (by rfl) (by rfl) (by first | rfl | assumption | simp [*]) ?_; clear G; intro w G; go_frame)
        | (refine wpu_storeS G rfl rfl rfl rfl (by rfl) (by rfl) (by first | rfl | assumption | simp [*]) ?_; clear G; intro w G; go_frame))
      | ((with_reducible refine at_convert ?_); refine wpu_str G rfl rfl rfl rfl ?_; go_frame)
      | ((with_reducible refine at_slice ?_); first
        | (refine wpu_sliceLo rfl rfl rfl rfl (by first | rfl | omega) (by omega) (by omega) ?_; go_frame)
        | (refine wpu_sliceLH rfl rfl rfl rfl rfl (by first | rfl | omega) (by first | rfl | omega) (by omega) (by omega) ?_; go_frame))
      | ((with_reducible refine at_makeMap ?_); refine wpu_makeSet G rfl rfl ?_; clear G; intro w G; go_frame)
      | ((with_reducible refine at_update ?_); refine wpu_setPut G rfl rfl rfl rfl rfl (by omega) (by omega) (by unfold maxLen; omega) ?_; clear G; intro w G; go_frame)
      | ((with_reducible refine at_lookup ?_); refine wpu_setLook G rfl rfl rfl rfl (by omega) (by omega) ?_; go_frame)
      | ((with_reducible refine at_len ?_); refine wpu_setLen G rfl rfl rfl ?_; go_frame)
      | fail)
    refine Calls.mono (classI (G.pullF (idsA a)) i1 i2) ?_
    clear G; rintro e w ⟨rfl, G⟩
    go_wp2_with (first
      | ((with_reducible refine at_alloc ?_); refine wpu_new G ?_; clear G; intro w G)
      | ((with_reducible refine at_drew ?_); refine wpu_drew G ?_; clear G; intro w G)
      | ((with_reducible refine at_load ?_); first
        | (refine wpu_load G rfl rfl rfl rfl ?_; go_frame)
        | (refine wpu_loadB G rfl rfl rfl (by rfl) ?_; go_frame)
        | (refine wpu_loadS G rfl rfl rfl (by rfl) ?_; simp only [List.drop_succ_cons, List.drop_zero, List.take_succ_cons, List.take_zero]; go_frame))
      | ((with_reducible refine at_store ?_); first
        | (refine wpu_store G rfl rfl rfl rfl (by first | rfl | assumption | simp [*]) rfl ?_; clear G; intro w G; go_frame)
        | (refine wpu_storeB G rfl rfl rfl rfl (by rfl) (by rfl) (by first | rfl | assumption | simp [*]) ?_; clear G; intro w G; go_frame)
        | (refine wpu_storeS G rfl rfl rfl rfl (by rfl) (by rfl) (by first | rfl | assumption | simp [*]) ?_; clear G; intro w G; go_frame))
      | ((with_reducible refine at_convert ?_); refine wpu_str G rfl rfl rfl rfl ?_; go_frame)
      | ((with_reducible refine at_slice ?_); first
        | (refine wpu_sliceLo rfl rfl rfl rfl (by first | rfl | omega) (by omega) (by omega) ?_; go_frame)
        | (refine wpu_sliceLH rfl rfl rfl rfl rfl (by first | rfl | omega) (by first | rfl | omega) (by omega) (by omega) ?_; go_frame))
      | ((with_reducible refine at_makeMap ?_); refine wpu_makeSet G rfl rfl ?_; clear G; intro w G; go_frame)
      | ((with_reducible refine at_update ?_); refine wpu_setPut G rfl rfl rfl rfl rfl (by omega) (by omega) (by unfold maxLen; omega) ?_; clear G; intro w G; go_frame)
      | ((with_reducible refine at_lookup ?_); refine wpu_setLook G rfl rfl rfl rfl (by omega) (by omega) ?_; go_frame)
      | ((with_reducible refine at_len ?_); refine wpu_setLen G rfl rfl rfl ?_; go_frame)
      | fail)
    try simp only [Exit.inBlock, Exit.then]
    refine bodyPost_ret (results1 rfl (by first | exact resT rfl | exact resB G rfl (by rfl) | exact resO G rfl rfl)) rfl ?_
    unfold IdS.opened
    rw [if_neg hc]
    exact ⟨rfl, G.give⟩

/-- what Next leaves, its number and its error -/
def IdS.nexted (s : IdS) : IdS × Int × Int :=
  if s.limit ≤ s.act.length - s.theirs then (s, 0, 5)
  else if 2147483647 < s.next then (s, 0, 8)
  else ({ s with next := s.next + 2, act := if s.next ∈ s.act then s.act else s.next :: s.act }, s.next, 0)


theorem nextI {n : Nat} (h : Own B (idsA a s * R) w) (ok : s.Ok n) (hn : n ≤ 1000000) :
    Calls Try.prog 16 #[.pointer (some ⟨a, 0, none⟩)] w fun e w' => e = .returned (.tuple #[.int .i64 s.nexted.2.1, .int .i64 s.nexted.2.2]) ∧ Own B (idsA a s.nexted.1 * R) w' := by
  obtain ⟨b, G⟩ := ids_open h
  have ht0 := ok.th0
  have ht1 := ok.th1
  have hl := ok.len
  have hn0 := ok.next0
  have hn1 := ok.next1
  clear ok
  obtain ⟨r, hr⟩ : ∃ r, s.nexted = r := ⟨_, rfl⟩
  rw [hr]
  have HR := Lib.hid hr
  clear hr
  by_cases h1 : s.limit ≤ s.act.length - s.theirs
  · have h1b : decide (s.limit ≤ s.act.length - s.theirs) = true := by simpa using h1
    have H1 := Lib.hid h1
    clear h1
    go_enter Try.func16, Try.ntmps16
    go_wp2_with (first
      | ((with_reducible refine at_alloc ?_); refine wpu_new G ?_; clear G; intro w G)
      | ((with_reducible refine at_drew ?_); refine wpu_drew G ?_; clear G; intro w G)
      | ((with_reducible refine at_load ?_); first
        | (refine wpu_load G rfl rfl rfl rfl ?_; go_frame)
        | (refine wpu_loadB G rfl rfl rfl (by rfl) ?_; go_frame)
        | (refine wpu_loadS G rfl rfl rfl (by rfl) ?_; simp only [List.drop_succ_cons, List.drop_zero, List.take_succ_cons, List.take_zero]; go_frame))
      | ((with_reducible refine at_store ?_); first
        | (refine wpu_store G rfl rfl rfl rfl (by first | rfl | assumption | simp [*]) rfl ?_; clear G; intro w G; go_frame)
        | (refine wpu_storeB G rfl rfl rfl rfl (by rfl) (by rfl) (by first | rfl | assumption | simp [*]) ?_; clear G; intro w G; go_frame)
        | (refine wpu_storeS G rfl rfl rfl rfl (by rfl) (by rfl) (by first | rfl | assumption | simp [*]) ?_; clear G; intro w G; go_frame))
      | ((with_reducible refine at_convert ?_); refine wpu_str G rfl rfl rfl rfl ?_; go_frame)
      | ((with_reducible refine at_slice ?_); first
        | (refine wpu_sliceLo rfl rfl rfl rfl (by first | rfl | omega) (by omega) (by omega) ?_; go_frame)
        | (refine wpu_sliceLH rfl rfl rfl rfl rfl (by first | rfl | omega) (by first | rfl | omega) (by omega) (by omega) ?_; go_frame))
      | ((with_reducible refine at_makeMap ?_); refine wpu_makeSet G rfl rfl ?_; clear G; intro w G; go_frame)
      | ((with_reducible refine at_update ?_); refine wpu_setPut G rfl rfl rfl rfl rfl (by omega) (by omega) (by unfold maxLen; omega) ?_; clear G; intro w G; go_frame)
      | ((with_reducible refine at_lookup ?_); refine wpu_setLook G rfl rfl rfl rfl (by omega) (by omega) ?_; go_frame)
      | ((with_reducible refine at_len ?_); refine wpu_setLen G rfl rfl rfl ?_; go_frame)
      | fail)
    refine wp_region_calm (C := Own _ _) (by kernel_rfl) (by kernel_rfl) (own_drew G) ?_
    intro ι W hne hW hs
    repeat (first | ((with_reducible refine atq_load ?_); first | (refine wpq_load hW rfl rfl rfl rfl ?_; go_frame) | (refine wpq_loadB hW rfl rfl rfl (by rfl) ?_; go_frame) | (refine wpq_loadS hW rfl rfl rfl (by rfl) ?_; simp only [List.drop_succ_cons, List.drop_zero, List.take_succ_cons, List.take_zero]; go_frame)) | ((with_reducible refine atq_len ?_); refine wpq_setLen hW rfl rfl rfl ?_; go_frame) | go_big_quiet_step (fail))
    refine wpQuiet_nil ?_
    intro i
    have g := hW i
    generalize W i = wg at g ⊢
    clear  hs hW hne
    have G := g
    clear g
    go_wp2_with (first
      | ((with_reducible refine at_alloc ?_); refine wpu_new G ?_; clear G; intro w G)
      | ((with_reducible refine at_drew ?_); refine wpu_drew G ?_; clear G; intro w G)
      | ((with_reducible refine at_load ?_); first
        | (refine wpu_load G rfl rfl rfl rfl ?_; go_frame)
        | (refine wpu_loadB G rfl rfl rfl (by rfl) ?_; go_frame)
        | (refine wpu_loadS G rfl rfl rfl (by rfl) ?_; simp only [List.drop_succ_cons, List.drop_zero, List.take_succ_cons, List.take_zero]; go_frame))
      | ((with_reducible refine at_store ?_); first
        | (refine wpu_store G rfl rfl rfl rfl (by first | rfl | assumption | simp [*]) rfl ?_; clear G; intro w G; go_frame)
        | (refine wpu_storeB G rfl rfl rfl rfl (by rfl) (by rfl) (by first | rfl | assumption | simp [*]) ?_; clear G; intro w G; go_frame)
        | (refine wpu_storeS G rfl rfl rfl rfl (by rfl) (by rfl) (by first | rfl | assumption | simp [*]) ?_; clear G; intro w G; go_frame))
      | ((with_reducible refine at_convert ?_); refine wpu_str G rfl rfl rfl rfl ?_; go_frame)
      | ((with_reducible refine at_slice ?_); first
        | (refine wpu_sliceLo rfl rfl rfl rfl (by first | rfl | omega) (by omega) (by omega) ?_; go_frame)
        | (refine wpu_sliceLH rfl rfl rfl rfl rfl (by first | rfl | omega) (by first | rfl | omega) (by omega) (by omega) ?_; go_frame))
      | ((with_reducible refine at_makeMap ?_); refine wpu_makeSet G rfl rfl ?_; clear G; intro w G; go_frame)
      | ((with_reducible refine at_update ?_); refine wpu_setPut G rfl rfl rfl rfl rfl (by omega) (by omega) (by unfold maxLen; omega) ?_; clear G; intro w G; go_frame)
      | ((with_reducible refine at_lookup ?_); refine wpu_setLook G rfl rfl rfl rfl (by omega) (by omega) ?_; go_frame)
      | ((with_reducible refine at_len ?_); refine wpu_setLen G rfl rfl rfl ?_; go_frame)
      | fail)
    go_ret2
    rw [← HR.out]
    unfold IdS.nexted
    rw [if_pos H1.out]
    exact ⟨rfl, ids_close G s rfl rfl⟩
  · have h1b : decide (s.limit ≤ s.act.length - s.theirs) = false := by simpa using h1
    have H1 := Lib.hid h1
    clear h1
    by_cases h2 : 2147483647 < s.next
    all_goals
      go_enter Try.func16, Try.ntmps16
      go_wp2_with (first
        | ((with_reducible refine at_alloc ?_); refine wpu_new G ?_; clear G; intro w G)
        | ((with_reducible refine at_drew ?_); refine wpu_drew G ?_; clear G; intro w G)
        | ((with_reducible refine at_load ?_); first
          | (refine wpu_load G rfl rfl rfl rfl ?_; go_frame)
          | (refine wpu_loadB G rfl rfl rfl (by rfl) ?_; go_frame)
          | (refine wpu_loadS G rfl rfl rfl (by rfl) ?_; simp only [List.drop_succ_cons, List.drop_zero, List.take_succ_cons, List.take_zero]; go_frame))
        | ((with_reducible refine at_store ?_); first
          | (refine wpu_store G rfl rfl rfl rfl (by first | rfl | assumption | simp [*]) rfl ?_; clear G; intro w G; go_frame)
          | (refine wpu_storeB G rfl rfl rfl rfl (by rfl) (by rfl) (by first | rfl | assumption | simp [*]) ?_; clear G; intro w G; go_frame)
          | (refine wpu_storeS G rfl rfl rfl rfl (by rfl) (by rfl) (by first | rfl | assumption | simp [*]) ?_; clear G; intro w G; go_frame))
        | ((with_reducible refine at_convert ?_); refine wpu_str G rfl rfl rfl rfl ?_; go_frame)
        | ((with_reducible refine at_slice ?_); first
          | (refine wpu_sliceLo rfl rfl rfl rfl (by first | rfl | omega) (by omega) (by omega) ?_; go_frame)
          | (refine wpu_sliceLH rfl rfl rfl rfl rfl (by first | rfl | omega) (by first | rfl | omega) (by omega) (by omega) ?_; go_frame))
        | ((with_reducible refine at_makeMap ?_); refine wpu_makeSet G rfl rfl ?_; clear G; intro w G; go_frame)
        | ((with_reducible refine at_update ?_); refine wpu_setPut G rfl rfl rfl rfl rfl (by omega) (by omega) (by unfold maxLen; omega) ?_; clear G; intro w G; go_frame)
        | ((with_reducible refine at_lookup ?_); refine wpu_setLook G rfl rfl rfl rfl (by omega) (by omega) ?_; go_frame)
        | ((with_reducible refine at_len ?_); refine wpu_setLen G rfl rfl rfl ?_; go_frame)
        | fail)
      refine wp_region_calm (C := Own _ _) (by kernel_rfl) (by kernel_rfl) (own_drew G) ?_
      intro ι W hne hW hs
      repeat (first | ((with_reducible refine atq_load ?_); first | (refine wpq_load hW rfl rfl rfl rfl ?_; go_frame) | (refine wpq_loadB hW rfl rfl rfl (by rfl) ?_; go_frame) | (refine wpq_loadS hW rfl rfl rfl (by rfl) ?_; simp only [List.drop_succ_cons, List.drop_zero, List.take_succ_cons, List.take_zero]; go_frame)) | ((with_reducible refine atq_len ?_); refine wpq_setLen hW rfl rfl rfl ?_; go_frame) | go_big_quiet_step (fail))
      refine wpQuiet_nil ?_
      intro i
      have g := hW i
      generalize W i = wg at g ⊢
      clear  hs hW hne
      have G := g
      clear g
      go_wp2_with (first
        | ((with_reducible refine at_alloc ?_); refine wpu_new G ?_; clear G; intro w G)
        | ((with_reducible refine at_drew ?_); refine wpu_drew G ?_; clear G; intro w G)
        | ((with_reducible refine at_load ?_); first
          | (refine wpu_load G rfl rfl rfl rfl ?_; go_frame)
          | (refine wpu_loadB G rfl rfl rfl (by rfl) ?_; go_frame)
          | (refine wpu_loadS G rfl rfl rfl (by rfl) ?_; simp only [List.drop_succ_cons, List.drop_zero, List.take_succ_cons, List.take_zero]; go_frame))
        | ((with_reducible refine at_store ?_); first
          | (refine wpu_store G rfl rfl rfl rfl (by first | rfl | assumption | simp [*]) rfl ?_; clear G; intro w G; go_frame)
          | (refine wpu_storeB G rfl rfl rfl rfl (by rfl) (by rfl) (by first | rfl | assumption | simp [*]) ?_; clear G; intro w G; go_frame)
          | (refine wpu_storeS G rfl rfl rfl rfl (by rfl) (by rfl) (by first | rfl | assumption | simp [*]) ?_; clear G; intro w G; go_frame))
        | ((with_reducible refine at_convert ?_); refine wpu_str G rfl rfl rfl rfl ?_; go_frame)
        | ((with_reducible refine at_slice ?_); first
          | (refine wpu_sliceLo rfl rfl rfl rfl (by first | rfl | omega) (by omega) (by omega) ?_; go_frame)
          | (refine wpu_sliceLH rfl rfl rfl rfl rfl (by first | rfl | omega) (by first | rfl | omega) (by omega) (by omega) ?_; go_frame))
        | ((with_reducible refine at_makeMap ?_); refine wpu_makeSet G rfl rfl ?_; clear G; intro w G; go_frame)
        | ((with_reducible refine at_update ?_); refine wpu_setPut G rfl rfl rfl rfl rfl (by omega) (by omega) (by unfold maxLen; omega) ?_; clear G; intro w G; go_frame)
        | ((with_reducible refine at_lookup ?_); refine wpu_setLook G rfl rfl rfl rfl (by omega) (by omega) ?_; go_frame)
        | ((with_reducible refine at_len ?_); refine wpu_setLen G rfl rfl rfl ?_; go_frame)
        | fail)
      go_ret2
      rw [← HR.out]
      unfold IdS.nexted
      rw [if_neg (by have := H1.out; omega)]
    · rw [if_pos h2]
      exact ⟨rfl, ids_close G s rfl rfl⟩
    · rw [if_neg (by omega)]
      exact ⟨rfl, (ids_close ((G.pullF (actA b)).at1 a) { s with next := s.next + 2, act := if s.next ∈ s.act then s.act else s.next :: s.act } (by rfl) (by rfl)).give⟩

theorem activeI {n : Nat} (h : Own B (idsA a s * R) w) (ok : s.Ok n) (hn : n ≤ 1000000) :
    Calls Try.prog 28 #[.pointer (some ⟨a, 0, none⟩)] w fun e w' => e = .returned (.tuple #[.int .i64 s.theirs, .int .i64 (s.act.length - s.theirs)]) ∧ Own B (idsA a s * R) w' := by
  obtain ⟨b, G⟩ := ids_open h
  have ht0 := ok.th0
  have ht1 := ok.th1
  have hl := ok.len
  clear ok
  go_enter Try.func28, Try.ntmps28
  go_wp2_with (first
    | ((with_reducible refine at_alloc ?_); refine wpu_new G ?_; clear G; intro w G)
    | ((with_reducible refine at_drew ?_); refine wpu_drew G ?_; clear G; intro w G)
    | ((with_reducible refine at_load ?_); first
      | (refine wpu_load G rfl rfl rfl rfl ?_; go_frame)
      | (refine wpu_loadB G rfl rfl rfl (by rfl) ?_; go_frame)
      | (refine wpu_loadS G rfl rfl rfl (by rfl) ?_; simp only [List.drop_succ_cons, List.drop_zero, List.take_succ_cons, List.take_zero]; go_frame))
    | ((with_reducible refine at_store ?_); first
      | (refine wpu_store G rfl rfl rfl rfl (by first | rfl | assumption | simp [*]) rfl ?_; clear G; intro w G; go_frame)
      | (refine wpu_storeB G rfl rfl rfl rfl (by rfl) (by rfl) (by first | rfl | assumption | simp [*]) ?_; clear G; intro w G; go_frame)
      | (refine wpu_storeS G rfl rfl rfl rfl (by rfl) (by rfl) (by first | rfl | assumption | simp [*]) ?_; clear G; intro w G; go_frame))
    | ((with_reducible refine at_convert ?_); refine wpu_str G rfl rfl rfl rfl ?_; go_frame)
    | ((with_reducible refine at_slice ?_); first
      | (refine wpu_sliceLo rfl rfl rfl rfl (by first | rfl | omega) (by omega) (by omega) ?_; go_frame)
      | (refine wpu_sliceLH rfl rfl rfl rfl rfl (by first | rfl | omega) (by first | rfl | omega) (by omega) (by omega) ?_; go_frame))
    | ((with_reducible refine at_makeMap ?_); refine wpu_makeSet G rfl rfl ?_; clear G; intro w G; go_frame)
    | ((with_reducible refine at_update ?_); refine wpu_setPut G rfl rfl rfl rfl rfl (by omega) (by omega) (by unfold maxLen; omega) ?_; clear G; intro w G; go_frame)
    | ((with_reducible refine at_lookup ?_); refine wpu_setLook G rfl rfl rfl rfl (by omega) (by omega) ?_; go_frame)
    | ((with_reducible refine at_len ?_); refine wpu_setLen G rfl rfl rfl ?_; go_frame)
    | fail)
  refine wp_region_calm (C := Own _ _) (by kernel_rfl) (by kernel_rfl) (own_drew G) ?_
  intro ι W hne hW hs
  repeat (first | ((with_reducible refine atq_load ?_); first | (refine wpq_load hW rfl rfl rfl rfl ?_; go_frame) | (refine wpq_loadB hW rfl rfl rfl (by rfl) ?_; go_frame) | (refine wpq_loadS hW rfl rfl rfl (by rfl) ?_; simp only [List.drop_succ_cons, List.drop_zero, List.take_succ_cons, List.take_zero]; go_frame)) | ((with_reducible refine atq_len ?_); refine wpq_setLen hW rfl rfl rfl ?_; go_frame) | go_big_quiet_step (fail))
  refine wpQuiet_nil ?_
  intro i
  have g := hW i
  generalize W i = wg at g ⊢
  clear  hs hW hne
  have G := g
  clear g
  go_wp2_with (first
    | ((with_reducible refine at_alloc ?_); refine wpu_new G ?_; clear G; intro w G)
    | ((with_reducible refine at_drew ?_); refine wpu_drew G ?_; clear G; intro w G)
    | ((with_reducible refine at_load ?_); first
      | (refine wpu_load G rfl rfl rfl rfl ?_; go_frame)
      | (refine wpu_loadB G rfl rfl rfl (by rfl) ?_; go_frame)
      | (refine wpu_loadS G rfl rfl rfl (by rfl) ?_; simp only [List.drop_succ_cons, List.drop_zero, List.take_succ_cons, List.take_zero]; go_frame))
    | ((with_reducible refine at_store ?_); first
      | (refine wpu_store G rfl rfl rfl rfl (by first | rfl | assumption | simp [*]) rfl ?_; clear G; intro w G; go_frame)
      | (refine wpu_storeB G rfl rfl rfl rfl (by rfl) (by rfl) (by first | rfl | assumption | simp [*]) ?_; clear G; intro w G; go_frame)
      | (refine wpu_storeS G rfl rfl rfl rfl (by rfl) (by rfl) (by first | rfl | assumption | simp [*]) ?_; clear G; intro w G; go_frame))
    | ((with_reducible refine at_convert ?_); refine wpu_str G rfl rfl rfl rfl ?_; go_frame)
    | ((with_reducible refine at_slice ?_); first
      | (refine wpu_sliceLo rfl rfl rfl rfl (by first | rfl | omega) (by omega) (by omega) ?_; go_frame)
      | (refine wpu_sliceLH rfl rfl rfl rfl rfl (by first | rfl | omega) (by first | rfl | omega) (by omega) (by omega) ?_; go_frame))
    | ((with_reducible refine at_makeMap ?_); refine wpu_makeSet G rfl rfl ?_; clear G; intro w G; go_frame)
    | ((with_reducible refine at_update ?_); refine wpu_setPut G rfl rfl rfl rfl rfl (by omega) (by omega) (by unfold maxLen; omega) ?_; clear G; intro w G; go_frame)
    | ((with_reducible refine at_lookup ?_); refine wpu_setLook G rfl rfl rfl rfl (by omega) (by omega) ?_; go_frame)
    | ((with_reducible refine at_len ?_); refine wpu_setLen G rfl rfl rfl ?_; go_frame)
    | fail)
  go_ret2
  exact ⟨rfl, ids_close G s rfl rfl⟩

/-- what Close leaves, and its error -/
def IdS.closed (s : IdS) (id : Int) : IdS × Int :=
  if id ∈ s.act then ({ s with act := s.act.erase id, theirs := if (id % 2 == 1) = s.server then s.theirs - 1 else s.theirs }, 0) else (s, 6)

theorem closeI {id : Int} {n : Nat} (h : Own B (idsA a s * R) w) (ok : s.Ok n) (hn : n ≤ 1000000) (hpos : id ∈ s.act → 1 ≤ id) (i1 : -9223372036854775808 ≤ id) (i2 : id ≤ 9223372036854775807) :
    Calls Try.prog 17 #[.pointer (some ⟨a, 0, none⟩), .int .i64 id] w fun e w' => e = .returned (.int .i64 (s.closed id).2) ∧ Own B (idsA a (s.closed id).1 * R) w' := by
  obtain ⟨b, G⟩ := ids_open h
  have ht0 := ok.th0
  have ht1 := ok.th1
  have hl := ok.len
  have hd := Lib.hid ok.nodup
  clear ok
  obtain ⟨r, hr⟩ : ∃ r, s.closed id = r := ⟨_, rfl⟩
  rw [hr]
  have HR := Lib.hid hr
  clear hr
  by_cases h1 : id ∈ s.act
  · have h1b : decide (id ∈ s.act) = true := by simpa using h1
    have hp := hpos h1
    have H1 := Lib.hid h1
    clear h1 hpos
    obtain ⟨sv, mo, li, la, ne, ac, th⟩ := s
    replace ht0 : 0 ≤ th := ht0
    replace ht1 : th ≤ n := ht1
    have e64 : wrap64 (th - 1) = th - 1 := IntWalk.wrap64_in _ ⟨by omega, by omega⟩
    cases hq : (id % 2 == 1)
    all_goals
      have hp2 : decide (id % 2 = 1) = (id % 2 == 1) := rfl
      rw [hq] at hp2
      have HQ := Lib.hid hq
      cases sv
      all_goals
        go_enter Try.func17, Try.ntmps17
        go_wp2_with (first
          | ((with_reducible refine at_alloc ?_); refine wpu_new G ?_; clear G; intro w G)
          | ((with_reducible refine at_drew ?_); refine wpu_drew G ?_; clear G; intro w G)
          | ((with_reducible refine at_load ?_); first
            | (refine wpu_load G rfl rfl rfl rfl ?_; go_frame)
            | (refine wpu_loadB G rfl rfl rfl (by rfl) ?_; go_frame)
            | (refine wpu_loadS G rfl rfl rfl (by rfl) ?_; simp only [List.drop_succ_cons, List.drop_zero, List.take_succ_cons, List.take_zero]; go_frame))
          | ((with_reducible refine at_store ?_); first
            | (refine wpu_store G rfl rfl rfl rfl (by first | rfl | assumption | simp [*]) rfl ?_; clear G; intro w G; go_frame)
            | (refine wpu_storeB G rfl rfl rfl rfl (by rfl) (by rfl) (by first | rfl | assumption | simp [*]) ?_; clear G; intro w G; go_frame)
            | (refine wpu_storeS G rfl rfl rfl rfl (by rfl) (by rfl) (by first | rfl | assumption | simp [*]) ?_; clear G; intro w G; go_frame))
          | ((with_reducible refine at_convert ?_); refine wpu_str G rfl rfl rfl rfl ?_; go_frame)
          | ((with_reducible refine at_slice ?_); first
            | (refine wpu_sliceLo rfl rfl rfl rfl (by first | rfl | omega) (by omega) (by omega) ?_; go_frame)
            | (refine wpu_sliceLH rfl rfl rfl rfl rfl (by first | rfl | omega) (by first | rfl | omega) (by omega) (by omega) ?_; go_frame))
          | ((with_reducible refine at_makeMap ?_); refine wpu_makeSet G rfl rfl ?_; clear G; intro w G; go_frame)
          | ((with_reducible refine at_update ?_); refine wpu_setPut G rfl rfl rfl rfl rfl (by omega) (by omega) (by unfold maxLen; omega) ?_; clear G; intro w G; go_frame)
          | ((with_reducible refine at_lookup ?_); refine wpu_setLook G rfl rfl rfl rfl (by omega) (by omega) ?_; go_frame)
          | ((with_reducible refine at_len ?_); refine wpu_setLen G rfl rfl rfl ?_; go_frame)
          | ((with_reducible refine at_delete ?_); refine wpu_setDel G rfl rfl rfl rfl (by omega) (by omega) hd.out ?_; clear G; intro w G; go_frame))
        go_ret
        rw [← HR.out]
        unfold IdS.closed
        rw [if_pos H1.out]
        simp only [HQ.out]
        exact ⟨rfl, ids_close ((G.pullF (actA b)).at1 a) _ (by simp [IdS.cs]) rfl⟩
  · have h1b : decide (id ∈ s.act) = false := by simpa using h1
    have H1 := Lib.hid h1
    clear h1 hpos
    go_enter Try.func17, Try.ntmps17
    go_wp2_with (first
      | ((with_reducible refine at_alloc ?_); refine wpu_new G ?_; clear G; intro w G)
      | ((with_reducible refine at_drew ?_); refine wpu_drew G ?_; clear G; intro w G)
      | ((with_reducible refine at_load ?_); first
        | (refine wpu_load G rfl rfl rfl rfl ?_; go_frame)
        | (refine wpu_loadB G rfl rfl rfl (by rfl) ?_; go_frame)
        | (refine wpu_loadS G rfl rfl rfl (by rfl) ?_; simp only [List.drop_succ_cons, List.drop_zero, List.take_succ_cons, List.take_zero]; go_frame))
      | ((with_reducible refine at_store ?_); first
        | (refine wpu_store G rfl rfl rfl rfl (by first | rfl | assumption | simp [*]) rfl ?_; clear G; intro w G; go_frame)
        | (refine wpu_storeB G rfl rfl rfl rfl (by rfl) (by rfl) (by first | rfl | assumption | simp [*]) ?_; clear G; intro w G; go_frame)
        | (refine wpu_storeS G rfl rfl rfl rfl (by rfl) (by rfl) (by first | rfl | assumption | simp [*]) ?_; clear G; intro w G; go_frame))
      | ((with_reducible refine at_convert ?_); refine wpu_str G rfl rfl rfl rfl ?_; go_frame)
      | ((with_reducible refine at_slice ?_); first
        | (refine wpu_sliceLo rfl rfl rfl rfl (by first | rfl | omega) (by omega) (by omega) ?_; go_frame)
        | (refine wpu_sliceLH rfl rfl rfl rfl rfl (by first | rfl | omega) (by first | rfl | omega) (by omega) (by omega) ?_; go_frame))
      | ((with_reducible refine at_makeMap ?_); refine wpu_makeSet G rfl rfl ?_; clear G; intro w G; go_frame)
      | ((with_reducible refine at_update ?_); refine wpu_setPut G rfl rfl rfl rfl rfl (by omega) (by omega) (by unfold maxLen; omega) ?_; clear G; intro w G; go_frame)
      | ((with_reducible refine at_lookup ?_); refine wpu_setLook G rfl rfl rfl rfl (by omega) (by omega) ?_; go_frame)
      | ((with_reducible refine at_len ?_); refine wpu_setLen G rfl rfl rfl ?_; go_frame)
      | fail)
    go_ret
    rw [← HR.out]
    unfold IdS.closed
    rw [if_neg H1.out]
    exact ⟨rfl, ids_close G s rfl rfl⟩
end
end Go.Proofs.Ytadbpekkmlblmaa
