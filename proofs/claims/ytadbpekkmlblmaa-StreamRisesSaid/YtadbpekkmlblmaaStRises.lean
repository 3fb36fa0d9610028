
/-
  StreamRises: numbers rise, and none is given twice.
-/
import Derived.Test.YtadbpekkmlblmaaStOps
import Derived.Test.YtadbpekkmlblmaaLaw
namespace Go.Proofs.Ytadbpekkmlblmaa.streamRises
open Go.RowKit Go.Sl Go.ChangeShapes



/-- what is so behind k rounds -/
structure Inv (sv : Bool) (k : Nat) (s : IdS) (own last : Int) : Prop where
  inn : s.In k
  hsv : s.server = sv
  hmost : s.most = 1000
  hlim : s.limit = 2147483647
  hown : s.next = own
  hlast : s.last = last
  low : own ≤ 2 + 2 * k

theorem Inv.thl {sv : Bool} {k : Nat} {s : IdS} {own last : Int} (h : Inv sv k s own last) : 0 ≤ s.theirs ∧ s.theirs ≤ s.act.length ∧ s.act.length ≤ k := by
  rw [h.inn.cnt]
  have := List.countP_le_length (p := s.their) (l := s.act)
  have := h.inn.len
  omega

theorem Inv.fresh {sv : Bool} {k : Nat} {s : IdS} {own last id : Int} (h : Inv sv k s own last) (hc : s.cls id = 1) : id ∉ s.act := by
  obtain ⟨a1, a2, a3, a4⟩ := (IdS.cls_one s id).1 hc
  exact h.inn.fresh a4 a3

theorem Inv.next {sv : Bool} {k : Nat} {s : IdS} {own last : Int} (h : Inv sv k s own last) (hk : k < 100) :
    ∃ s', s.nexted = (s', own, 0) ∧ Inv sv (k + 1) s' (own + 2) last ∧ s'.cls own = 4 ∧ s'.cls (own + 2) = 3 ∧ 1 ≤ own := by
  have hl := h.thl
  have hlow := h.low
  have ho := h.hown
  have hli := h.hlim
  have e := IdS.nexted_yes (s := s) (by omega) (by omega) h.inn.freshN
  have hin := h.inn.next
  have h0 := h.inn.next0
  have hp := h.inn.par
  rw [e] at hin
  rw [ho] at e hp h0
  refine ⟨_, e, ⟨by rw [← ho]; exact hin, h.hsv, h.hmost, h.hlim, rfl, h.hlast, by omega⟩, ?_, ?_, h0⟩
  · refine (IdS.cls_ours (s := { s with next := own + 2, act := own :: s.act }) (by omega) (by omega) hp).trans ?_
    rw [if_neg (by show ¬ own + 2 ≤ own; omega)]
  · refine (IdS.cls_ours (s := { s with next := own + 2, act := own :: s.act }) (by omega) (by omega) ((IdS.their_two _ _).trans hp)).trans ?_
    rw [if_pos (by show own + 2 ≤ own + 2; omega)]

theorem Inv.open {sv : Bool} {k : Nat} {s : IdS} {own last id : Int} (h : Inv sv k s own last) (hk : k < 100) (hc : s.cls id = 1) :
    ∃ s', s.opened id = (s', [.bool false, .int .u32 0, .int .i64 0]) ∧ Inv sv (k + 1) s' own id := by
  have hl := h.thl
  have hm := h.hmost
  have e := IdS.opened_yes hc (by omega) (h.fresh hc)
  have hin := h.inn.open id
  rw [e] at hin
  exact ⟨_, e, hin, h.hsv, h.hmost, h.hlim, h.hown, rfl, by have := h.low; omega⟩

theorem Inv.step {sv : Bool} {k : Nat} {s : IdS} {own last : Int} (h : Inv sv k s own last) : Inv sv (k + 1) s own last :=
  ⟨h.inn.mono (Nat.le_succ k), h.hsv, h.hmost, h.hlim, h.hown, h.hlast, by have := h.low; omega⟩

theorem Inv.close {sv : Bool} {k : Nat} {s : IdS} {own last : Int} (h : Inv sv k s own last) (id : Int) : Inv sv (k + 1) (s.closed id).1 own last := by
  obtain ⟨a1, a2, a3, a4, a5⟩ := IdS.closed_fst s id
  exact ⟨(h.inn.close id).mono (Nat.le_succ k), a1.trans h.hsv, a2.trans h.hmost, a3.trans h.hlim, a4.trans h.hown, a5.trans h.hlast, by have := h.low; omega⟩

theorem Inv.past {sv : Bool} {k : Nat} {s : IdS} {own last : Int} (h : Inv sv k s own last) (hl : 0 < last) : s.cls last = 2 := by
  have e := h.hlast
  refine IdS.cls_past (by omega) (by omega) h.inn.last1 ?_
  rw [← e]
  exact h.inn.parL (by omega)

theorem Inv.may {sv : Bool} {k : Nat} {s : IdS} {own last : Int} (h : Inv sv k s own last) (id : Int) : s.cls id = 1 ↔ last < id ∧ id ≤ 2147483647 ∧ (id % 2 == 1) = sv := by
  rw [IdS.cls_one]
  have e := h.hlast
  have e2 := h.inn.last0
  have e3 : s.their id = true ↔ (id % 2 == 1) = sv := by rw [← h.hsv]; simp [IdS.their]
  rw [e3]
  constructor
  · rintro ⟨a, b, c, d⟩; exact ⟨by omega, b, c⟩
  · rintro ⟨a, b, c⟩; exact ⟨by omega, b, c, by omega⟩




set_option maxHeartbeats 4000000 in
set_option maxRecDepth 100000 in
theorem risesF {w0 : World} {v : Value} {n : Nat} {xs : List Value} (hr : rd w0 2 v n xs) (hel : ∀ i, i < n → ∃ a b : Int, (xs.drop (i * 2)).take 2 = [.int .i64 a, .int .i64 b] ∧ (-9223372036854775808 ≤ a ∧ a ≤ 9223372036854775807) ∧ (-9223372036854775808 ≤ b ∧ b ≤ 9223372036854775807)) :
    Calls Try.prog 6 #[.bool false, v] w0 fun e w' => e = .returned (.bool true) ∧ Below w0.heap.size w0 w' := by
  have G := own_begin w0
  obtain ⟨ao, cap, rfl, j1, j2, -⟩ := id hr
  unfold maxLen at j2
  have HR := Lib.hid hr
  clear hr
  go_enter Try.func6, Try.ntmps6
  go_wp2_with fail
  refine Calls.mono (shownSt G) ?_
  clear G; rintro e w ⟨rfl, G⟩
  go_wp2_with fail
  refine Calls.mono (newIds G) ?_
  clear G; rintro e w ⟨a, rfl, G⟩
  obtain ⟨s0, hs0⟩ : ∃ s, newIdS false 1000 = s := ⟨_, rfl⟩
  have hI0 : Inv false 0 s0 1 0 := ⟨hs0 ▸ IdS.new_in false 1000 (by decide) (by decide), hs0 ▸ rfl, hs0 ▸ rfl, hs0 ▸ rfl, hs0 ▸ rfl, hs0 ▸ rfl, by decide⟩
  rw [hs0] at G
  clear hs0
  go_wp2_with fail
  go_loopw [7, 8, 9] (fun ov lv i wr => ∃ (k : Nat) (s : IdS) (own last : Int), k ≤ n ∧ k ≤ 100 ∧ i = .int .i64 k ∧ ov = .int .i64 own ∧ lv = .int .i64 last ∧ Inv false k s own last ∧ Own w0 (idsA a s * emp) wr) (fun _ _ i _ => n - (intOf i).toNat)
  case atStart => exact ⟨0, s0, 1, 0, Nat.zero_le _, by decide, rfl, rfl, rfl, hI0, G⟩
  case round =>
    clear G hI0 s0
    obtain ⟨k, s, own, last, hk, hk2, rfl, rfl, rfl, hI, G⟩ := hrel
    have hlow := hI.low
    have hl1 : 0 ≤ last ∧ last ≤ 2147483647 := by rw [← hI.hlast]; exact ⟨hI.inn.last0, hI.inn.last1⟩
    obtain ⟨hl1, hl2⟩ := hl1
    by_cases hlt : k < n ∧ k < 100
    · obtain ⟨hlt, hlt2⟩ := hlt
      obtain ⟨kd, id, hx, ⟨b1, b2⟩, b3, b4⟩ := hel k hlt
      obtain ⟨ad, rfl⟩ := rd_some HR.out (by omega)
      have HX := Lib.hid hx
      clear hx
      by_cases h1 : kd = 1
      · subst h1
        by_cases hc : s.cls id = 1
        · obtain ⟨s', e, hI'⟩ := hI.open hlt2 hc
          obtain ⟨c1, c2, c3⟩ := (hI.may id).1 hc
          have c4 : decide (id % 2 = 1) = false := c3
          have HC := Lib.hid hc
          have HE := Lib.hid e
          clear hc e
          go_wp2_with (first
            | ((with_reducible refine at_alloc ?_); refine wpu_new G ?_; clear G; intro w G)
            | ((with_reducible refine at_drew ?_); refine wpu_drew G ?_; clear G; intro w G)
            | ((with_reducible refine at_load ?_); first
              | (refine wpu_load G rfl rfl rfl rfl ?_; go_frame)
              | (refine wpu_loadB G rfl rfl rfl (by rfl) ?_; go_frame)
              | (refine wpu_loadS G rfl rfl rfl (by rfl) ?_; simp only [List.drop_succ_cons, List.drop_zero, List.take_succ_cons, List.take_zero]; go_frame))
            | ((with_reducible refine at_store ?_); first
              | (refine wpu_store G rfl rfl rfl rfl (by first | rfl | assumption | simp [*]) rfl ?_; clear G; intro w G; go_frame)
              | (refine wpu_storeB G rfl rfl rfl rfl (by rfl) (by rfl) (by first | rfl | assumption | simp [*]) ?_; clear G; intro w G; go_frame)
              | (refine wpu_storeS G rfl rfl rfl rfl (by rfl) (by rfl) (by first | rfl | assumption | simp [*]) ?_; clear G; intro w G; go_frame))
            | ((with_reducible refine at_convert ?_); refine wpu_str G rfl rfl rfl rfl ?_; go_frame)
            | ((with_reducible refine at_slice ?_); first
              | (refine wpu_sliceLo rfl rfl rfl rfl (by first | rfl | omega) (by omega) (by omega) ?_; go_frame)
              | (refine wpu_sliceLH rfl rfl rfl rfl rfl (by first | rfl | omega) (by first | rfl | omega) (by omega) (by omega) ?_; go_frame))
            | ((with_reducible refine at_load ?_); refine wpu_loadF (HR.out.old G) HX.out rfl rfl rfl rfl ?_; go_frame)
            | ((with_reducible refine at_load ?_); refine wpu_loadF0 (HR.out.old G) HX.out rfl rfl rfl rfl ?_; go_frame)
            | fail)
          refine Calls.mono (classE G b3 b4 HC.out) ?_
          clear G; rintro e w ⟨rfl, G⟩
          go_wp2_with (first
            | ((with_reducible refine at_alloc ?_); refine wpu_new G ?_; clear G; intro w G)
            | ((with_reducible refine at_drew ?_); refine wpu_drew G ?_; clear G; intro w G)
            | ((with_reducible refine at_load ?_); first
              | (refine wpu_load G rfl rfl rfl rfl ?_; go_frame)
              | (refine wpu_loadB G rfl rfl rfl (by rfl) ?_; go_frame)
              | (refine wpu_loadS G rfl rfl rfl (by rfl) ?_; simp only [List.drop_succ_cons, List.drop_zero, List.take_succ_cons, List.take_zero]; go_frame))
            | ((with_reducible refine at_store ?_); first
              | (refine wpu_store G rfl rfl rfl rfl (by first | rfl | assumption | simp [*]) rfl ?_; clear G; intro w G; go_frame)
              | (refine wpu_storeB G rfl rfl rfl rfl (by rfl) (by rfl) (by first | rfl | assumption | simp [*]) ?_; clear G; intro w G; go_frame)
              | (refine wpu_storeS G rfl rfl rfl rfl (by rfl) (by rfl) (by first | rfl | assumption | simp [*]) ?_; clear G; intro w G; go_frame))
            | ((with_reducible refine at_convert ?_); refine wpu_str G rfl rfl rfl rfl ?_; go_frame)
            | ((with_reducible refine at_slice ?_); first
              | (refine wpu_sliceLo rfl rfl rfl rfl (by first | rfl | omega) (by omega) (by omega) ?_; go_frame)
              | (refine wpu_sliceLH rfl rfl rfl rfl rfl (by first | rfl | omega) (by first | rfl | omega) (by omega) (by omega) ?_; go_frame))
            | ((with_reducible refine at_load ?_); refine wpu_loadF (HR.out.old G) HX.out rfl rfl rfl rfl ?_; go_frame)
            | ((with_reducible refine at_load ?_); refine wpu_loadF0 (HR.out.old G) HX.out rfl rfl rfl rfl ?_; go_frame)
            | fail)
          refine Calls.mono (openE G hI.inn.ok (by omega) b3 b4 HE.out) ?_
          clear hI
          have hI := hI'
          clear hI'
          clear G; rintro e w ⟨rfl, G⟩
          go_wp2_with (first
            | ((with_reducible refine at_alloc ?_); refine wpu_new G ?_; clear G; intro w G)
            | ((with_reducible refine at_drew ?_); refine wpu_drew G ?_; clear G; intro w G)
            | ((with_reducible refine at_load ?_); first
              | (refine wpu_load G rfl rfl rfl rfl ?_; go_frame)
              | (refine wpu_loadB G rfl rfl rfl (by rfl) ?_; go_frame)
              | (refine wpu_loadS G rfl rfl rfl (by rfl) ?_; simp only [List.drop_succ_cons, List.drop_zero, List.take_succ_cons, List.take_zero]; go_frame))
            | ((with_reducible refine at_store ?_); first
              | (refine wpu_store G rfl rfl rfl rfl (by first | rfl | assumption | simp [*]) rfl ?_; clear G; intro w G; go_frame)
              | (refine wpu_storeB G rfl rfl rfl rfl (by rfl) (by rfl) (by first | rfl | assumption | simp [*]) ?_; clear G; intro w G; go_frame)
              | (refine wpu_storeS G rfl rfl rfl rfl (by rfl) (by rfl) (by first | rfl | assumption | simp [*]) ?_; clear G; intro w G; go_frame))
            | ((with_reducible refine at_convert ?_); refine wpu_str G rfl rfl rfl rfl ?_; go_frame)
            | ((with_reducible refine at_slice ?_); first
              | (refine wpu_sliceLo rfl rfl rfl rfl (by first | rfl | omega) (by omega) (by omega) ?_; go_frame)
              | (refine wpu_sliceLH rfl rfl rfl rfl rfl (by first | rfl | omega) (by first | rfl | omega) (by omega) (by omega) ?_; go_frame))
            | ((with_reducible refine at_load ?_); refine wpu_loadF (HR.out.old G) HX.out rfl rfl rfl rfl ?_; go_frame)
            | ((with_reducible refine at_load ?_); refine wpu_loadF0 (HR.out.old G) HX.out rfl rfl rfl rfl ?_; go_frame)
            | fail)
          refine Calls.mono (lastE (G.pullF (idsA a)) hI.hlast) ?_
          clear G; rintro e w ⟨rfl, G⟩
          have hl0 : 0 < id := by omega
          have hpast := hI.past hl0
          go_wp2_with (first
            | ((with_reducible refine at_alloc ?_); refine wpu_new G ?_; clear G; intro w G)
            | ((with_reducible refine at_drew ?_); refine wpu_drew G ?_; clear G; intro w G)
            | ((with_reducible refine at_load ?_); first
              | (refine wpu_load G rfl rfl rfl rfl ?_; go_frame)
              | (refine wpu_loadB G rfl rfl rfl (by rfl) ?_; go_frame)
              | (refine wpu_loadS G rfl rfl rfl (by rfl) ?_; simp only [List.drop_succ_cons, List.drop_zero, List.take_succ_cons, List.take_zero]; go_frame))
            | ((with_reducible refine at_store ?_); first
              | (refine wpu_store G rfl rfl rfl rfl (by first | rfl | assumption | simp [*]) rfl ?_; clear G; intro w G; go_frame)
              | (refine wpu_storeB G rfl rfl rfl rfl (by rfl) (by rfl) (by first | rfl | assumption | simp [*]) ?_; clear G; intro w G; go_frame)
              | (refine wpu_storeS G rfl rfl rfl rfl (by rfl) (by rfl) (by first | rfl | assumption | simp [*]) ?_; clear G; intro w G; go_frame))
            | ((with_reducible refine at_convert ?_); refine wpu_str G rfl rfl rfl rfl ?_; go_frame)
            | ((with_reducible refine at_slice ?_); first
              | (refine wpu_sliceLo rfl rfl rfl rfl (by first | rfl | omega) (by omega) (by omega) ?_; go_frame)
              | (refine wpu_sliceLH rfl rfl rfl rfl rfl (by first | rfl | omega) (by first | rfl | omega) (by omega) (by omega) ?_; go_frame))
            | ((with_reducible refine at_load ?_); refine wpu_loadF (HR.out.old G) HX.out rfl rfl rfl rfl ?_; go_frame)
            | ((with_reducible refine at_load ?_); refine wpu_loadF0 (HR.out.old G) HX.out rfl rfl rfl rfl ?_; go_frame)
            | fail)
          refine Calls.mono (classE G (by omega) (by omega) hpast) ?_
          clear G; rintro e w ⟨rfl, G⟩
          go_wp2_with (first
            | ((with_reducible refine at_alloc ?_); refine wpu_new G ?_; clear G; intro w G)
            | ((with_reducible refine at_drew ?_); refine wpu_drew G ?_; clear G; intro w G)
            | ((with_reducible refine at_load ?_); first
              | (refine wpu_load G rfl rfl rfl rfl ?_; go_frame)
              | (refine wpu_loadB G rfl rfl rfl (by rfl) ?_; go_frame)
              | (refine wpu_loadS G rfl rfl rfl (by rfl) ?_; simp only [List.drop_succ_cons, List.drop_zero, List.take_succ_cons, List.take_zero]; go_frame))
            | ((with_reducible refine at_store ?_); first
              | (refine wpu_store G rfl rfl rfl rfl (by first | rfl | assumption | simp [*]) rfl ?_; clear G; intro w G; go_frame)
              | (refine wpu_storeB G rfl rfl rfl rfl (by rfl) (by rfl) (by first | rfl | assumption | simp [*]) ?_; clear G; intro w G; go_frame)
              | (refine wpu_storeS G rfl rfl rfl rfl (by rfl) (by rfl) (by first | rfl | assumption | simp [*]) ?_; clear G; intro w G; go_frame))
            | ((with_reducible refine at_convert ?_); refine wpu_str G rfl rfl rfl rfl ?_; go_frame)
            | ((with_reducible refine at_slice ?_); first
              | (refine wpu_sliceLo rfl rfl rfl rfl (by first | rfl | omega) (by omega) (by omega) ?_; go_frame)
              | (refine wpu_sliceLH rfl rfl rfl rfl rfl (by first | rfl | omega) (by first | rfl | omega) (by omega) (by omega) ?_; go_frame))
            | ((with_reducible refine at_load ?_); refine wpu_loadF (HR.out.old G) HX.out rfl rfl rfl rfl ?_; go_frame)
            | ((with_reducible refine at_load ?_); refine wpu_loadF0 (HR.out.old G) HX.out rfl rfl rfl rfl ?_; go_frame)
            | fail)
          go_roundw
          case rel => exact ⟨k + 1, _, _, _, by omega, by omega, by go_num, rfl, rfl, hI, G.give⟩
          case measure => simp [intOf] <;> omega
        · obtain ⟨r, hr⟩ : ∃ r, s.cls id = r := ⟨_, rfl⟩
          have hr1 : ¬ r = 1 := by rw [← hr]; exact hc
          have hrb : (r == 1) = false := by simpa using hr1
          have hrd : decide (r = 1) = false := by simpa using hr1
          have hno : ¬ (last < id ∧ id ≤ 2147483647 ∧ (id % 2 == 1) = false) := fun h => hc ((hI.may id).2 h)
          have HE := Lib.hid (IdS.opened_no hc)
          have HC := Lib.hid hr
          clear hc hr hr1
          have hI' := hI.step
          by_cases d1 : last < id
          · by_cases d2 : id ≤ 2147483647
            · have d3 : decide (id % 2 = 1) = !false := by
                have : ¬ (id % 2 == 1) = false := fun h => hno ⟨d1, d2, h⟩
                have e : decide (id % 2 = 1) = (id % 2 == 1) := rfl
                rw [e]
                cases hq : (id % 2 == 1) <;> simp [hq] at this ⊢
              have d4 : (id % 2 == 1) = !false := d3
              clear hno
              go_wp2_with (first
                | ((with_reducible refine at_alloc ?_); refine wpu_new G ?_; clear G; intro w G)
                | ((with_reducible refine at_drew ?_); refine wpu_drew G ?_; clear G; intro w G)
                | ((with_reducible refine at_load ?_); first
                  | (refine wpu_load G rfl rfl rfl rfl ?_; go_frame)
                  | (refine wpu_loadB G rfl rfl rfl (by rfl) ?_; go_frame)
                  | (refine wpu_loadS G rfl rfl rfl (by rfl) ?_; simp only [List.drop_succ_cons, List.drop_zero, List.take_succ_cons, List.take_zero]; go_frame))
                | ((with_reducible refine at_store ?_); first
                  | (refine wpu_store G rfl rfl rfl rfl (by first | rfl | assumption | simp [*]) rfl ?_; clear G; intro w G; go_frame)
                  | (refine wpu_storeB G rfl rfl rfl rfl (by rfl) (by rfl) (by first | rfl | assumption | simp [*]) ?_; clear G; intro w G; go_frame)
                  | (refine wpu_storeS G rfl rfl rfl rfl (by rfl) (by rfl) (by first | rfl | assumption | simp [*]) ?_; clear G; intro w G; go_frame))
                | ((with_reducible refine at_convert ?_); refine wpu_str G rfl rfl rfl rfl ?_; go_frame)
                | ((with_reducible refine at_slice ?_); first
                  | (refine wpu_sliceLo rfl rfl rfl rfl (by first | rfl | omega) (by omega) (by omega) ?_; go_frame)
                  | (refine wpu_sliceLH rfl rfl rfl rfl rfl (by first | rfl | omega) (by first | rfl | omega) (by omega) (by omega) ?_; go_frame))
                | ((with_reducible refine at_load ?_); refine wpu_loadF (HR.out.old G) HX.out rfl rfl rfl rfl ?_; go_frame)
                | ((with_reducible refine at_load ?_); refine wpu_loadF0 (HR.out.old G) HX.out rfl rfl rfl rfl ?_; go_frame)
                | fail)
              refine Calls.mono (classE (G.pullF (idsA a)) b3 b4 HC.out) ?_
              clear G; rintro e w ⟨rfl, G⟩
              go_wp2_with (first
                | ((with_reducible refine at_alloc ?_); refine wpu_new G ?_; clear G; intro w G)
                | ((with_reducible refine at_drew ?_); refine wpu_drew G ?_; clear G; intro w G)
                | ((with_reducible refine at_load ?_); first
                  | (refine wpu_load G rfl rfl rfl rfl ?_; go_frame)
                  | (refine wpu_loadB G rfl rfl rfl (by rfl) ?_; go_frame)
                  | (refine wpu_loadS G rfl rfl rfl (by rfl) ?_; simp only [List.drop_succ_cons, List.drop_zero, List.take_succ_cons, List.take_zero]; go_frame))
                | ((with_reducible refine at_store ?_); first
                  | (refine wpu_store G rfl rfl rfl rfl (by first | rfl | assumption | simp [*]) rfl ?_; clear G; intro w G; go_frame)
                  | (refine wpu_storeB G rfl rfl rfl rfl (by rfl) (by rfl) (by first | rfl | assumption | simp [*]) ?_; clear G; intro w G; go_frame)
                  | (refine wpu_storeS G rfl rfl rfl rfl (by rfl) (by rfl) (by first | rfl | assumption | simp [*]) ?_; clear G; intro w G; go_frame))
                | ((with_reducible refine at_convert ?_); refine wpu_str G rfl rfl rfl rfl ?_; go_frame)
                | ((with_reducible refine at_slice ?_); first
                  | (refine wpu_sliceLo rfl rfl rfl rfl (by first | rfl | omega) (by omega) (by omega) ?_; go_frame)
                  | (refine wpu_sliceLH rfl rfl rfl rfl rfl (by first | rfl | omega) (by first | rfl | omega) (by omega) (by omega) ?_; go_frame))
                | ((with_reducible refine at_load ?_); refine wpu_loadF (HR.out.old G) HX.out rfl rfl rfl rfl ?_; go_frame)
                | ((with_reducible refine at_load ?_); refine wpu_loadF0 (HR.out.old G) HX.out rfl rfl rfl rfl ?_; go_frame)
                | fail)
              refine Calls.mono (openE (G.pullF (idsA a)) hI.inn.ok (by omega) b3 b4 HE.out) ?_
              clear hI
              have hI := hI'
              clear hI'
              clear G; rintro e w ⟨rfl, G⟩
              go_wp2_with (first
                | ((with_reducible refine at_alloc ?_); refine wpu_new G ?_; clear G; intro w G)
                | ((with_reducible refine at_drew ?_); refine wpu_drew G ?_; clear G; intro w G)
                | ((with_reducible refine at_load ?_); first
                  | (refine wpu_load G rfl rfl rfl rfl ?_; go_frame)
                  | (refine wpu_loadB G rfl rfl rfl (by rfl) ?_; go_frame)
                  | (refine wpu_loadS G rfl rfl rfl (by rfl) ?_; simp only [List.drop_succ_cons, List.drop_zero, List.take_succ_cons, List.take_zero]; go_frame))
                | ((with_reducible refine at_store ?_); first
                  | (refine wpu_store G rfl rfl rfl rfl (by first | rfl | assumption | simp [*]) rfl ?_; clear G; intro w G; go_frame)
                  | (refine wpu_storeB G rfl rfl rfl rfl (by rfl) (by rfl) (by first | rfl | assumption | simp [*]) ?_; clear G; intro w G; go_frame)
                  | (refine wpu_storeS G rfl rfl rfl rfl (by rfl) (by rfl) (by first | rfl | assumption | simp [*]) ?_; clear G; intro w G; go_frame))
                | ((with_reducible refine at_convert ?_); refine wpu_str G rfl rfl rfl rfl ?_; go_frame)
                | ((with_reducible refine at_slice ?_); first
                  | (refine wpu_sliceLo rfl rfl rfl rfl (by first | rfl | omega) (by omega) (by omega) ?_; go_frame)
                  | (refine wpu_sliceLH rfl rfl rfl rfl rfl (by first | rfl | omega) (by first | rfl | omega) (by omega) (by omega) ?_; go_frame))
                | ((with_reducible refine at_load ?_); refine wpu_loadF (HR.out.old G) HX.out rfl rfl rfl rfl ?_; go_frame)
                | ((with_reducible refine at_load ?_); refine wpu_loadF0 (HR.out.old G) HX.out rfl rfl rfl rfl ?_; go_frame)
                | fail)
              refine Calls.mono (lastE (G.pullF (idsA a)) hI.hlast) ?_
              clear G; rintro e w ⟨rfl, G⟩
              by_cases hl0 : 0 < last
              · have hpast := hI.past hl0
                go_wp2_with (first
                  | ((with_reducible refine at_alloc ?_); refine wpu_new G ?_; clear G; intro w G)
                  | ((with_reducible refine at_drew ?_); refine wpu_drew G ?_; clear G; intro w G)
                  | ((with_reducible refine at_load ?_); first
                    | (refine wpu_load G rfl rfl rfl rfl ?_; go_frame)
                    | (refine wpu_loadB G rfl rfl rfl (by rfl) ?_; go_frame)
                    | (refine wpu_loadS G rfl rfl rfl (by rfl) ?_; simp only [List.drop_succ_cons, List.drop_zero, List.take_succ_cons, List.take_zero]; go_frame))
                  | ((with_reducible refine at_store ?_); first
                    | (refine wpu_store G rfl rfl rfl rfl (by first | rfl | assumption | simp [*]) rfl ?_; clear G; intro w G; go_frame)
                    | (refine wpu_storeB G rfl rfl rfl rfl (by rfl) (by rfl) (by first | rfl | assumption | simp [*]) ?_; clear G; intro w G; go_frame)
                    | (refine wpu_storeS G rfl rfl rfl rfl (by rfl) (by rfl) (by first | rfl | assumption | simp [*]) ?_; clear G; intro w G; go_frame))
                  | ((with_reducible refine at_convert ?_); refine wpu_str G rfl rfl rfl rfl ?_; go_frame)
                  | ((with_reducible refine at_slice ?_); first
                    | (refine wpu_sliceLo rfl rfl rfl rfl (by first | rfl | omega) (by omega) (by omega) ?_; go_frame)
                    | (refine wpu_sliceLH rfl rfl rfl rfl rfl (by first | rfl | omega) (by first | rfl | omega) (by omega) (by omega) ?_; go_frame))
                  | ((with_reducible refine at_load ?_); refine wpu_loadF (HR.out.old G) HX.out rfl rfl rfl rfl ?_; go_frame)
                  | ((with_reducible refine at_load ?_); refine wpu_loadF0 (HR.out.old G) HX.out rfl rfl rfl rfl ?_; go_frame)
                  | fail)
                refine Calls.mono (classE G (by omega) (by omega) hpast) ?_
                clear G; rintro e w ⟨rfl, G⟩
                go_wp2_with (first
                  | ((with_reducible refine at_alloc ?_); refine wpu_new G ?_; clear G; intro w G)
                  | ((with_reducible refine at_drew ?_); refine wpu_drew G ?_; clear G; intro w G)
                  | ((with_reducible refine at_load ?_); first
                    | (refine wpu_load G rfl rfl rfl rfl ?_; go_frame)
                    | (refine wpu_loadB G rfl rfl rfl (by rfl) ?_; go_frame)
                    | (refine wpu_loadS G rfl rfl rfl (by rfl) ?_; simp only [List.drop_succ_cons, List.drop_zero, List.take_succ_cons, List.take_zero]; go_frame))
                  | ((with_reducible refine at_store ?_); first
                    | (refine wpu_store G rfl rfl rfl rfl (by first | rfl | assumption | simp [*]) rfl ?_; clear G; intro w G; go_frame)
                    | (refine wpu_storeB G rfl rfl rfl rfl (by rfl) (by rfl) (by first | rfl | assumption | simp [*]) ?_; clear G; intro w G; go_frame)
                    | (refine wpu_storeS G rfl rfl rfl rfl (by rfl) (by rfl) (by first | rfl | assumption | simp [*]) ?_; clear G; intro w G; go_frame))
                  | ((with_reducible refine at_convert ?_); refine wpu_str G rfl rfl rfl rfl ?_; go_frame)
                  | ((with_reducible refine at_slice ?_); first
                    | (refine wpu_sliceLo rfl rfl rfl rfl (by first | rfl | omega) (by omega) (by omega) ?_; go_frame)
                    | (refine wpu_sliceLH rfl rfl rfl rfl rfl (by first | rfl | omega) (by first | rfl | omega) (by omega) (by omega) ?_; go_frame))
                  | ((with_reducible refine at_load ?_); refine wpu_loadF (HR.out.old G) HX.out rfl rfl rfl rfl ?_; go_frame)
                  | ((with_reducible refine at_load ?_); refine wpu_loadF0 (HR.out.old G) HX.out rfl rfl rfl rfl ?_; go_frame)
                  | fail)
                go_roundw
                case rel => exact ⟨k + 1, _, _, _, by omega, by omega, by go_num, rfl, rfl, hI, G.give⟩
                case measure => simp [intOf] <;> omega
              · skip
                go_wp2_with (first
                  | ((with_reducible refine at_alloc ?_); refine wpu_new G ?_; clear G; intro w G)
                  | ((with_reducible refine at_drew ?_); refine wpu_drew G ?_; clear G; intro w G)
                  | ((with_reducible refine at_load ?_); first
                    | (refine wpu_load G rfl rfl rfl rfl ?_; go_frame)
                    | (refine wpu_loadB G rfl rfl rfl (by rfl) ?_; go_frame)
                    | (refine wpu_loadS G rfl rfl rfl (by rfl) ?_; simp only [List.drop_succ_cons, List.drop_zero, List.take_succ_cons, List.take_zero]; go_frame))
                  | ((with_reducible refine at_store ?_); first
                    | (refine wpu_store G rfl rfl rfl rfl (by first | rfl | assumption | simp [*]) rfl ?_; clear G; intro w G; go_frame)
                    | (refine wpu_storeB G rfl rfl rfl rfl (by rfl) (by rfl) (by first | rfl | assumption | simp [*]) ?_; clear G; intro w G; go_frame)
                    | (refine wpu_storeS G rfl rfl rfl rfl (by rfl) (by rfl) (by first | rfl | assumption | simp [*]) ?_; clear G; intro w G; go_frame))
                  | ((with_reducible refine at_convert ?_); refine wpu_str G rfl rfl rfl rfl ?_; go_frame)
                  | ((with_reducible refine at_slice ?_); first
                    | (refine wpu_sliceLo rfl rfl rfl rfl (by first | rfl | omega) (by omega) (by omega) ?_; go_frame)
                    | (refine wpu_sliceLH rfl rfl rfl rfl rfl (by first | rfl | omega) (by first | rfl | omega) (by omega) (by omega) ?_; go_frame))
                  | ((with_reducible refine at_load ?_); refine wpu_loadF (HR.out.old G) HX.out rfl rfl rfl rfl ?_; go_frame)
                  | ((with_reducible refine at_load ?_); refine wpu_loadF0 (HR.out.old G) HX.out rfl rfl rfl rfl ?_; go_frame)
                  | fail)
                go_roundw
                case rel => exact ⟨k + 1, _, _, _, by omega, by omega, by go_num, rfl, rfl, hI, G.give⟩
                case measure => simp [intOf] <;> omega
            · clear hno
              go_wp2_with (first
                | ((with_reducible refine at_alloc ?_); refine wpu_new G ?_; clear G; intro w G)
                | ((with_reducible refine at_drew ?_); refine wpu_drew G ?_; clear G; intro w G)
                | ((with_reducible refine at_load ?_); first
                  | (refine wpu_load G rfl rfl rfl rfl ?_; go_frame)
                  | (refine wpu_loadB G rfl rfl rfl (by rfl) ?_; go_frame)
                  | (refine wpu_loadS G rfl rfl rfl (by rfl) ?_; simp only [List.drop_succ_cons, List.drop_zero, List.take_succ_cons, List.take_zero]; go_frame))
                | ((with_reducible refine at_store ?_); first
                  | (refine wpu_store G rfl rfl rfl rfl (by first | rfl | assumption | simp [*]) rfl ?_; clear G; intro w G; go_frame)
                  | (refine wpu_storeB G rfl rfl rfl rfl (by rfl) (by rfl) (by first | rfl | assumption | simp [*]) ?_; clear G; intro w G; go_frame)
                  | (refine wpu_storeS G rfl rfl rfl rfl (by rfl) (by rfl) (by first | rfl | assumption | simp [*]) ?_; clear G; intro w G; go_frame))
                | ((with_reducible refine at_convert ?_); refine wpu_str G rfl rfl rfl rfl ?_; go_frame)
                | ((with_reducible refine at_slice ?_); first
                  | (refine wpu_sliceLo rfl rfl rfl rfl (by first | rfl | omega) (by omega) (by omega) ?_; go_frame)
                  | (refine wpu_sliceLH rfl rfl rfl rfl rfl (by first | rfl | omega) (by first | rfl | omega) (by omega) (by omega) ?_; go_frame))
                | ((with_reducible refine at_load ?_); refine wpu_loadF (HR.out.old G) HX.out rfl rfl rfl rfl ?_; go_frame)
                | ((with_reducible refine at_load ?_); refine wpu_loadF0 (HR.out.old G) HX.out rfl rfl rfl rfl ?_; go_frame)
                | fail)
              refine Calls.mono (classE (G.pullF (idsA a)) b3 b4 HC.out) ?_
              clear G; rintro e w ⟨rfl, G⟩
              go_wp2_with (first
                | ((with_reducible refine at_alloc ?_); refine wpu_new G ?_; clear G; intro w G)
                | ((with_reducible refine at_drew ?_); refine wpu_drew G ?_; clear G; intro w G)
                | ((with_reducible refine at_load ?_); first
                  | (refine wpu_load G rfl rfl rfl rfl ?_; go_frame)
                  | (refine wpu_loadB G rfl rfl rfl (by rfl) ?_; go_frame)
                  | (refine wpu_loadS G rfl rfl rfl (by rfl) ?_; simp only [List.drop_succ_cons, List.drop_zero, List.take_succ_cons, List.take_zero]; go_frame))
                | ((with_reducible refine at_store ?_); first
                  | (refine wpu_store G rfl rfl rfl rfl (by first | rfl | assumption | simp [*]) rfl ?_; clear G; intro w G; go_frame)
                  | (refine wpu_storeB G rfl rfl rfl rfl (by rfl) (by rfl) (by first | rfl | assumption | simp [*]) ?_; clear G; intro w G; go_frame)
                  | (refine wpu_storeS G rfl rfl rfl rfl (by rfl) (by rfl) (by first | rfl | assumption | simp [*]) ?_; clear G; intro w G; go_frame))
                | ((with_reducible refine at_convert ?_); refine wpu_str G rfl rfl rfl rfl ?_; go_frame)
                | ((with_reducible refine at_slice ?_); first
                  | (refine wpu_sliceLo rfl rfl rfl rfl (by first | rfl | omega) (by omega) (by omega) ?_; go_frame)
                  | (refine wpu_sliceLH rfl rfl rfl rfl rfl (by first | rfl | omega) (by first | rfl | omega) (by omega) (by omega) ?_; go_frame))
                | ((with_reducible refine at_load ?_); refine wpu_loadF (HR.out.old G) HX.out rfl rfl rfl rfl ?_; go_frame)
                | ((with_reducible refine at_load ?_); refine wpu_loadF0 (HR.out.old G) HX.out rfl rfl rfl rfl ?_; go_frame)
                | fail)
              refine Calls.mono (openE (G.pullF (idsA a)) hI.inn.ok (by omega) b3 b4 HE.out) ?_
              clear hI
              have hI := hI'
              clear hI'
              clear G; rintro e w ⟨rfl, G⟩
              go_wp2_with (first
                | ((with_reducible refine at_alloc ?_); refine wpu_new G ?_; clear G; intro w G)
                | ((with_reducible refine at_drew ?_); refine wpu_drew G ?_; clear G; intro w G)
                | ((with_reducible refine at_load ?_); first
                  | (refine wpu_load G rfl rfl rfl rfl ?_; go_frame)
                  | (refine wpu_loadB G rfl rfl rfl (by rfl) ?_; go_frame)
                  | (refine wpu_loadS G rfl rfl rfl (by rfl) ?_; simp only [List.drop_succ_cons, List.drop_zero, List.take_succ_cons, List.take_zero]; go_frame))
                | ((with_reducible refine at_store ?_); first
                  | (refine wpu_store G rfl rfl rfl rfl (by first | rfl | assumption | simp [*]) rfl ?_; clear G; intro w G; go_frame)
                  | (refine wpu_storeB G rfl rfl rfl rfl (by rfl) (by rfl) (by first | rfl | assumption | simp [*]) ?_; clear G; intro w G; go_frame)
                  | (refine wpu_storeS G rfl rfl rfl rfl (by rfl) (by rfl) (by first | rfl | assumption | simp [*]) ?_; clear G; intro w G; go_frame))
                | ((with_reducible refine at_convert ?_); refine wpu_str G rfl rfl rfl rfl ?_; go_frame)
                | ((with_reducible refine at_slice ?_); first
                  | (refine wpu_sliceLo rfl rfl rfl rfl (by first | rfl | omega) (by omega) (by omega) ?_; go_frame)
                  | (refine wpu_sliceLH rfl rfl rfl rfl rfl (by first | rfl | omega) (by first | rfl | omega) (by omega) (by omega) ?_; go_frame))
                | ((with_reducible refine at_load ?_); refine wpu_loadF (HR.out.old G) HX.out rfl rfl rfl rfl ?_; go_frame)
                | ((with_reducible refine at_load ?_); refine wpu_loadF0 (HR.out.old G) HX.out rfl rfl rfl rfl ?_; go_frame)
                | fail)
              refine Calls.mono (lastE (G.pullF (idsA a)) hI.hlast) ?_
              clear G; rintro e w ⟨rfl, G⟩
              by_cases hl0 : 0 < last
              · have hpast := hI.past hl0
                go_wp2_with (first
                  | ((with_reducible refine at_alloc ?_); refine wpu_new G ?_; clear G; intro w G)
                  | ((with_reducible refine at_drew ?_); refine wpu_drew G ?_; clear G; intro w G)
                  | ((with_reducible refine at_load ?_); first
                    | (refine wpu_load G rfl rfl rfl rfl ?_; go_frame)
                    | (refine wpu_loadB G rfl rfl rfl (by rfl) ?_; go_frame)
                    | (refine wpu_loadS G rfl rfl rfl (by rfl) ?_; simp only [List.drop_succ_cons, List.drop_zero, List.take_succ_cons, List.take_zero]; go_frame))
                  | ((with_reducible refine at_store ?_); first
                    | (refine wpu_store G rfl rfl rfl rfl (by first | rfl | assumption | simp [*]) rfl ?_; clear G; intro w G; go_frame)
                    | (refine wpu_storeB G rfl rfl rfl rfl (by rfl) (by rfl) (by first | rfl | assumption | simp [*]) ?_; clear G; intro w G; go_frame)
                    | (refine wpu_storeS G rfl rfl rfl rfl (by rfl) (by rfl) (by first | rfl | assumption | simp [*]) ?_; clear G; intro w G; go_frame))
                  | ((with_reducible refine at_convert ?_); refine wpu_str G rfl rfl rfl rfl ?_; go_frame)
                  | ((with_reducible refine at_slice ?_); first
                    | (refine wpu_sliceLo rfl rfl rfl rfl (by first | rfl | omega) (by omega) (by omega) ?_; go_frame)
                    | (refine wpu_sliceLH rfl rfl rfl rfl rfl (by first | rfl | omega) (by first | rfl | omega) (by omega) (by omega) ?_; go_frame))
                  | ((with_reducible refine at_load ?_); refine wpu_loadF (HR.out.old G) HX.out rfl rfl rfl rfl ?_; go_frame)
                  | ((with_reducible refine at_load ?_); refine wpu_loadF0 (HR.out.old G) HX.out rfl rfl rfl rfl ?_; go_frame)
                  | fail)
                refine Calls.mono (classE G (by omega) (by omega) hpast) ?_
                clear G; rintro e w ⟨rfl, G⟩
                go_wp2_with (first
                  | ((with_reducible refine at_alloc ?_); refine wpu_new G ?_; clear G; intro w G)
                  | ((with_reducible refine at_drew ?_); refine wpu_drew G ?_; clear G; intro w G)
                  | ((with_reducible refine at_load ?_); first
                    | (refine wpu_load G rfl rfl rfl rfl ?_; go_frame)
                    | (refine wpu_loadB G rfl rfl rfl (by rfl) ?_; go_frame)
                    | (refine wpu_loadS G rfl rfl rfl (by rfl) ?_; simp only [List.drop_succ_cons, List.drop_zero, List.take_succ_cons, List.take_zero]; go_frame))
                  | ((with_reducible refine at_store ?_); first
                    | (refine wpu_store G rfl rfl rfl rfl (by first | rfl | assumption | simp [*]) rfl ?_; clear G; intro w G; go_frame)
                    | (refine wpu_storeB G rfl rfl rfl rfl (by rfl) (by rfl) (by first | rfl | assumption | simp [*]) ?_; clear G; intro w G; go_frame)
                    | (refine wpu_storeS G rfl rfl rfl rfl (by rfl) (by rfl) (by first | rfl | assumption | simp [*]) ?_; clear G; intro w G; go_frame))
                  | ((with_reducible refine at_convert ?_); refine wpu_str G rfl rfl rfl rfl ?_; go_frame)
                  | ((with_reducible refine at_slice ?_); first
                    | (refine wpu_sliceLo rfl rfl rfl rfl (by first | rfl | omega) (by omega) (by omega) ?_; go_frame)
                    | (refine wpu_sliceLH rfl rfl rfl rfl rfl (by first | rfl | omega) (by first | rfl | omega) (by omega) (by omega) ?_; go_frame))
                  | ((with_reducible refine at_load ?_); refine wpu_loadF (HR.out.old G) HX.out rfl rfl rfl rfl ?_; go_frame)
                  | ((with_reducible refine at_load ?_); refine wpu_loadF0 (HR.out.old G) HX.out rfl rfl rfl rfl ?_; go_frame)
                  | fail)
                go_roundw
                case rel => exact ⟨k + 1, _, _, _, by omega, by omega, by go_num, rfl, rfl, hI, G.give⟩
                case measure => simp [intOf] <;> omega
              · skip
                go_wp2_with (first
                  | ((with_reducible refine at_alloc ?_); refine wpu_new G ?_; clear G; intro w G)
                  | ((with_reducible refine at_drew ?_); refine wpu_drew G ?_; clear G; intro w G)
                  | ((with_reducible refine at_load ?_); first
                    | (refine wpu_load G rfl rfl rfl rfl ?_; go_frame)
                    | (refine wpu_loadB G rfl rfl rfl (by rfl) ?_; go_frame)
                    | (refine wpu_loadS G rfl rfl rfl (by rfl) ?_; simp only [List.drop_succ_cons, List.drop_zero, List.take_succ_cons, List.take_zero]; go_frame))
                  | ((with_reducible refine at_store ?_); first
                    | (refine wpu_store G rfl rfl rfl rfl (by first | rfl | assumption | simp [*]) rfl ?_; clear G; intro w G; go_frame)
                    | (refine wpu_storeB G rfl rfl rfl rfl (by rfl) (by rfl) (by first | rfl | assumption | simp [*]) ?_; clear G; intro w G; go_frame)
                    | (refine wpu_storeS G rfl rfl rfl rfl (by rfl) (by rfl) (by first | rfl | assumption | simp [*]) ?_; clear G; intro w G; go_frame))
                  | ((with_reducible refine at_convert ?_); refine wpu_str G rfl rfl rfl rfl ?_; go_frame)
                  | ((with_reducible refine at_slice ?_); first
                    | (refine wpu_sliceLo rfl rfl rfl rfl (by first | rfl | omega) (by omega) (by omega) ?_; go_frame)
                    | (refine wpu_sliceLH rfl rfl rfl rfl rfl (by first | rfl | omega) (by first | rfl | omega) (by omega) (by omega) ?_; go_frame))
                  | ((with_reducible refine at_load ?_); refine wpu_loadF (HR.out.old G) HX.out rfl rfl rfl rfl ?_; go_frame)
                  | ((with_reducible refine at_load ?_); refine wpu_loadF0 (HR.out.old G) HX.out rfl rfl rfl rfl ?_; go_frame)
                  | fail)
                go_roundw
                case rel => exact ⟨k + 1, _, _, _, by omega, by omega, by go_num, rfl, rfl, hI, G.give⟩
                case measure => simp [intOf] <;> omega
          · clear hno
            go_wp2_with (first
              | ((with_reducible refine at_alloc ?_); refine wpu_new G ?_; clear G; intro w G)
              | ((with_reducible refine at_drew ?_); refine wpu_drew G ?_; clear G; intro w G)
              | ((with_reducible refine at_load ?_); first
                | (refine wpu_load G rfl rfl rfl rfl ?_; go_frame)
                | (refine wpu_loadB G rfl rfl rfl (by rfl) ?_; go_frame)
                | (refine wpu_loadS G rfl rfl rfl (by rfl) ?_; simp only [List.drop_succ_cons, List.drop_zero, List.take_succ_cons, List.take_zero]; go_frame))
              | ((with_reducible refine at_store ?_); first
                | (refine wpu_store G rfl rfl rfl rfl (by first | rfl | assumption | simp [*]) rfl ?_; clear G; intro w G; go_frame)
                | (refine wpu_storeB G rfl rfl rfl rfl (by rfl) (by rfl) (by first | rfl | assumption | simp [*]) ?_; clear G; intro w G; go_frame)
                | (refine wpu_storeS G rfl rfl rfl rfl (by rfl) (by rfl) (by first | rfl | assumption | simp [*]) ?_; clear G; intro w G; go_frame))
              | ((with_reducible refine at_convert ?_); refine wpu_str G rfl rfl rfl rfl ?_; go_frame)
              | ((with_reducible refine at_slice ?_); first
                | (refine wpu_sliceLo rfl rfl rfl rfl (by first | rfl | omega) (by omega) (by omega) ?_; go_frame)
                | (refine wpu_sliceLH rfl rfl rfl rfl rfl (by first | rfl | omega) (by first | rfl | omega) (by omega) (by omega) ?_; go_frame))
              | ((with_reducible refine at_load ?_); refine wpu_loadF (HR.out.old G) HX.out rfl rfl rfl rfl ?_; go_frame)
              | ((with_reducible refine at_load ?_); refine wpu_loadF0 (HR.out.old G) HX.out rfl rfl rfl rfl ?_; go_frame)
              | fail)
            refine Calls.mono (classE (G.pullF (idsA a)) b3 b4 HC.out) ?_
            clear G; rintro e w ⟨rfl, G⟩
            go_wp2_with (first
              | ((with_reducible refine at_alloc ?_); refine wpu_new G ?_; clear G; intro w G)
              | ((with_reducible refine at_drew ?_); refine wpu_drew G ?_; clear G; intro w G)
              | ((with_reducible refine at_load ?_); first
                | (refine wpu_load G rfl rfl rfl rfl ?_; go_frame)
                | (refine wpu_loadB G rfl rfl rfl (by rfl) ?_; go_frame)
                | (refine wpu_loadS G rfl rfl rfl (by rfl) ?_; simp only [List.drop_succ_cons, List.drop_zero, List.take_succ_cons, List.take_zero]; go_frame))
              | ((with_reducible refine at_store ?_); first
                | (refine wpu_store G rfl rfl rfl rfl (by first | rfl | assumption | simp [*]) rfl ?_; clear G; intro w G; go_frame)
                | (refine wpu_storeB G rfl rfl rfl rfl (by rfl) (by rfl) (by first | rfl | assumption | simp [*]) ?_; clear G; intro w G; go_frame)
                | (refine wpu_storeS G rfl rfl rfl rfl (by rfl) (by rfl) (by first | rfl | assumption | simp [*]) ?_; clear G; intro w G; go_frame))
              | ((with_reducible refine at_convert ?_); refine wpu_str G rfl rfl rfl rfl ?_; go_frame)
              | ((with_reducible refine at_slice ?_); first
                | (refine wpu_sliceLo rfl rfl rfl rfl (by first | rfl | omega) (by omega) (by omega) ?_; go_frame)
                | (refine wpu_sliceLH rfl rfl rfl rfl rfl (by first | rfl | omega) (by first | rfl | omega) (by omega) (by omega) ?_; go_frame))
              | ((with_reducible refine at_load ?_); refine wpu_loadF (HR.out.old G) HX.out rfl rfl rfl rfl ?_; go_frame)
              | ((with_reducible refine at_load ?_); refine wpu_loadF0 (HR.out.old G) HX.out rfl rfl rfl rfl ?_; go_frame)
              | fail)
            refine Calls.mono (openE (G.pullF (idsA a)) hI.inn.ok (by omega) b3 b4 HE.out) ?_
            clear hI
            have hI := hI'
            clear hI'
            clear G; rintro e w ⟨rfl, G⟩
            go_wp2_with (first
              | ((with_reducible refine at_alloc ?_); refine wpu_new G ?_; clear G; intro w G)
              | ((with_reducible refine at_drew ?_); refine wpu_drew G ?_; clear G; intro w G)
              | ((with_reducible refine at_load ?_); first
                | (refine wpu_load G rfl rfl rfl rfl ?_; go_frame)
                | (refine wpu_loadB G rfl rfl rfl (by rfl) ?_; go_frame)
                | (refine wpu_loadS G rfl rfl rfl (by rfl) ?_; simp only [List.drop_succ_cons, List.drop_zero, List.take_succ_cons, List.take_zero]; go_frame))
              | ((with_reducible refine at_store ?_); first
                | (refine wpu_store G rfl rfl rfl rfl (by first | rfl | assumption | simp [*]) rfl ?_; clear G; intro w G; go_frame)
                | (refine wpu_storeB G rfl rfl rfl rfl (by rfl) (by rfl) (by first | rfl | assumption | simp [*]) ?_; clear G; intro w G; go_frame)
                | (refine wpu_storeS G rfl rfl rfl rfl (by rfl) (by rfl) (by first | rfl | assumption | simp [*]) ?_; clear G; intro w G; go_frame))
              | ((with_reducible refine at_convert ?_); refine wpu_str G rfl rfl rfl rfl ?_; go_frame)
              | ((with_reducible refine at_slice ?_); first
                | (refine wpu_sliceLo rfl rfl rfl rfl (by first | rfl | omega) (by omega) (by omega) ?_; go_frame)
                | (refine wpu_sliceLH rfl rfl rfl rfl rfl (by first | rfl | omega) (by first | rfl | omega) (by omega) (by omega) ?_; go_frame))
              | ((with_reducible refine at_load ?_); refine wpu_loadF (HR.out.old G) HX.out rfl rfl rfl rfl ?_; go_frame)
              | ((with_reducible refine at_load ?_); refine wpu_loadF0 (HR.out.old G) HX.out rfl rfl rfl rfl ?_; go_frame)
              | fail)
            refine Calls.mono (lastE (G.pullF (idsA a)) hI.hlast) ?_
            clear G; rintro e w ⟨rfl, G⟩
            by_cases hl0 : 0 < last
            · have hpast := hI.past hl0
              go_wp2_with (first
                | ((with_reducible refine at_alloc ?_); refine wpu_new G ?_; clear G; intro w G)
                | ((with_reducible refine at_drew ?_); refine wpu_drew G ?_; clear G; intro w G)
                | ((with_reducible refine at_load ?_); first
                  | (refine wpu_load G rfl rfl rfl rfl ?_; go_frame)
                  | (refine wpu_loadB G rfl rfl rfl (by rfl) ?_; go_frame)
                  | (refine wpu_loadS G rfl rfl rfl (by rfl) ?_; simp only [List.drop_succ_cons, List.drop_zero, List.take_succ_cons, List.take_zero]; go_frame))
                | ((with_reducible refine at_store ?_); first
                  | (refine wpu_store G rfl rfl rfl rfl (by first | rfl | assumption | simp [*]) rfl ?_; clear G; intro w G; go_frame)
                  | (refine wpu_storeB G rfl rfl rfl rfl (by rfl) (by rfl) (by first | rfl | assumption | simp [*]) ?_; clear G; intro w G; go_frame)
                  | (refine wpu_storeS G rfl rfl rfl rfl (by rfl) (by rfl) (by first | rfl | assumption | simp [*]) ?_; clear G; intro w G; go_frame))
                | ((with_reducible refine at_convert ?_); refine wpu_str G rfl rfl rfl rfl ?_; go_frame)
                | ((with_reducible refine at_slice ?_); first
                  | (refine wpu_sliceLo rfl rfl rfl rfl (by first | rfl | omega) (by omega) (by omega) ?_; go_frame)
                  | (refine wpu_sliceLH rfl rfl rfl rfl rfl (by first | rfl | omega) (by first | rfl | omega) (by omega) (by omega) ?_; go_frame))
                | ((with_reducible refine at_load ?_); refine wpu_loadF (HR.out.old G) HX.out rfl rfl rfl rfl ?_; go_frame)
                | ((with_reducible refine at_load ?_); refine wpu_loadF0 (HR.out.old G) HX.out rfl rfl rfl rfl ?_; go_frame)
                | fail)
              refine Calls.mono (classE G (by omega) (by omega) hpast) ?_
              clear G; rintro e w ⟨rfl, G⟩
              go_wp2_with (first
                | ((with_reducible refine at_alloc ?_); refine wpu_new G ?_; clear G; intro w G)
                | ((with_reducible refine at_drew ?_); refine wpu_drew G ?_; clear G; intro w G)
                | ((with_reducible refine at_load ?_); first
                  | (refine wpu_load G rfl rfl rfl rfl ?_; go_frame)
                  | (refine wpu_loadB G rfl rfl rfl (by rfl) ?_; go_frame)
                  | (refine wpu_loadS G rfl rfl rfl (by rfl) ?_; simp only [List.drop_succ_cons, List.drop_zero, List.take_succ_cons, List.take_zero]; go_frame))
                | ((with_reducible refine at_store ?_); first
                  | (refine wpu_store G rfl rfl rfl rfl (by first | rfl | assumption | simp [*]) rfl ?_; clear G; intro w G; go_frame)
                  | (refine wpu_storeB G rfl rfl rfl rfl (by rfl) (by rfl) (by first | rfl | assumption | simp [*]) ?_; clear G; intro w G; go_frame)
                  | (refine wpu_storeS G rfl rfl rfl rfl (by rfl) (by rfl) (by first | rfl | assumption | simp [*]) ?_; clear G; intro w G; go_frame))
                | ((with_reducible refine at_convert ?_); refine wpu_str G rfl rfl rfl rfl ?_; go_frame)
                | ((with_reducible refine at_slice ?_); first
                  | (refine wpu_sliceLo rfl rfl rfl rfl (by first | rfl | omega) (by omega) (by omega) ?_; go_frame)
                  | (refine wpu_sliceLH rfl rfl rfl rfl rfl (by first | rfl | omega) (by first | rfl | omega) (by omega) (by omega) ?_; go_frame))
                | ((with_reducible refine at_load ?_); refine wpu_loadF (HR.out.old G) HX.out rfl rfl rfl rfl ?_; go_frame)
                | ((with_reducible refine at_load ?_); refine wpu_loadF0 (HR.out.old G) HX.out rfl rfl rfl rfl ?_; go_frame)
                | fail)
              go_roundw
              case rel => exact ⟨k + 1, _, _, _, by omega, by omega, by go_num, rfl, rfl, hI, G.give⟩
              case measure => simp [intOf] <;> omega
            · skip
              go_wp2_with (first
                | ((with_reducible refine at_alloc ?_); refine wpu_new G ?_; clear G; intro w G)
                | ((with_reducible refine at_drew ?_); refine wpu_drew G ?_; clear G; intro w G)
                | ((with_reducible refine at_load ?_); first
                  | (refine wpu_load G rfl rfl rfl rfl ?_; go_frame)
                  | (refine wpu_loadB G rfl rfl rfl (by rfl) ?_; go_frame)
                  | (refine wpu_loadS G rfl rfl rfl (by rfl) ?_; simp only [List.drop_succ_cons, List.drop_zero, List.take_succ_cons, List.take_zero]; go_frame))
                | ((with_reducible refine at_store ?_); first
                  | (refine wpu_store G rfl rfl rfl rfl (by first | rfl | assumption | simp [*]) rfl ?_; clear G; intro w G; go_frame)
                  | (refine wpu_storeB G rfl rfl rfl rfl (by rfl) (by rfl) (by first | rfl | assumption | simp [*]) ?_; clear G; intro w G; go_frame)
                  | (refine wpu_storeS G rfl rfl rfl rfl (by rfl) (by rfl) (by first | rfl | assumption | simp [*]) ?_; clear G; intro w G; go_frame))
                | ((with_reducible refine at_convert ?_); refine wpu_str G rfl rfl rfl rfl ?_; go_frame)
                | ((with_reducible refine at_slice ?_); first
                  | (refine wpu_sliceLo rfl rfl rfl rfl (by first | rfl | omega) (by omega) (by omega) ?_; go_frame)
                  | (refine wpu_sliceLH rfl rfl rfl rfl rfl (by first | rfl | omega) (by first | rfl | omega) (by omega) (by omega) ?_; go_frame))
                | ((with_reducible refine at_load ?_); refine wpu_loadF (HR.out.old G) HX.out rfl rfl rfl rfl ?_; go_frame)
                | ((with_reducible refine at_load ?_); refine wpu_loadF0 (HR.out.old G) HX.out rfl rfl rfl rfl ?_; go_frame)
                | fail)
              go_roundw
              case rel => exact ⟨k + 1, _, _, _, by omega, by omega, by go_num, rfl, rfl, hI, G.give⟩
              case measure => simp [intOf] <;> omega
      · have h1b : (kd == 1) = false := by simpa using h1
        have h1d : decide (kd = 1) = false := by simpa using h1
        by_cases h2 : kd = 2
        · subst h2
          obtain ⟨s', e, hI', c1, c2, c3⟩ := hI.next hlt2
          have HE := Lib.hid e
          have HC1 := Lib.hid c1
          have HC2 := Lib.hid c2
          clear e c1 c2
          go_wp2_with (first
            | ((with_reducible refine at_alloc ?_); refine wpu_new G ?_; clear G; intro w G)
            | ((with_reducible refine at_drew ?_); refine wpu_drew G ?_; clear G; intro w G)
            | ((with_reducible refine at_load ?_); first
              | (refine wpu_load G rfl rfl rfl rfl ?_; go_frame)
              | (refine wpu_loadB G rfl rfl rfl (by rfl) ?_; go_frame)
              | (refine wpu_loadS G rfl rfl rfl (by rfl) ?_; simp only [List.drop_succ_cons, List.drop_zero, List.take_succ_cons, List.take_zero]; go_frame))
            | ((with_reducible refine at_store ?_); first
              | (refine wpu_store G rfl rfl rfl rfl (by first | rfl | assumption | simp [*]) rfl ?_; clear G; intro w G; go_frame)
              | (refine wpu_storeB G rfl rfl rfl rfl (by rfl) (by rfl) (by first | rfl | assumption | simp [*]) ?_; clear G; intro w G; go_frame)
              | (refine wpu_storeS G rfl rfl rfl rfl (by rfl) (by rfl) (by first | rfl | assumption | simp [*]) ?_; clear G; intro w G; go_frame))
            | ((with_reducible refine at_convert ?_); refine wpu_str G rfl rfl rfl rfl ?_; go_frame)
            | ((with_reducible refine at_slice ?_); first
              | (refine wpu_sliceLo rfl rfl rfl rfl (by first | rfl | omega) (by omega) (by omega) ?_; go_frame)
              | (refine wpu_sliceLH rfl rfl rfl rfl rfl (by first | rfl | omega) (by first | rfl | omega) (by omega) (by omega) ?_; go_frame))
            | ((with_reducible refine at_load ?_); refine wpu_loadF (HR.out.old G) HX.out rfl rfl rfl rfl ?_; go_frame)
            | ((with_reducible refine at_load ?_); refine wpu_loadF0 (HR.out.old G) HX.out rfl rfl rfl rfl ?_; go_frame)
            | fail)
          refine Calls.mono (nextE (G.pullF (idsA a)) hI.inn.ok (by omega) HE.out) ?_
          clear hI
          have hI := hI'
          clear hI'
          clear G; rintro e w ⟨rfl, G⟩
          go_wp2_with (first
            | ((with_reducible refine at_alloc ?_); refine wpu_new G ?_; clear G; intro w G)
            | ((with_reducible refine at_drew ?_); refine wpu_drew G ?_; clear G; intro w G)
            | ((with_reducible refine at_load ?_); first
              | (refine wpu_load G rfl rfl rfl rfl ?_; go_frame)
              | (refine wpu_loadB G rfl rfl rfl (by rfl) ?_; go_frame)
              | (refine wpu_loadS G rfl rfl rfl (by rfl) ?_; simp only [List.drop_succ_cons, List.drop_zero, List.take_succ_cons, List.take_zero]; go_frame))
            | ((with_reducible refine at_store ?_); first
              | (refine wpu_store G rfl rfl rfl rfl (by first | rfl | assumption | simp [*]) rfl ?_; clear G; intro w G; go_frame)
              | (refine wpu_storeB G rfl rfl rfl rfl (by rfl) (by rfl) (by first | rfl | assumption | simp [*]) ?_; clear G; intro w G; go_frame)
              | (refine wpu_storeS G rfl rfl rfl rfl (by rfl) (by rfl) (by first | rfl | assumption | simp [*]) ?_; clear G; intro w G; go_frame))
            | ((with_reducible refine at_convert ?_); refine wpu_str G rfl rfl rfl rfl ?_; go_frame)
            | ((with_reducible refine at_slice ?_); first
              | (refine wpu_sliceLo rfl rfl rfl rfl (by first | rfl | omega) (by omega) (by omega) ?_; go_frame)
              | (refine wpu_sliceLH rfl rfl rfl rfl rfl (by first | rfl | omega) (by first | rfl | omega) (by omega) (by omega) ?_; go_frame))
            | ((with_reducible refine at_load ?_); refine wpu_loadF (HR.out.old G) HX.out rfl rfl rfl rfl ?_; go_frame)
            | ((with_reducible refine at_load ?_); refine wpu_loadF0 (HR.out.old G) HX.out rfl rfl rfl rfl ?_; go_frame)
            | fail)
          refine Calls.mono (classE (G.pullF (idsA a)) (by omega) (by omega) HC1.out) ?_
          clear G; rintro e w ⟨rfl, G⟩
          go_wp2_with (first
            | ((with_reducible refine at_alloc ?_); refine wpu_new G ?_; clear G; intro w G)
            | ((with_reducible refine at_drew ?_); refine wpu_drew G ?_; clear G; intro w G)
            | ((with_reducible refine at_load ?_); first
              | (refine wpu_load G rfl rfl rfl rfl ?_; go_frame)
              | (refine wpu_loadB G rfl rfl rfl (by rfl) ?_; go_frame)
              | (refine wpu_loadS G rfl rfl rfl (by rfl) ?_; simp only [List.drop_succ_cons, List.drop_zero, List.take_succ_cons, List.take_zero]; go_frame))
            | ((with_reducible refine at_store ?_); first
              | (refine wpu_store G rfl rfl rfl rfl (by first | rfl | assumption | simp [*]) rfl ?_; clear G; intro w G; go_frame)
              | (refine wpu_storeB G rfl rfl rfl rfl (by rfl) (by rfl) (by first | rfl | assumption | simp [*]) ?_; clear G; intro w G; go_frame)
              | (refine wpu_storeS G rfl rfl rfl rfl (by rfl) (by rfl) (by first | rfl | assumption | simp [*]) ?_; clear G; intro w G; go_frame))
            | ((with_reducible refine at_convert ?_); refine wpu_str G rfl rfl rfl rfl ?_; go_frame)
            | ((with_reducible refine at_slice ?_); first
              | (refine wpu_sliceLo rfl rfl rfl rfl (by first | rfl | omega) (by omega) (by omega) ?_; go_frame)
              | (refine wpu_sliceLH rfl rfl rfl rfl rfl (by first | rfl | omega) (by first | rfl | omega) (by omega) (by omega) ?_; go_frame))
            | ((with_reducible refine at_load ?_); refine wpu_loadF (HR.out.old G) HX.out rfl rfl rfl rfl ?_; go_frame)
            | ((with_reducible refine at_load ?_); refine wpu_loadF0 (HR.out.old G) HX.out rfl rfl rfl rfl ?_; go_frame)
            | fail)
          refine Calls.mono (classE (G.pullF (idsA a)) (by omega) (by omega) HC2.out) ?_
          clear G; rintro e w ⟨rfl, G⟩
          go_wp2_with (first
            | ((with_reducible refine at_alloc ?_); refine wpu_new G ?_; clear G; intro w G)
            | ((with_reducible refine at_drew ?_); refine wpu_drew G ?_; clear G; intro w G)
            | ((with_reducible refine at_load ?_); first
              | (refine wpu_load G rfl rfl rfl rfl ?_; go_frame)
              | (refine wpu_loadB G rfl rfl rfl (by rfl) ?_; go_frame)
              | (refine wpu_loadS G rfl rfl rfl (by rfl) ?_; simp only [List.drop_succ_cons, List.drop_zero, List.take_succ_cons, List.take_zero]; go_frame))
            | ((with_reducible refine at_store ?_); first
              | (refine wpu_store G rfl rfl rfl rfl (by first | rfl | assumption | simp [*]) rfl ?_; clear G; intro w G; go_frame)
              | (refine wpu_storeB G rfl rfl rfl rfl (by rfl) (by rfl) (by first | rfl | assumption | simp [*]) ?_; clear G; intro w G; go_frame)
              | (refine wpu_storeS G rfl rfl rfl rfl (by rfl) (by rfl) (by first | rfl | assumption | simp [*]) ?_; clear G; intro w G; go_frame))
            | ((with_reducible refine at_convert ?_); refine wpu_str G rfl rfl rfl rfl ?_; go_frame)
            | ((with_reducible refine at_slice ?_); first
              | (refine wpu_sliceLo rfl rfl rfl rfl (by first | rfl | omega) (by omega) (by omega) ?_; go_frame)
              | (refine wpu_sliceLH rfl rfl rfl rfl rfl (by first | rfl | omega) (by first | rfl | omega) (by omega) (by omega) ?_; go_frame))
            | ((with_reducible refine at_load ?_); refine wpu_loadF (HR.out.old G) HX.out rfl rfl rfl rfl ?_; go_frame)
            | ((with_reducible refine at_load ?_); refine wpu_loadF0 (HR.out.old G) HX.out rfl rfl rfl rfl ?_; go_frame)
            | fail)
          refine Calls.mono (lastE (G.pullF (idsA a)) hI.hlast) ?_
          clear G; rintro e w ⟨rfl, G⟩
          by_cases hl0 : 0 < last
          · have hpast := hI.past hl0
            go_wp2_with (first
              | ((with_reducible refine at_alloc ?_); refine wpu_new G ?_; clear G; intro w G)
              | ((with_reducible refine at_drew ?_); refine wpu_drew G ?_; clear G; intro w G)
              | ((with_reducible refine at_load ?_); first
                | (refine wpu_load G rfl rfl rfl rfl ?_; go_frame)
                | (refine wpu_loadB G rfl rfl rfl (by rfl) ?_; go_frame)
                | (refine wpu_loadS G rfl rfl rfl (by rfl) ?_; simp only [List.drop_succ_cons, List.drop_zero, List.take_succ_cons, List.take_zero]; go_frame))
              | ((with_reducible refine at_store ?_); first
                | (refine wpu_store G rfl rfl rfl rfl (by first | rfl | assumption | simp [*]) rfl ?_; clear G; intro w G; go_frame)
                | (refine wpu_storeB G rfl rfl rfl rfl (by rfl) (by rfl) (by first | rfl | assumption | simp [*]) ?_; clear G; intro w G; go_frame)
                | (refine wpu_storeS G rfl rfl rfl rfl (by rfl) (by rfl) (by first | rfl | assumption | simp [*]) ?_; clear G; intro w G; go_frame))
              | ((with_reducible refine at_convert ?_); refine wpu_str G rfl rfl rfl rfl ?_; go_frame)
              | ((with_reducible refine at_slice ?_); first
                | (refine wpu_sliceLo rfl rfl rfl rfl (by first | rfl | omega) (by omega) (by omega) ?_; go_frame)
                | (refine wpu_sliceLH rfl rfl rfl rfl rfl (by first | rfl | omega) (by first | rfl | omega) (by omega) (by omega) ?_; go_frame))
              | ((with_reducible refine at_load ?_); refine wpu_loadF (HR.out.old G) HX.out rfl rfl rfl rfl ?_; go_frame)
              | ((with_reducible refine at_load ?_); refine wpu_loadF0 (HR.out.old G) HX.out rfl rfl rfl rfl ?_; go_frame)
              | fail)
            refine Calls.mono (classE G (by omega) (by omega) hpast) ?_
            clear G; rintro e w ⟨rfl, G⟩
            go_wp2_with (first
              | ((with_reducible refine at_alloc ?_); refine wpu_new G ?_; clear G; intro w G)
              | ((with_reducible refine at_drew ?_); refine wpu_drew G ?_; clear G; intro w G)
              | ((with_reducible refine at_load ?_); first
                | (refine wpu_load G rfl rfl rfl rfl ?_; go_frame)
                | (refine wpu_loadB G rfl rfl rfl (by rfl) ?_; go_frame)
                | (refine wpu_loadS G rfl rfl rfl (by rfl) ?_; simp only [List.drop_succ_cons, List.drop_zero, List.take_succ_cons, List.take_zero]; go_frame))
              | ((with_reducible refine at_store ?_); first
                | (refine wpu_store G rfl rfl rfl rfl (by first | rfl | assumption | simp [*]) rfl ?_; clear G; intro w G; go_frame)
                | (refine wpu_storeB G rfl rfl rfl rfl (by rfl) (by rfl) (by first | rfl | assumption | simp [*]) ?_; clear G; intro w G; go_frame)
                | (refine wpu_storeS G rfl rfl rfl rfl (by rfl) (by rfl) (by first | rfl | assumption | simp [*]) ?_; clear G; intro w G; go_frame))
              | ((with_reducible refine at_convert ?_); refine wpu_str G rfl rfl rfl rfl ?_; go_frame)
              | ((with_reducible refine at_slice ?_); first
                | (refine wpu_sliceLo rfl rfl rfl rfl (by first | rfl | omega) (by omega) (by omega) ?_; go_frame)
                | (refine wpu_sliceLH rfl rfl rfl rfl rfl (by first | rfl | omega) (by first | rfl | omega) (by omega) (by omega) ?_; go_frame))
              | ((with_reducible refine at_load ?_); refine wpu_loadF (HR.out.old G) HX.out rfl rfl rfl rfl ?_; go_frame)
              | ((with_reducible refine at_load ?_); refine wpu_loadF0 (HR.out.old G) HX.out rfl rfl rfl rfl ?_; go_frame)
              | fail)
            go_roundw
            case rel => exact ⟨k + 1, _, _, _, by omega, by omega, by go_num, rfl, rfl, hI, G.give⟩
            case measure => simp [intOf] <;> omega
          · skip
            go_wp2_with (first
              | ((with_reducible refine at_alloc ?_); refine wpu_new G ?_; clear G; intro w G)
              | ((with_reducible refine at_drew ?_); refine wpu_drew G ?_; clear G; intro w G)
              | ((with_reducible refine at_load ?_); first
                | (refine wpu_load G rfl rfl rfl rfl ?_; go_frame)
                | (refine wpu_loadB G rfl rfl rfl (by rfl) ?_; go_frame)
                | (refine wpu_loadS G rfl rfl rfl (by rfl) ?_; simp only [List.drop_succ_cons, List.drop_zero, List.take_succ_cons, List.take_zero]; go_frame))
              | ((with_reducible refine at_store ?_); first
                | (refine wpu_store G rfl rfl rfl rfl (by first | rfl | assumption | simp [*]) rfl ?_; clear G; intro w G; go_frame)
                | (refine wpu_storeB G rfl rfl rfl rfl (by rfl) (by rfl) (by first | rfl | assumption | simp [*]) ?_; clear G; intro w G; go_frame)
                | (refine wpu_storeS G rfl rfl rfl rfl (by rfl) (by rfl) (by first | rfl | assumption | simp [*]) ?_; clear G; intro w G; go_frame))
              | ((with_reducible refine at_convert ?_); refine wpu_str G rfl rfl rfl rfl ?_; go_frame)
              | ((with_reducible refine at_slice ?_); first
                | (refine wpu_sliceLo rfl rfl rfl rfl (by first | rfl | omega) (by omega) (by omega) ?_; go_frame)
                | (refine wpu_sliceLH rfl rfl rfl rfl rfl (by first | rfl | omega) (by first | rfl | omega) (by omega) (by omega) ?_; go_frame))
              | ((with_reducible refine at_load ?_); refine wpu_loadF (HR.out.old G) HX.out rfl rfl rfl rfl ?_; go_frame)
              | ((with_reducible refine at_load ?_); refine wpu_loadF0 (HR.out.old G) HX.out rfl rfl rfl rfl ?_; go_frame)
              | fail)
            go_roundw
            case rel => exact ⟨k + 1, _, _, _, by omega, by omega, by go_num, rfl, rfl, hI, G.give⟩
            case measure => simp [intOf] <;> omega
        · have h2b : (kd == 2) = false := by simpa using h2
          have h2d : decide (kd = 2) = false := by simpa using h2
          by_cases h3 : kd = 3
          · subst h3
            have hI' := hI.close id
            go_wp2_with (first
              | ((with_reducible refine at_alloc ?_); refine wpu_new G ?_; clear G; intro w G)
              | ((with_reducible refine at_drew ?_); refine wpu_drew G ?_; clear G; intro w G)
              | ((with_reducible refine at_load ?_); first
                | (refine wpu_load G rfl rfl rfl rfl ?_; go_frame)
                | (refine wpu_loadB G rfl rfl rfl (by rfl) ?_; go_frame)
                | (refine wpu_loadS G rfl rfl rfl (by rfl) ?_; simp only [List.drop_succ_cons, List.drop_zero, List.take_succ_cons, List.take_zero]; go_frame))
              | ((with_reducible refine at_store ?_); first
                | (refine wpu_store G rfl rfl rfl rfl (by first | rfl | assumption | simp [*]) rfl ?_; clear G; intro w G; go_frame)
                | (refine wpu_storeB G rfl rfl rfl rfl (by rfl) (by rfl) (by first | rfl | assumption | simp [*]) ?_; clear G; intro w G; go_frame)
                | (refine wpu_storeS G rfl rfl rfl rfl (by rfl) (by rfl) (by first | rfl | assumption | simp [*]) ?_; clear G; intro w G; go_frame))
              | ((with_reducible refine at_convert ?_); refine wpu_str G rfl rfl rfl rfl ?_; go_frame)
              | ((with_reducible refine at_slice ?_); first
                | (refine wpu_sliceLo rfl rfl rfl rfl (by first | rfl | omega) (by omega) (by omega) ?_; go_frame)
                | (refine wpu_sliceLH rfl rfl rfl rfl rfl (by first | rfl | omega) (by first | rfl | omega) (by omega) (by omega) ?_; go_frame))
              | ((with_reducible refine at_load ?_); refine wpu_loadF (HR.out.old G) HX.out rfl rfl rfl rfl ?_; go_frame)
              | ((with_reducible refine at_load ?_); refine wpu_loadF0 (HR.out.old G) HX.out rfl rfl rfl rfl ?_; go_frame)
              | fail)
            refine Calls.mono (closeI (G.pullF (idsA a)) hI.inn.ok (by omega) (hI.inn.pos id) b3 b4) ?_
            clear hI
            have hI := hI'
            clear hI'
            generalize s.closed id = sc at hI ⊢
            obtain ⟨sc, rc⟩ := sc
            replace hI : Inv false (k + 1) sc own last := hI
            clear G; rintro e w ⟨rfl, G⟩
            replace G : Own w0 (idsA a sc * emp) w := G
            go_wp2_with (first
              | ((with_reducible refine at_alloc ?_); refine wpu_new G ?_; clear G; intro w G)
              | ((with_reducible refine at_drew ?_); refine wpu_drew G ?_; clear G; intro w G)
              | ((with_reducible refine at_load ?_); first
                | (refine wpu_load G rfl rfl rfl rfl ?_; go_frame)
                | (refine wpu_loadB G rfl rfl rfl (by rfl) ?_; go_frame)
                | (refine wpu_loadS G rfl rfl rfl (by rfl) ?_; simp only [List.drop_succ_cons, List.drop_zero, List.take_succ_cons, List.take_zero]; go_frame))
              | ((with_reducible refine at_store ?_); first
                | (refine wpu_store G rfl rfl rfl rfl (by first | rfl | assumption | simp [*]) rfl ?_; clear G; intro w G; go_frame)
                | (refine wpu_storeB G rfl rfl rfl rfl (by rfl) (by rfl) (by first | rfl | assumption | simp [*]) ?_; clear G; intro w G; go_frame)
                | (refine wpu_storeS G rfl rfl rfl rfl (by rfl) (by rfl) (by first | rfl | assumption | simp [*]) ?_; clear G; intro w G; go_frame))
              | ((with_reducible refine at_convert ?_); refine wpu_str G rfl rfl rfl rfl ?_; go_frame)
              | ((with_reducible refine at_slice ?_); first
                | (refine wpu_sliceLo rfl rfl rfl rfl (by first | rfl | omega) (by omega) (by omega) ?_; go_frame)
                | (refine wpu_sliceLH rfl rfl rfl rfl rfl (by first | rfl | omega) (by first | rfl | omega) (by omega) (by omega) ?_; go_frame))
              | ((with_reducible refine at_load ?_); refine wpu_loadF (HR.out.old G) HX.out rfl rfl rfl rfl ?_; go_frame)
              | ((with_reducible refine at_load ?_); refine wpu_loadF0 (HR.out.old G) HX.out rfl rfl rfl rfl ?_; go_frame)
              | fail)
            refine Calls.mono (lastE (G.pullF (idsA a)) hI.hlast) ?_
            clear G; rintro e w ⟨rfl, G⟩
            by_cases hl0 : 0 < last
            · have hpast := hI.past hl0
              go_wp2_with (first
                | ((with_reducible refine at_alloc ?_); refine wpu_new G ?_; clear G; intro w G)
                | ((with_reducible refine at_drew ?_); refine wpu_drew G ?_; clear G; intro w G)
                | ((with_reducible refine at_load ?_); first
                  | (refine wpu_load G rfl rfl rfl rfl ?_; go_frame)
                  | (refine wpu_loadB G rfl rfl rfl (by rfl) ?_; go_frame)
                  | (refine wpu_loadS G rfl rfl rfl (by rfl) ?_; simp only [List.drop_succ_cons, List.drop_zero, List.take_succ_cons, List.take_zero]; go_frame))
                | ((with_reducible refine at_store ?_); first
                  | (refine wpu_store G rfl rfl rfl rfl (by first | rfl | assumption | simp [*]) rfl ?_; clear G; intro w G; go_frame)
                  | (refine wpu_storeB G rfl rfl rfl rfl (by rfl) (by rfl) (by first | rfl | assumption | simp [*]) ?_; clear G; intro w G; go_frame)
                  | (refine wpu_storeS G rfl rfl rfl rfl (by rfl) (by rfl) (by first | rfl | assumption | simp [*]) ?_; clear G; intro w G; go_frame))
                | ((with_reducible refine at_convert ?_); refine wpu_str G rfl rfl rfl rfl ?_; go_frame)
                | ((with_reducible refine at_slice ?_); first
                  | (refine wpu_sliceLo rfl rfl rfl rfl (by first | rfl | omega) (by omega) (by omega) ?_; go_frame)
                  | (refine wpu_sliceLH rfl rfl rfl rfl rfl (by first | rfl | omega) (by first | rfl | omega) (by omega) (by omega) ?_; go_frame))
                | ((with_reducible refine at_load ?_); refine wpu_loadF (HR.out.old G) HX.out rfl rfl rfl rfl ?_; go_frame)
                | ((with_reducible refine at_load ?_); refine wpu_loadF0 (HR.out.old G) HX.out rfl rfl rfl rfl ?_; go_frame)
                | fail)
              refine Calls.mono (classE G (by omega) (by omega) hpast) ?_
              clear G; rintro e w ⟨rfl, G⟩
              go_wp2_with (first
                | ((with_reducible refine at_alloc ?_); refine wpu_new G ?_; clear G; intro w G)
                | ((with_reducible refine at_drew ?_); refine wpu_drew G ?_; clear G; intro w G)
                | ((with_reducible refine at_load ?_); first
                  | (refine wpu_load G rfl rfl rfl rfl ?_; go_frame)
                  | (refine wpu_loadB G rfl rfl rfl (by rfl) ?_; go_frame)
                  | (refine wpu_loadS G rfl rfl rfl (by rfl) ?_; simp only [List.drop_succ_cons, List.drop_zero, List.take_succ_cons, List.take_zero]; go_frame))
                | ((with_reducible refine at_store ?_); first
                  | (refine wpu_store G rfl rfl rfl rfl (by first | rfl | assumption | simp [*]) rfl ?_; clear G; intro w G; go_frame)
                  | (refine wpu_storeB G rfl rfl rfl rfl (by rfl) (by rfl) (by first | rfl | assumption | simp [*]) ?_; clear G; intro w G; go_frame)
                  | (refine wpu_storeS G rfl rfl rfl rfl (by rfl) (by rfl) (by first | rfl | assumption | simp [*]) ?_; clear G; intro w G; go_frame))
                | ((with_reducible refine at_convert ?_); refine wpu_str G rfl rfl rfl rfl ?_; go_frame)
                | ((with_reducible refine at_slice ?_); first
                  | (refine wpu_sliceLo rfl rfl rfl rfl (by first | rfl | omega) (by omega) (by omega) ?_; go_frame)
                  | (refine wpu_sliceLH rfl rfl rfl rfl rfl (by first | rfl | omega) (by first | rfl | omega) (by omega) (by omega) ?_; go_frame))
                | ((with_reducible refine at_load ?_); refine wpu_loadF (HR.out.old G) HX.out rfl rfl rfl rfl ?_; go_frame)
                | ((with_reducible refine at_load ?_); refine wpu_loadF0 (HR.out.old G) HX.out rfl rfl rfl rfl ?_; go_frame)
                | fail)
              go_roundw
              case rel => exact ⟨k + 1, _, _, _, by omega, by omega, by go_num, rfl, rfl, hI, G.give⟩
              case measure => simp [intOf] <;> omega
            · skip
              go_wp2_with (first
                | ((with_reducible refine at_alloc ?_); refine wpu_new G ?_; clear G; intro w G)
                | ((with_reducible refine at_drew ?_); refine wpu_drew G ?_; clear G; intro w G)
                | ((with_reducible refine at_load ?_); first
                  | (refine wpu_load G rfl rfl rfl rfl ?_; go_frame)
                  | (refine wpu_loadB G rfl rfl rfl (by rfl) ?_; go_frame)
                  | (refine wpu_loadS G rfl rfl rfl (by rfl) ?_; simp only [List.drop_succ_cons, List.drop_zero, List.take_succ_cons, List.take_zero]; go_frame))
                | ((with_reducible refine at_store ?_); first
                  | (refine wpu_store G rfl rfl rfl rfl (by first | rfl | assumption | simp [*]) rfl ?_; clear G; intro w G; go_frame)
                  | (refine wpu_storeB G rfl rfl rfl rfl (by rfl) (by rfl) (by first | rfl | assumption | simp [*]) ?_; clear G; intro w G; go_frame)
                  | (refine wpu_storeS G rfl rfl rfl rfl (by rfl) (by rfl) (by first | rfl | assumption | simp [*]) ?_; clear G; intro w G; go_frame))
                | ((with_reducible refine at_convert ?_); refine wpu_str G rfl rfl rfl rfl ?_; go_frame)
                | ((with_reducible refine at_slice ?_); first
                  | (refine wpu_sliceLo rfl rfl rfl rfl (by first | rfl | omega) (by omega) (by omega) ?_; go_frame)
                  | (refine wpu_sliceLH rfl rfl rfl rfl rfl (by first | rfl | omega) (by first | rfl | omega) (by omega) (by omega) ?_; go_frame))
                | ((with_reducible refine at_load ?_); refine wpu_loadF (HR.out.old G) HX.out rfl rfl rfl rfl ?_; go_frame)
                | ((with_reducible refine at_load ?_); refine wpu_loadF0 (HR.out.old G) HX.out rfl rfl rfl rfl ?_; go_frame)
                | fail)
              go_roundw
              case rel => exact ⟨k + 1, _, _, _, by omega, by omega, by go_num, rfl, rfl, hI, G.give⟩
              case measure => simp [intOf] <;> omega
          · have h3b : (kd == 3) = false := by simpa using h3
            have h3d : decide (kd = 3) = false := by simpa using h3
            have hI' := hI.step
            go_wp2_with (first
              | ((with_reducible refine at_alloc ?_); refine wpu_new G ?_; clear G; intro w G)
              | ((with_reducible refine at_drew ?_); refine wpu_drew G ?_; clear G; intro w G)
              | ((with_reducible refine at_load ?_); first
                | (refine wpu_load G rfl rfl rfl rfl ?_; go_frame)
                | (refine wpu_loadB G rfl rfl rfl (by rfl) ?_; go_frame)
                | (refine wpu_loadS G rfl rfl rfl (by rfl) ?_; simp only [List.drop_succ_cons, List.drop_zero, List.take_succ_cons, List.take_zero]; go_frame))
              | ((with_reducible refine at_store ?_); first
                | (refine wpu_store G rfl rfl rfl rfl (by first | rfl | assumption | simp [*]) rfl ?_; clear G; intro w G; go_frame)
                | (refine wpu_storeB G rfl rfl rfl rfl (by rfl) (by rfl) (by first | rfl | assumption | simp [*]) ?_; clear G; intro w G; go_frame)
                | (refine wpu_storeS G rfl rfl rfl rfl (by rfl) (by rfl) (by first | rfl | assumption | simp [*]) ?_; clear G; intro w G; go_frame))
              | ((with_reducible refine at_convert ?_); refine wpu_str G rfl rfl rfl rfl ?_; go_frame)
              | ((with_reducible refine at_slice ?_); first
                | (refine wpu_sliceLo rfl rfl rfl rfl (by first | rfl | omega) (by omega) (by omega) ?_; go_frame)
                | (refine wpu_sliceLH rfl rfl rfl rfl rfl (by first | rfl | omega) (by first | rfl | omega) (by omega) (by omega) ?_; go_frame))
              | ((with_reducible refine at_load ?_); refine wpu_loadF (HR.out.old G) HX.out rfl rfl rfl rfl ?_; go_frame)
              | ((with_reducible refine at_load ?_); refine wpu_loadF0 (HR.out.old G) HX.out rfl rfl rfl rfl ?_; go_frame)
              | fail)
            clear hI
            have hI := hI'
            clear hI'
            refine Calls.mono (lastE (G.pullF (idsA a)) hI.hlast) ?_
            clear G; rintro e w ⟨rfl, G⟩
            by_cases hl0 : 0 < last
            · have hpast := hI.past hl0
              go_wp2_with (first
                | ((with_reducible refine at_alloc ?_); refine wpu_new G ?_; clear G; intro w G)
                | ((with_reducible refine at_drew ?_); refine wpu_drew G ?_; clear G; intro w G)
                | ((with_reducible refine at_load ?_); first
                  | (refine wpu_load G rfl rfl rfl rfl ?_; go_frame)
                  | (refine wpu_loadB G rfl rfl rfl (by rfl) ?_; go_frame)
                  | (refine wpu_loadS G rfl rfl rfl (by rfl) ?_; simp only [List.drop_succ_cons, List.drop_zero, List.take_succ_cons, List.take_zero]; go_frame))
                | ((with_reducible refine at_store ?_); first
                  | (refine wpu_store G rfl rfl rfl rfl (by first | rfl | assumption | simp [*]) rfl ?_; clear G; intro w G; go_frame)
                  | (refine wpu_storeB G rfl rfl rfl rfl (by rfl) (by rfl) (by first | rfl | assumption | simp [*]) ?_; clear G; intro w G; go_frame)
                  | (refine wpu_storeS G rfl rfl rfl rfl (by rfl) (by rfl) (by first | rfl | assumption | simp [*]) ?_; clear G; intro w G; go_frame))
                | ((with_reducible refine at_convert ?_); refine wpu_str G rfl rfl rfl rfl ?_; go_frame)
                | ((with_reducible refine at_slice ?_); first
                  | (refine wpu_sliceLo rfl rfl rfl rfl (by first | rfl | omega) (by omega) (by omega) ?_; go_frame)
                  | (refine wpu_sliceLH rfl rfl rfl rfl rfl (by first | rfl | omega) (by first | rfl | omega) (by omega) (by omega) ?_; go_frame))
                | ((with_reducible refine at_load ?_); refine wpu_loadF (HR.out.old G) HX.out rfl rfl rfl rfl ?_; go_frame)
                | ((with_reducible refine at_load ?_); refine wpu_loadF0 (HR.out.old G) HX.out rfl rfl rfl rfl ?_; go_frame)
                | fail)
              refine Calls.mono (classE G (by omega) (by omega) hpast) ?_
              clear G; rintro e w ⟨rfl, G⟩
              go_wp2_with (first
                | ((with_reducible refine at_alloc ?_); refine wpu_new G ?_; clear G; intro w G)
                | ((with_reducible refine at_drew ?_); refine wpu_drew G ?_; clear G; intro w G)
                | ((with_reducible refine at_load ?_); first
                  | (refine wpu_load G rfl rfl rfl rfl ?_; go_frame)
                  | (refine wpu_loadB G rfl rfl rfl (by rfl) ?_; go_frame)
                  | (refine wpu_loadS G rfl rfl rfl (by rfl) ?_; simp only [List.drop_succ_cons, List.drop_zero, List.take_succ_cons, List.take_zero]; go_frame))
                | ((with_reducible refine at_store ?_); first
                  | (refine wpu_store G rfl rfl rfl rfl (by first | rfl | assumption | simp [*]) rfl ?_; clear G; intro w G; go_frame)
                  | (refine wpu_storeB G rfl rfl rfl rfl (by rfl) (by rfl) (by first | rfl | assumption | simp [*]) ?_; clear G; intro w G; go_frame)
                  | (refine wpu_storeS G rfl rfl rfl rfl (by rfl) (by rfl) (by first | rfl | assumption | simp [*]) ?_; clear G; intro w G; go_frame))
                | ((with_reducible refine at_convert ?_); refine wpu_str G rfl rfl rfl rfl ?_; go_frame)
                | ((with_reducible refine at_slice ?_); first
                  | (refine wpu_sliceLo rfl rfl rfl rfl (by first | rfl | omega) (by omega) (by omega) ?_; go_frame)
                  | (refine wpu_sliceLH rfl rfl rfl rfl rfl (by first | rfl | omega) (by first | rfl | omega) (by omega) (by omega) ?_; go_frame))
                | ((with_reducible refine at_load ?_); refine wpu_loadF (HR.out.old G) HX.out rfl rfl rfl rfl ?_; go_frame)
                | ((with_reducible refine at_load ?_); refine wpu_loadF0 (HR.out.old G) HX.out rfl rfl rfl rfl ?_; go_frame)
                | fail)
              go_roundw
              case rel => exact ⟨k + 1, _, _, _, by omega, by omega, by go_num, rfl, rfl, hI, G.give⟩
              case measure => simp [intOf] <;> omega
            · skip
              go_wp2_with (first
                | ((with_reducible refine at_alloc ?_); refine wpu_new G ?_; clear G; intro w G)
                | ((with_reducible refine at_drew ?_); refine wpu_drew G ?_; clear G; intro w G)
                | ((with_reducible refine at_load ?_); first
                  | (refine wpu_load G rfl rfl rfl rfl ?_; go_frame)
                  | (refine wpu_loadB G rfl rfl rfl (by rfl) ?_; go_frame)
                  | (refine wpu_loadS G rfl rfl rfl (by rfl) ?_; simp only [List.drop_succ_cons, List.drop_zero, List.take_succ_cons, List.take_zero]; go_frame))
                | ((with_reducible refine at_store ?_); first
                  | (refine wpu_store G rfl rfl rfl rfl (by first | rfl | assumption | simp [*]) rfl ?_; clear G; intro w G; go_frame)
                  | (refine wpu_storeB G rfl rfl rfl rfl (by rfl) (by rfl) (by first | rfl | assumption | simp [*]) ?_; clear G; intro w G; go_frame)
                  | (refine wpu_storeS G rfl rfl rfl rfl (by rfl) (by rfl) (by first | rfl | assumption | simp [*]) ?_; clear G; intro w G; go_frame))
                | ((with_reducible refine at_convert ?_); refine wpu_str G rfl rfl rfl rfl ?_; go_frame)
                | ((with_reducible refine at_slice ?_); first
                  | (refine wpu_sliceLo rfl rfl rfl rfl (by first | rfl | omega) (by omega) (by omega) ?_; go_frame)
                  | (refine wpu_sliceLH rfl rfl rfl rfl rfl (by first | rfl | omega) (by first | rfl | omega) (by omega) (by omega) ?_; go_frame))
                | ((with_reducible refine at_load ?_); refine wpu_loadF (HR.out.old G) HX.out rfl rfl rfl rfl ?_; go_frame)
                | ((with_reducible refine at_load ?_); refine wpu_loadF0 (HR.out.old G) HX.out rfl rfl rfl rfl ?_; go_frame)
                | fail)
              go_roundw
              case rel => exact ⟨k + 1, _, _, _, by omega, by omega, by go_num, rfl, rfl, hI, G.give⟩
              case measure => simp [intOf] <;> omega
    · skip
      go_wp2_with (first
        | ((with_reducible refine at_alloc ?_); refine wpu_new G ?_; clear G; intro w G)
        | ((with_reducible refine at_drew ?_); refine wpu_drew G ?_; clear G; intro w G)
        | ((with_reducible refine at_load ?_); first
          | (refine wpu_load G rfl rfl rfl rfl ?_; go_frame)
          | (refine wpu_loadB G rfl rfl rfl (by rfl) ?_; go_frame)
          | (refine wpu_loadS G rfl rfl rfl (by rfl) ?_; simp only [List.drop_succ_cons, List.drop_zero, List.take_succ_cons, List.take_zero]; go_frame))
        | ((with_reducible refine at_store ?_); first
          | (refine wpu_store G rfl rfl rfl rfl (by first | rfl | assumption | simp [*]) rfl ?_; clear G; intro w G; go_frame)
          | (refine wpu_storeB G rfl rfl rfl rfl (by rfl) (by rfl) (by first | rfl | assumption | simp [*]) ?_; clear G; intro w G; go_frame)
          | (refine wpu_storeS G rfl rfl rfl rfl (by rfl) (by rfl) (by first | rfl | assumption | simp [*]) ?_; clear G; intro w G; go_frame))
        | ((with_reducible refine at_convert ?_); refine wpu_str G rfl rfl rfl rfl ?_; go_frame)
        | ((with_reducible refine at_slice ?_); first
          | (refine wpu_sliceLo rfl rfl rfl rfl (by first | rfl | omega) (by omega) (by omega) ?_; go_frame)
          | (refine wpu_sliceLH rfl rfl rfl rfl rfl (by first | rfl | omega) (by first | rfl | omega) (by omega) (by omega) ?_; go_frame))
        | ((with_reducible refine at_load ?_); refine wpu_loadF (HR.out.old G) HX.out rfl rfl rfl rfl ?_; go_frame)
        | ((with_reducible refine at_load ?_); refine wpu_loadF0 (HR.out.old G) HX.out rfl rfl rfl rfl ?_; go_frame)
        | fail)
      all_goals
        go_ret
        exact ⟨rfl, G.below⟩

set_option maxHeartbeats 4000000 in
set_option maxRecDepth 100000 in
theorem risesT {w0 : World} {v : Value} {n : Nat} {xs : List Value} (hr : rd w0 2 v n xs) (hel : ∀ i, i < n → ∃ a b : Int, (xs.drop (i * 2)).take 2 = [.int .i64 a, .int .i64 b] ∧ (-9223372036854775808 ≤ a ∧ a ≤ 9223372036854775807) ∧ (-9223372036854775808 ≤ b ∧ b ≤ 9223372036854775807)) :
    Calls Try.prog 6 #[.bool true, v] w0 fun e w' => e = .returned (.bool true) ∧ Below w0.heap.size w0 w' := by
  have G := own_begin w0
  obtain ⟨ao, cap, rfl, j1, j2, -⟩ := id hr
  unfold maxLen at j2
  have HR := Lib.hid hr
  clear hr
  go_enter Try.func6, Try.ntmps6
  go_wp2_with fail
  refine Calls.mono (shownSt G) ?_
  clear G; rintro e w ⟨rfl, G⟩
  go_wp2_with fail
  refine Calls.mono (newIds G) ?_
  clear G; rintro e w ⟨a, rfl, G⟩
  obtain ⟨s0, hs0⟩ : ∃ s, newIdS true 1000 = s := ⟨_, rfl⟩
  have hI0 : Inv true 0 s0 2 0 := ⟨hs0 ▸ IdS.new_in true 1000 (by decide) (by decide), hs0 ▸ rfl, hs0 ▸ rfl, hs0 ▸ rfl, hs0 ▸ rfl, hs0 ▸ rfl, by decide⟩
  rw [hs0] at G
  clear hs0
  go_wp2_with fail
  go_loopw [7, 8, 9] (fun ov lv i wr => ∃ (k : Nat) (s : IdS) (own last : Int), k ≤ n ∧ k ≤ 100 ∧ i = .int .i64 k ∧ ov = .int .i64 own ∧ lv = .int .i64 last ∧ Inv true k s own last ∧ Own w0 (idsA a s * emp) wr) (fun _ _ i _ => n - (intOf i).toNat)
  case atStart => exact ⟨0, s0, 2, 0, Nat.zero_le _, by decide, rfl, rfl, rfl, hI0, G⟩
  case round =>
    clear G hI0 s0
    obtain ⟨k, s, own, last, hk, hk2, rfl, rfl, rfl, hI, G⟩ := hrel
    have hlow := hI.low
    have hl1 : 0 ≤ last ∧ last ≤ 2147483647 := by rw [← hI.hlast]; exact ⟨hI.inn.last0, hI.inn.last1⟩
    obtain ⟨hl1, hl2⟩ := hl1
    by_cases hlt : k < n ∧ k < 100
    · obtain ⟨hlt, hlt2⟩ := hlt
      obtain ⟨kd, id, hx, ⟨b1, b2⟩, b3, b4⟩ := hel k hlt
      obtain ⟨ad, rfl⟩ := rd_some HR.out (by omega)
      have HX := Lib.hid hx
      clear hx
      by_cases h1 : kd = 1
      · subst h1
        by_cases hc : s.cls id = 1
        · obtain ⟨s', e, hI'⟩ := hI.open hlt2 hc
          obtain ⟨c1, c2, c3⟩ := (hI.may id).1 hc
          have c4 : decide (id % 2 = 1) = true := c3
          have HC := Lib.hid hc
          have HE := Lib.hid e
          clear hc e
          go_wp2_with (first
            | ((with_reducible refine at_alloc ?_); refine wpu_new G ?_; clear G; intro w G)
            | ((with_reducible refine at_drew ?_); refine wpu_drew G ?_; clear G; intro w G)
            | ((with_reducible refine at_load ?_); first
              | (refine wpu_load G rfl rfl rfl rfl ?_; go_frame)
              | (refine wpu_loadB G rfl rfl rfl (by rfl) ?_; go_frame)
              | (refine wpu_loadS G rfl rfl rfl (by rfl) ?_; simp only [List.drop_succ_cons, List.drop_zero, List.take_succ_cons, List.take_zero]; go_frame))
            | ((with_reducible refine at_store ?_); first
              | (refine wpu_store G rfl rfl rfl rfl (by first | rfl | assumption | simp [*]) rfl ?_; clear G; intro w G; go_frame)
              | (refine wpu_storeB G rfl rfl rfl rfl (by rfl) (by rfl) (by first | rfl | assumption | simp [*]) ?_; clear G; intro w G; go_frame)
              | (refine wpu_storeS G rfl rfl rfl rfl (by rfl) (by rfl) (by first | rfl | assumption | simp [*]) ?_; clear G; intro w G; go_frame))
            | ((with_reducible refine at_convert ?_); refine wpu_str G rfl rfl rfl rfl ?_; go_frame)
            | ((with_reducible refine at_slice ?_); first
              | (refine wpu_sliceLo rfl rfl rfl rfl (by first | rfl | omega) (by omega) (by omega) ?_; go_frame)
              | (refine wpu_sliceLH rfl rfl rfl rfl rfl (by first | rfl | omega) (by first | rfl | omega) (by omega) (by omega) ?_; go_frame))
            | ((with_reducible refine at_load ?_); refine wpu_loadF (HR.out.old G) HX.out rfl rfl rfl rfl ?_; go_frame)
            | ((with_reducible refine at_load ?_); refine wpu_loadF0 (HR.out.old G) HX.out rfl rfl rfl rfl ?_; go_frame)
            | fail)
          refine Calls.mono (classE G b3 b4 HC.out) ?_
          clear G; rintro e w ⟨rfl, G⟩
          go_wp2_with (first
            | ((with_reducible refine at_alloc ?_); refine wpu_new G ?_; clear G; intro w G)
            | ((with_reducible refine at_drew ?_); refine wpu_drew G ?_; clear G; intro w G)
            | ((with_reducible refine at_load ?_); first
              | (refine wpu_load G rfl rfl rfl rfl ?_; go_frame)
              | (refine wpu_loadB G rfl rfl rfl (by rfl) ?_; go_frame)
              | (refine wpu_loadS G rfl rfl rfl (by rfl) ?_; simp only [List.drop_succ_cons, List.drop_zero, List.take_succ_cons, List.take_zero]; go_frame))
            | ((with_reducible refine at_store ?_); first
              | (refine wpu_store G rfl rfl rfl rfl (by first | rfl | assumption | simp [*]) rfl ?_; clear G; intro w G; go_frame)
              | (refine wpu_storeB G rfl rfl rfl rfl (by rfl) (by rfl) (by first | rfl | assumption | simp [*]) ?_; clear G; intro w G; go_frame)
              | (refine wpu_storeS G rfl rfl rfl rfl (by rfl) (by rfl) (by first | rfl | assumption | simp [*]) ?_; clear G; intro w G; go_frame))
            | ((with_reducible refine at_convert ?_); refine wpu_str G rfl rfl rfl rfl ?_; go_frame)
            | ((with_reducible refine at_slice ?_); first
              | (refine wpu_sliceLo rfl rfl rfl rfl (by first | rfl | omega) (by omega) (by omega) ?_; go_frame)
              | (refine wpu_sliceLH rfl rfl rfl rfl rfl (by first | rfl | omega) (by first | rfl | omega) (by omega) (by omega) ?_; go_frame))
            | ((with_reducible refine at_load ?_); refine wpu_loadF (HR.out.old G) HX.out rfl rfl rfl rfl ?_; go_frame)
            | ((with_reducible refine at_load ?_); refine wpu_loadF0 (HR.out.old G) HX.out rfl rfl rfl rfl ?_; go_frame)
            | fail)
          refine Calls.mono (openE G hI.inn.ok (by omega) b3 b4 HE.out) ?_
          clear hI
          have hI := hI'
          clear hI'
          clear G; rintro e w ⟨rfl, G⟩
          go_wp2_with (first
            | ((with_reducible refine at_alloc ?_); refine wpu_new G ?_; clear G; intro w G)
            | ((with_reducible refine at_drew ?_); refine wpu_drew G ?_; clear G; intro w G)
            | ((with_reducible refine at_load ?_); first
              | (refine wpu_load G rfl rfl rfl rfl ?_; go_frame)
              | (refine wpu_loadB G rfl rfl rfl (by rfl) ?_; go_frame)
              | (refine wpu_loadS G rfl rfl rfl (by rfl) ?_; simp only [List.drop_succ_cons, List.drop_zero, List.take_succ_cons, List.take_zero]; go_frame))
            | ((with_reducible refine at_store ?_); first
              | (refine wpu_store G rfl rfl rfl rfl (by first | rfl | assumption | simp [*]) rfl ?_; clear G; intro w G; go_frame)
              | (refine wpu_storeB G rfl rfl rfl rfl (by rfl) (by rfl) (by first | rfl | assumption | simp [*]) ?_; clear G; intro w G; go_frame)
              | (refine wpu_storeS G rfl rfl rfl rfl (by rfl) (by rfl) (by first | rfl | assumption | simp [*]) ?_; clear G; intro w G; go_frame))
            | ((with_reducible refine at_convert ?_); refine wpu_str G rfl rfl rfl rfl ?_; go_frame)
            | ((with_reducible refine at_slice ?_); first
              | (refine wpu_sliceLo rfl rfl rfl rfl (by first | rfl | omega) (by omega) (by omega) ?_; go_frame)
              | (refine wpu_sliceLH rfl rfl rfl rfl rfl (by first | rfl | omega) (by first | rfl | omega) (by omega) (by omega) ?_; go_frame))
            | ((with_reducible refine at_load ?_); refine wpu_loadF (HR.out.old G) HX.out rfl rfl rfl rfl ?_; go_frame)
            | ((with_reducible refine at_load ?_); refine wpu_loadF0 (HR.out.old G) HX.out rfl rfl rfl rfl ?_; go_frame)
            | fail)
          refine Calls.mono (lastE (G.pullF (idsA a)) hI.hlast) ?_
          clear G; rintro e w ⟨rfl, G⟩
          have hl0 : 0 < id := by omega
          have hpast := hI.past hl0
          go_wp2_with (first
            | ((with_reducible refine at_alloc ?_); refine wpu_new G ?_; clear G; intro w G)
            | ((with_reducible refine at_drew ?_); refine wpu_drew G ?_; clear G; intro w G)
            | ((with_reducible refine at_load ?_); first
              | (refine wpu_load G rfl rfl rfl rfl ?_; go_frame)
              | (refine wpu_loadB G rfl rfl rfl (by rfl) ?_; go_frame)
              | (refine wpu_loadS G rfl rfl rfl (by rfl) ?_; simp only [List.drop_succ_cons, List.drop_zero, List.take_succ_cons, List.take_zero]; go_frame))
            | ((with_reducible refine at_store ?_); first
              | (refine wpu_store G rfl rfl rfl rfl (by first | rfl | assumption | simp [*]) rfl ?_; clear G; intro w G; go_frame)
              | (refine wpu_storeB G rfl rfl rfl rfl (by rfl) (by rfl) (by first | rfl | assumption | simp [*]) ?_; clear G; intro w G; go_frame)
              | (refine wpu_storeS G rfl rfl rfl rfl (by rfl) (by rfl) (by first | rfl | assumption | simp [*]) ?_; clear G; intro w G; go_frame))
            | ((with_reducible refine at_convert ?_); refine wpu_str G rfl rfl rfl rfl ?_; go_frame)
            | ((with_reducible refine at_slice ?_); first
              | (refine wpu_sliceLo rfl rfl rfl rfl (by first | rfl | omega) (by omega) (by omega) ?_; go_frame)
              | (refine wpu_sliceLH rfl rfl rfl rfl rfl (by first | rfl | omega) (by first | rfl | omega) (by omega) (by omega) ?_; go_frame))
            | ((with_reducible refine at_load ?_); refine wpu_loadF (HR.out.old G) HX.out rfl rfl rfl rfl ?_; go_frame)
            | ((with_reducible refine at_load ?_); refine wpu_loadF0 (HR.out.old G) HX.out rfl rfl rfl rfl ?_; go_frame)
            | fail)
          refine Calls.mono (classE G (by omega) (by omega) hpast) ?_
          clear G; rintro e w ⟨rfl, G⟩
          go_wp2_with (first
            | ((with_reducible refine at_alloc ?_); refine wpu_new G ?_; clear G; intro w G)
            | ((with_reducible refine at_drew ?_); refine wpu_drew G ?_; clear G; intro w G)
            | ((with_reducible refine at_load ?_); first
              | (refine wpu_load G rfl rfl rfl rfl ?_; go_frame)
              | (refine wpu_loadB G rfl rfl rfl (by rfl) ?_; go_frame)
              | (refine wpu_loadS G rfl rfl rfl (by rfl) ?_; simp only [List.drop_succ_cons, List.drop_zero, List.take_succ_cons, List.take_zero]; go_frame))
            | ((with_reducible refine at_store ?_); first
              | (refine wpu_store G rfl rfl rfl rfl (by first | rfl | assumption | simp [*]) rfl ?_; clear G; intro w G; go_frame)
              | (refine wpu_storeB G rfl rfl rfl rfl (by rfl) (by rfl) (by first | rfl | assumption | simp [*]) ?_; clear G; intro w G; go_frame)
              | (refine wpu_storeS G rfl rfl rfl rfl (by rfl) (by rfl) (by first | rfl | assumption | simp [*]) ?_; clear G; intro w G; go_frame))
            | ((with_reducible refine at_convert ?_); refine wpu_str G rfl rfl rfl rfl ?_; go_frame)
            | ((with_reducible refine at_slice ?_); first
              | (refine wpu_sliceLo rfl rfl rfl rfl (by first | rfl | omega) (by omega) (by omega) ?_; go_frame)
              | (refine wpu_sliceLH rfl rfl rfl rfl rfl (by first | rfl | omega) (by first | rfl | omega) (by omega) (by omega) ?_; go_frame))
            | ((with_reducible refine at_load ?_); refine wpu_loadF (HR.out.old G) HX.out rfl rfl rfl rfl ?_; go_frame)
            | ((with_reducible refine at_load ?_); refine wpu_loadF0 (HR.out.old G) HX.out rfl rfl rfl rfl ?_; go_frame)
            | fail)
          go_roundw
          case rel => exact ⟨k + 1, _, _, _, by omega, by omega, by go_num, rfl, rfl, hI, G.give⟩
          case measure => simp [intOf] <;> omega
        · obtain ⟨r, hr⟩ : ∃ r, s.cls id = r := ⟨_, rfl⟩
          have hr1 : ¬ r = 1 := by rw [← hr]; exact hc
          have hrb : (r == 1) = false := by simpa using hr1
          have hrd : decide (r = 1) = false := by simpa using hr1
          have hno : ¬ (last < id ∧ id ≤ 2147483647 ∧ (id % 2 == 1) = true) := fun h => hc ((hI.may id).2 h)
          have HE := Lib.hid (IdS.opened_no hc)
          have HC := Lib.hid hr
          clear hc hr hr1
          have hI' := hI.step
          by_cases d1 : last < id
          · by_cases d2 : id ≤ 2147483647
            · have d3 : decide (id % 2 = 1) = !true := by
                have : ¬ (id % 2 == 1) = true := fun h => hno ⟨d1, d2, h⟩
                have e : decide (id % 2 = 1) = (id % 2 == 1) := rfl
                rw [e]
                cases hq : (id % 2 == 1) <;> simp [hq] at this ⊢
              have d4 : (id % 2 == 1) = !true := d3
              clear hno
              go_wp2_with (first
                | ((with_reducible refine at_alloc ?_); refine wpu_new G ?_; clear G; intro w G)
                | ((with_reducible refine at_drew ?_); refine wpu_drew G ?_; clear G; intro w G)
                | ((with_reducible refine at_load ?_); first
                  | (refine wpu_load G rfl rfl rfl rfl ?_; go_frame)
                  | (refine wpu_loadB G rfl rfl rfl (by rfl) ?_; go_frame)
                  | (refine wpu_loadS G rfl rfl rfl (by rfl) ?_; simp only [List.drop_succ_cons, List.drop_zero, List.take_succ_cons, List.take_zero]; go_frame))
                | ((with_reducible refine at_store ?_); first
                  | (refine wpu_store G rfl rfl rfl rfl (by first | rfl | assumption | simp [*]) rfl ?_; clear G; intro w G; go_frame)
                  | (refine wpu_storeB G rfl rfl rfl rfl (by rfl) (by rfl) (by first | rfl | assumption | simp [*]) ?_; clear G; intro w G; go_frame)
                  | (refine wpu_storeS G rfl rfl rfl rfl (by rfl) (by rfl) (by first | rfl | assumption | simp [*]) ?_; clear G; intro w G; go_frame))
                | ((with_reducible refine at_convert ?_); refine wpu_str G rfl rfl rfl rfl ?_; go_frame)
                | ((with_reducible refine at_slice ?_); first
                  | (refine wpu_sliceLo rfl rfl rfl rfl (by first | rfl | omega) (by omega) (by omega) ?_; go_frame)
                  | (refine wpu_sliceLH rfl rfl rfl rfl rfl (by first | rfl | omega) (by first | rfl | omega) (by omega) (by omega) ?_; go_frame))
                | ((with_reducible refine at_load ?_); refine wpu_loadF (HR.out.old G) HX.out rfl rfl rfl rfl ?_; go_frame)
                | ((with_reducible refine at_load ?_); refine wpu_loadF0 (HR.out.old G) HX.out rfl rfl rfl rfl ?_; go_frame)
                | fail)
              refine Calls.mono (classE (G.pullF (idsA a)) b3 b4 HC.out) ?_
              clear G; rintro e w ⟨rfl, G⟩
              go_wp2_with (first
                | ((with_reducible refine at_alloc ?_); refine wpu_new G ?_; clear G; intro w G)
                | ((with_reducible refine at_drew ?_); refine wpu_drew G ?_; clear G; intro w G)
                | ((with_reducible refine at_load ?_); first
                  | (refine wpu_load G rfl rfl rfl rfl ?_; go_frame)
                  | (refine wpu_loadB G rfl rfl rfl (by rfl) ?_; go_frame)
                  | (refine wpu_loadS G rfl rfl rfl (by rfl) ?_; simp only [List.drop_succ_cons, List.drop_zero, List.take_succ_cons, List.take_zero]; go_frame))
                | ((with_reducible refine at_store ?_); first
                  | (refine wpu_store G rfl rfl rfl rfl (by first | rfl | assumption | simp [*]) rfl ?_; clear G; intro w G; go_frame)
                  | (refine wpu_storeB G rfl rfl rfl rfl (by rfl) (by rfl) (by first | rfl | assumption | simp [*]) ?_; clear G; intro w G; go_frame)
                  | (refine wpu_storeS G rfl rfl rfl rfl (by rfl) (by rfl) (by first | rfl | assumption | simp [*]) ?_; clear G; intro w G; go_frame))
                | ((with_reducible refine at_convert ?_); refine wpu_str G rfl rfl rfl rfl ?_; go_frame)
                | ((with_reducible refine at_slice ?_); first
                  | (refine wpu_sliceLo rfl rfl rfl rfl (by first | rfl | omega) (by omega) (by omega) ?_; go_frame)
                  | (refine wpu_sliceLH rfl rfl rfl rfl rfl (by first | rfl | omega) (by first | rfl | omega) (by omega) (by omega) ?_; go_frame))
                | ((with_reducible refine at_load ?_); refine wpu_loadF (HR.out.old G) HX.out rfl rfl rfl rfl ?_; go_frame)
                | ((with_reducible refine at_load ?_); refine wpu_loadF0 (HR.out.old G) HX.out rfl rfl rfl rfl ?_; go_frame)
                | fail)
              refine Calls.mono (openE (G.pullF (idsA a)) hI.inn.ok (by omega) b3 b4 HE.out) ?_
              clear hI
              have hI := hI'
              clear hI'
              clear G; rintro e w ⟨rfl, G⟩
              go_wp2_with (first
                | ((with_reducible refine at_alloc ?_); refine wpu_new G ?_; clear G; intro w G)
                | ((with_reducible refine at_drew ?_); refine wpu_drew G ?_; clear G; intro w G)
                | ((with_reducible refine at_load ?_); first
                  | (refine wpu_load G rfl rfl rfl rfl ?_; go_frame)
                  | (refine wpu_loadB G rfl rfl rfl (by rfl) ?_; go_frame)
                  | (refine wpu_loadS G rfl rfl rfl (by rfl) ?_; simp only [List.drop_succ_cons, List.drop_zero, List.take_succ_cons, List.take_zero]; go_frame))
                | ((with_reducible refine at_store ?_); first
                  | (refine wpu_store G rfl rfl rfl rfl (by first | rfl | assumption | simp [*]) rfl ?_; clear G; intro w G; go_frame)
                  | (refine wpu_storeB G rfl rfl rfl rfl (by rfl) (by rfl) (by first | rfl | assumption | simp [*]) ?_; clear G; intro w G; go_frame)
                  | (refine wpu_storeS G rfl rfl rfl rfl (by rfl) (by rfl) (by first | rfl | assumption | simp [*]) ?_; clear G; intro w G; go_frame))
                | ((with_reducible refine at_convert ?_); refine wpu_str G rfl rfl rfl rfl ?_; go_frame)
                | ((with_reducible refine at_slice ?_); first
                  | (refine wpu_sliceLo rfl rfl rfl rfl (by first | rfl | omega) (by omega) (by omega) ?_; go_frame)
                  | (refine wpu_sliceLH rfl rfl rfl rfl rfl (by first | rfl | omega) (by first | rfl | omega) (by omega) (by omega) ?_; go_frame))
                | ((with_reducible refine at_load ?_); refine wpu_loadF (HR.out.old G) HX.out rfl rfl rfl rfl ?_; go_frame)
                | ((with_reducible refine at_load ?_); refine wpu_loadF0 (HR.out.old G) HX.out rfl rfl rfl rfl ?_; go_frame)
                | fail)
              refine Calls.mono (lastE (G.pullF (idsA a)) hI.hlast) ?_
              clear G; rintro e w ⟨rfl, G⟩
              by_cases hl0 : 0 < last
              · have hpast := hI.past hl0
                go_wp2_with (first
                  | ((with_reducible refine at_alloc ?_); refine wpu_new G ?_; clear G; intro w G)
                  | ((with_reducible refine at_drew ?_); refine wpu_drew G ?_; clear G; intro w G)
                  | ((with_reducible refine at_load ?_); first
                    | (refine wpu_load G rfl rfl rfl rfl ?_; go_frame)
                    | (refine wpu_loadB G rfl rfl rfl (by rfl) ?_; go_frame)
                    | (refine wpu_loadS G rfl rfl rfl (by rfl) ?_; simp only [List.drop_succ_cons, List.drop_zero, List.take_succ_cons, List.take_zero]; go_frame))
                  | ((with_reducible refine at_store ?_); first
                    | (refine wpu_store G rfl rfl rfl rfl (by first | rfl | assumption | simp [*]) rfl ?_; clear G; intro w G; go_frame)
                    | (refine wpu_storeB G rfl rfl rfl rfl (by rfl) (by rfl) (by first | rfl | assumption | simp [*]) ?_; clear G; intro w G; go_frame)
                    | (refine wpu_storeS G rfl rfl rfl rfl (by rfl) (by rfl) (by first | rfl | assumption | simp [*]) ?_; clear G; intro w G; go_frame))
                  | ((with_reducible refine at_convert ?_); refine wpu_str G rfl rfl rfl rfl ?_; go_frame)
                  | ((with_reducible refine at_slice ?_); first
                    | (refine wpu_sliceLo rfl rfl rfl rfl (by first | rfl | omega) (by omega) (by omega) ?_; go_frame)
                    | (refine wpu_sliceLH rfl rfl rfl rfl rfl (by first | rfl | omega) (by first | rfl | omega) (by omega) (by omega) ?_; go_frame))
                  | ((with_reducible refine at_load ?_); refine wpu_loadF (HR.out.old G) HX.out rfl rfl rfl rfl ?_; go_frame)
                  | ((with_reducible refine at_load ?_); refine wpu_loadF0 (HR.out.old G) HX.out rfl rfl rfl rfl ?_; go_frame)
                  | fail)
                refine Calls.mono (classE G (by omega) (by omega) hpast) ?_
                clear G; rintro e w ⟨rfl, G⟩
                go_wp2_with (first
                  | ((with_reducible refine at_alloc ?_); refine wpu_new G ?_; clear G; intro w G)
                  | ((with_reducible refine at_drew ?_); refine wpu_drew G ?_; clear G; intro w G)
                  | ((with_reducible refine at_load ?_); first
                    | (refine wpu_load G rfl rfl rfl rfl ?_; go_frame)
                    | (refine wpu_loadB G rfl rfl rfl (by rfl) ?_; go_frame)
                    | (refine wpu_loadS G rfl rfl rfl (by rfl) ?_; simp only [List.drop_succ_cons, List.drop_zero, List.take_succ_cons, List.take_zero]; go_frame))
                  | ((with_reducible refine at_store ?_); first
                    | (refine wpu_store G rfl rfl rfl rfl (by first | rfl | assumption | simp [*]) rfl ?_; clear G; intro w G; go_frame)
                    | (refine wpu_storeB G rfl rfl rfl rfl (by rfl) (by rfl) (by first | rfl | assumption | simp [*]) ?_; clear G; intro w G; go_frame)
                    | (refine wpu_storeS G rfl rfl rfl rfl (by rfl) (by rfl) (by first | rfl | assumption | simp [*]) ?_; clear G; intro w G; go_frame))
                  | ((with_reducible refine at_convert ?_); refine wpu_str G rfl rfl rfl rfl ?_; go_frame)
                  | ((with_reducible refine at_slice ?_); first
                    | (refine wpu_sliceLo rfl rfl rfl rfl (by first | rfl | omega) (by omega) (by omega) ?_; go_frame)
                    | (refine wpu_sliceLH rfl rfl rfl rfl rfl (by first | rfl | omega) (by first | rfl | omega) (by omega) (by omega) ?_; go_frame))
                  | ((with_reducible refine at_load ?_); refine wpu_loadF (HR.out.old G) HX.out rfl rfl rfl rfl ?_; go_frame)
                  | ((with_reducible refine at_load ?_); refine wpu_loadF0 (HR.out.old G) HX.out rfl rfl rfl rfl ?_; go_frame)
                  | fail)
                go_roundw
                case rel => exact ⟨k + 1, _, _, _, by omega, by omega, by go_num, rfl, rfl, hI, G.give⟩
                case measure => simp [intOf] <;> omega
              · skip
                go_wp2_with (first
                  | ((with_reducible refine at_alloc ?_); refine wpu_new G ?_; clear G; intro w G)
                  | ((with_reducible refine at_drew ?_); refine wpu_drew G ?_; clear G; intro w G)
                  | ((with_reducible refine at_load ?_); first
                    | (refine wpu_load G rfl rfl rfl rfl ?_; go_frame)
                    | (refine wpu_loadB G rfl rfl rfl (by rfl) ?_; go_frame)
                    | (refine wpu_loadS G rfl rfl rfl (by rfl) ?_; simp only [List.drop_succ_cons, List.drop_zero, List.take_succ_cons, List.take_zero]; go_frame))
                  | ((with_reducible refine at_store ?_); first
                    | (refine wpu_store G rfl rfl rfl rfl (by first | rfl | assumption | simp [*]) rfl ?_; clear G; intro w G; go_frame)
                    | (refine wpu_storeB G rfl rfl rfl rfl (by rfl) (by rfl) (by first | rfl | assumption | simp [*]) ?_; clear G; intro w G; go_frame)
                    | (refine wpu_storeS G rfl rfl rfl rfl (by rfl) (by rfl) (by first | rfl | assumption | simp [*]) ?_; clear G; intro w G; go_frame))
                  | ((with_reducible refine at_convert ?_); refine wpu_str G rfl rfl rfl rfl ?_; go_frame)
                  | ((with_reducible refine at_slice ?_); first
                    | (refine wpu_sliceLo rfl rfl rfl rfl (by first | rfl | omega) (by omega) (by omega) ?_; go_frame)
                    | (refine wpu_sliceLH rfl rfl rfl rfl rfl (by first | rfl | omega) (by first | rfl | omega) (by omega) (by omega) ?_; go_frame))
                  | ((with_reducible refine at_load ?_); refine wpu_loadF (HR.out.old G) HX.out rfl rfl rfl rfl ?_; go_frame)
                  | ((with_reducible refine at_load ?_); refine wpu_loadF0 (HR.out.old G) HX.out rfl rfl rfl rfl ?_; go_frame)
                  | fail)
                go_roundw
                case rel => exact ⟨k + 1, _, _, _, by omega, by omega, by go_num, rfl, rfl, hI, G.give⟩
                case measure => simp [intOf] <;> omega
            · clear hno
              go_wp2_with (first
                | ((with_reducible refine at_alloc ?_); refine wpu_new G ?_; clear G; intro w G)
                | ((with_reducible refine at_drew ?_); refine wpu_drew G ?_; clear G; intro w G)
                | ((with_reducible refine at_load ?_); first
                  | (refine wpu_load G rfl rfl rfl rfl ?_; go_frame)
                  | (refine wpu_loadB G rfl rfl rfl (by rfl) ?_; go_frame)
                  | (refine wpu_loadS G rfl rfl rfl (by rfl) ?_; simp only [List.drop_succ_cons, List.drop_zero, List.take_succ_cons, List.take_zero]; go_frame))
                | ((with_reducible refine at_store ?_); first
                  | (refine wpu_store G rfl rfl rfl rfl (by first | rfl | assumption | simp [*]) rfl ?_; clear G; intro w G; go_frame)
                  | (refine wpu_storeB G rfl rfl rfl rfl (by rfl) (by rfl) (by first | rfl | assumption | simp [*]) ?_; clear G; intro w G; go_frame)
                  | (refine wpu_storeS G rfl rfl rfl rfl (by rfl) (by rfl) (by first | rfl | assumption | simp [*]) ?_; clear G; intro w G; go_frame))
                | ((with_reducible refine at_convert ?_); refine wpu_str G rfl rfl rfl rfl ?_; go_frame)
                | ((with_reducible refine at_slice ?_); first
                  | (refine wpu_sliceLo rfl rfl rfl rfl (by first | rfl | omega) (by omega) (by omega) ?_; go_frame)
                  | (refine wpu_sliceLH rfl rfl rfl rfl rfl (by first | rfl | omega) (by first | rfl | omega) (by omega) (by omega) ?_; go_frame))
                | ((with_reducible refine at_load ?_); refine wpu_loadF (HR.out.old G) HX.out rfl rfl rfl rfl ?_; go_frame)
                | ((with_reducible refine at_load ?_); refine wpu_loadF0 (HR.out.old G) HX.out rfl rfl rfl rfl ?_; go_frame)
                | fail)
              refine Calls.mono (classE (G.pullF (idsA a)) b3 b4 HC.out) ?_
              clear G; rintro e w ⟨rfl, G⟩
              go_wp2_with (first
                | ((with_reducible refine at_alloc ?_); refine wpu_new G ?_; clear G; intro w G)
                | ((with_reducible refine at_drew ?_); refine wpu_drew G ?_; clear G; intro w G)
                | ((with_reducible refine at_load ?_); first
                  | (refine wpu_load G rfl rfl rfl rfl ?_; go_frame)
                  | (refine wpu_loadB G rfl rfl rfl (by rfl) ?_; go_frame)
                  | (refine wpu_loadS G rfl rfl rfl (by rfl) ?_; simp only [List.drop_succ_cons, List.drop_zero, List.take_succ_cons, List.take_zero]; go_frame))
                | ((with_reducible refine at_store ?_); first
                  | (refine wpu_store G rfl rfl rfl rfl (by first | rfl | assumption | simp [*]) rfl ?_; clear G; intro w G; go_frame)
                  | (refine wpu_storeB G rfl rfl rfl rfl (by rfl) (by rfl) (by first | rfl | assumption | simp [*]) ?_; clear G; intro w G; go_frame)
                  | (refine wpu_storeS G rfl rfl rfl rfl (by rfl) (by rfl) (by first | rfl | assumption | simp [*]) ?_; clear G; intro w G; go_frame))
                | ((with_reducible refine at_convert ?_); refine wpu_str G rfl rfl rfl rfl ?_; go_frame)
                | ((with_reducible refine at_slice ?_); first
                  | (refine wpu_sliceLo rfl rfl rfl rfl (by first | rfl | omega) (by omega) (by omega) ?_; go_frame)
                  | (refine wpu_sliceLH rfl rfl rfl rfl rfl (by first | rfl | omega) (by first | rfl | omega) (by omega) (by omega) ?_; go_frame))
                | ((with_reducible refine at_load ?_); refine wpu_loadF (HR.out.old G) HX.out rfl rfl rfl rfl ?_; go_frame)
                | ((with_reducible refine at_load ?_); refine wpu_loadF0 (HR.out.old G) HX.out rfl rfl rfl rfl ?_; go_frame)
                | fail)
              refine Calls.mono (openE (G.pullF (idsA a)) hI.inn.ok (by omega) b3 b4 HE.out) ?_
              clear hI
              have hI := hI'
              clear hI'
              clear G; rintro e w ⟨rfl, G⟩
              go_wp2_with (first
                | ((with_reducible refine at_alloc ?_); refine wpu_new G ?_; clear G; intro w G)
                | ((with_reducible refine at_drew ?_); refine wpu_drew G ?_; clear G; intro w G)
                | ((with_reducible refine at_load ?_); first
                  | (refine wpu_load G rfl rfl rfl rfl ?_; go_frame)
                  | (refine wpu_loadB G rfl rfl rfl (by rfl) ?_; go_frame)
                  | (refine wpu_loadS G rfl rfl rfl (by rfl) ?_; simp only [List.drop_succ_cons, List.drop_zero, List.take_succ_cons, List.take_zero]; go_frame))
                | ((with_reducible refine at_store ?_); first
                  | (refine wpu_store G rfl rfl rfl rfl (by first | rfl | assumption | simp [*]) rfl ?_; clear G; intro w G; go_frame)
                  | (refine wpu_storeB G rfl rfl rfl rfl (by rfl) (by rfl) (by first | rfl | assumption | simp [*]) ?_; clear G; intro w G; go_frame)
                  | (refine wpu_storeS G rfl rfl rfl rfl (by rfl) (by rfl) (by first | rfl | assumption | simp [*]) ?_; clear G; intro w G; go_frame))
                | ((with_reducible refine at_convert ?_); refine wpu_str G rfl rfl rfl rfl ?_; go_frame)
                | ((with_reducible refine at_slice ?_); first
                  | (refine wpu_sliceLo rfl rfl rfl rfl (by first | rfl | omega) (by omega) (by omega) ?_; go_frame)
                  | (refine wpu_sliceLH rfl rfl rfl rfl rfl (by first | rfl | omega) (by first | rfl | omega) (by omega) (by omega) ?_; go_frame))
                | ((with_reducible refine at_load ?_); refine wpu_loadF (HR.out.old G) HX.out rfl rfl rfl rfl ?_; go_frame)
                | ((with_reducible refine at_load ?_); refine wpu_loadF0 (HR.out.old G) HX.out rfl rfl rfl rfl ?_; go_frame)
                | fail)
              refine Calls.mono (lastE (G.pullF (idsA a)) hI.hlast) ?_
              clear G; rintro e w ⟨rfl, G⟩
              by_cases hl0 : 0 < last
              · have hpast := hI.past hl0
                go_wp2_with (first
                  | ((with_reducible refine at_alloc ?_); refine wpu_new G ?_; clear G; intro w G)
                  | ((with_reducible refine at_drew ?_); refine wpu_drew G ?_; clear G; intro w G)
                  | ((with_reducible refine at_load ?_); first
                    | (refine wpu_load G rfl rfl rfl rfl ?_; go_frame)
                    | (refine wpu_loadB G rfl rfl rfl (by rfl) ?_; go_frame)
                    | (refine wpu_loadS G rfl rfl rfl (by rfl) ?_; simp only [List.drop_succ_cons, List.drop_zero, List.take_succ_cons, List.take_zero]; go_frame))
                  | ((with_reducible refine at_store ?_); first
                    | (refine wpu_store G rfl rfl rfl rfl (by first | rfl | assumption | simp [*]) rfl ?_; clear G; intro w G; go_frame)
                    | (refine wpu_storeB G rfl rfl rfl rfl (by rfl) (by rfl) (by first | rfl | assumption | simp [*]) ?_; clear G; intro w G; go_frame)
                    | (refine wpu_storeS G rfl rfl rfl rfl (by rfl) (by rfl) (by first | rfl | assumption | simp [*]) ?_; clear G; intro w G; go_frame))
                  | ((with_reducible refine at_convert ?_); refine wpu_str G rfl rfl rfl rfl ?_; go_frame)
                  | ((with_reducible refine at_slice ?_); first
                    | (refine wpu_sliceLo rfl rfl rfl rfl (by first | rfl | omega) (by omega) (by omega) ?_; go_frame)
                    | (refine wpu_sliceLH rfl rfl rfl rfl rfl (by first | rfl | omega) (by first | rfl | omega) (by omega) (by omega) ?_; go_frame))
                  | ((with_reducible refine at_load ?_); refine wpu_loadF (HR.out.old G) HX.out rfl rfl rfl rfl ?_; go_frame)
                  | ((with_reducible refine at_load ?_); refine wpu_loadF0 (HR.out.old G) HX.out rfl rfl rfl rfl ?_; go_frame)
                  | fail)
                refine Calls.mono (classE G (by omega) (by omega) hpast) ?_
                clear G; rintro e w ⟨rfl, G⟩
                go_wp2_with (first
                  | ((with_reducible refine at_alloc ?_); refine wpu_new G ?_; clear G; intro w G)
                  | ((with_reducible refine at_drew ?_); refine wpu_drew G ?_; clear G; intro w G)
                  | ((with_reducible refine at_load ?_); first
                    | (refine wpu_load G rfl rfl rfl rfl ?_; go_frame)
                    | (refine wpu_loadB G rfl rfl rfl (by rfl) ?_; go_frame)
                    | (refine wpu_loadS G rfl rfl rfl (by rfl) ?_; simp only [List.drop_succ_cons, List.drop_zero, List.take_succ_cons, List.take_zero]; go_frame))
                  | ((with_reducible refine at_store ?_); first
                    | (refine wpu_store G rfl rfl rfl rfl (by first | rfl | assumption | simp [*]) rfl ?_; clear G; intro w G; go_frame)
                    | (refine wpu_storeB G rfl rfl rfl rfl (by rfl) (by rfl) (by first | rfl | assumption | simp [*]) ?_; clear G; intro w G; go_frame)
                    | (refine wpu_storeS G rfl rfl rfl rfl (by rfl) (by rfl) (by first | rfl | assumption | simp [*]) ?_; clear G; intro w G; go_frame))
                  | ((with_reducible refine at_convert ?_); refine wpu_str G rfl rfl rfl rfl ?_; go_frame)
                  | ((with_reducible refine at_slice ?_); first
                    | (refine wpu_sliceLo rfl rfl rfl rfl (by first | rfl | omega) (by omega) (by omega) ?_; go_frame)
                    | (refine wpu_sliceLH rfl rfl rfl rfl rfl (by first | rfl | omega) (by first | rfl | omega) (by omega) (by omega) ?_; go_frame))
                  | ((with_reducible refine at_load ?_); refine wpu_loadF (HR.out.old G) HX.out rfl rfl rfl rfl ?_; go_frame)
                  | ((with_reducible refine at_load ?_); refine wpu_loadF0 (HR.out.old G) HX.out rfl rfl rfl rfl ?_; go_frame)
                  | fail)
                go_roundw
                case rel => exact ⟨k + 1, _, _, _, by omega, by omega, by go_num, rfl, rfl, hI, G.give⟩
                case measure => simp [intOf] <;> omega
              · skip
                go_wp2_with (first
                  | ((with_reducible refine at_alloc ?_); refine wpu_new G ?_; clear G; intro w G)
                  | ((with_reducible refine at_drew ?_); refine wpu_drew G ?_; clear G; intro w G)
                  | ((with_reducible refine at_load ?_); first
                    | (refine wpu_load G rfl rfl rfl rfl ?_; go_frame)
                    | (refine wpu_loadB G rfl rfl rfl (by rfl) ?_; go_frame)
                    | (refine wpu_loadS G rfl rfl rfl (by rfl) ?_; simp only [List.drop_succ_cons, List.drop_zero, List.take_succ_cons, List.take_zero]; go_frame))
                  | ((with_reducible refine at_store ?_); first
                    | (refine wpu_store G rfl rfl rfl rfl (by first | rfl | assumption | simp [*]) rfl ?_; clear G; intro w G; go_frame)
                    | (refine wpu_storeB G rfl rfl rfl rfl (by rfl) (by rfl) (by first | rfl | assumption | simp [*]) ?_; clear G; intro w G; go_frame)
                    | (refine wpu_storeS G rfl rfl rfl rfl (by rfl) (by rfl) (by first | rfl | assumption | simp [*]) ?_; clear G; intro w G; go_frame))
                  | ((with_reducible refine at_convert ?_); refine wpu_str G rfl rfl rfl rfl ?_; go_frame)
                  | ((with_reducible refine at_slice ?_); first
                    | (refine wpu_sliceLo rfl rfl rfl rfl (by first | rfl | omega) (by omega) (by omega) ?_; go_frame)
                    | (refine wpu_sliceLH rfl rfl rfl rfl rfl (by first | rfl | omega) (by first | rfl | omega) (by omega) (by omega) ?_; go_frame))
                  | ((with_reducible refine at_load ?_); refine wpu_loadF (HR.out.old G) HX.out rfl rfl rfl rfl ?_; go_frame)
                  | ((with_reducible refine at_load ?_); refine wpu_loadF0 (HR.out.old G) HX.out rfl rfl rfl rfl ?_; go_frame)
                  | fail)
                go_roundw
                case rel => exact ⟨k + 1, _, _, _, by omega, by omega, by go_num, rfl, rfl, hI, G.give⟩
                case measure => simp [intOf] <;> omega
          · clear hno
            go_wp2_with (first
              | ((with_reducible refine at_alloc ?_); refine wpu_new G ?_; clear G; intro w G)
              | ((with_reducible refine at_drew ?_); refine wpu_drew G ?_; clear G; intro w G)
              | ((with_reducible refine at_load ?_); first
                | (refine wpu_load G rfl rfl rfl rfl ?_; go_frame)
                | (refine wpu_loadB G rfl rfl rfl (by rfl) ?_; go_frame)
                | (refine wpu_loadS G rfl rfl rfl (by rfl) ?_; simp only [List.drop_succ_cons, List.drop_zero, List.take_succ_cons, List.take_zero]; go_frame))
              | ((with_reducible refine at_store ?_); first
                | (refine wpu_store G rfl rfl rfl rfl (by first | rfl | assumption | simp [*]) rfl ?_; clear G; intro w G; go_frame)
                | (refine wpu_storeB G rfl rfl rfl rfl (by rfl) (by rfl) (by first | rfl | assumption | simp [*]) ?_; clear G; intro w G; go_frame)
                | (refine wpu_storeS G rfl rfl rfl rfl (by rfl) (by rfl) (by first | rfl | assumption | simp [*]) ?_; clear G; intro w G; go_frame))
              | ((with_reducible refine at_convert ?_); refine wpu_str G rfl rfl rfl rfl ?_; go_frame)
              | ((with_reducible refine at_slice ?_); first
                | (refine wpu_sliceLo rfl rfl rfl rfl (by first | rfl | omega) (by omega) (by omega) ?_; go_frame)
                | (refine wpu_sliceLH rfl rfl rfl rfl rfl (by first | rfl | omega) (by first | rfl | omega) (by omega) (by omega) ?_; go_frame))
              | ((with_reducible refine at_load ?_); refine wpu_loadF (HR.out.old G) HX.out rfl rfl rfl rfl ?_; go_frame)
              | ((with_reducible refine at_load ?_); refine wpu_loadF0 (HR.out.old G) HX.out rfl rfl rfl rfl ?_; go_frame)
              | fail)
            refine Calls.mono (classE (G.pullF (idsA a)) b3 b4 HC.out) ?_
            clear G; rintro e w ⟨rfl, G⟩
            go_wp2_with (first
              | ((with_reducible refine at_alloc ?_); refine wpu_new G ?_; clear G; intro w G)
              | ((with_reducible refine at_drew ?_); refine wpu_drew G ?_; clear G; intro w G)
              | ((with_reducible refine at_load ?_); first
                | (refine wpu_load G rfl rfl rfl rfl ?_; go_frame)
                | (refine wpu_loadB G rfl rfl rfl (by rfl) ?_; go_frame)
                | (refine wpu_loadS G rfl rfl rfl (by rfl) ?_; simp only [List.drop_succ_cons, List.drop_zero, List.take_succ_cons, List.take_zero]; go_frame))
              | ((with_reducible refine at_store ?_); first
                | (refine wpu_store G rfl rfl rfl rfl (by first | rfl | assumption | simp [*]) rfl ?_; clear G; intro w G; go_frame)
                | (refine wpu_storeB G rfl rfl rfl rfl (by rfl) (by rfl) (by first | rfl | assumption | simp [*]) ?_; clear G; intro w G; go_frame)
                | (refine wpu_storeS G rfl rfl rfl rfl (by rfl) (by rfl) (by first | rfl | assumption | simp [*]) ?_; clear G; intro w G; go_frame))
              | ((with_reducible refine at_convert ?_); refine wpu_str G rfl rfl rfl rfl ?_; go_frame)
              | ((with_reducible refine at_slice ?_); first
                | (refine wpu_sliceLo rfl rfl rfl rfl (by first | rfl | omega) (by omega) (by omega) ?_; go_frame)
                | (refine wpu_sliceLH rfl rfl rfl rfl rfl (by first | rfl | omega) (by first | rfl | omega) (by omega) (by omega) ?_; go_frame))
              | ((with_reducible refine at_load ?_); refine wpu_loadF (HR.out.old G) HX.out rfl rfl rfl rfl ?_; go_frame)
              | ((with_reducible refine at_load ?_); refine wpu_loadF0 (HR.out.old G) HX.out rfl rfl rfl rfl ?_; go_frame)
              | fail)
            refine Calls.mono (openE (G.pullF (idsA a)) hI.inn.ok (by omega) b3 b4 HE.out) ?_
            clear hI
            have hI := hI'
            clear hI'
            clear G; rintro e w ⟨rfl, G⟩
            go_wp2_with (first
              | ((with_reducible refine at_alloc ?_); refine wpu_new G ?_; clear G; intro w G)
              | ((with_reducible refine at_drew ?_); refine wpu_drew G ?_; clear G; intro w G)
              | ((with_reducible refine at_load ?_); first
                | (refine wpu_load G rfl rfl rfl rfl ?_; go_frame)
                | (refine wpu_loadB G rfl rfl rfl (by rfl) ?_; go_frame)
                | (refine wpu_loadS G rfl rfl rfl (by rfl) ?_; simp only [List.drop_succ_cons, List.drop_zero, List.take_succ_cons, List.take_zero]; go_frame))
              | ((with_reducible refine at_store ?_); first
                | (refine wpu_store G rfl rfl rfl rfl (by first | rfl | assumption | simp [*]) rfl ?_; clear G; intro w G; go_frame)
                | (refine wpu_storeB G rfl rfl rfl rfl (by rfl) (by rfl) (by first | rfl | assumption | simp [*]) ?_; clear G; intro w G; go_frame)
                | (refine wpu_storeS G rfl rfl rfl rfl (by rfl) (by rfl) (by first | rfl | assumption | simp [*]) ?_; clear G; intro w G; go_frame))
              | ((with_reducible refine at_convert ?_); refine wpu_str G rfl rfl rfl rfl ?_; go_frame)
              | ((with_reducible refine at_slice ?_); first
                | (refine wpu_sliceLo rfl rfl rfl rfl (by first | rfl | omega) (by omega) (by omega) ?_; go_frame)
                | (refine wpu_sliceLH rfl rfl rfl rfl rfl (by first | rfl | omega) (by first | rfl | omega) (by omega) (by omega) ?_; go_frame))
              | ((with_reducible refine at_load ?_); refine wpu_loadF (HR.out.old G) HX.out rfl rfl rfl rfl ?_; go_frame)
              | ((with_reducible refine at_load ?_); refine wpu_loadF0 (HR.out.old G) HX.out rfl rfl rfl rfl ?_; go_frame)
              | fail)
            refine Calls.mono (lastE (G.pullF (idsA a)) hI.hlast) ?_
            clear G; rintro e w ⟨rfl, G⟩
            by_cases hl0 : 0 < last
            · have hpast := hI.past hl0
              go_wp2_with (first
                | ((with_reducible refine at_alloc ?_); refine wpu_new G ?_; clear G; intro w G)
                | ((with_reducible refine at_drew ?_); refine wpu_drew G ?_; clear G; intro w G)
                | ((with_reducible refine at_load ?_); first
                  | (refine wpu_load G rfl rfl rfl rfl ?_; go_frame)
                  | (refine wpu_loadB G rfl rfl rfl (by rfl) ?_; go_frame)
                  | (refine wpu_loadS G rfl rfl rfl (by rfl) ?_; simp only [List.drop_succ_cons, List.drop_zero, List.take_succ_cons, List.take_zero]; go_frame))
                | ((with_reducible refine at_store ?_); first
                  | (refine wpu_store G rfl rfl rfl rfl (by first | rfl | assumption | simp [*]) rfl ?_; clear G; intro w G; go_frame)
                  | (refine wpu_storeB G rfl rfl rfl rfl (by rfl) (by rfl) (by first | rfl | assumption | simp [*]) ?_; clear G; intro w G; go_frame)
                  | (refine wpu_storeS G rfl rfl rfl rfl (by rfl) (by rfl) (by first | rfl | assumption | simp [*]) ?_; clear G; intro w G; go_frame))
                | ((with_reducible refine at_convert ?_); refine wpu_str G rfl rfl rfl rfl ?_; go_frame)
                | ((with_reducible refine at_slice ?_); first
                  | (refine wpu_sliceLo rfl rfl rfl rfl (by first | rfl | omega) (by omega) (by omega) ?_; go_frame)
                  | (refine wpu_sliceLH rfl rfl rfl rfl rfl (by first | rfl | omega) (by first | rfl | omega) (by omega) (by omega) ?_; go_frame))
                | ((with_reducible refine at_load ?_); refine wpu_loadF (HR.out.old G) HX.out rfl rfl rfl rfl ?_; go_frame)
                | ((with_reducible refine at_load ?_); refine wpu_loadF0 (HR.out.old G) HX.out rfl rfl rfl rfl ?_; go_frame)
                | fail)
              refine Calls.mono (classE G (by omega) (by omega) hpast) ?_
              clear G; rintro e w ⟨rfl, G⟩
              go_wp2_with (first
                | ((with_reducible refine at_alloc ?_); refine wpu_new G ?_; clear G; intro w G)
                | ((with_reducible refine at_drew ?_); refine wpu_drew G ?_; clear G; intro w G)
                | ((with_reducible refine at_load ?_); first
                  | (refine wpu_load G rfl rfl rfl rfl ?_; go_frame)
                  | (refine wpu_loadB G rfl rfl rfl (by rfl) ?_; go_frame)
                  | (refine wpu_loadS G rfl rfl rfl (by rfl) ?_; simp only [List.drop_succ_cons, List.drop_zero, List.take_succ_cons, List.take_zero]; go_frame))
                | ((with_reducible refine at_store ?_); first
                  | (refine wpu_store G rfl rfl rfl rfl (by first | rfl | assumption | simp [*]) rfl ?_; clear G; intro w G; go_frame)
                  | (refine wpu_storeB G rfl rfl rfl rfl (by rfl) (by rfl) (by first | rfl | assumption | simp [*]) ?_; clear G; intro w G; go_frame)
                  | (refine wpu_storeS G rfl rfl rfl rfl (by rfl) (by rfl) (by first | rfl | assumption | simp [*]) ?_; clear G; intro w G; go_frame))
                | ((with_reducible refine at_convert ?_); refine wpu_str G rfl rfl rfl rfl ?_; go_frame)
                | ((with_reducible refine at_slice ?_); first
                  | (refine wpu_sliceLo rfl rfl rfl rfl (by first | rfl | omega) (by omega) (by omega) ?_; go_frame)
                  | (refine wpu_sliceLH rfl rfl rfl rfl rfl (by first | rfl | omega) (by first | rfl | omega) (by omega) (by omega) ?_; go_frame))
                | ((with_reducible refine at_load ?_); refine wpu_loadF (HR.out.old G) HX.out rfl rfl rfl rfl ?_; go_frame)
                | ((with_reducible refine at_load ?_); refine wpu_loadF0 (HR.out.old G) HX.out rfl rfl rfl rfl ?_; go_frame)
                | fail)
              go_roundw
              case rel => exact ⟨k + 1, _, _, _, by omega, by omega, by go_num, rfl, rfl, hI, G.give⟩
              case measure => simp [intOf] <;> omega
            · skip
              go_wp2_with (first
                | ((with_reducible refine at_alloc ?_); refine wpu_new G ?_; clear G; intro w G)
                | ((with_reducible refine at_drew ?_); refine wpu_drew G ?_; clear G; intro w G)
                | ((with_reducible refine at_load ?_); first
                  | (refine wpu_load G rfl rfl rfl rfl ?_; go_frame)
                  | (refine wpu_loadB G rfl rfl rfl (by rfl) ?_; go_frame)
                  | (refine wpu_loadS G rfl rfl rfl (by rfl) ?_; simp only [List.drop_succ_cons, List.drop_zero, List.take_succ_cons, List.take_zero]; go_frame))
                | ((with_reducible refine at_store ?_); first
                  | (refine wpu_store G rfl rfl rfl rfl (by first | rfl | assumption | simp [*]) rfl ?_; clear G; intro w G; go_frame)
                  | (refine wpu_storeB G rfl rfl rfl rfl (by rfl) (by rfl) (by first | rfl | assumption | simp [*]) ?_; clear G; intro w G; go_frame)
                  | (refine wpu_storeS G rfl rfl rfl rfl (by rfl) (by rfl) (by first | rfl | assumption | simp [*]) ?_; clear G; intro w G; go_frame))
                | ((with_reducible refine at_convert ?_); refine wpu_str G rfl rfl rfl rfl ?_; go_frame)
                | ((with_reducible refine at_slice ?_); first
                  | (refine wpu_sliceLo rfl rfl rfl rfl (by first | rfl | omega) (by omega) (by omega) ?_; go_frame)
                  | (refine wpu_sliceLH rfl rfl rfl rfl rfl (by first | rfl | omega) (by first | rfl | omega) (by omega) (by omega) ?_; go_frame))
                | ((with_reducible refine at_load ?_); refine wpu_loadF (HR.out.old G) HX.out rfl rfl rfl rfl ?_; go_frame)
                | ((with_reducible refine at_load ?_); refine wpu_loadF0 (HR.out.old G) HX.out rfl rfl rfl rfl ?_; go_frame)
                | fail)
              go_roundw
              case rel => exact ⟨k + 1, _, _, _, by omega, by omega, by go_num, rfl, rfl, hI, G.give⟩
              case measure => simp [intOf] <;> omega
      · have h1b : (kd == 1) = false := by simpa using h1
        have h1d : decide (kd = 1) = false := by simpa using h1
        by_cases h2 : kd = 2
        · subst h2
          obtain ⟨s', e, hI', c1, c2, c3⟩ := hI.next hlt2
          have HE := Lib.hid e
          have HC1 := Lib.hid c1
          have HC2 := Lib.hid c2
          clear e c1 c2
          go_wp2_with (first
            | ((with_reducible refine at_alloc ?_); refine wpu_new G ?_; clear G; intro w G)
            | ((with_reducible refine at_drew ?_); refine wpu_drew G ?_; clear G; intro w G)
            | ((with_reducible refine at_load ?_); first
              | (refine wpu_load G rfl rfl rfl rfl ?_; go_frame)
              | (refine wpu_loadB G rfl rfl rfl (by rfl) ?_; go_frame)
              | (refine wpu_loadS G rfl rfl rfl (by rfl) ?_; simp only [List.drop_succ_cons, List.drop_zero, List.take_succ_cons, List.take_zero]; go_frame))
            | ((with_reducible refine at_store ?_); first
              | (refine wpu_store G rfl rfl rfl rfl (by first | rfl | assumption | simp [*]) rfl ?_; clear G; intro w G; go_frame)
              | (refine wpu_storeB G rfl rfl rfl rfl (by rfl) (by rfl) (by first | rfl | assumption | simp [*]) ?_; clear G; intro w G; go_frame)
              | (refine wpu_storeS G rfl rfl rfl rfl (by rfl) (by rfl) (by first | rfl | assumption | simp [*]) ?_; clear G; intro w G; go_frame))
            | ((with_reducible refine at_convert ?_); refine wpu_str G rfl rfl rfl rfl ?_; go_frame)
            | ((with_reducible refine at_slice ?_); first
              | (refine wpu_sliceLo rfl rfl rfl rfl (by first | rfl | omega) (by omega) (by omega) ?_; go_frame)
              | (refine wpu_sliceLH rfl rfl rfl rfl rfl (by first | rfl | omega) (by first | rfl | omega) (by omega) (by omega) ?_; go_frame))
            | ((with_reducible refine at_load ?_); refine wpu_loadF (HR.out.old G) HX.out rfl rfl rfl rfl ?_; go_frame)
            | ((with_reducible refine at_load ?_); refine wpu_loadF0 (HR.out.old G) HX.out rfl rfl rfl rfl ?_; go_frame)
            | fail)
          refine Calls.mono (nextE (G.pullF (idsA a)) hI.inn.ok (by omega) HE.out) ?_
          clear hI
          have hI := hI'
          clear hI'
          clear G; rintro e w ⟨rfl, G⟩
          go_wp2_with (first
            | ((with_reducible refine at_alloc ?_); refine wpu_new G ?_; clear G; intro w G)
            | ((with_reducible refine at_drew ?_); refine wpu_drew G ?_; clear G; intro w G)
            | ((with_reducible refine at_load ?_); first
              | (refine wpu_load G rfl rfl rfl rfl ?_; go_frame)
              | (refine wpu_loadB G rfl rfl rfl (by rfl) ?_; go_frame)
              | (refine wpu_loadS G rfl rfl rfl (by rfl) ?_; simp only [List.drop_succ_cons, List.drop_zero, List.take_succ_cons, List.take_zero]; go_frame))
            | ((with_reducible refine at_store ?_); first
              | (refine wpu_store G rfl rfl rfl rfl (by first | rfl | assumption | simp [*]) rfl ?_; clear G; intro w G; go_frame)
              | (refine wpu_storeB G rfl rfl rfl rfl (by rfl) (by rfl) (by first | rfl | assumption | simp [*]) ?_; clear G; intro w G; go_frame)
              | (refine wpu_storeS G rfl rfl rfl rfl (by rfl) (by rfl) (by first | rfl | assumption | simp [*]) ?_; clear G; intro w G; go_frame))
            | ((with_reducible refine at_convert ?_); refine wpu_str G rfl rfl rfl rfl ?_; go_frame)
            | ((with_reducible refine at_slice ?_); first
              | (refine wpu_sliceLo rfl rfl rfl rfl (by first | rfl | omega) (by omega) (by omega) ?_; go_frame)
              | (refine wpu_sliceLH rfl rfl rfl rfl rfl (by first | rfl | omega) (by first | rfl | omega) (by omega) (by omega) ?_; go_frame))
            | ((with_reducible refine at_load ?_); refine wpu_loadF (HR.out.old G) HX.out rfl rfl rfl rfl ?_; go_frame)
            | ((with_reducible refine at_load ?_); refine wpu_loadF0 (HR.out.old G) HX.out rfl rfl rfl rfl ?_; go_frame)
            | fail)
          refine Calls.mono (classE (G.pullF (idsA a)) (by omega) (by omega) HC1.out) ?_
          clear G; rintro e w ⟨rfl, G⟩
          go_wp2_with (first
            | ((with_reducible refine at_alloc ?_); refine wpu_new G ?_; clear G; intro w G)
            | ((with_reducible refine at_drew ?_); refine wpu_drew G ?_; clear G; intro w G)
            | ((with_reducible refine at_load ?_); first
              | (refine wpu_load G rfl rfl rfl rfl ?_; go_frame)
              | (refine wpu_loadB G rfl rfl rfl (by rfl) ?_; go_frame)
              | (refine wpu_loadS G rfl rfl rfl (by rfl) ?_; simp only [List.drop_succ_cons, List.drop_zero, List.take_succ_cons, List.take_zero]; go_frame))
            | ((with_reducible refine at_store ?_); first
              | (refine wpu_store G rfl rfl rfl rfl (by first | rfl | assumption | simp [*]) rfl ?_; clear G; intro w G; go_frame)
              | (refine wpu_storeB G rfl rfl rfl rfl (by rfl) (by rfl) (by first | rfl | assumption | simp [*]) ?_; clear G; intro w G; go_frame)
              | (refine wpu_storeS G rfl rfl rfl rfl (by rfl) (by rfl) (by first | rfl | assumption | simp [*]) ?_; clear G; intro w G; go_frame))
            | ((with_reducible refine at_convert ?_); refine wpu_str G rfl rfl rfl rfl ?_; go_frame)
            | ((with_reducible refine at_slice ?_); first
              | (refine wpu_sliceLo rfl rfl rfl rfl (by first | rfl | omega) (by omega) (by omega) ?_; go_frame)
              | (refine wpu_sliceLH rfl rfl rfl rfl rfl (by first | rfl | omega) (by first | rfl | omega) (by omega) (by omega) ?_; go_frame))
            | ((with_reducible refine at_load ?_); refine wpu_loadF (HR.out.old G) HX.out rfl rfl rfl rfl ?_; go_frame)
            | ((with_reducible refine at_load ?_); refine wpu_loadF0 (HR.out.old G) HX.out rfl rfl rfl rfl ?_; go_frame)
            | fail)
          refine Calls.mono (classE (G.pullF (idsA a)) (by omega) (by omega) HC2.out) ?_
          clear G; rintro e w ⟨rfl, G⟩
          go_wp2_with (first
            | ((with_reducible refine at_alloc ?_); refine wpu_new G ?_; clear G; intro w G)
            | ((with_reducible refine at_drew ?_); refine wpu_drew G ?_; clear G; intro w G)
            | ((with_reducible refine at_load ?_); first
              | (refine wpu_load G rfl rfl rfl rfl ?_; go_frame)
              | (refine wpu_loadB G rfl rfl rfl (by rfl) ?_; go_frame)
              | (refine wpu_loadS G rfl rfl rfl (by rfl) ?_; simp only [List.drop_succ_cons, List.drop_zero, List.take_succ_cons, List.take_zero]; go_frame))
            | ((with_reducible refine at_store ?_); first
              | (refine wpu_store G rfl rfl rfl rfl (by first | rfl | assumption | simp [*]) rfl ?_; clear G; intro w G; go_frame)
              | (refine wpu_storeB G rfl rfl rfl rfl (by rfl) (by rfl) (by first | rfl | assumption | simp [*]) ?_; clear G; intro w G; go_frame)
              | (refine wpu_storeS G rfl rfl rfl rfl (by rfl) (by rfl) (by first | rfl | assumption | simp [*]) ?_; clear G; intro w G; go_frame))
            | ((with_reducible refine at_convert ?_); refine wpu_str G rfl rfl rfl rfl ?_; go_frame)
            | ((with_reducible refine at_slice ?_); first
              | (refine wpu_sliceLo rfl rfl rfl rfl (by first | rfl | omega) (by omega) (by omega) ?_; go_frame)
              | (refine wpu_sliceLH rfl rfl rfl rfl rfl (by first | rfl | omega) (by first | rfl | omega) (by omega) (by omega) ?_; go_frame))
            | ((with_reducible refine at_load ?_); refine wpu_loadF (HR.out.old G) HX.out rfl rfl rfl rfl ?_; go_frame)
            | ((with_reducible refine at_load ?_); refine wpu_loadF0 (HR.out.old G) HX.out rfl rfl rfl rfl ?_; go_frame)
            | fail)
          refine Calls.mono (lastE (G.pullF (idsA a)) hI.hlast) ?_
          clear G; rintro e w ⟨rfl, G⟩
          by_cases hl0 : 0 < last
          · have hpast := hI.past hl0
            go_wp2_with (first
              | ((with_reducible refine at_alloc ?_); refine wpu_new G ?_; clear G; intro w G)
              | ((with_reducible refine at_drew ?_); refine wpu_drew G ?_; clear G; intro w G)
              | ((with_reducible refine at_load ?_); first
                | (refine wpu_load G rfl rfl rfl rfl ?_; go_frame)
                | (refine wpu_loadB G rfl rfl rfl (by rfl) ?_; go_frame)
                | (refine wpu_loadS G rfl rfl rfl (by rfl) ?_; simp only [List.drop_succ_cons, List.drop_zero, List.take_succ_cons, List.take_zero]; go_frame))
              | ((with_reducible refine at_store ?_); first
                | (refine wpu_store G rfl rfl rfl rfl (by first | rfl | assumption | simp [*]) rfl ?_; clear G; intro w G; go_frame)
                | (refine wpu_storeB G rfl rfl rfl rfl (by rfl) (by rfl) (by first | rfl | assumption | simp [*]) ?_; clear G; intro w G; go_frame)
                | (refine wpu_storeS G rfl rfl rfl rfl (by rfl) (by rfl) (by first | rfl | assumption | simp [*]) ?_; clear G; intro w G; go_frame))
              | ((with_reducible refine at_convert ?_); refine wpu_str G rfl rfl rfl rfl ?_; go_frame)
              | ((with_reducible refine at_slice ?_); first
                | (refine wpu_sliceLo rfl rfl rfl rfl (by first | rfl | omega) (by omega) (by omega) ?_; go_frame)
                | (refine wpu_sliceLH rfl rfl rfl rfl rfl (by first | rfl | omega) (by first | rfl | omega) (by omega) (by omega) ?_; go_frame))
              | ((with_reducible refine at_load ?_); refine wpu_loadF (HR.out.old G) HX.out rfl rfl rfl rfl ?_; go_frame)
              | ((with_reducible refine at_load ?_); refine wpu_loadF0 (HR.out.old G) HX.out rfl rfl rfl rfl ?_; go_frame)
              | fail)
            refine Calls.mono (classE G (by omega) (by omega) hpast) ?_
            clear G; rintro e w ⟨rfl, G⟩
            go_wp2_with (first
              | ((with_reducible refine at_alloc ?_); refine wpu_new G ?_; clear G; intro w G)
              | ((with_reducible refine at_drew ?_); refine wpu_drew G ?_; clear G; intro w G)
              | ((with_reducible refine at_load ?_); first
                | (refine wpu_load G rfl rfl rfl rfl ?_; go_frame)
                | (refine wpu_loadB G rfl rfl rfl (by rfl) ?_; go_frame)
                | (refine wpu_loadS G rfl rfl rfl (by rfl) ?_; simp only [List.drop_succ_cons, List.drop_zero, List.take_succ_cons, List.take_zero]; go_frame))
              | ((with_reducible refine at_store ?_); first
                | (refine wpu_store G rfl rfl rfl rfl (by first | rfl | assumption | simp [*]) rfl ?_; clear G; intro w G; go_frame)
                | (refine wpu_storeB G rfl rfl rfl rfl (by rfl) (by rfl) (by first | rfl | assumption | simp [*]) ?_; clear G; intro w G; go_frame)
                | (refine wpu_storeS G rfl rfl rfl rfl (by rfl) (by rfl) (by first | rfl | assumption | simp [*]) ?_; clear G; intro w G; go_frame))
              | ((with_reducible refine at_convert ?_); refine wpu_str G rfl rfl rfl rfl ?_; go_frame)
              | ((with_reducible refine at_slice ?_); first
                | (refine wpu_sliceLo rfl rfl rfl rfl (by first | rfl | omega) (by omega) (by omega) ?_; go_frame)
                | (refine wpu_sliceLH rfl rfl rfl rfl rfl (by first | rfl | omega) (by first | rfl | omega) (by omega) (by omega) ?_; go_frame))
              | ((with_reducible refine at_load ?_); refine wpu_loadF (HR.out.old G) HX.out rfl rfl rfl rfl ?_; go_frame)
              | ((with_reducible refine at_load ?_); refine wpu_loadF0 (HR.out.old G) HX.out rfl rfl rfl rfl ?_; go_frame)
              | fail)
            go_roundw
            case rel => exact ⟨k + 1, _, _, _, by omega, by omega, by go_num, rfl, rfl, hI, G.give⟩
            case measure => simp [intOf] <;> omega
          · skip
            go_wp2_with (first
              | ((with_reducible refine at_alloc ?_); refine wpu_new G ?_; clear G; intro w G)
              | ((with_reducible refine at_drew ?_); refine wpu_drew G ?_; clear G; intro w G)
              | ((with_reducible refine at_load ?_); first
                | (refine wpu_load G rfl rfl rfl rfl ?_; go_frame)
                | (refine wpu_loadB G rfl rfl rfl (by rfl) ?_; go_frame)
                | (refine wpu_loadS G rfl rfl rfl (by rfl) ?_; simp only [List.drop_succ_cons, List.drop_zero, List.take_succ_cons, List.take_zero]; go_frame))
              | ((with_reducible refine at_store ?_); first
                | (refine wpu_store G rfl rfl rfl rfl (by first | rfl | assumption | simp [*]) rfl ?_; clear G; intro w G; go_frame)
                | (refine wpu_storeB G rfl rfl rfl rfl (by rfl) (by rfl) (by first | rfl | assumption | simp [*]) ?_; clear G; intro w G; go_frame)
                | (refine wpu_storeS G rfl rfl rfl rfl (by rfl) (by rfl) (by first | rfl | assumption | simp [*]) ?_; clear G; intro w G; go_frame))
              | ((with_reducible refine at_convert ?_); refine wpu_str G rfl rfl rfl rfl ?_; go_frame)
              | ((with_reducible refine at_slice ?_); first
                | (refine wpu_sliceLo rfl rfl rfl rfl (by first | rfl | omega) (by omega) (by omega) ?_; go_frame)
                | (refine wpu_sliceLH rfl rfl rfl rfl rfl (by first | rfl | omega) (by first | rfl | omega) (by omega) (by omega) ?_; go_frame))
              | ((with_reducible refine at_load ?_); refine wpu_loadF (HR.out.old G) HX.out rfl rfl rfl rfl ?_; go_frame)
              | ((with_reducible refine at_load ?_); refine wpu_loadF0 (HR.out.old G) HX.out rfl rfl rfl rfl ?_; go_frame)
              | fail)
            go_roundw
            case rel => exact ⟨k + 1, _, _, _, by omega, by omega, by go_num, rfl, rfl, hI, G.give⟩
            case measure => simp [intOf] <;> omega
        · have h2b : (kd == 2) = false := by simpa using h2
          have h2d : decide (kd = 2) = false := by simpa using h2
          by_cases h3 : kd = 3
          · subst h3
            have hI' := hI.close id
            go_wp2_with (first
              | ((with_reducible refine at_alloc ?_); refine wpu_new G ?_; clear G; intro w G)
              | ((with_reducible refine at_drew ?_); refine wpu_drew G ?_; clear G; intro w G)
              | ((with_reducible refine at_load ?_); first
                | (refine wpu_load G rfl rfl rfl rfl ?_; go_frame)
                | (refine wpu_loadB G rfl rfl rfl (by rfl) ?_; go_frame)
                | (refine wpu_loadS G rfl rfl rfl (by rfl) ?_; simp only [List.drop_succ_cons, List.drop_zero, List.take_succ_cons, List.take_zero]; go_frame))
              | ((with_reducible refine at_store ?_); first
                | (refine wpu_store G rfl rfl rfl rfl (by first | rfl | assumption | simp [*]) rfl ?_; clear G; intro w G; go_frame)
                | (refine wpu_storeB G rfl rfl rfl rfl (by rfl) (by rfl) (by first | rfl | assumption | simp [*]) ?_; clear G; intro w G; go_frame)
                | (refine wpu_storeS G rfl rfl rfl rfl (by rfl) (by rfl) (by first | rfl | assumption | simp [*]) ?_; clear G; intro w G; go_frame))
              | ((with_reducible refine at_convert ?_); refine wpu_str G rfl rfl rfl rfl ?_; go_frame)
              | ((with_reducible refine at_slice ?_); first
                | (refine wpu_sliceLo rfl rfl rfl rfl (by first | rfl | omega) (by omega) (by omega) ?_; go_frame)
                | (refine wpu_sliceLH rfl rfl rfl rfl rfl (by first | rfl | omega) (by first | rfl | omega) (by omega) (by omega) ?_; go_frame))
              | ((with_reducible refine at_load ?_); refine wpu_loadF (HR.out.old G) HX.out rfl rfl rfl rfl ?_; go_frame)
              | ((with_reducible refine at_load ?_); refine wpu_loadF0 (HR.out.old G) HX.out rfl rfl rfl rfl ?_; go_frame)
              | fail)
            refine Calls.mono (closeI (G.pullF (idsA a)) hI.inn.ok (by omega) (hI.inn.pos id) b3 b4) ?_
            clear hI
            have hI := hI'
            clear hI'
            generalize s.closed id = sc at hI ⊢
            obtain ⟨sc, rc⟩ := sc
            replace hI : Inv true (k + 1) sc own last := hI
            clear G; rintro e w ⟨rfl, G⟩
            replace G : Own w0 (idsA a sc * emp) w := G
            go_wp2_with (first
              | ((with_reducible refine at_alloc ?_); refine wpu_new G ?_; clear G; intro w G)
              | ((with_reducible refine at_drew ?_); refine wpu_drew G ?_; clear G; intro w G)
              | ((with_reducible refine at_load ?_); first
                | (refine wpu_load G rfl rfl rfl rfl ?_; go_frame)
                | (refine wpu_loadB G rfl rfl rfl (by rfl) ?_; go_frame)
                | (refine wpu_loadS G rfl rfl rfl (by rfl) ?_; simp only [List.drop_succ_cons, List.drop_zero, List.take_succ_cons, List.take_zero]; go_frame))
              | ((with_reducible refine at_store ?_); first
                | (refine wpu_store G rfl rfl rfl rfl (by first | rfl | assumption | simp [*]) rfl ?_; clear G; intro w G; go_frame)
                | (refine wpu_storeB G rfl rfl rfl rfl (by rfl) (by rfl) (by first | rfl | assumption | simp [*]) ?_; clear G; intro w G; go_frame)
                | (refine wpu_storeS G rfl rfl rfl rfl (by rfl) (by rfl) (by first | rfl | assumption | simp [*]) ?_; clear G; intro w G; go_frame))
              | ((with_reducible refine at_convert ?_); refine wpu_str G rfl rfl rfl rfl ?_; go_frame)
              | ((with_reducible refine at_slice ?_); first
                | (refine wpu_sliceLo rfl rfl rfl rfl (by first | rfl | omega) (by omega) (by omega) ?_; go_frame)
                | (refine wpu_sliceLH rfl rfl rfl rfl rfl (by first | rfl | omega) (by first | rfl | omega) (by omega) (by omega) ?_; go_frame))
              | ((with_reducible refine at_load ?_); refine wpu_loadF (HR.out.old G) HX.out rfl rfl rfl rfl ?_; go_frame)
              | ((with_reducible refine at_load ?_); refine wpu_loadF0 (HR.out.old G) HX.out rfl rfl rfl rfl ?_; go_frame)
              | fail)
            refine Calls.mono (lastE (G.pullF (idsA a)) hI.hlast) ?_
            clear G; rintro e w ⟨rfl, G⟩
            by_cases hl0 : 0 < last
            · have hpast := hI.past hl0
              go_wp2_with (first
                | ((with_reducible refine at_alloc ?_); refine wpu_new G ?_; clear G; intro w G)
                | ((with_reducible refine at_drew ?_); refine wpu_drew G ?_; clear G; intro w G)
                | ((with_reducible refine at_load ?_); first
                  | (refine wpu_load G rfl rfl rfl rfl ?_; go_frame)
                  | (refine wpu_loadB G rfl rfl rfl (by rfl) ?_; go_frame)
                  | (refine wpu_loadS G rfl rfl rfl (by rfl) ?_; simp only [List.drop_succ_cons, List.drop_zero, List.take_succ_cons, List.take_zero]; go_frame))
                | ((with_reducible refine at_store ?_); first
                  | (refine wpu_store G rfl rfl rfl rfl (by first | rfl | assumption | simp [*]) rfl ?_; clear G; intro w G; go_frame)
                  | (refine wpu_storeB G rfl rfl rfl rfl (by rfl) (by rfl) (by first | rfl | assumption | simp [*]) ?_; clear G; intro w G; go_frame)
                  | (refine wpu_storeS G rfl rfl rfl rfl (by rfl) (by rfl) (by first | rfl | assumption | simp [*]) ?_; clear G; intro w G; go_frame))
                | ((with_reducible refine at_convert ?_); refine wpu_str G rfl rfl rfl rfl ?_; go_frame)
                | ((with_reducible refine at_slice ?_); first
                  | (refine wpu_sliceLo rfl rfl rfl rfl (by first | rfl | omega) (by omega) (by omega) ?_; go_frame)
                  | (refine wpu_sliceLH rfl rfl rfl rfl rfl (by first | rfl | omega) (by first | rfl | omega) (by omega) (by omega) ?_; go_frame))
                | ((with_reducible refine at_load ?_); refine wpu_loadF (HR.out.old G) HX.out rfl rfl rfl rfl ?_; go_frame)
                | ((with_reducible refine at_load ?_); refine wpu_loadF0 (HR.out.old G) HX.out rfl rfl rfl rfl ?_; go_frame)
                | fail)
              refine Calls.mono (classE G (by omega) (by omega) hpast) ?_
              clear G; rintro e w ⟨rfl, G⟩
              go_wp2_with (first
                | ((with_reducible refine at_alloc ?_); refine wpu_new G ?_; clear G; intro w G)
                | ((with_reducible refine at_drew ?_); refine wpu_drew G ?_; clear G; intro w G)
                | ((with_reducible refine at_load ?_); first
                  | (refine wpu_load G rfl rfl rfl rfl ?_; go_frame)
                  | (refine wpu_loadB G rfl rfl rfl (by rfl) ?_; go_frame)
                  | (refine wpu_loadS G rfl rfl rfl (by rfl) ?_; simp only [List.drop_succ_cons, List.drop_zero, List.take_succ_cons, List.take_zero]; go_frame))
                | ((with_reducible refine at_store ?_); first
                  | (refine wpu_store G rfl rfl rfl rfl (by first | rfl | assumption | simp [*]) rfl ?_; clear G; intro w G; go_frame)
                  | (refine wpu_storeB G rfl rfl rfl rfl (by rfl) (by rfl) (by first | rfl | assumption | simp [*]) ?_; clear G; intro w G; go_frame)
                  | (refine wpu_storeS G rfl rfl rfl rfl (by rfl) (by rfl) (by first | rfl | assumption | simp [*]) ?_; clear G; intro w G; go_frame))
                | ((with_reducible refine at_convert ?_); refine wpu_str G rfl rfl rfl rfl ?_; go_frame)
                | ((with_reducible refine at_slice ?_); first
                  | (refine wpu_sliceLo rfl rfl rfl rfl (by first | rfl | omega) (by omega) (by omega) ?_; go_frame)
                  | (refine wpu_sliceLH rfl rfl rfl rfl rfl (by first | rfl | omega) (by first | rfl | omega) (by omega) (by omega) ?_; go_frame))
                | ((with_reducible refine at_load ?_); refine wpu_loadF (HR.out.old G) HX.out rfl rfl rfl rfl ?_; go_frame)
                | ((with_reducible refine at_load ?_); refine wpu_loadF0 (HR.out.old G) HX.out rfl rfl rfl rfl ?_; go_frame)
                | fail)
              go_roundw
              case rel => exact ⟨k + 1, _, _, _, by omega, by omega, by go_num, rfl, rfl, hI, G.give⟩
              case measure => simp [intOf] <;> omega
            · skip
              go_wp2_with (first
                | ((with_reducible refine at_alloc ?_); refine wpu_new G ?_; clear G; intro w G)
                | ((with_reducible refine at_drew ?_); refine wpu_drew G ?_; clear G; intro w G)
                | ((with_reducible refine at_load ?_); first
                  | (refine wpu_load G rfl rfl rfl rfl ?_; go_frame)
                  | (refine wpu_loadB G rfl rfl rfl (by rfl) ?_; go_frame)
                  | (refine wpu_loadS G rfl rfl rfl (by rfl) ?_; simp only [List.drop_succ_cons, List.drop_zero, List.take_succ_cons, List.take_zero]; go_frame))
                | ((with_reducible refine at_store ?_); first
                  | (refine wpu_store G rfl rfl rfl rfl (by first | rfl | assumption | simp [*]) rfl ?_; clear G; intro w G; go_frame)
                  | (refine wpu_storeB G rfl rfl rfl rfl (by rfl) (by rfl) (by first | rfl | assumption | simp [*]) ?_; clear G; intro w G; go_frame)
                  | (refine wpu_storeS G rfl rfl rfl rfl (by rfl) (by rfl) (by first | rfl | assumption | simp [*]) ?_; clear G; intro w G; go_frame))
                | ((with_reducible refine at_convert ?_); refine wpu_str G rfl rfl rfl rfl ?_; go_frame)
                | ((with_reducible refine at_slice ?_); first
                  | (refine wpu_sliceLo rfl rfl rfl rfl (by first | rfl | omega) (by omega) (by omega) ?_; go_frame)
                  | (refine wpu_sliceLH rfl rfl rfl rfl rfl (by first | rfl | omega) (by first | rfl | omega) (by omega) (by omega) ?_; go_frame))
                | ((with_reducible refine at_load ?_); refine wpu_loadF (HR.out.old G) HX.out rfl rfl rfl rfl ?_; go_frame)
                | ((with_reducible refine at_load ?_); refine wpu_loadF0 (HR.out.old G) HX.out rfl rfl rfl rfl ?_; go_frame)
                | fail)
              go_roundw
              case rel => exact ⟨k + 1, _, _, _, by omega, by omega, by go_num, rfl, rfl, hI, G.give⟩
              case measure => simp [intOf] <;> omega
          · have h3b : (kd == 3) = false := by simpa using h3
            have h3d : decide (kd = 3) = false := by simpa using h3
            have hI' := hI.step
            go_wp2_with (first
              | ((with_reducible refine at_alloc ?_); refine wpu_new G ?_; clear G; intro w G)
              | ((with_reducible refine at_drew ?_); refine wpu_drew G ?_; clear G; intro w G)
              | ((with_reducible refine at_load ?_); first
                | (refine wpu_load G rfl rfl rfl rfl ?_; go_frame)
                | (refine wpu_loadB G rfl rfl rfl (by rfl) ?_; go_frame)
                | (refine wpu_loadS G rfl rfl rfl (by rfl) ?_; simp only [List.drop_succ_cons, List.drop_zero, List.take_succ_cons, List.take_zero]; go_frame))
              | ((with_reducible refine at_store ?_); first
                | (refine wpu_store G rfl rfl rfl rfl (by first | rfl | assumption | simp [*]) rfl ?_; clear G; intro w G; go_frame)
                | (refine wpu_storeB G rfl rfl rfl rfl (by rfl) (by rfl) (by first | rfl | assumption | simp [*]) ?_; clear G; intro w G; go_frame)
                | (refine wpu_storeS G rfl rfl rfl rfl (by rfl) (by rfl) (by first | rfl | assumption | simp [*]) ?_; clear G; intro w G; go_frame))
              | ((with_reducible refine at_convert ?_); refine wpu_str G rfl rfl rfl rfl ?_; go_frame)
              | ((with_reducible refine at_slice ?_); first
                | (refine wpu_sliceLo rfl rfl rfl rfl (by first | rfl | omega) (by omega) (by omega) ?_; go_frame)
                | (refine wpu_sliceLH rfl rfl rfl rfl rfl (by first | rfl | omega) (by first | rfl | omega) (by omega) (by omega) ?_; go_frame))
              | ((with_reducible refine at_load ?_); refine wpu_loadF (HR.out.old G) HX.out rfl rfl rfl rfl ?_; go_frame)
              | ((with_reducible refine at_load ?_); refine wpu_loadF0 (HR.out.old G) HX.out rfl rfl rfl rfl ?_; go_frame)
              | fail)
            clear hI
            have hI := hI'
            clear hI'
            refine Calls.mono (lastE (G.pullF (idsA a)) hI.hlast) ?_
            clear G; rintro e w ⟨rfl, G⟩
            by_cases hl0 : 0 < last
            · have hpast := hI.past hl0
              go_wp2_with (first
                | ((with_reducible refine at_alloc ?_); refine wpu_new G ?_; clear G; intro w G)
                | ((with_reducible refine at_drew ?_); refine wpu_drew G ?_; clear G; intro w G)
                | ((with_reducible refine at_load ?_); first
                  | (refine wpu_load G rfl rfl rfl rfl ?_; go_frame)
                  | (refine wpu_loadB G rfl rfl rfl (by rfl) ?_; go_frame)
                  | (refine wpu_loadS G rfl rfl rfl (by rfl) ?_; simp only [List.drop_succ_cons, List.drop_zero, List.take_succ_cons, List.take_zero]; go_frame))
                | ((with_reducible refine at_store ?_); first
                  | (refine wpu_store G rfl rfl rfl rfl (by first | rfl | assumption | simp [*]) rfl ?_; clear G; intro w G; go_frame)
                  | (refine wpu_storeB G rfl rfl rfl rfl (by rfl) (by rfl) (by first | rfl | assumption | simp [*]) ?_; clear G; intro w G; go_frame)
                  | (refine wpu_storeS G rfl rfl rfl rfl (by rfl) (by rfl) (by first | rfl | assumption | simp [*]) ?_; clear G; intro w G; go_frame))
                | ((with_reducible refine at_convert ?_); refine wpu_str G rfl rfl rfl rfl ?_; go_frame)
                | ((with_reducible refine at_slice ?_); first
                  | (refine wpu_sliceLo rfl rfl rfl rfl (by first | rfl | omega) (by omega) (by omega) ?_; go_frame)
                  | (refine wpu_sliceLH rfl rfl rfl rfl rfl (by first | rfl | omega) (by first | rfl | omega) (by omega) (by omega) ?_; go_frame))
                | ((with_reducible refine at_load ?_); refine wpu_loadF (HR.out.old G) HX.out rfl rfl rfl rfl ?_; go_frame)
                | ((with_reducible refine at_load ?_); refine wpu_loadF0 (HR.out.old G) HX.out rfl rfl rfl rfl ?_; go_frame)
                | fail)
              refine Calls.mono (classE G (by omega) (by omega) hpast) ?_
              clear G; rintro e w ⟨rfl, G⟩
              go_wp2_with (first
                | ((with_reducible refine at_alloc ?_); refine wpu_new G ?_; clear G; intro w G)
                | ((with_reducible refine at_drew ?_); refine wpu_drew G ?_; clear G; intro w G)
                | ((with_reducible refine at_load ?_); first
                  | (refine wpu_load G rfl rfl rfl rfl ?_; go_frame)
                  | (refine wpu_loadB G rfl rfl rfl (by rfl) ?_; go_frame)
                  | (refine wpu_loadS G rfl rfl rfl (by rfl) ?_; simp only [List.drop_succ_cons, List.drop_zero, List.take_succ_cons, List.take_zero]; go_frame))
                | ((with_reducible refine at_store ?_); first
                  | (refine wpu_store G rfl rfl rfl rfl (by first | rfl | assumption | simp [*]) rfl ?_; clear G; intro w G; go_frame)
                  | (refine wpu_storeB G rfl rfl rfl rfl (by rfl) (by rfl) (by first | rfl | assumption | simp [*]) ?_; clear G; intro w G; go_frame)
                  | (refine wpu_storeS G rfl rfl rfl rfl (by rfl) (by rfl) (by first | rfl | assumption | simp [*]) ?_; clear G; intro w G; go_frame))
                | ((with_reducible refine at_convert ?_); refine wpu_str G rfl rfl rfl rfl ?_; go_frame)
                | ((with_reducible refine at_slice ?_); first
                  | (refine wpu_sliceLo rfl rfl rfl rfl (by first | rfl | omega) (by omega) (by omega) ?_; go_frame)
                  | (refine wpu_sliceLH rfl rfl rfl rfl rfl (by first | rfl | omega) (by first | rfl | omega) (by omega) (by omega) ?_; go_frame))
                | ((with_reducible refine at_load ?_); refine wpu_loadF (HR.out.old G) HX.out rfl rfl rfl rfl ?_; go_frame)
                | ((with_reducible refine at_load ?_); refine wpu_loadF0 (HR.out.old G) HX.out rfl rfl rfl rfl ?_; go_frame)
                | fail)
              go_roundw
              case rel => exact ⟨k + 1, _, _, _, by omega, by omega, by go_num, rfl, rfl, hI, G.give⟩
              case measure => simp [intOf] <;> omega
            · skip
              go_wp2_with (first
                | ((with_reducible refine at_alloc ?_); refine wpu_new G ?_; clear G; intro w G)
                | ((with_reducible refine at_drew ?_); refine wpu_drew G ?_; clear G; intro w G)
                | ((with_reducible refine at_load ?_); first
                  | (refine wpu_load G rfl rfl rfl rfl ?_; go_frame)
                  | (refine wpu_loadB G rfl rfl rfl (by rfl) ?_; go_frame)
                  | (refine wpu_loadS G rfl rfl rfl (by rfl) ?_; simp only [List.drop_succ_cons, List.drop_zero, List.take_succ_cons, List.take_zero]; go_frame))
                | ((with_reducible refine at_store ?_); first
                  | (refine wpu_store G rfl rfl rfl rfl (by first | rfl | assumption | simp [*]) rfl ?_; clear G; intro w G; go_frame)
                  | (refine wpu_storeB G rfl rfl rfl rfl (by rfl) (by rfl) (by first | rfl | assumption | simp [*]) ?_; clear G; intro w G; go_frame)
                  | (refine wpu_storeS G rfl rfl rfl rfl (by rfl) (by rfl) (by first | rfl | assumption | simp [*]) ?_; clear G; intro w G; go_frame))
                | ((with_reducible refine at_convert ?_); refine wpu_str G rfl rfl rfl rfl ?_; go_frame)
                | ((with_reducible refine at_slice ?_); first
                  | (refine wpu_sliceLo rfl rfl rfl rfl (by first | rfl | omega) (by omega) (by omega) ?_; go_frame)
                  | (refine wpu_sliceLH rfl rfl rfl rfl rfl (by first | rfl | omega) (by first | rfl | omega) (by omega) (by omega) ?_; go_frame))
                | ((with_reducible refine at_load ?_); refine wpu_loadF (HR.out.old G) HX.out rfl rfl rfl rfl ?_; go_frame)
                | ((with_reducible refine at_load ?_); refine wpu_loadF0 (HR.out.old G) HX.out rfl rfl rfl rfl ?_; go_frame)
                | fail)
              go_roundw
              case rel => exact ⟨k + 1, _, _, _, by omega, by omega, by go_num, rfl, rfl, hI, G.give⟩
              case measure => simp [intOf] <;> omega
    · skip
      go_wp2_with (first
        | ((with_reducible refine at_alloc ?_); refine wpu_new G ?_; clear G; intro w G)
        | ((with_reducible refine at_drew ?_); refine wpu_drew G ?_; clear G; intro w G)
        | ((with_reducible refine at_load ?_); first
          | (refine wpu_load G rfl rfl rfl rfl ?_; go_frame)
          | (refine wpu_loadB G rfl rfl rfl (by rfl) ?_; go_frame)
          | (refine wpu_loadS G rfl rfl rfl (by rfl) ?_; simp only [List.drop_succ_cons, List.drop_zero, List.take_succ_cons, List.take_zero]; go_frame))
        | ((with_reducible refine at_store ?_); first
          | (refine wpu_store G rfl rfl rfl rfl (by first | rfl | assumption | simp [*]) rfl ?_; clear G; intro w G; go_frame)
          | (refine wpu_storeB G rfl rfl rfl rfl (by rfl) (by rfl) (by first | rfl | assumption | simp [*]) ?_; clear G; intro w G; go_frame)
          | (refine wpu_storeS G rfl rfl rfl rfl (by rfl) (by rfl) (by first | rfl | assumption | simp [*]) ?_; clear G; intro w G; go_frame))
        | ((with_reducible refine at_convert ?_); refine wpu_str G rfl rfl rfl rfl ?_; go_frame)
        | ((with_reducible refine at_slice ?_); first
          | (refine wpu_sliceLo rfl rfl rfl rfl (by first | rfl | omega) (by omega) (by omega) ?_; go_frame)
          | (refine wpu_sliceLH rfl rfl rfl rfl rfl (by first | rfl | omega) (by first | rfl | omega) (by omega) (by omega) ?_; go_frame))
        | ((with_reducible refine at_load ?_); refine wpu_loadF (HR.out.old G) HX.out rfl rfl rfl rfl ?_; go_frame)
        | ((with_reducible refine at_load ?_); refine wpu_loadF0 (HR.out.old G) HX.out rfl rfl rfl rfl ?_; go_frame)
        | fail)
      all_goals
        go_ret
        exact ⟨rfl, G.below⟩

theorem contract {H : Type} {enc : TypeId × Value → H} {W : World} {vs : List Value} {ds : List (DataW H)}
    (hA : Args enc Try.prog W [4, 42] vs ds) (hsz : (DataW.weightsEach Try.prog [4, 42] ds).all (· ≤ reachBytes) = true) :
    Calls Try.prog 6 vs.toArray W fun e W' => e = .returned (.bool true) ∧ Below W.heap.size W W' := by
  obtain ⟨v0, _, d0, _, rfl, rfl, h0, hA⟩ := args_cons hA
  obtain ⟨v1, _, d1, _, rfl, rfl, h1, hA⟩ := args_cons hA
  obtain ⟨rfl, rfl⟩ := args_nil hA
  obtain ⟨sv, rfl⟩ := arg_bool Try.underlying4 h0
  obtain ⟨n, xs, hr, hel⟩ := ops_in h1
  cases sv
  · exact risesF hr hel
  · exact risesT hr hel


theorem spec {H : Type} : ∀ ds : List (DataW H), ds.length = 2 → Rows.streamRisesSpec.fn H ds = { results := [.lit (.bool true)], args := ds }
  | [_, _], _ => rfl
  | [], h => by cases h
  | [_], h => by cases h
  | _ :: _ :: _ :: _, h => by simp at h
set_option maxRecDepth 100000 in
theorem lifted (os : Os) (started : os.Started) (H : Type) (enc : TypeId × Value → H) :
    ReturnsInHanded {} Try.checked os 6 .any (Rows.streamRisesSpec.pre6 enc Try.prog Try.f6 Rows.streamRisesRow.domain false) (Rows.streamRisesSpec.post enc Try.prog Try.f6 false true false false) :=
  lifted_of_law (C := Try.checked) (fn := Try.f6) (s := Rows.streamRisesSpec) (tb := 4) (by kernel_rfl) started (by kernel_rfl) Try.func6
    (ChangeSpec.witness6 (enc := enc) (C := Try.checked) false ⟨#[], #[.bool false, .slice none 0 0], []⟩ 8 (by kernel_rfl) (by kernel_rfl) (by kernel_rfl) (by kernel_rfl))
    rfl spec (by kernel_rfl) Try.underlying4 (by kernel_rfl) (by kernel_rfl) (fun _ _ _ h1 h2 => contract h1 h2)

theorem proved : Rows.StreamRisesSaid :=
  OpenClaim.holds_of_wide 6 Try.f6 rfl rfl rfl rfl rfl rfl rfl ⟨rfl, rfl, rfl, rfl, rfl⟩ rfl rfl rfl rfl rfl (by kernel_rfl) Try.func6 (by kernel_rfl)
    (of_decide_eq_true (by kernel_rfl)) (by unfold Func.isWrapper; first | (rw [if_pos (by decide +kernel)]; kernel_rfl) | (rw [if_neg (by decide +kernel)]; exact ⟨rfl, rfl⟩))
    (fun os started H enc _ => lifted os started H enc)
end Go.Proofs.Ytadbpekkmlblmaa.streamRises
