

/-
  Package reply: what its functions do.
-/
import Derived.Test.YtnjldofiogbolaaDoorShelf
import Derived.Test.YtnjldofiogbolaaDoorFlds
import Derived.WalkSmall
namespace Go.Proofs.YtnjldofiogbolaaDoor
open Go.RowKit Go.Sl Go.ChangeShapes

theorem own_grow {B w : World} {A : Assn} (h : Own B A w) (os : Array Obj) : Own B A (Sort.grow w os) := by
  obtain ⟨l⟩ := os
  induction l generalizing w with
  | nil => simpa using h
  | cons o l ih =>
    have := ih (own_alloc h o)
    rw [Sort.alloc_eq_grow, Sort.grow_grow] at this
    simpa using this
theorem own_drewN {B w : World} {A : Assn} (h : Own B A w) (k : Nat) : Own B A (w.drewN k) := ⟨⟨h.1.os, h.1.tape, h.1.output, h.1.size, h.1.block⟩, h.2⟩

abbrev Pow10 (w : World) : Prop := Lib.TabIs Tryd.prog w "internal/strconv.uint64pow10" .u64 Lib.pow10Tab

theorem pow10_later {B w : World} {A : Assn} (hT : Pow10 B) (h : Own B A w) : Pow10 w := by
  have hg : Tryd.prog.globalNamed "internal/strconv.uint64pow10" = some (Tryd.prog.globalNamed "internal/strconv.uint64pow10").get! := by kernel_rfl
  refine var?_below h.1 hg ?_ hT
  unfold Pow10 Lib.TabIs World.var? at hT
  rw [hg] at hT
  by_cases hlt : (Tryd.prog.globalNamed "internal/strconv.uint64pow10").get! < B.heap.size
  · exact hlt
  · rw [Option.bind_some, Array.getElem?_eq_none (by omega)] at hT
    cases hT

theorem itoaC {B w : World} {A : Assn} {n : Int} (hT : Pow10 B) (h : Own B A w) (h0 : -9223372036854775808 ≤ n) (h1 : n ≤ 9223372036854775807) :
    Calls Tryd.prog 18 #[.int .i64 n] w fun e w' => e = .returned (str (Lib.itoa n)) ∧ Own B A w' := by
  refine (Tryd.strconv_Itoa n h0 h1 w (pow10_later hT h)).mono ?_
  rintro e w' ⟨rfl, k, os, rfl⟩
  exact ⟨rfl, own_grow (own_drewN h k) os⟩

theorem i400 : Lib.itoa 400 = [52, 48, 48] := by simp [Lib.itoa, Lib.decDigits]
theorem i404 : Lib.itoa 404 = [52, 48, 52] := by simp [Lib.itoa, Lib.decDigits]
theorem i502 : Lib.itoa 502 = [53, 48, 50] := by simp [Lib.itoa, Lib.decDigits]
theorem i503 : Lib.itoa 503 = [53, 48, 51] := by simp [Lib.itoa, Lib.decDigits]
theorem i504 : Lib.itoa 504 = [53, 48, 52] := by simp [Lib.itoa, Lib.decDigits]
theorem i12 : Lib.itoa 12 = [49, 50] := by simp [Lib.itoa, Lib.decDigits]
theorem i13 : Lib.itoa 13 = [49, 51] := by simp [Lib.itoa, Lib.decDigits]
theorem i14 : Lib.itoa 14 = [49, 52] := by simp [Lib.itoa, Lib.decDigits]
theorem i4 : Lib.itoa 4 = [52] := by simp [Lib.itoa, Lib.decDigits]

/-- the table: the text of the status, the code, the reason -/
def row (st : Int) : Option (List UInt8 × List UInt8 × List UInt8) :=
  if st = 400 then some ([52, 48, 48], [49, 51], [98, 97, 100, 32, 114, 101, 113, 117, 101, 115, 116])
  else if st = 404 then some ([52, 48, 52], [49, 50], [110, 111, 32, 114, 111, 117, 116, 101])
  else if st = 502 then some ([53, 48, 50], [49, 52], [117, 112, 115, 116, 114, 101, 97, 109, 32, 102, 97, 105, 108, 101, 100])
  else if st = 503 then some ([53, 48, 51], [49, 52], [110, 111, 32, 117, 112, 115, 116, 114, 101, 97, 109])
  else if st = 504 then some ([53, 48, 52], [52], [116, 111, 111, 32, 108, 97, 116, 101])
  else none
def localL (st : Int) (g : Bool) : List Fd :=
  match row st with
  | none => []
  | some (t, c, r) => if g then [([58, 115, 116, 97, 116, 117, 115], [50, 48, 48], false), ([99, 111, 110, 116, 101, 110, 116, 45, 116, 121, 112, 101], [97, 112, 112, 108, 105, 99, 97, 116, 105, 111, 110, 47, 103, 114, 112, 99], false), ([103, 114, 112, 99, 45, 115, 116, 97, 116, 117, 115], c, false), ([103, 114, 112, 99, 45, 109, 101, 115, 115, 97, 103, 101], r, false)] else [([58, 115, 116, 97, 116, 117, 115], t, false), ([99, 111, 110, 116, 101, 110, 116, 45, 108, 101, 110, 103, 116, 104], [48], false)]



set_option maxHeartbeats 4000000 in
theorem localC {B w : World} {A : Assn} {st : Int} {g : Bool} (hT : Pow10 B) (h : Own B A w) :
    Calls Tryd.prog 8 #[.int .i64 st, .bool g] w fun e w' => ∃ v, e = .returned v ∧ Own B (sl 3 v (localL st g).length (fds (localL st g)) * A) w' := by
  by_cases h1 : st = 400
  · subst h1
    cases g
    · skip
      go_enter Tryd.func8, Tryd.ntmps8
      go_wp2_with (first
        | (go_at_call 17; go_in)
        | fail)
      refine Calls.mono (itoaC hT h (by decide) (by decide)) ?_
      clear h; rintro e w ⟨rfl, G⟩
      rw [i400]
      go_wp2_with fail
      have G2 := own_new_sl (n := (localL 400 false).length) (sz := 3) G (fds (localL 400 false)) 28 rfl (by decide)
      go_ret
      exact ⟨_, rfl, G2⟩
    · skip
      go_enter Tryd.func8, Tryd.ntmps8
      go_wp2_with (first
        | (go_at_call 17; go_in)
        | fail)
      refine Calls.mono (itoaC hT h (by decide) (by decide)) ?_
      clear h; rintro e w ⟨rfl, G⟩
      rw [i13]
      go_wp2_with fail
      have G2 := own_new_sl (n := (localL 400 true).length) (sz := 3) G (fds (localL 400 true)) 28 rfl (by decide)
      go_ret
      exact ⟨_, rfl, G2⟩
  by_cases h2 : st = 404
  · subst h2
    cases g
    · skip
      go_enter Tryd.func8, Tryd.ntmps8
      go_wp2_with (first
        | (go_at_call 17; go_in)
        | fail)
      refine Calls.mono (itoaC hT h (by decide) (by decide)) ?_
      clear h; rintro e w ⟨rfl, G⟩
      rw [i404]
      go_wp2_with fail
      have G2 := own_new_sl (n := (localL 404 false).length) (sz := 3) G (fds (localL 404 false)) 28 rfl (by decide)
      go_ret
      exact ⟨_, rfl, G2⟩
    · skip
      go_enter Tryd.func8, Tryd.ntmps8
      go_wp2_with (first
        | (go_at_call 17; go_in)
        | fail)
      refine Calls.mono (itoaC hT h (by decide) (by decide)) ?_
      clear h; rintro e w ⟨rfl, G⟩
      rw [i12]
      go_wp2_with fail
      have G2 := own_new_sl (n := (localL 404 true).length) (sz := 3) G (fds (localL 404 true)) 28 rfl (by decide)
      go_ret
      exact ⟨_, rfl, G2⟩
  by_cases h3 : st = 502
  · subst h3
    cases g
    · skip
      go_enter Tryd.func8, Tryd.ntmps8
      go_wp2_with (first
        | (go_at_call 17; go_in)
        | fail)
      refine Calls.mono (itoaC hT h (by decide) (by decide)) ?_
      clear h; rintro e w ⟨rfl, G⟩
      rw [i502]
      go_wp2_with fail
      have G2 := own_new_sl (n := (localL 502 false).length) (sz := 3) G (fds (localL 502 false)) 28 rfl (by decide)
      go_ret
      exact ⟨_, rfl, G2⟩
    · skip
      go_enter Tryd.func8, Tryd.ntmps8
      go_wp2_with (first
        | (go_at_call 17; go_in)
        | fail)
      refine Calls.mono (itoaC hT h (by decide) (by decide)) ?_
      clear h; rintro e w ⟨rfl, G⟩
      rw [i14]
      go_wp2_with fail
      have G2 := own_new_sl (n := (localL 502 true).length) (sz := 3) G (fds (localL 502 true)) 28 rfl (by decide)
      go_ret
      exact ⟨_, rfl, G2⟩
  by_cases h4 : st = 503
  · subst h4
    cases g
    · skip
      go_enter Tryd.func8, Tryd.ntmps8
      go_wp2_with (first
        | (go_at_call 17; go_in)
        | fail)
      refine Calls.mono (itoaC hT h (by decide) (by decide)) ?_
      clear h; rintro e w ⟨rfl, G⟩
      rw [i503]
      go_wp2_with fail
      have G2 := own_new_sl (n := (localL 503 false).length) (sz := 3) G (fds (localL 503 false)) 28 rfl (by decide)
      go_ret
      exact ⟨_, rfl, G2⟩
    · skip
      go_enter Tryd.func8, Tryd.ntmps8
      go_wp2_with (first
        | (go_at_call 17; go_in)
        | fail)
      refine Calls.mono (itoaC hT h (by decide) (by decide)) ?_
      clear h; rintro e w ⟨rfl, G⟩
      rw [i14]
      go_wp2_with fail
      have G2 := own_new_sl (n := (localL 503 true).length) (sz := 3) G (fds (localL 503 true)) 28 rfl (by decide)
      go_ret
      exact ⟨_, rfl, G2⟩
  by_cases h5 : st = 504
  · subst h5
    cases g
    · skip
      go_enter Tryd.func8, Tryd.ntmps8
      go_wp2_with (first
        | (go_at_call 17; go_in)
        | fail)
      refine Calls.mono (itoaC hT h (by decide) (by decide)) ?_
      clear h; rintro e w ⟨rfl, G⟩
      rw [i504]
      go_wp2_with fail
      have G2 := own_new_sl (n := (localL 504 false).length) (sz := 3) G (fds (localL 504 false)) 28 rfl (by decide)
      go_ret
      exact ⟨_, rfl, G2⟩
    · skip
      go_enter Tryd.func8, Tryd.ntmps8
      go_wp2_with (first
        | (go_at_call 17; go_in)
        | fail)
      refine Calls.mono (itoaC hT h (by decide) (by decide)) ?_
      clear h; rintro e w ⟨rfl, G⟩
      rw [i4]
      go_wp2_with fail
      have G2 := own_new_sl (n := (localL 504 true).length) (sz := 3) G (fds (localL 504 true)) 28 rfl (by decide)
      go_ret
      exact ⟨_, rfl, G2⟩
  have e : localL st g = [] := by
    unfold localL row
    rw [if_neg h1, if_neg h2, if_neg h3, if_neg h4, if_neg h5]
  go_enter Tryd.func8, Tryd.ntmps8
  go_wp2_with (first
    | (go_at_call 17; go_in)
    | fail)
  go_ret
  rw [e]
  exact ⟨_, rfl, own_nil h 3⟩

/-! ### Back and Forth -/

def backR (c : Int) (b : Bool) : Int × Int := if b then (if c = 8 ∨ c = 0 then (0, 8) else (0, 2)) else if c = 7 ∨ c = 11 then (503, 0) else if c = 8 then (504, 0) else (502, 0)
def forthR (c : Int) : Int := if c = 11 then 11 else 8

end Go.Proofs.YtnjldofiogbolaaDoor
