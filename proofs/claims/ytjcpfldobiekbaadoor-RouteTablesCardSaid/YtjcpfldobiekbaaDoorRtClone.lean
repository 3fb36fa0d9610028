




/-
  slices.Clone of what snapshots are made of; route.copied: a snapshot of its own.
-/
import Derived.Test.YtjcpfldobiekbaaDoorRtCut
namespace Go.Proofs.YtjcpfldobiekbaaDoor
open Go.RowKit Go.Sl Go.ChangeShapes

@[go_sem] theorem eqNilS (w : World) (a : Option Addr) (n c : Nat) : (binOp .eql 22 (.slice a n c) (.slice none 0 0)).run Tryd.prog w = .ok (.bool a.isNone) w :=
  Lib.run_eql_slice_nil w 22 9 a n c 0 0 Tryd.underlying22
theorem cloneS {B w : World} {A : Assn} {v : Value} {n : Nat} {xs : List Value} (h : Own B A w) (hr : ∀ w, Own B A w → rd w 1 v n xs) (h1 : ∀ y ∈ xs, y.oneCell' = true) (hl : n ≤ 1000) :
    Calls Tryd.prog 45 #[v] w fun e w' => ∃ v', e = .returned v' ∧ Own B (sl 1 v' n xs * A) w' := by
  obtain ⟨uo, ucap, rfl, u1, u2, u3, u4, -⟩ := hr w h
  unfold maxLen at u2
  cases uo with
  | none =>
    have : ucap = 0 := u4 rfl
    subst this
    have hn : n = 0 := by omega
    subst hn
    have hx : xs = [] := List.eq_nil_of_length_eq_zero (by omega)
    subst hx
    go_enter Tryd.func45, Tryd.ntmps45
    go_wp2
    go_ret
    exact ⟨_, rfl, own_nil h 1⟩
  | some a =>
    go_enter Tryd.func45, Tryd.ntmps45
    have g := own_new_sl h [] 9 1 0 rfl (Nat.zero_le _)
    go_wp2_with (at_builtin; go_loud (refine wpl_append rfl (v := .slice (some ⟨w.heap.size, 0, none⟩) 0 0) (A := _) rfl g (TyApp.out (P := Tryd.prog) (t := 22)) rfl rfl rfl (hr _ g.right) h1 (by unfold maxLen; omega) (by omega) ?_); intro v' w1 g1)
    go_ret
    exact ⟨_, rfl, g1.eq (by simp)⟩
@[go_sem] theorem eqNilH (w : World) (a : Option Addr) (n c : Nat) : (binOp .eql 23 (.slice a n c) (.slice none 0 0)).run Tryd.prog w = .ok (.bool a.isNone) w :=
  Lib.run_eql_slice_nil w 23 33 a n c 0 0 Tryd.underlying23
theorem cloneH {B w : World} {A : Assn} {v : Value} {n : Nat} {xs : List Value} (h : Own B A w) (hr : ∀ w, Own B A w → rd w 2 v n xs) (h1 : ∀ y ∈ xs, y.oneCell' = true) (hl : n ≤ 1000) :
    Calls Tryd.prog 46 #[v] w fun e w' => ∃ v', e = .returned v' ∧ Own B (sl 2 v' n xs * A) w' := by
  obtain ⟨uo, ucap, rfl, u1, u2, u3, u4, -⟩ := hr w h
  unfold maxLen at u2
  cases uo with
  | none =>
    have : ucap = 0 := u4 rfl
    subst this
    have hn : n = 0 := by omega
    subst hn
    have hx : xs = [] := List.eq_nil_of_length_eq_zero (by omega)
    subst hx
    go_enter Tryd.func46, Tryd.ntmps46
    go_wp2
    go_ret
    exact ⟨_, rfl, own_nil h 2⟩
  | some a =>
    go_enter Tryd.func46, Tryd.ntmps46
    have g := own_new_sl h [] 33 2 0 rfl (Nat.zero_le _)
    go_wp2_with (at_builtin; go_loud (refine wpl_append rfl (v := .slice (some ⟨w.heap.size, 0, none⟩) 0 0) (A := _) rfl g (TyApp.out (P := Tryd.prog) (t := 23)) rfl rfl rfl (hr _ g.right) h1 (by unfold maxLen; omega) (by omega) ?_); intro v' w1 g1)
    go_ret
    exact ⟨_, rfl, g1.eq (by simp)⟩
@[go_sem] theorem eqNilR (w : World) (a : Option Addr) (n c : Nat) : (binOp .eql 31 (.slice a n c) (.slice none 0 0)).run Tryd.prog w = .ok (.bool a.isNone) w :=
  Lib.run_eql_slice_nil w 31 42 a n c 0 0 Tryd.underlying31
theorem cloneR {B w : World} {A : Assn} {v : Value} {n : Nat} {xs : List Value} (h : Own B A w) (hr : ∀ w, Own B A w → rd w 7 v n xs) (h1 : ∀ y ∈ xs, y.oneCell' = true) (hl : n ≤ 1000) :
    Calls Tryd.prog 47 #[v] w fun e w' => ∃ v', e = .returned v' ∧ Own B (sl 7 v' n xs * A) w' := by
  obtain ⟨uo, ucap, rfl, u1, u2, u3, u4, -⟩ := hr w h
  unfold maxLen at u2
  cases uo with
  | none =>
    have : ucap = 0 := u4 rfl
    subst this
    have hn : n = 0 := by omega
    subst hn
    have hx : xs = [] := List.eq_nil_of_length_eq_zero (by omega)
    subst hx
    go_enter Tryd.func47, Tryd.ntmps47
    go_wp2
    go_ret
    exact ⟨_, rfl, own_nil h 7⟩
  | some a =>
    go_enter Tryd.func47, Tryd.ntmps47
    have g := own_new_sl h [] 42 7 0 rfl (Nat.zero_le _)
    go_wp2_with (at_builtin; go_loud (refine wpl_append rfl (v := .slice (some ⟨w.heap.size, 0, none⟩) 0 0) (A := _) rfl g (TyApp.out (P := Tryd.prog) (t := 31)) rfl rfl rfl (hr _ g.right) h1 (by unfold maxLen; omega) (by omega) ?_); intro v' w1 g1)
    go_ret
    exact ⟨_, rfl, g1.eq (by simp)⟩
@[go_sem] theorem eqNilM (w : World) (a : Option Addr) (n c : Nat) : (binOp .eql 40 (.slice a n c) (.slice none 0 0)).run Tryd.prog w = .ok (.bool a.isNone) w :=
  Lib.run_eql_slice_nil w 40 45 a n c 0 0 Tryd.underlying40
theorem cloneM {B w : World} {A : Assn} {v : Value} {n : Nat} {xs : List Value} (h : Own B A w) (hr : ∀ w, Own B A w → rd w 4 v n xs) (h1 : ∀ y ∈ xs, y.oneCell' = true) (hl : n ≤ 1000) :
    Calls Tryd.prog 48 #[v] w fun e w' => ∃ v', e = .returned v' ∧ Own B (sl 4 v' n xs * A) w' := by
  obtain ⟨uo, ucap, rfl, u1, u2, u3, u4, -⟩ := hr w h
  unfold maxLen at u2
  cases uo with
  | none =>
    have : ucap = 0 := u4 rfl
    subst this
    have hn : n = 0 := by omega
    subst hn
    have hx : xs = [] := List.eq_nil_of_length_eq_zero (by omega)
    subst hx
    go_enter Tryd.func48, Tryd.ntmps48
    go_wp2
    go_ret
    exact ⟨_, rfl, own_nil h 4⟩
  | some a =>
    go_enter Tryd.func48, Tryd.ntmps48
    have g := own_new_sl h [] 45 4 0 rfl (Nat.zero_le _)
    go_wp2_with (at_builtin; go_loud (refine wpl_append rfl (v := .slice (some ⟨w.heap.size, 0, none⟩) 0 0) (A := _) rfl g (TyApp.out (P := Tryd.prog) (t := 40)) rfl rfl rfl (hr _ g.right) h1 (by unfold maxLen; omega) (by omega) ?_); intro v' w1 g1)
    go_ret
    exact ⟨_, rfl, g1.eq (by simp)⟩
@[go_sem] theorem eqNilC (w : World) (a : Option Addr) (n c : Nat) : (binOp .eql 39 (.slice a n c) (.slice none 0 0)).run Tryd.prog w = .ok (.bool a.isNone) w :=
  Lib.run_eql_slice_nil w 39 38 a n c 0 0 Tryd.underlying39
theorem cloneC {B w : World} {A : Assn} {v : Value} {n : Nat} {xs : List Value} (h : Own B A w) (hr : ∀ w, Own B A w → rd w 2 v n xs) (h1 : ∀ y ∈ xs, y.oneCell' = true) (hl : n ≤ 1000) :
    Calls Tryd.prog 49 #[v] w fun e w' => ∃ v', e = .returned v' ∧ Own B (sl 2 v' n xs * A) w' := by
  obtain ⟨uo, ucap, rfl, u1, u2, u3, u4, -⟩ := hr w h
  unfold maxLen at u2
  cases uo with
  | none =>
    have : ucap = 0 := u4 rfl
    subst this
    have hn : n = 0 := by omega
    subst hn
    have hx : xs = [] := List.eq_nil_of_length_eq_zero (by omega)
    subst hx
    go_enter Tryd.func49, Tryd.ntmps49
    go_wp2
    go_ret
    exact ⟨_, rfl, own_nil h 2⟩
  | some a =>
    go_enter Tryd.func49, Tryd.ntmps49
    have g := own_new_sl h [] 38 2 0 rfl (Nat.zero_le _)
    go_wp2_with (at_builtin; go_loud (refine wpl_append rfl (v := .slice (some ⟨w.heap.size, 0, none⟩) 0 0) (A := _) rfl g (TyApp.out (P := Tryd.prog) (t := 39)) rfl rfl rfl (hr _ g.right) h1 (by unfold maxLen; omega) (by omega) ?_); intro v' w1 g1)
    go_ret
    exact ⟨_, rfl, g1.eq (by simp)⟩

/-- a row of cells, one cell of it written -/
theorem set_as {Y row : List Value} {k q sz : Nat} {v : Value} (hrow : (Y.drop (k * sz)).take sz = row) (hq : q < sz) (hl : k * sz + sz ≤ Y.length) : Y.set (k * sz + q) v = Y.take (k * sz) ++ row.set q v ++ Y.drop (k * sz + sz) := by
  have h1 : Y = Y.take (k * sz) ++ (row ++ Y.drop (k * sz + sz)) := by
    rw [← hrow, ← List.drop_drop, List.take_append_drop, List.take_append_drop]
  have hr : row.length = sz := by rw [← hrow, List.length_take, List.length_drop]; omega
  have ht : (Y.take (k * sz)).length = k * sz := by rw [List.length_take]; omega
  conv => lhs; rw [h1]
  rw [List.set_append_right _ _ (by omega), ht, Nat.add_sub_cancel_left, List.set_append_left _ _ (by omega), List.append_assoc]
theorem mid_row {Y row : List Value} {k sz : Nat} (hr : row.length = sz) (hl : k * sz + sz ≤ Y.length) : ((Y.take (k * sz) ++ row ++ Y.drop (k * sz + sz)).drop (k * sz)).take sz = row ∧ (Y.take (k * sz) ++ row ++ Y.drop (k * sz + sz)).take (k * sz) = Y.take (k * sz) ∧
    (Y.take (k * sz) ++ row ++ Y.drop (k * sz + sz)).drop (k * sz + sz) = Y.drop (k * sz + sz) ∧ (Y.take (k * sz) ++ row ++ Y.drop (k * sz + sz)).length = Y.length := by
  have ht : (Y.take (k * sz)).length = k * sz := by rw [List.length_take]; omega
  refine ⟨?_, ?_, ?_, ?_⟩
  · rw [List.append_assoc, List.drop_left' ht, List.take_left' hr]
  · rw [List.append_assoc, List.take_left' ht]
  · rw [List.drop_left' (by rw [List.length_append, ht, hr])]
  · rw [List.length_append, List.length_append, ht, hr, List.length_drop]; omega
theorem set_two {X : List Value} {k : Nat} {a b u v : Value} (hrow : (X.drop (k * 2)).take 2 = [a, b]) (hl : k * 2 + 2 ≤ X.length) : (X.set (k * 2) u).set (k * 2 + (0 + 1)) v = X.take (k * 2) ++ [u, v] ++ X.drop (k * 2 + 2) := by
  have h1 : X.set (k * 2) u = X.take (k * 2) ++ [u, b] ++ X.drop (k * 2 + 2) := set_as (q := 0) (v := u) hrow (by decide) hl
  obtain ⟨m1, m2, m3, m4⟩ := mid_row (row := [u, b]) (sz := 2) rfl hl
  have h2 := set_as (q := 1) (v := v) (sz := 2) m1 (by decide) (by rw [m4]; exact hl)
  rw [m2, m3] at h2
  rw [h1]
  exact h2
theorem set_45 {Y : List Value} {k : Nat} {a b c d e f g u v : Value} (hrow : (Y.drop (k * 7)).take 7 = [a, b, c, d, e, f, g]) (hl : k * 7 + 7 ≤ Y.length) : (Y.set (k * 7 + (3 + 1)) u).set (k * 7 + (4 + 1)) v = Y.take (k * 7) ++ [a, b, c, d, u, v, g] ++ Y.drop (k * 7 + 7) := by
  have h1 : Y.set (k * 7 + (3 + 1)) u = Y.take (k * 7) ++ [a, b, c, d, u, f, g] ++ Y.drop (k * 7 + 7) := set_as (q := 4) (v := u) hrow (by decide) hl
  obtain ⟨m1, m2, m3, m4⟩ := mid_row (row := [a, b, c, d, u, f, g]) (sz := 7) rfl hl
  have h2 := set_as (q := 5) (v := v) (sz := 7) m1 (by decide) (by rw [m4]; exact hl)
  rw [m2, m3] at h2
  rw [h1]
  exact h2
end Go.Proofs.YtjcpfldobiekbaaDoor
