
/-
  What the laws of package sched share: 'put'.
-/
import Derived.Test.YtbekaeahedkeoaaSchL
namespace Go.Proofs.Ytbekaeahedkeoaa
open Go.RowKit Go.Sl

/-- a stream as the laws keep it: its window, its octets, its end -/
abbrev F3 := Int × Int × Bool
def F3.cs (f : F3) : List Value := [.int .i64 f.1, .int .i64 f.2.1, .bool f.2.2]
def fcs (F : List F3) : List Value := F.flatMap F3.cs
theorem fcs_len (F : List F3) : (fcs F).length = F.length * 3 := by induction F with | nil => rfl | cons f l ih => simp [fcs, F3.cs] at ih ⊢; omega
theorem fcs_app (F K : List F3) : fcs F ++ fcs K = fcs (F ++ K) := by simp [fcs]
theorem fcs_one (f : F3) : fcs [f] = f.cs := by simp [fcs]

/-- the queue of these streams, numbered 2k + 1, 2k + 3 .. -/
def mkQ : Nat → List F3 → List Fl
  | _, [] => []
  | k, f :: F => ⟨2 * (k : Int) + 1, f.1, f.2.1, f.2.2⟩ :: mkQ (k + 1) F

theorem mkQ_len (k : Nat) (F : List F3) : (mkQ k F).length = F.length := by
  induction F generalizing k with
  | nil => rfl
  | cons f F ih => simp [mkQ, ih]
theorem mkQ_snoc (k : Nat) (F : List F3) (f : F3) : mkQ k (F ++ [f]) = mkQ k F ++ [⟨2 * ((k + F.length : Nat) : Int) + 1, f.1, f.2.1, f.2.2⟩] := by
  induction F generalizing k with
  | nil => simp [mkQ]
  | cons g F ih =>
    simp only [List.cons_append, mkQ, ih (k + 1), List.length_cons]
    congr 5
    omega
theorem mkQ_mem {k : Nat} {F : List F3} {f : Fl} (h : f ∈ mkQ k F) : ∃ j g, F[j]? = some g ∧ f = ⟨2 * ((k + j : Nat) : Int) + 1, g.1, g.2.1, g.2.2⟩ := by
  induction F generalizing k with
  | nil => cases h
  | cons g F ih =>
    rcases List.mem_cons.1 h with rfl | h
    · exact ⟨0, g, rfl, rfl⟩
    · obtain ⟨j, g', h1, rfl⟩ := ih h
      exact ⟨j + 1, g', h1, by congr 3; omega⟩

structure FOk (f : F3) : Prop where
  w1 : -1000 ≤ f.1
  w2 : f.1 ≤ 1047575
  o1 : 0 ≤ f.2.1
  o2 : f.2.1 ≤ 1048575

section
variable {w0 w : World} {R : Assn}

set_option maxHeartbeats 8000000 in
set_option maxRecDepth 100000 in
theorem putL {most : Int} {v : Value} {n : Nat} {xs : List Value} (hr : rd w0 3 v n xs) (hel : ∀ i, i < n → ∃ (a b : Int) (e : Bool), (xs.drop (i * 3)).take 3 = [.int .i64 a, .int .i64 b, .bool e]) (h : Own w0 R w) (m1 : -9223372036854775808 ≤ most) (m2 : most ≤ 9223372036854775807) :
    Calls Try.prog 9 #[.int .i64 most, v] w fun e w' => ∃ a vo F, e = .returned (.tuple #[.pointer (some ⟨a, 0, none⟩), vo]) ∧ F.length ≤ 30 ∧ (∀ f ∈ F, FOk f) ∧ Own w0 (schA a ⟨[], mkQ 0 F, 65535, min (max most 1) 16777215⟩ * (sl 3 vo F.length (fcs F) * R)) w' := by
  obtain ⟨ao, cap, rfl, j1, j2, -⟩ := id hr
  unfold maxLen at j2
  have HR := Lib.hid hr
  clear hr
  obtain ⟨fr, hfr⟩ : ∃ fr, min (max most 1) 16777215 = fr := ⟨_, rfl⟩
  rw [hfr]
  have HFR := Lib.hid hfr
  clear hfr
  go_enter Try.func9, Try.ntmps9
  go_wp2_with fail
  refine Calls.mono (newC h m1 m2) ?_
  clear h; rintro e w ⟨a, rfl, G⟩
  rw [HFR.out] at G
  go_wp2_with fail
  go_loopw [7, 8] (fun vo i wr => ∃ (k : Nat) (F : List F3), i = .int .i64 k ∧ k ≤ n ∧ k ≤ 30 ∧ F.length = k ∧ (∀ f ∈ F, FOk f) ∧ Own w0 (schA a ⟨[], mkQ 0 F, 65535, fr⟩ * (sl 3 vo F.length (fcs F) * R)) wr) (fun _ i _ => n - (intOf i).toNat)
  case atStart => exact ⟨0, [], rfl, Nat.zero_le _, by decide, rfl, by simp, (own_nil G 3).eq (by show sl 3 _ 0 [] * (schA a ⟨[], [], 65535, fr⟩ * R) = schA a ⟨[], [], 65535, fr⟩ * (sl 3 _ 0 [] * R); ac_rfl)⟩
  case round =>
    clear G
    obtain ⟨k, F, rfl, hk, hk2, hF, hFO, G⟩ := hrel
    have HF := Lib.hid hF
    clear hF
    obtain ⟨fo, fc, rfl, i1, i2⟩ := G.hdr u7
    unfold maxLen at i2
    by_cases hlt : k < n ∧ k < 30
    · obtain ⟨hlt, hlt2⟩ := hlt
      as_aux_lemma =>
      obtain ⟨a0, b0, e0, hx⟩ := hel k hlt
      obtain ⟨ad, rfl⟩ := rd_some HR.out (by omega)
      have HX := Lib.hid hx
      clear hx
      obtain ⟨m, hm, hm'⟩ := and_i64 a0 1048575 (by decide)
      replace hm : bits .and .i64 a0 1048575 = (m : Int) := hm
      obtain ⟨m', hb, hb'⟩ := and_i64 b0 1048575 (by decide)
      replace hb : bits .and .i64 b0 1048575 = (m' : Int) := hb
      have hne : ∀ f ∈ mkQ 0 F, f.id ≠ 2 * (k : Int) + 1 := by
        intro f hf
        obtain ⟨j, g, h1, rfl⟩ := mkQ_mem hf
        have := (List.getElem?_eq_some_iff.1 h1).1
        rw [HF.out] at this
        simp only
        omega
      have hql : (mkQ 0 F).length ≤ 1000000 := by rw [mkQ_len, HF.out]; omega
      have hFl : F.length ≤ 30 := by rw [HF.out]; omega
      go_wp2_with (first
        | ((with_reducible refine at_alloc ?_); refine wpu_new G ?_; clear G; intro w G)
        | ((with_reducible refine at_drew ?_); refine wpu_drew G ?_; clear G; intro w G)
        | ((with_reducible refine at_load ?_); first
          | (refine wpu_load G rfl rfl rfl rfl ?_; go_frame)
          | (refine wpu_loadB G rfl rfl rfl (by rfl) ?_; go_frame)
          | (refine wpu_loadS G rfl rfl rfl (by rfl) ?_; simp only [List.drop_succ_cons, List.drop_zero, List.take_succ_cons, List.take_zero]; go_frame))
        | ((with_reducible refine at_store ?_); first
          | (refine wpu_store G rfl rfl rfl rfl (by first | rfl | assumption | simp [*]) rfl ?_; clear G; intro w G; go_frame)
          | (refine wpu_storeB G rfl rfl rfl rfl (by rfl) (by rfl) (by first | rfl | assumption | simp [*]) ?_; clear G; intro w G; go_frame)
          | (refine wpu_storeS G rfl rfl rfl rfl (by rfl) (by rfl) (by first | rfl | assumption | simp [*]) ?_; clear G; intro w G; go_frame))
        | ((with_reducible refine at_convert ?_); refine wpu_str G rfl rfl rfl rfl ?_; go_frame)
        | ((with_reducible refine at_slice ?_); first
          | (refine wpu_sliceLo rfl rfl rfl rfl (by first | rfl | omega) (by omega) (by omega) ?_; go_frame)
          | (refine wpu_sliceLH rfl rfl rfl rfl rfl (by first | rfl | omega) (by first | rfl | omega) (by omega) (by omega) ?_; go_frame))
        | ((with_reducible refine at_load ?_); refine wpu_loadE (HR.out.old G) HX.out rfl rfl rfl rfl ?_; go_frame)
        | fail)
      refine Calls.mono (openC (G.pullF (schA a)) (by omega) (by omega) (by omega) (by omega) hne hql) ?_
      clear G; rintro e w ⟨rfl, G⟩
      go_wp2_with (first
        | ((with_reducible refine at_alloc ?_); refine wpu_new G ?_; clear G; intro w G)
        | ((with_reducible refine at_drew ?_); refine wpu_drew G ?_; clear G; intro w G)
        | ((with_reducible refine at_load ?_); first
          | (refine wpu_load G rfl rfl rfl rfl ?_; go_frame)
          | (refine wpu_loadB G rfl rfl rfl (by rfl) ?_; go_frame)
          | (refine wpu_loadS G rfl rfl rfl (by rfl) ?_; simp only [List.drop_succ_cons, List.drop_zero, List.take_succ_cons, List.take_zero]; go_frame))
        | ((with_reducible refine at_store ?_); first
          | (refine wpu_store G rfl rfl rfl rfl (by first | rfl | assumption | simp [*]) rfl ?_; clear G; intro w G; go_frame)
          | (refine wpu_storeB G rfl rfl rfl rfl (by rfl) (by rfl) (by first | rfl | assumption | simp [*]) ?_; clear G; intro w G; go_frame)
          | (refine wpu_storeS G rfl rfl rfl rfl (by rfl) (by rfl) (by first | rfl | assumption | simp [*]) ?_; clear G; intro w G; go_frame))
        | ((with_reducible refine at_convert ?_); refine wpu_str G rfl rfl rfl rfl ?_; go_frame)
        | ((with_reducible refine at_slice ?_); first
          | (refine wpu_sliceLo rfl rfl rfl rfl (by first | rfl | omega) (by omega) (by omega) ?_; go_frame)
          | (refine wpu_sliceLH rfl rfl rfl rfl rfl (by first | rfl | omega) (by first | rfl | omega) (by omega) (by omega) ?_; go_frame))
        | fail)
      refine Calls.mono (putC (l1 := mkQ 0 F) (l2 := []) (G.pullF (schA a)) rfl rfl hne rfl (by simp) (by omega) (by simp; omega)) ?_
      clear G; rintro e w ⟨rfl, G⟩
      go_wp2_with (first
        | ((with_reducible refine at_alloc ?_); refine wpu_new G ?_; clear G; intro w G)
        | ((with_reducible refine at_drew ?_); refine wpu_drew G ?_; clear G; intro w G)
        | ((with_reducible refine at_load ?_); first
          | (refine wpu_load G rfl rfl rfl rfl ?_; go_frame)
          | (refine wpu_loadB G rfl rfl rfl (by rfl) ?_; go_frame)
          | (refine wpu_loadS G rfl rfl rfl (by rfl) ?_; simp only [List.drop_succ_cons, List.drop_zero, List.take_succ_cons, List.take_zero]; go_frame))
        | ((with_reducible refine at_store ?_); first
          | (refine wpu_store G rfl rfl rfl rfl (by first | rfl | assumption | simp [*]) rfl ?_; clear G; intro w G; go_frame)
          | (refine wpu_storeB G rfl rfl rfl rfl (by rfl) (by rfl) (by first | rfl | assumption | simp [*]) ?_; clear G; intro w G; go_frame)
          | (refine wpu_storeS G rfl rfl rfl rfl (by rfl) (by rfl) (by first | rfl | assumption | simp [*]) ?_; clear G; intro w G; go_frame))
        | ((with_reducible refine at_convert ?_); refine wpu_str G rfl rfl rfl rfl ?_; go_frame)
        | ((with_reducible refine at_slice ?_); first
          | (refine wpu_sliceLo rfl rfl rfl rfl (by first | rfl | omega) (by omega) (by omega) ?_; go_frame)
          | (refine wpu_sliceLH rfl rfl rfl rfl rfl (by first | rfl | omega) (by first | rfl | omega) (by omega) (by omega) ?_; go_frame))
        | ((with_reducible refine at_append ?_); refine wpu_append1 G rfl rfl rfl rfl (by rfl) (by rfl) (by unfold maxLen; omega) (by omega) ?_; clear G; intro v w G; go_frame)
        | fail)
      have e1 : fcs F ++ [.int .i64 ((m : Int) - 1000), .int .i64 m', .bool e0] = fcs (F ++ [((m : Int) - 1000, (m' : Int), e0)]) := by rw [← fcs_app, fcs_one]; rfl
      have e2 : mkQ 0 F ++ [⟨2 * (k : Int) + 1, (m : Int) - 1000, 0 + (m' : Int), e0⟩] = mkQ 0 (F ++ [((m : Int) - 1000, (m' : Int), e0)]) := by
        rw [mkQ_snoc, Int.zero_add, HF.out, Nat.zero_add]
      have G1 := G.eq (A' := schA a ⟨[], mkQ 0 (F ++ [((m : Int) - 1000, (m' : Int), e0)]), 65535, fr⟩ * (sl 3 v (F.length + 1) (fcs (F ++ [((m : Int) - 1000, (m' : Int), e0)])) * R) * blk _ _) (by rw [← e1, ← e2]; ac_rfl)
      clear e1 e2 G
      go_roundw
      case rel => exact ⟨k + 1, F ++ [((m : Int) - 1000, (m' : Int), e0)], by go_num, by omega, by omega, by simp [HF.out], fun f hf => by (rcases List.mem_append.1 hf with hf | hf; exact hFO f hf; rw [List.mem_singleton.1 hf]; exact ⟨by show -1000 ≤ (m : Int) - 1000; omega, by show (m : Int) - 1000 ≤ 1047575; omega, by show 0 ≤ (m' : Int); omega, by show (m' : Int) ≤ 1048575; omega⟩), by simpa using G1.drop⟩
      case measure => simp [intOf] <;> omega
    · go_wp2_with fail
      all_goals
        as_aux_lemma =>
        go_ret2
        exact ⟨a, _, F, rfl, by rw [HF.out]; exact hk2, hFO, G⟩
end
end Go.Proofs.Ytbekaeahedkeoaa
