/-
  OctetsRoom, proved: for every input the law answers true.
-/
import Derived.Test.YtalgkehaeiokoaaOctL
import Derived.Test.YtalgkehaeiokoaaLists
namespace Go.Proofs.Ytalgkehaeiokoaa.octetsRoom
open Go.RowKit Go.Sl Go.ChangeShapes

theorem roomW {w : World} {most : Int} {lv pv : Value} {n1 n2 : Nat} {xs ys : List Value} (m1 : -9223372036854775808 ≤ most) (m2 : most ≤ 9223372036854775807)
    (hl : rd w 1 lv n1 xs) (hls : ∀ i, i < n1 → ∃ v l, xs[i]? = some v ∧ rd w 1 v l.length (bs l)) (hp : rd w 1 pv n2 ys) (hps : ∀ i, i < n2 → ∃ x : Int, ys[i]? = some (.int .i64 x)) :
    Calls Try.prog 8 #[.int .i64 most, lv, pv] w fun e w' => e = .returned (.bool true) ∧ Below w.heap.size w w' := by
  have h0 := own_begin w
  obtain ⟨lo, lcap, rfl, l1, l2, l3, -, l5⟩ := id hl
  obtain ⟨po, pcap, rfl, p1, p2, p3, -, p5⟩ := id hp
  unfold maxLen at l2 p2
  obtain ⟨M, hM, hM2⟩ : ∃ M : Nat, ((most < 0 ∧ -((most + 1).tmod 1000001) = M) ∨ (0 ≤ most ∧ most.tmod 1000001 = M)) ∧ M ≤ 1000000 := by
    rcases Int.lt_or_le most 0 with h | h
    · refine ⟨(-(most + 1) % 1000001).toNat, .inl ⟨h, ?_⟩, by omega⟩
      rw [← Int.neg_tmod, Int.tmod_eq_emod_of_nonneg (by omega)]
      omega
    · refine ⟨(most % 1000001).toNat, .inr ⟨h, ?_⟩, by omega⟩
      rw [Int.tmod_eq_emod_of_nonneg (by omega)]
      omega
  go_enter Try.func8, Try.ntmps8
  rcases hM with ⟨hm, hM⟩ | ⟨hm, hM⟩
  all_goals
    go_wp2_with (go_at_call 9; refine (shownL h0).mono ?_; rintro e w1 ⟨rfl, h1⟩)
    replace hM := Lib.hid hM
    refine (newQ M h1).mono ?_
    rintro e w2 ⟨q, rfl, h2⟩
    have eM : (min (max (M : Int) 0) 1000000).toNat = M := by omega
    rw [eM] at h2
    clear eM
    go_wp2_with fail
    go_loopw [9] (fun i wr => ∃ (k : Nat) (b : List UInt8), k ≤ 60 ∧ i = .int .i64 k ∧ b.length ≤ M ∧ Own w (queueA q b M * emp) wr) (fun i _ => 60 - (intOf i).toNat)
    case atStart => exact ⟨0, [], by omega, rfl, by simp, h2⟩
    case round =>
      obtain ⟨k, b, hk, rfl, hb, g⟩ := hrel
      by_cases hlt : k < n1 ∧ k < 60
      · obtain ⟨hk1, hk2⟩ := hlt
        obtain ⟨ad, rfl⟩ := rd_some hl (by omega)
        obtain ⟨v, l, hx, hv⟩ := hls k hk1
        obtain ⟨bo, bcap, rfl, j1, j2, -⟩ := id hv
        unfold maxLen at j2
        have c : ∀ w', Own w (queueA q b M * emp) w' → w'.cell? (ad.add k) = some (.slice bo l.length bcap) := fun w' h => rd_cell (hl.old h) hx
        obtain ⟨y, -, y1, y2, y3, hr2⟩ := rd_first hv 500 (K := 500) rfl
        go_wp2
        refine wp_region_calm (C := Own _ _) (by kernel_rfl) (by kernel_rfl) (own_drew g) ?_
        intro ι W hne hW hs
        have c := fun i => c _ (hW i)
        repeat (go_big_quiet_step (fail))
        refine wpQuiet_nil ?_
        intro i
        have g' := hW i
        generalize W i = wg' at g' ⊢
        clear c hs hW hne
        go_wp2_with fail
        refine (roomQ g' hb hM2).mono ?_
        rintro e w3 ⟨rfl, g3⟩
        go_wp2_with fail
        refine (pushQ g3 hb hM2 (y := y) (fun w' h => hr2.old h)).mono ?_
        rintro e w4 ⟨rfl, g4⟩
        have hb2 : (b ++ y.take (M - b.length)).length ≤ M := by simp; omega
        generalize b ++ y.take (M - b.length) = b2 at g4 hb2
        have e4 : ((min y.length (M - b.length) : Nat) : Int) = min (y.length : Int) (M - b.length : Nat) := by omega
        go_wp2_with fail
        refine (lenQ g4).mono ?_
        rintro e w5 ⟨rfl, g5⟩
        go_wp2_with fail
        refine (roomQ g5 hb2 hM2).mono ?_
        rintro e w6 ⟨rfl, g6⟩
        have e5 : (b2.length : Int) + (M - b2.length : Nat) = M := by omega
        by_cases hk3 : k < n2
        · obtain ⟨pd, rfl⟩ := rd_some hp (by omega)
          obtain ⟨x, hx2⟩ := hps k hk3
          have c2 := rd_cell (hp.old g6) hx2
          go_wp2_with fail
          refine (popQ g6 (by omega) x).mono ?_
          rintro e w7 ⟨v7, rfl, g7⟩
          replace g7 := g7.skip
          have hb3 : (b2.drop x.toNat).length ≤ M := by simp; omega
          generalize b2.drop x.toNat = b3 at g7 hb3
          go_wp2_with fail
          refine (lenQ g7).mono ?_
          rintro e w8 ⟨rfl, g8⟩
          go_wp2_with fail
          refine (roomQ g8 hb3 hM2).mono ?_
          rintro e w9 ⟨rfl, g9⟩
          have e6 : (b3.length : Int) + (M - b3.length : Nat) = M := by omega
          go_wp2
          go_roundw
          case rel => exact ⟨k + 1, b3, by omega, by go_num, hb3, g9⟩
          case measure => simp [intOf]; omega
        · go_wp2_with fail
          refine (lenQ g6).mono ?_
          rintro e w8 ⟨rfl, g8⟩
          go_wp2_with fail
          refine (roomQ g8 hb2 hM2).mono ?_
          rintro e w9 ⟨rfl, g9⟩
          go_wp2
          go_roundw
          case rel => exact ⟨k + 1, b2, by omega, by go_num, hb2, g9⟩
          case measure => simp [intOf]; omega
      · go_wp2
        all_goals
          go_ret
          exact ⟨rfl, g.below⟩

theorem contract {H : Type} {enc : TypeId × Value → H} {W : World} {vs : List Value} {ds : List (DataW H)}
    (hA : Args enc Try.prog W [3, 48, 49] vs ds) (_hsz : (DataW.weightsEach Try.prog [3, 48, 49] ds).all (· ≤ reachBytes) = true) :
    Calls Try.prog 8 vs.toArray W fun e W' => e = .returned (.bool true) ∧ Below W.heap.size W W' := by
  obtain ⟨v0, _, d0, _, rfl, rfl, h0, hA⟩ := args_cons hA
  obtain ⟨v1, _, d1, _, rfl, rfl, h1, hA⟩ := args_cons hA
  obtain ⟨v2, _, d2, _, rfl, rfl, h2, hA⟩ := args_cons hA
  obtain ⟨rfl, rfl⟩ := args_nil hA
  obtain ⟨n, rfl, m1, m2⟩ := arg_i64 Try.underlying3 h0
  obtain ⟨n1, xs, hl, _, hls⟩ := arg_bytess Try.underlying48 (by kernel_rfl) Try.underlying22 Try.underlying5 (by kernel_rfl) h1
  obtain ⟨n2, ys, hp, _, hps⟩ := arg_ints Try.underlying49 (by kernel_rfl) Try.underlying3 h2
  exact roomW m1 m2 hl hls hp (fun i hi => Exists.imp (fun _ h => h.1) (hps i hi))

theorem spec {H : Type} : ∀ ds : List (DataW H), ds.length = 3 → Rows.octetsRoomSpec.fn H ds = { results := [.lit (.bool true)], args := ds }
  | [_, _, _], _ => rfl
  | [], h => by cases h
  | [_], h => by cases h
  | [_, _], h => by cases h
  | _ :: _ :: _ :: _ :: _, h => by simp at h
set_option maxRecDepth 100000 in
theorem lifted (os : Os) (started : os.Started) (H : Type) (enc : TypeId × Value → H) :
    ReturnsInHanded {} Try.checked os 8 .any (Rows.octetsRoomSpec.pre6 enc Try.prog Try.f8 Rows.octetsRoomRow.domain false) (Rows.octetsRoomSpec.post enc Try.prog Try.f8 false true false false) :=
  lifted_of_law (C := Try.checked) (fn := Try.f8) (s := Rows.octetsRoomSpec) (tb := 4) (by kernel_rfl) started (by kernel_rfl) Try.func8
    (ChangeSpec.witness6 (enc := enc) (C := Try.checked) false ⟨#[], #[.int .i64 0, .slice none 0 0, .slice none 0 0], []⟩ 8 (by kernel_rfl) (by kernel_rfl) (by kernel_rfl) (by kernel_rfl))
    rfl spec (by kernel_rfl) Try.underlying4 (by kernel_rfl) (by kernel_rfl) (fun _ _ _ h1 h2 => contract h1 h2)

theorem proved : Rows.OctetsRoomSaid :=
  OpenClaim.holds_of_wide 8 Try.f8 rfl rfl rfl rfl rfl rfl rfl ⟨rfl, rfl, rfl, rfl, rfl⟩ rfl rfl rfl rfl rfl (by kernel_rfl) Try.func8 (by kernel_rfl)
    (of_decide_eq_true (by kernel_rfl)) (by unfold Func.isWrapper; first | (rw [if_pos (by decide +kernel)]; kernel_rfl) | (rw [if_neg (by decide +kernel)]; exact ⟨rfl, rfl⟩))
    (fun os started H enc _ => lifted os started H enc)
end Go.Proofs.Ytalgkehaeiokoaa.octetsRoom
