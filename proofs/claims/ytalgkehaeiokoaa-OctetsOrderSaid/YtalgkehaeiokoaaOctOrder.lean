/-
  OctetsOrder, proved: for every input the law answers true.
-/
import Derived.Test.YtalgkehaeiokoaaOctL
import Derived.Test.YtalgkehaeiokoaaLists
namespace Go.Proofs.Ytalgkehaeiokoaa.octetsOrder
open Go.RowKit Go.Sl Go.ChangeShapes

theorem orderW {w : World} {most : Int} {lv pv : Value} {n1 n2 : Nat} {xs ys : List Value}
    (hl : rd w 1 lv n1 xs) (hls : ∀ i, i < n1 → ∃ v l, xs[i]? = some v ∧ rd w 1 v l.length (bs l)) (hp : rd w 1 pv n2 ys) (hps : ∀ i, i < n2 → ∃ x : Int, ys[i]? = some (.int .i64 x)) :
    Calls Try.prog 7 #[.int .i64 most, lv, pv] w fun e w' => e = .returned (.bool true) ∧ Below w.heap.size w w' := by
  have h0 := own_begin w
  obtain ⟨lo, lcap, rfl, l1, l2, l3, -, l5⟩ := id hl
  obtain ⟨po, pcap, rfl, p1, p2, p3, -, p5⟩ := id hp
  unfold maxLen at l2 p2
  obtain ⟨M, hM, hM2⟩ : ∃ M : Nat, bits .and .i64 most 255 = M ∧ M ≤ 255 := by
    obtain ⟨m, h1, h2⟩ := and_i64 most 255 (by omega)
    exact ⟨m, h1, by omega⟩
  go_enter Try.func7, Try.ntmps7
  go_wp2_with (go_at_call 9; refine (shownL h0).mono ?_; rintro e w1 ⟨rfl, h1⟩)
  replace hM := Lib.hid hM
  refine (newQ M h1).mono ?_
  rintro e w2 ⟨q, rfl, h2⟩
  have eM : (min (max (M : Int) 0) 1000000).toNat = M := by omega
  rw [eM] at h2
  clear eM
  go_wp2_with fail
  go_loopw [9, 10, 11] (fun a o i wr => ∃ (k : Nat) (b out : List UInt8), k ≤ 60 ∧ i = .int .i64 k ∧ b.length ≤ M ∧ out.length + b.length ≤ 500 * k ∧ a = str (out ++ b) ∧ o = str out ∧ Own w (queueA q b M * emp) wr) (fun _ _ i _ => 60 - (intOf i).toNat)
  case atStart => exact ⟨0, [], [], by omega, rfl, by simp, by simp, rfl, rfl, h2⟩
  case round =>
    obtain ⟨k, b, out, hk, rfl, hb, hob, rfl, rfl, g⟩ := hrel
    by_cases hlt : k < n1 ∧ k < 60
    · obtain ⟨hk1, hk2⟩ := hlt
      obtain ⟨ad, rfl⟩ := rd_some hl (by omega)
      obtain ⟨v, l, hx, hv⟩ := hls k hk1
      obtain ⟨bo, bcap, rfl, j1, j2, -⟩ := id hv
      unfold maxLen at j2
      have c : ∀ w', Own w (queueA q b M * emp) w' → w'.cell? (ad.add k) = some (.slice bo l.length bcap) := fun w' h => rd_cell (hl.old h) hx
      obtain ⟨y, -, y1, y2, y3, hr2⟩ := rd_first hv 500 (K := 500) rfl
      go_wp2
      refine wp_region_calm (C := Own _ _) (by kernel_rfl) (by kernel_rfl) (own_drew g) ?_
      intro ι W hne hW hs
      have c := fun i => c _ (hW i)
      repeat (go_big_quiet_step (fail))
      refine wpQuiet_nil ?_
      intro i
      have g' := hW i
      generalize W i = wg' at g' ⊢
      clear c hs hW hne
      go_wp2_with fail
      refine (pushQ g' hb (by omega) (y := y) (fun w' h => hr2.old h)).mono ?_
      rintro e w4 ⟨rfl, g4⟩
      obtain ⟨z, hz⟩ : ∃ z, z = y.take (M - b.length) := ⟨_, rfl⟩
      have hz2 : min y.length (M - b.length) = z.length := by subst hz; simp; omega
      have hb2 : b.length + z.length ≤ M := by subst hz; simp; omega
      have hr3 := rd_take1 hr2 (k := z.length) (by omega)
      rw [bs_take, ← hz2, take_min, ← hz, hz2] at hr3
      rw [← hz] at g4
      rw [hz2]
      have hz3 : z.length ≤ y.length := by omega
      clear hz hz2
      go_wp2_with fail
      refine (lenQ g4).mono ?_
      rintro e w5 ⟨rfl, g5⟩
      have s5 := strB (fun w h => hr3.old h) w5 g5
      have ea : out ++ (b ++ z) = out ++ b ++ z := by simp
      obtain ⟨d, hd⟩ : ∃ d, d = b ++ z := ⟨_, rfl⟩
      have hdl : (b ++ z).length = d.length := by rw [hd]
      rw [List.length_append] at hdl
      rw [← hd] at g5
      by_cases hk3 : k < n2
      · obtain ⟨pd, rfl⟩ := rd_some hp (by omega)
        obtain ⟨x, hx2⟩ := hps k hk3
        have c2 := rd_cell (hp.old g5) hx2
        clear ea
        have Hd := Lib.hid hd
        clear hd
        go_wp2_with fail
        refine (popQ g5 (by omega) x).mono ?_
        rintro e w7 ⟨v7, rfl, g7⟩
        obtain ⟨t, ht⟩ : ∃ t, t = d.take x.toNat := ⟨_, rfl⟩
        obtain ⟨r, hr⟩ : ∃ r, r = d.drop x.toNat := ⟨_, rfl⟩
        have htr : t ++ r = d := by rw [ht, hr]; exact List.take_append_drop _ _
        have hlen : t.length + r.length = d.length := by rw [← htr, List.length_append]
        rw [← ht, ← hr] at g7
        have s7 := strB (fun w h => h.rd v7 w h) w7 g7
        replace g7 := g7.skip
        clear ht hr
        have Htr := Lib.hid htr
        clear htr
        go_wp2_with fail
        go_roundw
        case rel => exact ⟨k + 1, r, out ++ t, by omega, by go_num, by omega, by simp; omega, by rw [List.append_assoc, Htr.out, Hd.out], by simp, g7⟩
        case measure => simp [intOf]; omega
      · clear ea
        have Hd := Lib.hid hd
        clear hd
        go_wp2_with fail
        go_roundw
        case rel => exact ⟨k + 1, d, out, by omega, by go_num, by omega, by omega, by rw [Hd.out], rfl, g5⟩
        case measure => simp [intOf]; omega
    · go_wp2_with fail
      all_goals
        refine (popQ g (by omega) 256).mono ?_
        rintro e w3 ⟨v3, rfl, g3⟩
        have e1 : b.take (256 : Int).toNat = b := List.take_of_length_le (by omega)
        have e2 : b.drop (256 : Int).toNat = [] := List.drop_eq_nil_of_le (by omega)
        rw [e1, e2] at g3
        have s3 := strB (fun w h => h.rd v3 w h) w3 g3
        go_wp2_with fail
        refine (lenQ g3).mono ?_
        rintro e w4 ⟨rfl, g4⟩
        go_wp2
        go_ret
        exact ⟨rfl, g4.below⟩

theorem contract {H : Type} {enc : TypeId × Value → H} {W : World} {vs : List Value} {ds : List (DataW H)}
    (hA : Args enc Try.prog W [3, 48, 49] vs ds) (_hsz : (DataW.weightsEach Try.prog [3, 48, 49] ds).all (· ≤ reachBytes) = true) :
    Calls Try.prog 7 vs.toArray W fun e W' => e = .returned (.bool true) ∧ Below W.heap.size W W' := by
  obtain ⟨v0, _, d0, _, rfl, rfl, h0, hA⟩ := args_cons hA
  obtain ⟨v1, _, d1, _, rfl, rfl, h1, hA⟩ := args_cons hA
  obtain ⟨v2, _, d2, _, rfl, rfl, h2, hA⟩ := args_cons hA
  obtain ⟨rfl, rfl⟩ := args_nil hA
  obtain ⟨n, rfl, _, _⟩ := arg_i64 Try.underlying3 h0
  obtain ⟨n1, xs, hl, _, hls⟩ := arg_bytess Try.underlying48 (by kernel_rfl) Try.underlying22 Try.underlying5 (by kernel_rfl) h1
  obtain ⟨n2, ys, hp, _, hps⟩ := arg_ints Try.underlying49 (by kernel_rfl) Try.underlying3 h2
  exact orderW hl hls hp (fun i hi => Exists.imp (fun _ h => h.1) (hps i hi))

theorem spec {H : Type} : ∀ ds : List (DataW H), ds.length = 3 → Rows.octetsOrderSpec.fn H ds = { results := [.lit (.bool true)], args := ds }
  | [_, _, _], _ => rfl
  | [], h => by cases h
  | [_], h => by cases h
  | [_, _], h => by cases h
  | _ :: _ :: _ :: _ :: _, h => by simp at h
set_option maxRecDepth 100000 in
theorem lifted (os : Os) (started : os.Started) (H : Type) (enc : TypeId × Value → H) :
    ReturnsInHanded {} Try.checked os 7 .any (Rows.octetsOrderSpec.pre6 enc Try.prog Try.f7 Rows.octetsOrderRow.domain false) (Rows.octetsOrderSpec.post enc Try.prog Try.f7 false true false false) :=
  lifted_of_law (C := Try.checked) (fn := Try.f7) (s := Rows.octetsOrderSpec) (tb := 4) (by kernel_rfl) started (by kernel_rfl) Try.func7
    (ChangeSpec.witness6 (enc := enc) (C := Try.checked) false ⟨#[], #[.int .i64 0, .slice none 0 0, .slice none 0 0], []⟩ 8 (by kernel_rfl) (by kernel_rfl) (by kernel_rfl) (by kernel_rfl))
    rfl spec (by kernel_rfl) Try.underlying4 (by kernel_rfl) (by kernel_rfl) (fun _ _ _ h1 h2 => contract h1 h2)

theorem proved : Rows.OctetsOrderSaid :=
  OpenClaim.holds_of_wide 7 Try.f7 rfl rfl rfl rfl rfl rfl rfl ⟨rfl, rfl, rfl, rfl, rfl⟩ rfl rfl rfl rfl rfl (by kernel_rfl) Try.func7 (by kernel_rfl)
    (of_decide_eq_true (by kernel_rfl)) (by unfold Func.isWrapper; first | (rw [if_pos (by decide +kernel)]; kernel_rfl) | (rw [if_neg (by decide +kernel)]; exact ⟨rfl, rfl⟩))
    (fun os started H enc _ => lifted os started H enc)
end Go.Proofs.Ytalgkehaeiokoaa.octetsOrder
