




/-
  RouteNewer: a table's version only rises, and what is in force is what was pushed last.
-/
import Derived.Test.YtjcpfldobiekbaaDoorRtNow
import Derived.Test.YtjcpfldobiekbaaDoorLawD
import Derived.Test.YtjcpfldobiekbaaDoorTie
import Derived.Test.YtjcpfldobiekbaaDoorCards
import Derived.SevenTiedAt
namespace Go.Proofs.YtjcpfldobiekbaaDoor.routeNewer
open Go.RowKit Go.Sl Go.ChangeShapes Go.Fl

theorem ints_list : ∀ (n : Nat) (xi : List Value), (∀ i, i < n → ∃ x, xi[i]? = some (Value.int .i64 x)) → ∃ L : List Int, n = L.length ∧ ∀ (j : Nat) (x : Int), L[j]? = some x → xi[j]? = some (Value.int .i64 x) := by
  intro n
  induction n with
  | zero => intro xi _; exact ⟨[], rfl, fun j x h => by simp at h⟩
  | succ n ih =>
    intro xi h
    obtain ⟨x, hx⟩ := h 0 (Nat.succ_pos _)
    cases xi with
    | nil => simp at hx
    | cons y xi =>
      obtain ⟨L, e, hL⟩ := ih xi fun i hi => by simpa using h (i + 1) (by omega)
      refine ⟨x :: L, by simp [e], fun j z hz => ?_⟩
      cases j with
      | zero =>
        have e1 : x = z := by simpa using hz
        have e2 : y = Value.int .i64 x := by simpa using hx
        rw [← e1, e2]
        rfl
      | succ j => simpa using hL j z (by simpa using hz)
theorem fieldSn (a b c : Value) (w : World) : (Instr.field 25 (.agg #[a, b, c]) 0).run Tryd.prog w = .ok a w := by kernel_rfl
theorem at_fieldV {P : Program} {ops : Array Oper} {Q : Exit → Act → World → Prop} {rest : List Oper} {a : Act} {w : World} {d : Option Tmp} {ty T : TypeId} {x : Operand} {k : Nat} {pos : String} {after : Array Edge} {g : Option (Nat × Bool)} (h : wpList P ops Q (⟨d, .field T x k, ty, pos, after, g⟩ :: rest) a w) : wpList P ops Q (⟨d, .field T x k, ty, pos, after, g⟩ :: rest) a w := h

theorem no_small : noSn.small := ⟨by decide, by decide, (fun _ h => by cases h), (fun _ h => by cases h), (fun _ h => by cases h), (fun _ h => by cases h)⟩

set_option maxHeartbeats 16000000 in
set_option maxRecDepth 100000 in
theorem newW {w0 : World} {s : Sn} {cs : List Value} {v : Value} {L : List Int} {xi : List Value} (hs : rdSn w0 cs s) (ok : s.ok) (hI0 : rd w0 1 v L.length xi) (hI1 : ∀ (j : Nat) (x : Int), L[j]? = some x → xi[j]? = some (Value.int .i64 x)) :
    Calls Tryd.prog 8 #[.agg cs.toArray, v] w0 fun e w' => e = .returned (.bool true) ∧ Below w0.heap.size w0 w' := by
  have hs0 := hs
  obtain ⟨vc, vh, xs, rfl, -, -, -⟩ := hs
  obtain ⟨lo, lc, rfl, j1, j2, -⟩ := id hI0
  unfold maxLen at j2
  have hI : ∀ A w, Own w0 A w → rd w 1 (.slice lo L.length lc) L.length xi := fun A w h => hI0.old h
  have ok2 := cut_ok ok
  have G := own_begin w0
  clear hI0 ok
  obtain ⟨S, hS⟩ : ∃ S, cutSn s = S := ⟨_, rfl⟩
  go_enter Tryd.func8, Tryd.ntmps8
  go_wp2_with (first
    | ((with_reducible refine at_alloc ?_); refine wpu_new G ?_; clear G; intro w G)
    | ((with_reducible refine at_drew ?_); refine wpu_drew G ?_; clear G; intro w G)
    | fail)
  refine Calls.mono (shownC G) ?_
  clear G; rintro e w ⟨rfl, G⟩
  go_wp2_with (first
    | ((with_reducible refine at_alloc ?_); refine wpu_new G ?_; clear G; intro w G)
    | ((with_reducible refine at_drew ?_); refine wpu_drew G ?_; clear G; intro w G)
    | ((with_reducible refine at_load ?_); first
      | (refine wpu_load G rfl rfl rfl rfl ?_; go_frame)
      | (refine wpu_loadB G rfl rfl rfl (by rfl) ?_; go_frame)
      | (refine wpu_loadS G rfl rfl rfl (by rfl) ?_; simp only [List.drop_succ_cons, List.drop_zero, List.take_succ_cons, List.take_zero]; go_frame))
    | ((with_reducible refine at_store ?_); first
      | (refine wpu_store G rfl rfl rfl rfl (by first | rfl | assumption | simp [*]) rfl ?_; clear G; intro w G; go_frame)
      | (refine wpu_storeB G rfl rfl rfl rfl (by rfl) (by rfl) (by first | rfl | assumption | simp [*]) ?_; clear G; intro w G; go_frame)
      | (refine wpu_storeS G rfl rfl rfl rfl (by rfl) (by rfl) (by first | rfl | assumption | simp [*]) ?_; clear G; intro w G; go_frame))
    | ((with_reducible refine at_convert ?_); refine wpu_str G rfl rfl rfl rfl ?_; go_frame)
    | ((with_reducible refine at_slice ?_); first
      | (refine wpu_sliceLo rfl rfl rfl rfl (by first | rfl | omega) (by omega) (by omega) ?_; go_frame)
      | (refine wpu_sliceLH rfl rfl rfl rfl rfl (by first | rfl | omega) (by first | rfl | omega) (by omega) (by omega) ?_; go_frame))
    | fail)
  refine Calls.mono (cutC (hs0.old G)) ?_
  rintro e w1 ⟨nc, nh, rfl, G1⟩
  replace G := own_join G G1
  clear G1 hs0
  have o1 : nc.oneCell' = true := by obtain ⟨_, _, _, e0, _, g⟩ := own_snA G; injection e0 with _ e0; injection e0 with e1 _; rw [e1]; exact (own_rd g).one
  have o2 : nh.oneCell' = true := by obtain ⟨_, _, _, e0, _, g⟩ := own_snA G; injection e0 with _ e0; injection e0 with _ e0; injection e0 with e1 _; rw [e1]; exact (own_rd g.right).one
  rw [hS] at G ok2
  obtain ⟨ver, hver⟩ : ∃ v, s.version = v := ⟨_, rfl⟩
  rw [hver] at G ⊢
  clear hver hS
  go_wp2_with (first
    | ((with_reducible refine at_store ?_); first | (refine wpu_storeB G rfl rfl rfl rfl (by rfl) (by rfl) (by simp only [List.all_cons, o1, o2]; rfl) ?_; clear G; intro w G; go_frame) | (refine wpu_store G rfl rfl rfl rfl rfl rfl ?_; clear G; intro w G; go_frame))
    | ((with_reducible refine at_alloc ?_); refine wpu_new G ?_; clear G; intro w G)
    | ((with_reducible refine at_drew ?_); refine wpu_drew G ?_; clear G; intro w G)
    | ((with_reducible refine at_load ?_); first
      | (refine wpu_load G rfl rfl rfl rfl ?_; go_frame)
      | (refine wpu_loadB G rfl rfl rfl (by rfl) ?_; go_frame)
      | (refine wpu_loadS G rfl rfl rfl (by rfl) ?_; simp only [List.drop_succ_cons, List.drop_zero, List.take_succ_cons, List.take_zero]; go_frame))
    | ((with_reducible refine at_store ?_); first
      | (refine wpu_store G rfl rfl rfl rfl (by first | rfl | assumption | simp [*]) rfl ?_; clear G; intro w G; go_frame)
      | (refine wpu_storeB G rfl rfl rfl rfl (by rfl) (by rfl) (by first | rfl | assumption | simp [*]) ?_; clear G; intro w G; go_frame)
      | (refine wpu_storeS G rfl rfl rfl rfl (by rfl) (by rfl) (by first | rfl | assumption | simp [*]) ?_; clear G; intro w G; go_frame))
    | ((with_reducible refine at_convert ?_); refine wpu_str G rfl rfl rfl rfl ?_; go_frame)
    | ((with_reducible refine at_slice ?_); first
      | (refine wpu_sliceLo rfl rfl rfl rfl (by first | rfl | omega) (by omega) (by omega) ?_; go_frame)
      | (refine wpu_sliceLH rfl rfl rfl rfl rfl (by first | rfl | omega) (by first | rfl | omega) (by omega) (by omega) ?_; go_frame))
    | fail)
  replace G := show Own w0 (snA [.int .i64 ver, nc, nh] S * (blk w0.heap.size [.int .i64 1, nc, nh] * emp)) w from G
  clear o1 o2
  obtain ⟨b0, hb⟩ : ∃ b, w0.heap.size = b := ⟨_, rfl⟩
  rw [hb] at G ⊢
  clear hb
  have hrd : ∀ {A : Assn} {u : World} (x : Int), Own w0 (snA [.int .i64 ver, nc, nh] S * A) u → rdSn u [.int .i64 x, nc, nh] (verS S x) := fun x h => rd_ver (sn_read h) x
  refine Calls.mono (newC G) ?_
  clear G; rintro e w ⟨tb, rfl, G⟩
  go_wp2_with (first
    | ((with_reducible refine at_alloc ?_); refine wpu_new G ?_; clear G; intro w G)
    | ((with_reducible refine at_drew ?_); refine wpu_drew G ?_; clear G; intro w G)
    | ((with_reducible refine at_load ?_); first
      | (refine wpu_load G rfl rfl rfl rfl ?_; go_frame)
      | (refine wpu_loadB G rfl rfl rfl (by rfl) ?_; go_frame)
      | (refine wpu_loadS G rfl rfl rfl (by rfl) ?_; simp only [List.drop_succ_cons, List.drop_zero, List.take_succ_cons, List.take_zero]; go_frame))
    | ((with_reducible refine at_store ?_); first
      | (refine wpu_store G rfl rfl rfl rfl (by first | rfl | assumption | simp [*]) rfl ?_; clear G; intro w G; go_frame)
      | (refine wpu_storeB G rfl rfl rfl rfl (by rfl) (by rfl) (by first | rfl | assumption | simp [*]) ?_; clear G; intro w G; go_frame)
      | (refine wpu_storeS G rfl rfl rfl rfl (by rfl) (by rfl) (by first | rfl | assumption | simp [*]) ?_; clear G; intro w G; go_frame))
    | ((with_reducible refine at_convert ?_); refine wpu_str G rfl rfl rfl rfl ?_; go_frame)
    | ((with_reducible refine at_slice ?_); first
      | (refine wpu_sliceLo rfl rfl rfl rfl (by first | rfl | omega) (by omega) (by omega) ?_; go_frame)
      | (refine wpu_sliceLH rfl rfl rfl rfl rfl (by first | rfl | omega) (by first | rfl | omega) (by omega) (by omega) ?_; go_frame))
    | fail)
  refine Calls.mono (rightC (hrd 1 (G.pull (snA [.int .i64 ver, nc, nh] S))) (verS_ok ok2 1)) ?_
  rintro e w2 ⟨rfl, hb⟩
  replace G := own_kept G hb
  clear hb
  obtain ⟨ri, hri⟩ : ∃ b, rightR (verS S 1) = b := ⟨_, rfl⟩
  rw [hri]
  have HRI := Lib.hid hri
  clear hri
  replace G := G.sub (tblA tb noSn * (snA [.int .i64 ver, nc, nh] S * blk b0 [.int .i64 1, nc, nh]))
  go_wp2_with fail
  go_loopw [8, 9, 10] (fun m i _ wr => ∃ (j : Nat) (t : Sn) (x : Int), m = .int .i64 t.version ∧ i = .int .i64 j ∧ j ≤ L.length ∧ j ≤ 40 ∧ Hid (0 ≤ t.version) ∧ Hid t.small ∧ Own w0 (tblA tb t * (snA [.int .i64 ver, nc, nh] S * blk b0 [.int .i64 x, nc, nh])) wr) (fun _ i _ _ => L.length - (intOf i).toNat)
  case atStart => exact ⟨0, noSn, 1, rfl, rfl, Nat.zero_le _, by omega, Lib.hid (Int.le_refl 0), Lib.hid no_small, G⟩
  case round =>
    clear G
    obtain ⟨j, t, x0, rfl, rfl, hj, hj40, H0, HS, G⟩ := hrel
    by_cases hjn : j < L.length
    · by_cases hjm : j < 40
      · obtain ⟨x, hx⟩ : ∃ x, L[j]? = some x := ⟨L[j], List.getElem?_eq_getElem hjn⟩
        obtain ⟨ad, rfl⟩ := rd_some (hI _ _ G) (by omega)
        have HX := Lib.hid (hI1 j x hx)
        clear hx
        obtain ⟨tv, htv⟩ : ∃ v, t.version = v := ⟨_, rfl⟩
        obtain ⟨q, hq⟩ : ∃ q, decide (x > tv) = q := ⟨_, rfl⟩
        have HP : Hid (pushR t (verS S x) = (ri && q)) := Lib.hid (by rw [push_ver H0.out, HRI.out, htv, hq])
        have HTV := Lib.hid htv
        rw [htv]
        clear htv
        go_wp2_with (first
          | ((with_reducible refine at_load ?_); refine wpu_loadC (k := j) (hI _ _ G) HX.out rfl (by kernel_rfl) rfl ?_; go_frame)
          | ((with_reducible refine at_alloc ?_); refine wpu_new G ?_; clear G; intro w G)
          | ((with_reducible refine at_drew ?_); refine wpu_drew G ?_; clear G; intro w G)
          | ((with_reducible refine at_load ?_); first
            | (refine wpu_load G rfl rfl rfl rfl ?_; go_frame)
            | (refine wpu_loadB G rfl rfl rfl (by rfl) ?_; go_frame)
            | (refine wpu_loadS G rfl rfl rfl (by rfl) ?_; simp only [List.drop_succ_cons, List.drop_zero, List.take_succ_cons, List.take_zero]; go_frame))
          | ((with_reducible refine at_store ?_); first
            | (refine wpu_store G rfl rfl rfl rfl (by first | rfl | assumption | simp [*]) rfl ?_; clear G; intro w G; go_frame)
            | (refine wpu_storeB G rfl rfl rfl rfl (by rfl) (by rfl) (by first | rfl | assumption | simp [*]) ?_; clear G; intro w G; go_frame)
            | (refine wpu_storeS G rfl rfl rfl rfl (by rfl) (by rfl) (by first | rfl | assumption | simp [*]) ?_; clear G; intro w G; go_frame))
          | ((with_reducible refine at_convert ?_); refine wpu_str G rfl rfl rfl rfl ?_; go_frame)
          | ((with_reducible refine at_slice ?_); first
            | (refine wpu_sliceLo rfl rfl rfl rfl (by first | rfl | omega) (by omega) (by omega) ?_; go_frame)
            | (refine wpu_sliceLH rfl rfl rfl rfl rfl (by first | rfl | omega) (by first | rfl | omega) (by omega) (by omega) ?_; go_frame))
          | fail)
        replace G := show Own w0 (tblA tb t * (snA [.int .i64 ver, nc, nh] S * blk b0 [.int .i64 x, nc, nh])) _ from G.eq rfl
        refine Calls.mono (pushC (s := verS S x) G (fun u h => hrd x (h.pull (snA [.int .i64 ver, nc, nh] S))) (verS_ok ok2 x)) ?_
        clear G; rintro e w ⟨rfl, G⟩
        rw [HP.out] at G ⊢
        obtain ⟨p, hp⟩ : ∃ p, (ri && q) = p := ⟨_, rfl⟩
        rw [hp] at G ⊢
        cases p
        · rw [if_neg Bool.false_ne_true] at G
          have HNX : Hid (0 ≤ t.version ∧ t.small) := Lib.hid ⟨H0.out, HS.out⟩
          cases ri
          · skip
            go_wp2_with (first
              | ((with_reducible refine at_load ?_); refine wpu_loadC (k := j) (hI _ _ G) HX.out rfl (by kernel_rfl) rfl ?_; go_frame)
              | ((with_reducible refine at_lss ?_); refine wpu_lss rfl (by kernel_rfl) rfl rfl (by assumption) ?_; go_frame)
              | ((with_reducible refine at_gtr ?_); refine wpu_gtr rfl (by kernel_rfl) rfl rfl (by assumption) ?_; go_frame)
              | ((with_reducible refine at_leq ?_); refine wpu_leq rfl (by kernel_rfl) rfl rfl (by assumption) ?_; go_frame)
              | ((with_reducible refine at_geq ?_); refine wpu_geq rfl (by kernel_rfl) rfl rfl (by assumption) ?_; go_frame)
              | ((with_reducible refine at_eqS ?_); refine wpu_eqS rfl (by kernel_rfl) rfl rfl (by assumption) ?_; go_frame)
              | ((with_reducible refine at_neS ?_); refine wpu_neS rfl (by kernel_rfl) rfl rfl (by assumption) ?_; go_frame)
              | fail)
            refine Calls.mono (versionC G) ?_
            clear G; rintro e w ⟨rfl, G⟩
            rw [HTV.out]
            go_wp2_with fail
            refine Calls.mono (nowC G HNX.out.2) ?_
            clear G; rintro e w ⟨uc, uh, rfl, G⟩
            rw [HTV.out] at G ⊢
            replace G := G.sub (tblA tb t * (snA [.int .i64 ver, nc, nh] S * blk b0 [.int .i64 x, nc, nh]))
            go_wp2_with (first
              | ((with_reducible refine at_fieldV ?_); refine wpu_val rfl (exec_field rfl rfl (fieldSn _ _ _ _)) ?_; go_frame)
              | fail)
            go_roundw
            case rel => exact ⟨j + 1, t, x, by rw [HTV.out], by go_num, by omega, by omega, Lib.hid HNX.out.1, Lib.hid HNX.out.2, G⟩
            case measure => simp [intOf] <;> omega
          · cases q
            · skip
              go_wp2_with (first
                | ((with_reducible refine at_load ?_); refine wpu_loadC (k := j) (hI _ _ G) HX.out rfl (by kernel_rfl) rfl ?_; go_frame)
                | ((with_reducible refine at_lss ?_); refine wpu_lss rfl (by kernel_rfl) rfl rfl (by assumption) ?_; go_frame)
                | ((with_reducible refine at_gtr ?_); refine wpu_gtr rfl (by kernel_rfl) rfl rfl (by assumption) ?_; go_frame)
                | ((with_reducible refine at_leq ?_); refine wpu_leq rfl (by kernel_rfl) rfl rfl (by assumption) ?_; go_frame)
                | ((with_reducible refine at_geq ?_); refine wpu_geq rfl (by kernel_rfl) rfl rfl (by assumption) ?_; go_frame)
                | ((with_reducible refine at_eqS ?_); refine wpu_eqS rfl (by kernel_rfl) rfl rfl (by assumption) ?_; go_frame)
                | ((with_reducible refine at_neS ?_); refine wpu_neS rfl (by kernel_rfl) rfl rfl (by assumption) ?_; go_frame)
                | fail)
              refine Calls.mono (versionC G) ?_
              clear G; rintro e w ⟨rfl, G⟩
              rw [HTV.out]
              go_wp2_with fail
              refine Calls.mono (nowC G HNX.out.2) ?_
              clear G; rintro e w ⟨uc, uh, rfl, G⟩
              rw [HTV.out] at G ⊢
              replace G := G.sub (tblA tb t * (snA [.int .i64 ver, nc, nh] S * blk b0 [.int .i64 x, nc, nh]))
              go_wp2_with (first
                | ((with_reducible refine at_fieldV ?_); refine wpu_val rfl (exec_field rfl rfl (fieldSn _ _ _ _)) ?_; go_frame)
                | fail)
              go_roundw
              case rel => exact ⟨j + 1, t, x, by rw [HTV.out], by go_num, by omega, by omega, Lib.hid HNX.out.1, Lib.hid HNX.out.2, G⟩
              case measure => simp [intOf] <;> omega
            · simp at hp
        · rw [if_pos rfl] at G
          simp only [Bool.and_eq_true] at hp
          obtain ⟨e1, e2⟩ := hp
          subst e1 e2
          have HNX : Hid (0 ≤ (verS S x).version ∧ (verS S x).small) := Lib.hid ⟨by
            have := H0.out
            have := HTV.out
            have := of_decide_eq_true hq
            show 0 ≤ x
            omega, right_small (by
            have := HP.out
            unfold pushR at this
            simp only [Bool.and_self, Bool.and_eq_true] at this
            exact this.2)⟩
          clear HTV
          have HTV : Hid ((verS S x).version = x) := Lib.hid rfl
          go_wp2_with (first
            | ((with_reducible refine at_load ?_); refine wpu_loadC (k := j) (hI _ _ G) HX.out rfl (by kernel_rfl) rfl ?_; go_frame)
            | ((with_reducible refine at_lss ?_); refine wpu_lss rfl (by kernel_rfl) rfl rfl (by assumption) ?_; go_frame)
            | ((with_reducible refine at_gtr ?_); refine wpu_gtr rfl (by kernel_rfl) rfl rfl (by assumption) ?_; go_frame)
            | ((with_reducible refine at_leq ?_); refine wpu_leq rfl (by kernel_rfl) rfl rfl (by assumption) ?_; go_frame)
            | ((with_reducible refine at_geq ?_); refine wpu_geq rfl (by kernel_rfl) rfl rfl (by assumption) ?_; go_frame)
            | ((with_reducible refine at_eqS ?_); refine wpu_eqS rfl (by kernel_rfl) rfl rfl (by assumption) ?_; go_frame)
            | ((with_reducible refine at_neS ?_); refine wpu_neS rfl (by kernel_rfl) rfl rfl (by assumption) ?_; go_frame)
            | fail)
          refine Calls.mono (versionC G) ?_
          clear G; rintro e w ⟨rfl, G⟩
          rw [HTV.out]
          go_wp2_with fail
          refine Calls.mono (nowC G HNX.out.2) ?_
          clear G; rintro e w ⟨uc, uh, rfl, G⟩
          rw [HTV.out] at G ⊢
          replace G := G.sub (tblA tb (verS S x) * (snA [.int .i64 ver, nc, nh] S * blk b0 [.int .i64 x, nc, nh]))
          go_wp2_with (first
            | ((with_reducible refine at_fieldV ?_); refine wpu_val rfl (exec_field rfl rfl (fieldSn _ _ _ _)) ?_; go_frame)
            | fail)
          go_roundw
          case rel => exact ⟨j + 1, (verS S x), x, by rw [HTV.out], by go_num, by omega, by omega, Lib.hid HNX.out.1, Lib.hid HNX.out.2, G⟩
          case measure => simp [intOf] <;> omega
      · go_wp2_with fail
        go_ret
        exact ⟨rfl, G.below⟩
    · go_wp2_with fail
      go_ret
      exact ⟨rfl, G.below⟩

theorem contract {H : Type} {enc : TypeId × Value → H} {W : World} {vs : List Value} {ds : List (DataW H)}
    (hA : Args enc Tryd.prog W [25, 60] vs ds) (hsz : (DataW.weightsEach Tryd.prog [25, 60] ds).all (· ≤ reachBytes) = true) (hL : laidMetH Tryd.prog Rows.routeNewerRow.laid W) :
    Calls Tryd.prog 8 vs.toArray W fun e W' => e = .returned (.bool true) ∧ Below W.heap.size W W' := by
  obtain ⟨v0, _, d0, _, rfl, rfl, h0, hA⟩ := args_cons hA
  obtain ⟨v1, _, d1, _, rfl, rfl, h1, hA⟩ := args_cons hA
  obtain ⟨rfl, rfl⟩ := args_nil hA
  obtain ⟨cs, rfl, hz0⟩ := argz_struct Tryd.underlying25 h0 hsz 0 rfl rfl
  obtain ⟨s, ok, hs, -⟩ := snap_in hz0
  obtain ⟨n, xi, hr, -, hel⟩ := arg_ints Tryd.underlying60 (by kernel_rfl) Tryd.underlying3 h1
  obtain ⟨L, hL1, hL2⟩ := ints_list n xi (fun i hi => (hel i hi).imp fun _ h => h.1)
  subst hL1
  exact newW hs ok hr hL2






theorem spec {H : Type} : ∀ ds : List (DataW H), ds.length = 2 → Rows.routeNewerSpec.fn H ds = { results := [.lit (.bool true)], args := ds }
  | [_, _], _ => rfl
  | [], h => by cases h
  | [_], h => by cases h
  | _ :: _ :: _ :: _, h => by simp at h
theorem door_met (os : Os) (args : Array Value) : laidMetH Tryd.prog Rows.routeNewerRow.laid ((World.setRow (World.doorLaid Tryd.prog 19 os) (Tryd.prog.globalNamed "unicode/utf8.first").get! (Go.Pinned.utf8FirstZ.map fun z : Nat => Value.int .u8 (z : Int)).toArray).forCall (fun _ _ => 0) ⟨#[], args, []⟩).memory :=
  laidMetH_of_parts3 (fuel := 8) (laidMet_of_run' 8 (by kernel_rfl) (by kernel_rfl)) (by kernel_rfl) (by kernel_rfl)
set_option maxRecDepth 100000 in
theorem lifted (os : Os) (started : os.Started) (H : Type) (enc : TypeId × Value → H) :
    ReturnsInHanded {} Tryd.checked os 8 .any (fun w args => (Rows.routeNewerSpec.pre enc Tryd.prog Tryd.f8 Rows.routeNewerRow.domain false w args ∧ laidMetH Tryd.prog Rows.routeNewerRow.laid w) ∧ sizedMet enc Tryd.prog Tryd.f8 (OpenSpec.ofChange Rows.routeNewerSpec) false w args)
      (Rows.routeNewerSpec.post enc Tryd.prog Tryd.f8 false true false false) :=
  lifted_of_law_laid (C := Tryd.checked) (fn := Tryd.f8) (s := Rows.routeNewerSpec) (tb := 4) (by kernel_rfl) started (by kernel_rfl) Tryd.func8
    (ChangeSpec.witness_shaped (enc := enc) (C := Tryd.checked) (os := os) (X := fun w _ => laidMetH Tryd.prog Rows.routeNewerRow.laid w) false (World.setRow (World.doorLaid Tryd.prog 19 os) (Tryd.prog.globalNamed "unicode/utf8.first").get! (Go.Pinned.utf8FirstZ.map fun z : Nat => Value.int .u8 (z : Int)).toArray) #[.agg #[.int .i64 0, .slice none 0 0, .slice none 0 0], .slice none 0 0] 8 rfl (World.shaped_of_RefB (by kernel_rfl) (by kernel_rfl)) (by kernel_rfl) (by kernel_rfl) (by kernel_rfl) (door_met os _))
    rfl spec (by kernel_rfl) Tryd.underlying4 (by kernel_rfl) (by kernel_rfl) (fun _ _ _ h1 h2 h3 => contract h1 h2 h3)

theorem holds : Rows.RouteNewerSaid :=
  OpenClaim.holds_of_wide 8 Tryd.f8 rfl rfl rfl rfl rfl rfl rfl ⟨rfl, rfl, rfl, rfl, rfl⟩ rfl rfl rfl rfl rfl (by kernel_rfl) Tryd.func8 (by kernel_rfl)
    (of_decide_eq_true (by kernel_rfl)) (by unfold Func.isWrapper; first | (rw [if_pos (by decide +kernel)]; kernel_rfl) | (rw [if_neg (by decide +kernel)]; exact ⟨rfl, rfl⟩))
    (fun os started H enc _ => lifted os started H enc)

theorem proved : Rows.RouteNewerCardSaid :=
  Claim7.holds_tied_plain_at .later [] [.data, .pinned] true (true, "8ad4a4f5b69d3fbbf86e42b9283652f351f0a1c623a0149f61aae9e179e7ce1c") false
    holds (fun _ h => by cases h) (by kernel_rfl) (fun _ h => by cases h) routeNewer_row_tie rfl ⟨rfl, rfl⟩ (by kernel_rfl) rfl
    (fun f fn hf hfn => by
      obtain rfl : f = 8 := Option.some.inj ((show Tryd.prog.funcNamed "flume/flumelaw16.RouteNewer" = some 8 by kernel_rfl).symm.trans hf) |>.symm
      obtain rfl : fn = Tryd.f8 := (Option.some.inj (Tryd.func8.symm.trans hfn)).symm
      exact ⟨by kernel_rfl, fun j t ht => by
        rw [Tryd.params8] at ht
        have hm : t ∈ [25, 60] := by simpa using Array.mem_of_getElem? ht
        have hall : ([25, 60].all fun u => !Tryd.prog.wantsStandIn u) = true := by kernel_rfl
        exact (show Tryd.prog.wantsStandIn t = false by simpa using List.all_eq_true.1 hall t hm)⟩)
    (by kernel_rfl)
end Go.Proofs.YtjcpfldobiekbaaDoor.routeNewer
